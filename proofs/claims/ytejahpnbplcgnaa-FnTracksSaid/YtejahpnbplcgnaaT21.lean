/-
Plain laws on lines of tracks: what a line is cut into.
No condition but those that the statements name.
-/
import Derived.Test.YtejahpnbplcgnaaT20
import Derived.Test.YtejahpnbplcgnaaT14
namespace Go.Proofs.Ytejahpnbplcgnaa
open Eng
set_option linter.unusedSimpArgs false
set_option linter.unusedVariables false
section
variable {i s x y h l : Int} {w t : ByteArray}
theorem dig_no {n : Nat} {c : Int} (hc : c < 48) : ∀ y ∈ bs (numS n), ¬ (y.toNat : Int) = c := by
  intro y hy e
  have := (numS_val n).1 y hy
  omega
theorem bsL : bs ⟨#[32]⟩ = [32] ∧ bs ⟨#[44]⟩ = [44] ∧ bs ⟨#[32, 97, 116, 32]⟩ = [32, 97, 116, 32] ∧ bs ⟨#[32, 104, 105, 116, 115, 32]⟩ = [32, 104, 105, 116, 115, 32] ∧ bs ⟨#[32, 108, 111, 115, 116, 32]⟩ = [32, 108, 111, 115, 116, 32] := ⟨rfl, rfl, rfl, rfl, rfl⟩
theorem lineB_b : bs (lineB i x y h w) = bs (numS i.toNat) ++ 32 :: (bs w ++ 32 :: ([97, 116] ++ 32 :: ((bs (numS x.toNat) ++ 44 :: bs (numS y.toNat)) ++ 32 :: ([104, 105, 116, 115] ++ 32 :: bs (numS h.toNat))))) := by
  unfold lineB
  simp only [bs_app, bsL, List.append_assoc, List.cons_append, List.nil_append]
theorem lineC_b : bs (lineB i x y h w ++ (⟨#[32, 108, 111, 115, 116, 32]⟩ ++ numS l.toNat)) = bs (numS i.toNat) ++ 32 :: (bs w ++ 32 :: ([97, 116] ++ 32 :: ((bs (numS x.toNat) ++ 44 :: bs (numS y.toNat)) ++ 32 :: ([104, 105, 116, 115] ++ 32 :: (bs (numS h.toNat) ++ 32 :: ([108, 111, 115, 116] ++ 32 :: bs (numS l.toNat))))))) := by
  rw [bs_app, lineB_b]
  simp only [bs_app, bsL, List.append_assoc, List.cons_append, List.nil_append]
theorem no_at : ∀ y ∈ ([97, 116] : List UInt8), ¬ (y.toNat : Int) = 32 := by decide
theorem no_hits : ∀ y ∈ ([104, 105, 116, 115] : List UInt8), ¬ (y.toNat : Int) = 32 := by decide
theorem no_lost : ∀ y ∈ ([108, 111, 115, 116] : List UInt8), ¬ (y.toNat : Int) = 32 := by decide
theorem no_place {a b : Nat} : ∀ y ∈ bs (numS a) ++ 44 :: bs (numS b), ¬ (y.toNat : Int) = 32 := by
  intro y hy
  rcases List.mem_append.1 hy with hy | hy
  · exact dig_no (by omega) y hy
  · rcases List.mem_cons.1 hy with rfl | hy
    · decide
    · exact dig_no (by omega) y hy
theorem no_word : ∀ y ∈ bs (wordS s), ¬ (y.toNat : Int) = 32 := by
  unfold wordS
  split
  · decide
  · split
    · decide
    · decide
theorem c32 : (((32 : UInt8).toNat : Nat) : Int) = 32 := rfl
theorem c44 : (((44 : UInt8).toNat : Nat) : Int) = 44 := rfl
theorem line6 : splS (lineB i x y h (wordS s)) 32 = [⟨numS i.toNat⟩, ⟨wordS s⟩, ⟨mkS [97, 116]⟩, ⟨mkS (bs (numS x.toNat) ++ 44 :: bs (numS y.toNat))⟩, ⟨mkS [104, 105, 116, 115]⟩, ⟨numS h.toNat⟩] := by
  unfold splS
  rw [lineB_b, spL_word (dig_no (by omega)) c32, spL_word no_word c32, spL_word no_at c32, spL_word no_place c32, spL_word no_hits c32, spL_last (dig_no (by omega))]
  simp only [List.nil_append, List.map_cons, List.map_nil, mkS_bs]
theorem line8 : splS (lineB i x y h (wordS s) ++ (⟨#[32, 108, 111, 115, 116, 32]⟩ ++ numS l.toNat)) 32 = [⟨numS i.toNat⟩, ⟨wordS s⟩, ⟨mkS [97, 116]⟩, ⟨mkS (bs (numS x.toNat) ++ 44 :: bs (numS y.toNat))⟩, ⟨mkS [104, 105, 116, 115]⟩, ⟨numS h.toNat⟩, ⟨mkS [108, 111, 115, 116]⟩, ⟨numS l.toNat⟩] := by
  unfold splS
  rw [lineC_b, spL_word (dig_no (by omega)) c32, spL_word no_word c32, spL_word no_at c32, spL_word no_place c32, spL_word no_hits c32, spL_word (dig_no (by omega)) c32, spL_word no_lost c32, spL_last (dig_no (by omega))]
  simp only [List.nil_append, List.map_cons, List.map_nil, mkS_bs]
theorem place2 {a b : Nat} : splS (mkS (bs (numS a) ++ 44 :: bs (numS b))) 44 = [⟨numS a⟩, ⟨numS b⟩] := by
  unfold splS
  rw [bs_mkS, spL_word (dig_no (by omega)) c44, spL_last (dig_no (by omega))]
  simp only [List.nil_append, List.map_cons, List.map_nil, mkS_bs]
/-- word k of a text -/
def wd (t : ByteArray) (k : Nat) : ByteArray := ((splS t 32).getD k default).b
/-- what is known of a text that is the line of a track -/
structure PtF (t : ByteArray) (i s x y h l : Int) : Prop where
  rg : (1 ≤ i ∧ i ≤ 999) ∧ (0 ≤ x ∧ x ≤ 9899) ∧ (0 ≤ y ∧ y ≤ 9899) ∧ (1 ≤ h ∧ h ≤ 9999) ∧ (0 ≤ l ∧ l ≤ 3)
  st : s = 1 ∨ s = 2 ∨ s = 3
  len : (l = 0 → (splS t 32).length = 6) ∧ (¬ l = 0 → (splS t 32).length = 8)
  w0 : ((splS t 32).getD 0 default).b = numS i.toNat
  w1 : ((splS t 32).getD 1 default).b = wordS s
  w3 : splS ((splS t 32).getD 3 default).b 44 = [⟨numS x.toNat⟩, ⟨numS y.toNat⟩]
  w5 : ((splS t 32).getD 5 default).b = numS h.toNat
  w7 : ¬ l = 0 → ((splS t 32).getD 7 default).b = numS l.toNat
  sz : t.size ≤ 60
theorem wordS_sz : (wordS s).size ≤ 10 := by
  unfold wordS
  split
  · exact Nat.le_of_ble_eq_true rfl
  · split <;> exact Nat.le_of_ble_eq_true rfl
theorem lineB_sz (h1 : (1 ≤ i ∧ i ≤ 999) ∧ (0 ≤ x ∧ x ≤ 9899) ∧ (0 ≤ y ∧ y ≤ 9899) ∧ (1 ≤ h ∧ h ≤ 9999)) : (lineB i x y h (wordS s)).size ≤ 50 := by
  have a1 := numS_sz 2 i.toNat (by omega)
  have a2 := numS_sz 3 x.toNat (by omega)
  have a3 := numS_sz 3 y.toNat (by omega)
  have a4 := numS_sz 3 h.toNat (by omega)
  have a5 := wordS_sz (s := s)
  unfold lineB
  simp only [ByteArray.size_append, litSz]
  omega
theorem pt_of (ht : trB i s x y h l = true) (e : t = lineS i s x y h l) : PtF t i s x y h l := by
  have hr : ((1 ≤ i ∧ i ≤ 999) ∧ (0 ≤ x ∧ x ≤ 9899) ∧ (0 ≤ y ∧ y ≤ 9899) ∧ (1 ≤ h ∧ h ≤ 9999) ∧ (0 ≤ l ∧ l ≤ 3)) ∧ (s = 1 ∨ s = 2 ∨ s = 3) := by
    simp only [trB, placeB, Bool.and_eq_true] at ht
    obtain ⟨⟨⟨t1, t2, t3⟩, t4⟩, t5⟩ := ht
    have a1 := inB_iff.1 t1
    have a2 := inB_iff.1 t2
    have a3 := inB_iff.1 t3
    have a4 := inB_iff.1 t4
    have b : (0 ≤ l ∧ l ≤ 3) ∧ (s = 1 ∨ s = 2 ∨ s = 3) := by
      split at t5
      · rename_i e
        simp at t5; exact ⟨by omega, .inl e⟩
      · split at t5
        · rename_i e
          simp at t5; exact ⟨by omega, .inr (.inl e)⟩
        · split at t5
          · rename_i e
            simp only [Bool.and_eq_true] at t5
            have := inB_iff.1 t5.2
            exact ⟨by omega, .inr (.inr e)⟩
          · cases t5
    exact ⟨⟨by omega, by omega, by omega, by omega, by omega⟩, b.2⟩
  have hz := lineB_sz (s := s) ⟨hr.1.1, hr.1.2.1, hr.1.2.2.1, hr.1.2.2.2.1⟩
  by_cases hl : l = 0
  · rw [lineS_0 hl] at e
    subst e
    have g := line6 (i := i) (x := x) (y := y) (h := h) (s := s)
    exact { rg := hr.1, st := hr.2, len := ⟨fun _ => by rw [g]; rfl, fun q => absurd hl q⟩, w0 := by rw [g]; rfl, w1 := by rw [g]; rfl, w3 := by rw [g]; exact place2, w5 := by rw [g]; rfl, w7 := fun q => absurd hl q, sz := by omega }
  · rw [lineS_1 hl] at e
    have hz2 : t.size ≤ 60 := by
      rw [e]
      have a1 := numS_sz 0 l.toNat (by omega)
      simp only [ByteArray.size_append, litSz]
      omega
    subst e
    have g := line8 (i := i) (x := x) (y := y) (h := h) (s := s) (l := l)
    exact { rg := hr.1, st := hr.2, len := ⟨fun q => absurd q hl, fun _ => by rw [g]; rfl⟩, w0 := by rw [g]; rfl, w1 := by rw [g]; rfl, w3 := by rw [g]; exact place2, w5 := by rw [g]; rfl, w7 := fun _ => by rw [g]; rfl, sz := hz2 }
end
end Go.Proofs.Ytejahpnbplcgnaa
