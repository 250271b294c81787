/-
A contract of what reads a number, told without a choice, over plain data.
No condition but those that the contracts name.
-/
import Derived.Test.YtgcmahhejblpkaaW7
import Derived.Test.YtgcmahhejblpkaaC2
namespace Go.Proofs.Ytgcmahhejblpkaa
open Eng
set_option linter.unusedSimpArgs false
set_option linter.unusedVariables false
abbrev rdX (t : ByteArray) (i : Int) : Int := (((t.data.toList[i.toNat]?).getD 0).toNat : Nat)
abbrev rdN (t : ByteArray) (i n : Int) : Int := IntKind.i64.wrap (IntKind.i64.wrap (10 * n) + IntKind.i64.wrap (IntKind.u8.wrap (rdX t i - 48)))
def rdD (t : ByteArray) (i n : Int) : Option Int :=
  if i < t.size then (if rdX t i < 48 then none else if 57 < rdX t i then none else rdD t (i + 1) (rdN t i n)) else some n
termination_by (t.size - i).toNat
def rdT (s : ByteArray) : ByteArray := if 1 < (s.size : Int) then (if (((((s.data.toList[0]?).getD 0).toNat : Nat) : Int) == 45) = true then s.extract 1 s.size else s) else s
def rdM (s : ByteArray) (n : Int) : Int := if ((rdT s).size : Int) < s.size then IntKind.i64.wrap (0 - n) else n
def rdR0 (s : ByteArray) : Int × Bool :=
  if inB (rdT s).size 1 6 = false then (0, false) else
  match rdD (rdT s) 0 0 with
  | none => (0, false)
  | some n => if ((intS (rdM s n)).toList == s.toList) = true then (rdM s n, true) else (0, false)
/-- the same, not to be unfolded -/
def rdW (s : ByteArray) (k : Nat) : Int × Bool := if k = 0 then rdR0 s else rdW s (k - 1)
termination_by k
def rdR (s : ByteArray) : Int × Bool := rdW s 0
theorem rdR_eq {s : ByteArray} : rdR s = rdR0 s := by unfold rdR; rw [rdW.eq_1, if_pos rfl]
section
variable {s t : ByteArray} {i n m : Int} {j : Nat}
theorem rdT_a (h : 1 < (s.size : Int)) (h2 : (((((s.data.toList[0]?).getD 0).toNat : Nat) : Int) == 45) = true) : rdT s = s.extract 1 s.size := by unfold rdT; rw [if_pos h, if_pos h2]
theorem rdT_b (h : 1 < (s.size : Int)) (h2 : ¬ (((((s.data.toList[0]?).getD 0).toNat : Nat) : Int) == 45) = true) : rdT s = s := by unfold rdT; rw [if_pos h, if_neg h2]
theorem rdT_c (h : ¬ 1 < (s.size : Int)) : rdT s = s := by unfold rdT; rw [if_neg h]
theorem rdD_go {X : Option Int} (hi : i < t.size) (h1 : ¬ rdX t i < 48) (h2 : ¬ 57 < rdX t i) (h : X = rdD t i n) : X = rdD t (i + 1) (rdN t i n) := by
  rw [h, rdD.eq_1, if_pos hi, if_neg h1, if_neg h2]
theorem rd_f1 (e : rdT s = t) (h : inB t.size 1 6 = false) : rdR s = (0, false) := by
  subst e; rw [rdR_eq]; unfold rdR0; rw [if_pos h]
theorem rd_f2 (e : rdT s = t) (h : ¬ inB t.size 1 6 = false) (hJ : rdD (rdT s) 0 0 = rdD (rdT s) i n) (hi : i < t.size) (h1 : rdX t i < 48) : rdR s = (0, false) := by
  subst e; rw [rdR_eq]; unfold rdR0; rw [if_neg h, hJ, rdD.eq_1, if_pos hi, if_pos h1]
theorem rd_f3 (e : rdT s = t) (h : ¬ inB t.size 1 6 = false) (hJ : rdD (rdT s) 0 0 = rdD (rdT s) i n) (hi : i < t.size) (h1 : ¬ rdX t i < 48) (h2 : 57 < rdX t i) : rdR s = (0, false) := by
  subst e; rw [rdR_eq]; unfold rdR0; rw [if_neg h, hJ, rdD.eq_1, if_pos hi, if_neg h1, if_pos h2]
theorem rd_some (e : rdT s = t) (h : ¬ inB t.size 1 6 = false) (hJ : rdD (rdT s) 0 0 = rdD (rdT s) i n) (hi : ¬ i < t.size) : rdR s = if ((intS (rdM s n)).toList == s.toList) = true then (rdM s n, true) else (0, false) := by
  subst e; rw [rdR_eq]; unfold rdR0; rw [if_neg h, hJ, rdD.eq_1, if_neg hi]
theorem rd_f4 (e : rdT s = t) (h : ¬ inB t.size 1 6 = false) (hJ : rdD (rdT s) 0 0 = rdD (rdT s) i n) (hi : ¬ i < t.size) (hm : (((t.size : Int) < s.size) ∧ m = IntKind.i64.wrap (0 - n)) ∨ (¬ (t.size : Int) < s.size ∧ m = n)) (h2 : ((intS m).toList == s.toList) = false) : rdR s = (0, false) := by
  have em : rdM s n = m := by
    unfold rdM; rw [e]
    rcases hm with ⟨h1, h3⟩ | ⟨h1, h3⟩
    · rw [if_pos h1, h3]
    · rw [if_neg h1, h3]
  rw [rd_some e h hJ hi, em, if_neg (by rw [h2]; decide)]
theorem rd_f5 (e : rdT s = t) (h : ¬ inB t.size 1 6 = false) (hJ : rdD (rdT s) 0 0 = rdD (rdT s) i n) (hi : ¬ i < t.size) (hm : (((t.size : Int) < s.size) ∧ m = IntKind.i64.wrap (0 - n)) ∨ (¬ (t.size : Int) < s.size ∧ m = n)) (h2 : ¬ ((intS m).toList == s.toList) = false) : rdR s = (m, true) := by
  have em : rdM s n = m := by
    unfold rdM; rw [e]
    rcases hm with ⟨h1, h3⟩ | ⟨h1, h3⟩
    · rw [if_pos h1, h3]
    · rw [if_neg h1, h3]
  rw [rd_some e h hJ hi, em, if_pos (by simpa using h2)]
theorem rd_go2 (e : rdT s = t) (hJ : bdN i n ∧ rdD (rdT s) 0 0 = rdD (rdT s) i n) (hs : ¬ inB t.size 1 6 = false) (hi : i < (t.size : Int)) (h1 : ¬ rdX t i < 48) (h2 : ¬ 57 < rdX t i) :
    (bdN (IntKind.i64.wrap (i + 1)) (rdN t i n) ∧ rdD (rdT s) 0 0 = rdD (rdT s) (IntKind.i64.wrap (i + 1)) (rdN t i n)) ∧ (7 - IntKind.i64.wrap (i + 1)).toNat < (7 - i).toNat := by
  subst e
  have hs2 : 1 ≤ ((rdT s).size : Int) ∧ ((rdT s).size : Int) ≤ 6 := inB_iff.1 (by simpa using hs)
  have hb := bdN_le hJ.1
  have hb2 := bdN_i hJ
  have e1 : IntKind.i64.wrap (i + 1) = i + 1 := wrap_id (by omega) (by omega)
  have e2 : rdN (rdT s) i n = 10 * n + (rdX (rdT s) i - 48) := nm_w hb ⟨by omega, by omega⟩
  rw [e1]
  refine ⟨⟨by rw [e2]; exact bdN_go hJ.1 (by omega) ⟨by omega, by omega⟩, rdD_go hi h1 h2 hJ.2⟩, by omega⟩
/-- the reading of a number that was written -/
theorem rdR_num (hj : j ≤ 999999) (e : s = numS j) : rdR s = ((j : Int), true) := by
  have hz := nm_sz hj e
  have hT : rdT s = s := by
    by_cases h : 1 < (s.size : Int)
    · refine rdT_b h fun h2 => ?_
      exact rd_neg e h h2
    · exact rdT_c h
  have key : ∀ (k : Nat) (i n : Int), 0 ≤ i → ((s.size : Int) - i).toNat ≤ k → i ≤ s.size → n = valD ((bs s).take i.toNat) → rdD s i n = some (j : Int) := by
    intro k
    induction k with
    | zero =>
      intro i n h0 h1 h2 h3
      rw [rdD.eq_1, if_neg (by omega), nm_all e h0 (by omega) h3]
    | succ k ih =>
      intro i n h0 h1 h2 h3
      by_cases hi : i < s.size
      · have hd := nm_dig (n := i.toNat) e (by omega)
        have hx : rdX s i = (((s.data.toList[i.toNat]?).getD 0).toNat : Nat) := rfl
        have ht := nm_take hj e i.toNat
        rw [rdD.eq_1, if_pos hi, if_neg (by rw [hx]; omega), if_neg (by rw [hx]; omega)]
        refine ih (i + 1) _ (by omega) (by omega) (by omega) ?_
        have e2 : rdN s i n = 10 * n + (rdX s i - 48) := nm_w (by omega) ⟨by rw [hx]; omega, by rw [hx]; omega⟩
        rw [e2]
        exact nm_step hj e h0 hi h3 ⟨by omega, by omega⟩
      · rw [rdD.eq_1, if_neg hi, nm_all e h0 hi h3]
  have hk := key _ 0 0 (by omega) (Nat.le_refl _) (by omega) (by simp [valD])
  have hin : ¬ inB s.size 1 6 = false := by
    have : inB s.size 1 6 = true := inB_iff.2 (by omega)
    rw [this]; decide
  rw [rdR_eq]; unfold rdR0
  rw [hT, if_neg hin, hk]
  have hM : rdM s (j : Int) = j := by unfold rdM; rw [hT, if_neg (by omega)]
  have hI : intS (j : Int) = s := by
    unfold intS; rw [if_neg (by omega), e]; rfl
  simp only [hM, hI]
  simp
end
set_option maxRecDepth 100000 in
set_option maxHeartbeats 4000000 in
theorem l1ReadD_gc {s : ByteArray} (hl : s.size ≤ 1048576) : GC Try.prog 83 [vs s] [] (fun r_ hs_ => r_ = .tup [vi (rdR s).1, vb (rdR s).2] ∧ hs_ = []) := by
  refine GC.of_func [] Try.call83 Try.func83 rfl ⟨by kernel_rfl, by kernel_rfl⟩ (by kernel_rfl) ?_
  rw [Try.results83]
  simp -implicitDefEqProofs (maxSteps := 4000000) only [sim0, sim1, sim2, sim3, sim4, sim5, sim6, sim7, sim8, ↓reduceIte, Nat.reduceEqDiff, Nat.reduceAdd, Nat.reduceMul, Nat.reduceSub, Nat.reduceLT, Nat.reduceLeDiff, reduceCtorEq, Int.reduceToNat, Int.reduceNeg, Nat.reduceBEq, simx, ty]
  repeat' (first
    | ((with_reducible refine onCall ?_); first
      | (refine GC.callS (l1NumZ_gc ?_) rfl rfl ?_ <;> try simp -implicitDefEqProofs (maxSteps := 4000000) only [sim0, sim1, sim2, sim3, sim4, sim5, sim6, sim7, sim8, ↓reduceIte, Nat.reduceEqDiff, Nat.reduceAdd, Nat.reduceMul, Nat.reduceSub, Nat.reduceLT, Nat.reduceLeDiff, reduceCtorEq, Int.reduceToNat, Int.reduceNeg, Nat.reduceBEq, simx, ty])
      | (refine GC.callS l1In_gc rfl rfl ?_ <;> try simp -implicitDefEqProofs (maxSteps := 4000000) only [sim0, sim1, sim2, sim3, sim4, sim5, sim6, sim7, sim8, ↓reduceIte, Nat.reduceEqDiff, Nat.reduceAdd, Nat.reduceMul, Nat.reduceSub, Nat.reduceLT, Nat.reduceLeDiff, reduceCtorEq, Int.reduceToNat, Int.reduceNeg, Nat.reduceBEq, simx, ty])
      | fail)
    | ((with_reducible refine onQcall ?_); first
      | (refine qcallS (l1NumZ_gc ?_) rfl rfl ?_ <;> try simp -implicitDefEqProofs (maxSteps := 4000000) only [sim0, sim1, sim2, sim3, sim4, sim5, sim6, sim7, sim8, ↓reduceIte, Nat.reduceEqDiff, Nat.reduceAdd, Nat.reduceMul, Nat.reduceSub, Nat.reduceLT, Nat.reduceLeDiff, reduceCtorEq, Int.reduceToNat, Int.reduceNeg, Nat.reduceBEq, simx, ty])
      | fail)
    | ((with_reducible refine onCode ?_); first
      | (refine onLid 8 ?_ (by rfl); refine acode_prune [0, 2, 3, 4, 5, 6] ?_; simp only [prn_cons, prn_nil, lk_cons, lk_emp, Nat.reduceEqDiff, ↓reduceIte]; refine acode_loopS2 8 (by rfl) (α := Int × Int) (fun ⟨i, n⟩ => [(6, vi i), (5, vi n)]) [2, 3, 22, 23, 24, 25, 26, 27, 28, 29, 30, 31, 32, 33, 34, 35, 36, 37, 38, 39, 40, 41, 42, 43, 44, 45] [2, 3] (by kernel_rfl) (fun ⟨i, n⟩ => bdN i n ∧ rdD (rdT s) 0 0 = rdD (rdT s) i n) (fun ⟨i, n⟩ => (7 - i).toNat) ((0, 0)) ?_ (by (try simp only []) <;> first | (exact ⟨bdN_zero, by first | rfl | trivial⟩) | fail) ?_; (focus ((try dsimp only []); (repeat' (first | exact agr_none | exact lk_hd | refine lk_tl (by decide) ?_ | refine agr_one ?_ ?_)); done)); rintro ⟨i, n⟩ hJ; (try simp only [] at hJ); have hJ8 := hJ; simp -implicitDefEqProofs (maxSteps := 4000000) only [sim0, sim1, sim2, sim3, sim4, sim5, sim6, sim7, sim8, ↓reduceIte, Nat.reduceEqDiff, Nat.reduceAdd, Nat.reduceMul, Nat.reduceSub, Nat.reduceLT, Nat.reduceLeDiff, reduceCtorEq, Int.reduceToNat, Int.reduceNeg, Nat.reduceBEq, simx, ty])
      | fail)
    | ((with_reducible refine onLps ?_); first
      | (refine lps2_end (α := Int × Int) (mods := (fun ⟨i, n⟩ => [(6, vi i), (5, vi n)])) (_, _) (by (try dsimp only []); simp only [agr_cons, agr_nil, lk_cons, lk_emp, Nat.reduceEqDiff, ↓reduceIte, and_true]; repeat' (first | rfl | apply And.intro)) (by unfold undK; kernel_rfl) ?_ ?_ <;> ((try simp only []); (first | (have e9 : rdT s = s := (by first | exact rdT_c (by assumption) | exact rdT_b (by assumption) (by assumption)); have g9 := rd_go2 e9 hJ8 (by assumption) (by assumption) (by assumption) hq; first | exact g9.1 | exact g9.2) | (have e9 := rdT_a (s := s) (by assumption) (by assumption); have g9 := rd_go2 e9 hJ8 (by assumption) (by assumption) (by assumption) hq; first | exact g9.1 | exact g9.2))))
      | fail)
    | ((with_reducible refine onFin ?_); first
      | (refine fin_nil ?_; (first | (first | (have e9 : rdT s = s := (by first | exact rdT_c (by assumption) | exact rdT_b (by assumption) (by assumption)); first | (exfalso; omega; done) | (rw [rd_f1 e9 hq]; rfl) | (rw [rd_f2 e9 (by assumption) hJ8.2 (by assumption) hq]; rfl) | (rw [rd_f3 e9 (by assumption) hJ8.2 (by assumption) (by assumption) hq]; rfl) | (rw [rd_f4 e9 (by assumption) hJ8.2 (by assumption) (.inr ⟨by assumption, rfl⟩) hq]; rfl) | (rw [rd_f5 e9 (by assumption) hJ8.2 (by assumption) (.inr ⟨by assumption, rfl⟩) hq]; rfl)) | (have e9 := rdT_a (by assumption) (by assumption); first | (rw [rd_f1 e9 hq]; rfl) | (rw [rd_f2 e9 (by assumption) hJ8.2 (by assumption) hq]; rfl) | (rw [rd_f3 e9 (by assumption) hJ8.2 (by assumption) (by assumption) hq]; rfl) | (rw [rd_f4 e9 (by assumption) hJ8.2 (by assumption) (.inr ⟨by assumption, rfl⟩) hq]; rfl) | (rw [rd_f5 e9 (by assumption) hJ8.2 (by assumption) (.inr ⟨by assumption, rfl⟩) hq]; rfl) | (rw [rd_f4 e9 (by assumption) hJ8.2 (by assumption) (.inl ⟨by assumption, rfl⟩) hq]; rfl) | (rw [rd_f5 e9 (by assumption) hJ8.2 (by assumption) (.inl ⟨by assumption, rfl⟩) hq]; rfl))) | (simp_all [fins]; done) | (simp_all [-Int.not_lt, -Int.not_le, fins]; done) | (simp_all [fins]; omega)))
      | fail)
    | (with_reducible refine ite_intro (fun hq => ?_) (fun hq => ?_))
    | (with_reducible refine And.intro (fun hq => ?_) (fun hq => ?_))
    | (with_reducible refine And.intro ?_ ?_)
    | ((fail_if_success (with_reducible refine onCode ?_)); (fail_if_success (with_reducible refine onLps ?_)); (fail_if_success (with_reducible refine onLpd ?_)); (fail_if_success (with_reducible refine onLpe ?_)); (fail_if_success (with_reducible refine onFin ?_)); (fail_if_success (with_reducible refine onCall ?_)); (fail_if_success (with_reducible refine onQcall ?_)); first | ((first | omega | (have g9 := bdN_i hJ8; omega) | (have g9 := bdN_i hJ8; rw [wr_neg hJ8]; omega)); done) | omega | (rw [wrap_id (by omega) (by omega)]; omega) | (first | (have e9 : rdT s = s := (by first | exact rdT_c (by assumption) | exact rdT_b (by assumption) (by assumption)); first | (exfalso; omega; done) | (rw [rd_f1 e9 hq]; rfl) | (rw [rd_f2 e9 (by assumption) hJ8.2 (by assumption) hq]; rfl) | (rw [rd_f3 e9 (by assumption) hJ8.2 (by assumption) (by assumption) hq]; rfl) | (rw [rd_f4 e9 (by assumption) hJ8.2 (by assumption) (.inr ⟨by assumption, rfl⟩) hq]; rfl) | (rw [rd_f5 e9 (by assumption) hJ8.2 (by assumption) (.inr ⟨by assumption, rfl⟩) hq]; rfl)) | (have e9 := rdT_a (by assumption) (by assumption); first | (rw [rd_f1 e9 hq]; rfl) | (rw [rd_f2 e9 (by assumption) hJ8.2 (by assumption) hq]; rfl) | (rw [rd_f3 e9 (by assumption) hJ8.2 (by assumption) (by assumption) hq]; rfl) | (rw [rd_f4 e9 (by assumption) hJ8.2 (by assumption) (.inr ⟨by assumption, rfl⟩) hq]; rfl) | (rw [rd_f5 e9 (by assumption) hJ8.2 (by assumption) (.inr ⟨by assumption, rfl⟩) hq]; rfl) | (rw [rd_f4 e9 (by assumption) hJ8.2 (by assumption) (.inl ⟨by assumption, rfl⟩) hq]; rfl) | (rw [rd_f5 e9 (by assumption) hJ8.2 (by assumption) (.inl ⟨by assumption, rfl⟩) hq]; rfl)))))

end Go.Proofs.Ytgcmahhejblpkaa
