/-
Plain laws on TimeToHeight and NearestMinute.
No condition but those that the theorems name.
-/
import Derived.Test.YtboedpdpfomjgaaM10
namespace Go.Proofs.Ytboedpdpfomjgaa
open Eng
set_option linter.unusedSimpArgs false
set_option linter.unusedVariables false
theorem fr_mul {p d : Int} (hd : 0 < d) (hp : -9223372036854775808 < p * d) (hq : p * d ≤ 9223372036854775807) : fr (p * d) d = d := by
  have e : ∃ k : Int, absV (p * d) = d * k := by
    unfold absV
    split
    · refine ⟨-p, ?_⟩
      have w : IntKind.i64.wrap (0 - p * d) = 0 - p * d := wrap_id (by omega) (by omega)
      rw [w, Int.mul_neg, Int.mul_comm d p]; omega
    · exact ⟨p, Int.mul_comm _ _⟩
  obtain ⟨k, e⟩ := e
  unfold fr
  rw [e, gcdI_step (by omega), Int.mul_tmod_right, gcdI_zero]
theorem th_law {x y vx vy h c p : Int} (ok : (tt (motionB x y vx vy h c && inB p (-2000) 130000) (p - h) c).2.2 = true) (hd : (tt (motionB x y vx vy h c && inB p (-2000) 130000) (p - h) c).2.1 ≤ 1000) :
    haOk x y vx vy h c (tt (motionB x y vx vy h c && inB p (-2000) 130000) (p - h) c).1 (tt (motionB x y vx vy h c && inB p (-2000) 130000) (p - h) c).2.1 = true ∧
    ha0 true h c (tt (motionB x y vx vy h c && inB p (-2000) 130000) (p - h) c).1 (tt (motionB x y vx vy h c && inB p (-2000) 130000) (p - h) c).2.1 = p ∧
    ha1 true h c (tt (motionB x y vx vy h c && inB p (-2000) 130000) (p - h) c).1 (tt (motionB x y vx vy h c && inB p (-2000) 130000) (p - h) c).2.1 = 1 := by
  cases hb : (motionB x y vx vy h c && inB p (-2000) 130000) with
  | false => rw [hb] at ok; simp [tt] at ok
  | true =>
    rw [hb] at ok hd
    simp only [tt, if_true] at ok hd ⊢
    rw [Bool.and_eq_true, motionB_iff, inB_iff] at hb
    obtain ⟨k1, k2, k3, k4, k5⟩ := wh_law (d := p - h) (r := c) (by omega) (by omega) ok
    generalize (wh (IntKind.i64.wrap (p - h)) c).1 = n at *
    generalize (wh (IntKind.i64.wrap (p - h)) c).2.1 = d at *
    have hok : haOk x y vx vy h c n d = true := by
      simp only [haOk, Bool.and_eq_true]
      exact ⟨motionB_iff.2 hb.1, timeB_iff k1 (by omega) k4⟩
    rw [Int.sub_mul] at k5
    have b1 : -2000 * d ≤ h * d ∧ h * d ≤ 130000 * d := ⟨Int.mul_le_mul_of_nonneg_right (by omega) (by omega), Int.mul_le_mul_of_nonneg_right (by omega) (by omega)⟩
    have b2 : -2000 * d ≤ p * d ∧ p * d ≤ 130000 * d := ⟨Int.mul_le_mul_of_nonneg_right (by omega) (by omega), Int.mul_le_mul_of_nonneg_right (by omega) (by omega)⟩
    have w1 : IntKind.i64.wrap (h * d) = h * d := wrap_id (by omega) (by omega)
    have w2 : IntKind.i64.wrap (c * n) = c * n := wrap_id (by omega) (by omega)
    have hN : haN h c n d = p * d := by
      unfold haN
      rw [w1, w2, k5]
      have e : h * d + (p * d - h * d) = p * d := by omega
      rw [e]; exact wrap_id (by omega) (by omega)
    have hf : fr (p * d) d = d := fr_mul (by omega) (by omega) (by omega)
    refine ⟨hok, ?_, ?_⟩
    · simp only [ha0, if_true, hN, hf]
      rw [Int.mul_tdiv_cancel _ (by omega)]; exact wrap_id (by omega) (by omega)
    · simp only [ha1, if_true, hN, hf]
      rw [Int.tdiv_self (by omega)]; exact wrap_id (by omega) (by omega)
section
variable {x y vx vy px py : Int}
theorem nmGo_least (h0 : ∀ i : Int, 0 ≤ i → i ≤ 60 → 0 ≤ nmD x y vx vy px py i) : ∀ (n : Nat) (t b l : Int), (61 - t).toNat ≤ n → 0 ≤ t → t ≤ 61 →
    (t = 0 ∧ l < 0 ∨ 0 < t ∧ l = nmD x y vx vy px py b ∧ 0 ≤ b ∧ b < t ∧ ∀ i : Int, 0 ≤ i → i < t → l ≤ nmD x y vx vy px py i ∧ (nmD x y vx vy px py i = l → b ≤ i)) →
    ∃ q : Int, nmGo x y vx vy px py t b l = q ∧ 0 ≤ q ∧ q ≤ 60 ∧ ∀ i : Int, 0 ≤ i → i ≤ 60 → nmD x y vx vy px py q ≤ nmD x y vx vy px py i ∧ (nmD x y vx vy px py i = nmD x y vx vy px py q → q ≤ i)
  | n, t, b, l, hn, ht, ht2, hI => by
    rw [nmGo.eq_1]
    by_cases h1 : 60 < t
    · rw [if_pos h1]
      rcases hI with ⟨h, _⟩ | ⟨_, h2, h3, h4, h5⟩
      · omega
      · refine ⟨b, rfl, h3, by omega, fun i hi hi2 => ?_⟩
        rw [← h2]; exact h5 i hi (by omega)
    · rw [if_neg h1]
      cases n with
      | zero => omega
      | succ n =>
        have hp := h0 t ht (by omega)
        by_cases h2 : l < 0 ∨ nmD x y vx vy px py t < l
        · rw [if_pos h2]
          refine nmGo_least h0 n (t + 1) t _ (by omega) (by omega) (by omega) (.inr ⟨by omega, rfl, ht, by omega, fun i hi hi2 => ?_⟩)
          by_cases hit : i = t
          · subst hit; exact ⟨Int.le_refl _, fun _ => Int.le_refl _⟩
          · rcases hI with ⟨h, _⟩ | ⟨h3, h4, h5, h6, h7⟩
            · omega
            · have := h7 i hi (by omega)
              have hb := h0 b h5 (by omega)
              refine ⟨by omega, fun e => by omega⟩
        · rw [if_neg h2]
          rcases hI with ⟨h, h3⟩ | ⟨h3, h4, h5, h6, h7⟩
          · omega
          · refine nmGo_least h0 n (t + 1) b l (by omega) (by omega) (by omega) (.inr ⟨by omega, h4, h5, by omega, fun i hi hi2 => ?_⟩)
            by_cases hit : i = t
            · subst hit; exact ⟨by omega, fun _ => by omega⟩
            · exact h7 i hi (by omega)
end
theorem sqV_nn {a b : Int} (ha : -100000 ≤ a ∧ a ≤ 100000) (hb : -100000 ≤ b ∧ b ≤ 100000) : 0 ≤ sqV a b := by
  have q : ∀ z : Int, -100000 ≤ z ∧ z ≤ 100000 → 0 ≤ z * z ∧ z * z ≤ 10000000000 := by
    intro z hz
    have e : z * z = z.natAbs * z.natAbs := (Int.natAbs_mul_self' z).symm
    have h : z.natAbs ≤ 100000 := by omega
    have h2 : z.natAbs * z.natAbs ≤ 100000 * 100000 := Nat.mul_le_mul h h
    rw [e]; constructor
    · exact Int.mul_nonneg (by omega) (by omega)
    · have : ((z.natAbs * z.natAbs : Nat) : Int) ≤ 10000000000 := by omega
      rwa [Int.natCast_mul] at this
  have h1 := q a ha
  have h2 := q b hb
  unfold sqV
  have w1 : IntKind.i64.wrap (a * a) = a * a := wrap_id (by omega) (by omega)
  have w2 : IntKind.i64.wrap (b * b) = b * b := wrap_id (by omega) (by omega)
  rw [w1, w2, wrap_id (by omega) (by omega)]; omega
theorem atV_bd {x vx t : Int} (hx : 0 ≤ x ∧ x ≤ 9899) (hv : -200 ≤ vx ∧ vx ≤ 200) (ht : 0 ≤ t ∧ t ≤ 60) : -20000 ≤ atV x vx t ∧ atV x vx t ≤ 40000 := by
  have h1 : -200 * t ≤ vx * t := Int.mul_le_mul_of_nonneg_right hv.1 ht.1
  have h2 : vx * t ≤ 200 * t := Int.mul_le_mul_of_nonneg_right hv.2 ht.1
  unfold atV
  rw [wrap_id (n := vx * t) (by omega) (by omega), wrap_id (by omega) (by omega)]
  omega
theorem nmD_nn {x y vx vy h c px py i : Int} (hm : motionB x y vx vy h c = true) (hp : placeB px py = true) (h0 : 0 ≤ i) (h1 : i ≤ 60) : 0 ≤ nmD x y vx vy px py i := by
  rw [motionB_iff] at hm
  simp only [placeB, Bool.and_eq_true, inB_iff] at hp
  have a1 := atV_bd hm.1.1 hm.2.1.1 ⟨h0, h1⟩
  have a2 := atV_bd hm.1.2 hm.2.1.2 ⟨h0, h1⟩
  unfold nmD
  have w1 : IntKind.i64.wrap (atV x vx i - px) = atV x vx i - px := wrap_id (by omega) (by omega)
  have w2 : IntKind.i64.wrap (atV y vy i - py) = atV y vy i - py := wrap_id (by omega) (by omega)
  rw [w1, w2]; exact sqV_nn (by omega) (by omega)
theorem nm_law {x y vx vy h c px py : Int} (hb : (motionB x y vx vy h c && placeB px py) = true) :
    (0 ≤ nm x y vx vy h c px py ∧ nm x y vx vy h c px py ≤ 60) ∧ ∀ i : Int, 0 ≤ i → i ≤ 60 → nmD x y vx vy px py (nm x y vx vy h c px py) ≤ nmD x y vx vy px py i ∧ (nmD x y vx vy px py i = nmD x y vx vy px py (nm x y vx vy h c px py) → nm x y vx vy h c px py ≤ i) := by
  have e : nm x y vx vy h c px py = nmGo x y vx vy px py 0 0 (-1) := by unfold nm; rw [if_pos hb]
  rw [Bool.and_eq_true] at hb
  obtain ⟨q, h1, h2, h3, h4⟩ := nmGo_least (x := x) (y := y) (vx := vx) (vy := vy) (px := px) (py := py) (fun i a b => nmD_nn hb.1 hb.2 a b) 61 0 0 (-1) (by omega) (by omega) (by omega) (.inl ⟨rfl, by omega⟩)
  rw [e, h1]; exact ⟨⟨h2, h3⟩, h4⟩
/-- where PlaceAt says a number is after whole minutes -/
theorem pa_at {x y vx vy h c i : Int} (hm : motionB x y vx vy h c = true) (h0 : 0 ≤ i) (h1 : i ≤ 60) :
    paOk x y vx vy h c i 1 = true ∧ pa0 true x vx i 1 = atV x vx i ∧ pa0 true y vy i 1 = atV y vy i := by
  have hm' := motionB_iff.1 hm
  refine ⟨?_, ?_, ?_⟩
  · simp only [paOk, Bool.and_eq_true]; exact ⟨hm, timeB_iff h0 (by omega) (by omega)⟩
  · simp only [pa0, if_true, atV, Int.mul_one]; rw [wrap_id (n := x) (by omega) (by omega)]
  · simp only [pa0, if_true, atV, Int.mul_one]; rw [wrap_id (n := y) (by omega) (by omega)]
end Go.Proofs.Ytboedpdpfomjgaa
