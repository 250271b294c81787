/-
Plain laws on TimeToX, TimeToHeight, NearestMinute.
No condition but those that the theorems name.
-/
import Derived.Test.YtboedpdpfomjgaaM9
import Derived.Test.YtboedpdpfomjgaaM3
namespace Go.Proofs.Ytboedpdpfomjgaa
open Eng
set_option linter.unusedSimpArgs false
set_option linter.unusedVariables false
theorem red_law {d r : Int} (hd : 0 ≤ d ∧ d ≤ 140000) (hr : 0 < r ∧ r ≤ 6000) (h : d ≤ 60 * r) :
    0 ≤ IntKind.i64.wrap (d.tdiv (fr d r)) ∧ 1 ≤ IntKind.i64.wrap (r.tdiv (fr d r)) ∧ IntKind.i64.wrap (r.tdiv (fr d r)) ≤ r ∧
    IntKind.i64.wrap (d.tdiv (fr d r)) ≤ 60 * IntKind.i64.wrap (r.tdiv (fr d r)) ∧ r * IntKind.i64.wrap (d.tdiv (fr d r)) = d * IntKind.i64.wrap (r.tdiv (fr d r)) := by
  obtain ⟨g, hg, e, e1, e2, h1, h2, h3, h4⟩ := fr_red hd.1 hr.1
  rw [e]
  have w1 : IntKind.i64.wrap (d.tdiv g) = d.tdiv g := wrap_id (by omega) (by omega)
  have w2 : IntKind.i64.wrap (r.tdiv g) = r.tdiv g := wrap_id (by omega) (by omega)
  rw [w1, w2]
  generalize d.tdiv g = N at *
  generalize r.tdiv g = D at *
  refine ⟨h1, h2, h4, ?_, ?_⟩
  · refine Int.le_of_mul_le_mul_left (a := g) ?_ hg
    have e3 : g * (60 * D) = 60 * r := by rw [e2, ← Int.mul_assoc, ← Int.mul_assoc, Int.mul_comm g 60]
    rw [e3, ← e1]; exact h
  · rw [e1, e2, Int.mul_assoc, Int.mul_assoc, Int.mul_comm D N]
theorem wh_law {d r : Int} (hd : -140000 ≤ d ∧ d ≤ 140000) (hr : -6000 ≤ r ∧ r ≤ 6000) (ok : (wh (IntKind.i64.wrap d) r).2.2 = true) :
    0 ≤ (wh (IntKind.i64.wrap d) r).1 ∧ 1 ≤ (wh (IntKind.i64.wrap d) r).2.1 ∧ ((wh (IntKind.i64.wrap d) r).2.1 ≤ 1 ∨ (wh (IntKind.i64.wrap d) r).2.1 ≤ r ∨ (wh (IntKind.i64.wrap d) r).2.1 ≤ -r) ∧
    (wh (IntKind.i64.wrap d) r).1 ≤ 60 * (wh (IntKind.i64.wrap d) r).2.1 ∧ r * (wh (IntKind.i64.wrap d) r).1 = d * (wh (IntKind.i64.wrap d) r).2.1 := by
  have e0 : IntKind.i64.wrap d = d := wrap_id (by omega) (by omega)
  rw [e0] at ok ⊢
  unfold wh at ok ⊢
  by_cases h0 : d = 0
  · simp [h0]
  · simp only [if_neg h0] at ok ⊢
    by_cases hn : r < 0
    · simp only [if_pos hn] at ok ⊢
      have w1 : IntKind.i64.wrap (-d) = -d := wrap_id (by omega) (by omega)
      have w2 : IntKind.i64.wrap (-r) = -r := wrap_id (by omega) (by omega)
      have w3 : IntKind.i64.wrap (60 * -r) = 60 * -r := wrap_id (by omega) (by omega)
      rw [w1, w2, w3] at ok ⊢
      by_cases hc : -r = 0 ∨ -d < 0 ∨ 60 * -r < -d
      · rw [if_pos hc] at ok; cases ok
      · rw [if_neg hc]
        obtain ⟨k1, k2, k3, k4, k5⟩ := red_law (d := -d) (r := -r) (by omega) (by omega) (by omega)
        refine ⟨k1, k2, .inr (.inr k3), k4, ?_⟩
        simp only []
        rw [Int.neg_mul, Int.neg_mul] at k5
        omega
    · simp only [if_neg hn] at ok ⊢
      have w3 : IntKind.i64.wrap (60 * r) = 60 * r := wrap_id (by omega) (by omega)
      rw [w3] at ok ⊢
      by_cases hc : r = 0 ∨ d < 0 ∨ 60 * r < d
      · rw [if_pos hc] at ok; cases ok
      · rw [if_neg hc]
        obtain ⟨k1, k2, k3, k4, k5⟩ := red_law (d := d) (r := r) (by omega) (by omega) (by omega)
        exact ⟨k1, k2, .inr (.inl k3), k4, k5⟩
theorem motionB_iff {x y vx vy h c : Int} : motionB x y vx vy h c = true ↔ ((0 ≤ x ∧ x ≤ 9899) ∧ (0 ≤ y ∧ y ≤ 9899)) ∧ ((-200 ≤ vx ∧ vx ≤ 200) ∧ (-200 ≤ vy ∧ vy ≤ 200)) ∧ (-2000 ≤ h ∧ h ≤ 130000) ∧ (-6000 ≤ c ∧ c ≤ 6000) := by
  simp only [motionB, placeB, velB, Bool.and_eq_true, inB_iff]
  constructor
  · rintro ⟨⟨⟨h1, h2⟩, h3⟩, h4⟩; exact ⟨h1, h2, h3, h4⟩
  · rintro ⟨h1, h2, h3, h4⟩; exact ⟨⟨⟨h1, h2⟩, h3⟩, h4⟩
theorem timeB_iff {n d : Int} (h1 : 0 ≤ n) (h2 : 1 ≤ d ∧ d ≤ 1000) (h : n ≤ 60 * d) : timeB n d = true := by
  have e : IntKind.i64.wrap (60 * d) = 60 * d := wrap_id (by omega) (by omega)
  simp only [timeB, Bool.and_eq_true, inB_iff, e]; omega
/-- TimeToX's time leads to x -/
theorem tx_law {x y vx vy h c p : Int} (ok : (tt (motionB x y vx vy h c && inB p 0 9899) (p - x) vx).2.2 = true) :
    paOk x y vx vy h c (tt (motionB x y vx vy h c && inB p 0 9899) (p - x) vx).1 (tt (motionB x y vx vy h c && inB p 0 9899) (p - x) vx).2.1 = true ∧
    pa0 (paOk x y vx vy h c (tt (motionB x y vx vy h c && inB p 0 9899) (p - x) vx).1 (tt (motionB x y vx vy h c && inB p 0 9899) (p - x) vx).2.1) x vx (tt (motionB x y vx vy h c && inB p 0 9899) (p - x) vx).1 (tt (motionB x y vx vy h c && inB p 0 9899) (p - x) vx).2.1
      = IntKind.i64.wrap (p * pa2 (paOk x y vx vy h c (tt (motionB x y vx vy h c && inB p 0 9899) (p - x) vx).1 (tt (motionB x y vx vy h c && inB p 0 9899) (p - x) vx).2.1) (tt (motionB x y vx vy h c && inB p 0 9899) (p - x) vx).2.1) := by
  cases hb : (motionB x y vx vy h c && inB p 0 9899) with
  | false => rw [hb] at ok; simp [tt] at ok
  | true =>
    rw [hb] at ok
    simp only [tt, if_true] at ok ⊢
    rw [Bool.and_eq_true, motionB_iff, inB_iff] at hb
    obtain ⟨k1, k2, k3, k4, k5⟩ := wh_law (d := p - x) (r := vx) (by omega) (by omega) ok
    generalize (wh (IntKind.i64.wrap (p - x)) vx).1 = n at *
    generalize (wh (IntKind.i64.wrap (p - x)) vx).2.1 = d at *
    have hok : paOk x y vx vy h c n d = true := by
      simp only [paOk, Bool.and_eq_true]
      exact ⟨motionB_iff.2 hb.1, timeB_iff k1 (by omega) k4⟩
    rw [hok]
    refine ⟨rfl, ?_⟩
    simp only [pa0, pa2, if_true]
    rw [Int.sub_mul] at k5
    have b1 : 0 ≤ x * d ∧ x * d ≤ 9899 * d := ⟨Int.mul_nonneg (by omega) (by omega), Int.mul_le_mul_of_nonneg_right (by omega) (by omega)⟩
    have b2 : 0 ≤ p * d ∧ p * d ≤ 9899 * d := ⟨Int.mul_nonneg (by omega) (by omega), Int.mul_le_mul_of_nonneg_right (by omega) (by omega)⟩
    have w1 : IntKind.i64.wrap (x * d) = x * d := wrap_id (by omega) (by omega)
    have w2 : IntKind.i64.wrap (vx * n) = vx * n := wrap_id (by omega) (by omega)
    rw [w1, w2, k5]
    congr 1; omega
end Go.Proofs.Ytboedpdpfomjgaa
