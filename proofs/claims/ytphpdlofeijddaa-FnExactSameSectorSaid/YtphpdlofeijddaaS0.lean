/-
Plain geometry of places: crossings, sides, turns. No program in sight.
No condition but those that the lemmas name.
-/
import Derived.Test.YtphpdlofeijddaaW1
import Derived.Test.YtphpdlofeijddaaW2
namespace Go.Proofs.Ytphpdlofeijddaa
open Eng
set_option linter.unusedSimpArgs false
set_option linter.unusedVariables false
theorem back_iff {p q r s : Int} (h : p * s = q * r) (h1 : p ≠ 0 ∨ q ≠ 0) (h2 : r ≠ 0 ∨ s ≠ 0) :
   (p * r + q * s < 0) ↔ (((min 0 p ≤ p + r ∧ p + r ≤ max 0 p) ∧ (min 0 q ≤ q + s ∧ q + s ≤ max 0 q)) ∨ ((min 0 r ≤ -p ∧ -p ≤ max 0 r) ∧ (min 0 s ≤ -q ∧ -q ≤ max 0 s))) := by
  have H : ∀ x : Int, x < 0 ∨ x = 0 ∨ 0 < x := fun x => by omega
  rcases H p with hp | hp | hp <;> rcases H q with hq | hq | hq <;> rcases H r with hr | hr | hr <;> rcases H s with hs | hs | hs <;>
   ( have e1 := by first | exact mz1 (b := r) hp | exact mz2 (a := p) hr | exact Int.mul_pos hp hr | exact Int.mul_pos_of_neg_of_neg hp hr | exact Int.mul_neg_of_neg_of_pos hp hr | exact Int.mul_neg_of_pos_of_neg hp hr
     have e2 := by first | exact mz1 (b := s) hq | exact mz2 (a := q) hs | exact Int.mul_pos hq hs | exact Int.mul_pos_of_neg_of_neg hq hs | exact Int.mul_neg_of_neg_of_pos hq hs | exact Int.mul_neg_of_pos_of_neg hq hs
     have e3 := by first | exact mz1 (b := s) hp | exact mz2 (a := p) hs | exact Int.mul_pos hp hs | exact Int.mul_pos_of_neg_of_neg hp hs | exact Int.mul_neg_of_neg_of_pos hp hs | exact Int.mul_neg_of_pos_of_neg hp hs
     have e4 := by first | exact mz1 (b := r) hq | exact mz2 (a := q) hr | exact Int.mul_pos hq hr | exact Int.mul_pos_of_neg_of_neg hq hr | exact Int.mul_neg_of_neg_of_pos hq hr | exact Int.mul_neg_of_pos_of_neg hq hr
     first
     | omega
     | (have a := @prod_le p q (-r) (-s) (by omega) (by omega) (by simp only [Int.mul_neg]; omega); omega)
     | (have a := @prod_le p (-q) (-r) s (by omega) (by omega) (by simp only [Int.mul_neg, Int.neg_mul]; omega); omega)
     | (have a := @prod_le (-p) q r (-s) (by omega) (by omega) (by simp only [Int.mul_neg, Int.neg_mul]; omega); omega)
     | (have a := @prod_le (-p) (-q) r s (by omega) (by omega) (by simp only [Int.mul_neg, Int.neg_mul]; omega); omega))

def crossV (ax ay bx by' cx cy : Int) : Int := w64 (w64 (w64 (bx - ax) * w64 (cy - ay)) - w64 (w64 (by' - ay) * w64 (cx - ax)))
def onB (ax ay bx by' px py : Int) : Bool := crossV ax ay bx by' px py == 0 && inB px (min ax bx) (max ax bx) && inB py (min ay by') (max ay by')
def sgV (n : Int) : Int := if n < 0 then -1 else if 0 < n then 1 else 0
def meetB (ax ay bx by' cx cy dx dy : Int) : Bool :=
  onB ax ay bx by' cx cy || onB ax ay bx by' dx dy || onB cx cy dx dy ax ay || onB cx cy dx dy bx by' ||
  (decide (w64 (sgV (crossV ax ay bx by' cx cy) * sgV (crossV ax ay bx by' dx dy)) < 0) && decide (w64 (sgV (crossV cx cy dx dy ax ay) * sgV (crossV cx cy dx dy bx by')) < 0))
def backV (ax ay bx by' cx cy : Int) : Int := w64 (w64 (w64 (bx - ax) * w64 (cx - bx)) + w64 (w64 (by' - ay) * w64 (cy - by')))
theorem placeB_bd {x y : Int} (h : placeB x y = true) : (0 ≤ x ∧ x ≤ 9899) ∧ 0 ≤ y ∧ y ≤ 9899 := by
  simp only [placeB, Bool.and_eq_true, inB_iff] at h; exact h
theorem cross_ex {ax ay bx by' cx cy : Int} (ha : placeB ax ay = true) (hb : placeB bx by' = true) (hc : placeB cx cy = true) :
    crossV ax ay bx by' cx cy = (bx - ax) * (cy - ay) - (by' - ay) * (cx - ax) := by
  obtain ⟨a1, a2⟩ := placeB_bd ha
  obtain ⟨b1, b2⟩ := placeB_bd hb
  obtain ⟨c1, c2⟩ := placeB_bd hc
  have h1 := mul_bd (u := bx - ax) (v := cy - ay) (N := 9899) (M := 9899) (by omega) (by omega)
  have h2 := mul_bd (u := by' - ay) (v := cx - ax) (N := 9899) (M := 9899) (by omega) (by omega)
  simp only [crossV, ws]
  exact wrap_id (by omega) (by omega)
theorem back_ex {ax ay bx by' cx cy : Int} (ha : placeB ax ay = true) (hb : placeB bx by' = true) (hc : placeB cx cy = true) :
    backV ax ay bx by' cx cy = (bx - ax) * (cx - bx) + (by' - ay) * (cy - by') := by
  obtain ⟨a1, a2⟩ := placeB_bd ha
  obtain ⟨b1, b2⟩ := placeB_bd hb
  obtain ⟨c1, c2⟩ := placeB_bd hc
  have h1 := mul_bd (u := bx - ax) (v := cx - bx) (N := 9899) (M := 9899) (by omega) (by omega)
  have h2 := mul_bd (u := by' - ay) (v := cy - by') (N := 9899) (M := 9899) (by omega) (by omega)
  simp only [backV, ws]
  exact wrap_id (by omega) (by omega)
def bad1 (ax ay bx by' cx cy : Int) : Bool := crossV ax ay bx by' cx cy == 0 && decide (backV ax ay bx by' cx cy < 0)
def bad2 (ax ay bx by' cx cy : Int) : Bool := onB ax ay bx by' cx cy || onB bx by' cx cy ax ay
theorem bad_eq {ax ay bx by' cx cy : Int} (ha : placeB ax ay = true) (hb : placeB bx by' = true) (hc : placeB cx cy = true)
    (hab : ¬ (ax = bx ∧ ay = by')) (hbc : ¬ (bx = cx ∧ by' = cy)) : bad1 ax ay bx by' cx cy = bad2 ax ay bx by' cx cy := by
  unfold bad1 bad2 onB
  rw [cross_ex ha hb hc, cross_ex hb hc ha, back_ex ha hb hc]
  have e1 : (bx - ax) * (cy - ay) - (by' - ay) * (cx - ax) = (bx - ax) * (cy - by') - (by' - ay) * (cx - bx) := by grind
  have e2 : (cx - bx) * (ay - by') - (cy - by') * (ax - bx) = (bx - ax) * (cy - by') - (by' - ay) * (cx - bx) := by grind
  rw [e1, e2]
  by_cases h : (bx - ax) * (cy - by') - (by' - ay) * (cx - bx) = 0
  · have hk := back_iff (p := bx - ax) (q := by' - ay) (r := cx - bx) (s := cy - by') (by omega) (by omega) (by omega)
    generalize (bx - ax) * (cx - bx) + (by' - ay) * (cy - by') = D at hk
    rw [h]
    simp only [beq_self_eq_true, Bool.true_and, inB]
    rw [Bool.eq_iff_iff]
    simp only [Bool.or_eq_true, Bool.and_eq_true, decide_eq_true_eq]
    rw [hk]
    omega
  · have e : ((bx - ax) * (cy - by') - (by' - ay) * (cx - bx) == 0) = false := by simpa using h
    simp only [e, Bool.false_and, Bool.or_self]
/-- whether a side changes from outside to inside, as one says it -/
def tog1 (ax ay bx by' px py : Int) : Bool :=
  if by' < ay then decide (by' ≤ py) && decide (py < ay) && decide (0 < crossV bx by' ax ay px py) else decide (ay ≤ py) && decide (py < by') && decide (0 < crossV ax ay bx by' px py)
/-- and as the other says it -/
def tog2 (ax ay bx by' px py : Int) : Bool :=
  if decide (py < ay) = decide (py < by') then false else decide (ay < by') == decide (0 < crossV ax ay bx by' px py)
theorem tog_eq {ax ay bx by' px py : Int} (ha : placeB ax ay = true) (hb : placeB bx by' = true) (hp : placeB px py = true) (hn : onB ax ay bx by' px py = false) :
    tog1 ax ay bx by' px py = tog2 ax ay bx by' px py := by
  unfold tog1 tog2
  by_cases h : by' < ay
  · rw [if_pos h]
    by_cases h1 : by' ≤ py ∧ py < ay
    · have n1 : ¬ py < by' := by omega
      have n2 : ¬ ay < by' := by omega
      simp only [h1.1, h1.2, decide_true, Bool.true_and, n1, n2, decide_false, Bool.true_eq_false, if_false]
      unfold onB at hn
      rw [cross_ex ha hb hp] at hn ⊢
      rw [cross_ex hb ha hp]
      have e : (ax - bx) * (py - by') - (ay - by') * (px - bx) = -((bx - ax) * (py - ay) - (by' - ay) * (px - ax)) := by grind
      rw [e]
      have hz : (bx - ax) * (py - ay) - (by' - ay) * (px - ax) ≠ 0 := by
        intro hz
        rw [hz] at hn
        simp only [beq_self_eq_true, Bool.true_and, inB, Bool.and_eq_false_iff, decide_eq_false_iff_not] at hn
        have hz2 : (bx - ax) * (ay - py) = (ay - by') * (px - ax) := by grind
        rcases Int.lt_trichotomy (bx - ax) 0 with hs | hs | hs
        · have h5 : px - ax ≤ 0 := by
            rcases Int.lt_or_le 0 (px - ax) with g | g
            · have g1 := Int.mul_pos (a := ay - by') (b := px - ax) (by omega) g
              have g2 := Int.mul_neg_of_neg_of_pos (a := bx - ax) (b := ay - py) hs (by omega)
              omega
            · exact g
          have hz3 : (ax - bx) * (ay - py) = (ay - by') * (ax - px) := by grind
          have h6 := (prod_le (p := ax - bx) (q := ay - by') (R := ax - px) (S := ay - py) (by omega) (by omega) hz3).2 (by omega)
          omega
        · have g2 : (bx - ax) * (ay - py) = 0 := mz1 hs
          rw [g2] at hz2
          have h5 : px - ax = 0 := by
            rcases Int.mul_eq_zero.1 hz2.symm with g | g
            · omega
            · exact g
          omega
        · have h5 : 0 ≤ px - ax := by
            rcases Int.lt_or_le (px - ax) 0 with g | g
            · have g1 := Int.mul_neg_of_pos_of_neg (a := ay - by') (b := px - ax) (by omega) g
              have g2 := Int.mul_pos (a := bx - ax) (b := ay - py) hs (by omega)
              omega
            · exact g
          have h6 := (prod_le (p := bx - ax) (q := ay - by') (R := px - ax) (S := ay - py) (by omega) (by omega) hz2).2 (by omega)
          omega
      generalize (bx - ax) * (py - ay) - (by' - ay) * (px - ax) = D at *
      by_cases hD : 0 < D
      · have : ¬ 0 < -D := by omega
        simp [hD]; omega
      · have : 0 < -D := by omega
        simp [hD]; omega
    · have n1 : (decide (py < ay) = decide (py < by')) := by
        rw [decide_eq_decide]; omega
      rw [if_pos n1]
      by_cases h2 : by' ≤ py
      · have : ¬ py < ay := fun h3 => h1 ⟨h2, h3⟩
        simp [this]
      · simp [h2]
  · rw [if_neg h]
    by_cases h1 : ay ≤ py ∧ py < by'
    · have n1 : ¬ py < ay := by omega
      have n2 : ay < by' := by omega
      simp [h1.1, h1.2, n1, n2]
    · have n1 : (decide (py < ay) = decide (py < by')) := by
        rw [decide_eq_decide]; omega
      rw [if_pos n1]
      by_cases h2 : ay ≤ py
      · have : ¬ py < by' := fun h3 => h1 ⟨h2, h3⟩
        simp [this]
      · simp [h2]
end Go.Proofs.Ytphpdlofeijddaa
