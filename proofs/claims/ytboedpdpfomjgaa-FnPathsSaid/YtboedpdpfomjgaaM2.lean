/-
Contracts of the functions that look at every minute of a motion, over plain data.
No condition.
-/
import Derived.Test.YtboedpdpfomjgaaM1
namespace Go.Proofs.Ytboedpdpfomjgaa
open Eng
set_option linter.unusedSimpArgs false
set_option linter.unusedVariables false
def lvGo (x y vx vy : Int) (t : Int) : Int × Bool :=
  if 60 < t then (0, false) else if placeB (atV x vx t) (atV y vy t) = true then lvGo x y vx vy (t + 1) else (t, true)
termination_by (61 - t).toNat
def lv (x y vx vy h c : Int) : Int × Bool := if motionB x y vx vy h c = true then lvGo x y vx vy 0 else (0, false)
section
variable {x y vx vy h c a : Int}
theorem lv_go (hg : lvGo x y vx vy 0 = lvGo x y vx vy a) (ha : a ≤ 60) (hp : ¬ placeB (atV x vx a) (atV y vy a) = false) : lvGo x y vx vy 0 = lvGo x y vx vy (a + 1) := by
  rw [hg, lvGo.eq_1 x y vx vy a, if_neg (by omega), if_pos (eq_true_of_ne_false hp)]
theorem lv_hit (hm : motionB x y vx vy h c = true) (hg : lvGo x y vx vy 0 = lvGo x y vx vy a) (ha : a ≤ 60) (hp : placeB (atV x vx a) (atV y vy a) = false) : lv x y vx vy h c = (a, true) := by
  unfold lv; rw [if_pos hm, hg, lvGo.eq_1 x y vx vy a, if_neg (by omega), hp]; rfl
theorem lv_end (hm : motionB x y vx vy h c = true) (hg : lvGo x y vx vy 0 = lvGo x y vx vy a) (ha : ¬ a ≤ 60) : lv x y vx vy h c = (0, false) := by
  unfold lv; rw [if_pos hm, hg, lvGo.eq_1 x y vx vy a, if_pos (by omega)]
theorem lv_none (hm : motionB x y vx vy h c = false) : lv x y vx vy h c = (0, false) := by
  unfold lv; rw [hm]; rfl
theorem lv_in (h1 : ¬ inB (atV x vx a) 0 9899 = false) (h2 : ¬ inB (atV y vy a) 0 9899 = false) : ¬ placeB (atV x vx a) (atV y vy a) = false := by
  unfold placeB; rw [eq_true_of_ne_false h1, eq_true_of_ne_false h2]; decide
theorem lv_in1 (h1 : inB (atV x vx a) 0 9899 = false) : placeB (atV x vx a) (atV y vy a) = false := by
  unfold placeB; rw [h1]; rfl
theorem lv_in2 (h1 : inB (atV y vy a) 0 9899 = false) : placeB (atV x vx a) (atV y vy a) = false := by
  unfold placeB; rw [h1, Bool.and_false]
end
set_option maxRecDepth 100000 in
set_option maxHeartbeats 4000000 in
theorem sLeavesAt_gc {x y vx vy h c : Int} : GC Try.prog 31 [.agg [vi x, vi y, vi vx, vi vy, vi h, vi c]] [] (fun r_ hs_ => r_ = .tup [vi (lv x y vx vy h c).1, vb (lv x y vx vy h c).2] ∧ hs_ = []) := by
  refine GC.of_func [] Try.call31 Try.func31 rfl ⟨by kernel_rfl, by kernel_rfl⟩ (by kernel_rfl) ?_
  rw [Try.results31]
  simp -implicitDefEqProofs (maxSteps := 4000000) only [sim0, sim1, sim2, sim3, sim4, sim5, sim6, sim7, sim8, ↓reduceIte, Nat.reduceEqDiff, Nat.reduceAdd, Nat.reduceMul, Nat.reduceSub, Nat.reduceLT, Nat.reduceLeDiff, reduceCtorEq, Int.reduceToNat, Int.reduceNeg, Nat.reduceBEq, simx, ty]
  repeat' (first
    | ((with_reducible refine onCall ?_); first
      | (refine GC.callS l16Good_gc rfl rfl ?_ <;> try simp -implicitDefEqProofs (maxSteps := 4000000) only [sim0, sim1, sim2, sim3, sim4, sim5, sim6, sim7, sim8, ↓reduceIte, Nat.reduceEqDiff, Nat.reduceAdd, Nat.reduceMul, Nat.reduceSub, Nat.reduceLT, Nat.reduceLeDiff, reduceCtorEq, Int.reduceToNat, Int.reduceNeg, Nat.reduceBEq, simx, ty])
      | (refine GC.callS l16At_gc rfl rfl ?_ <;> try simp -implicitDefEqProofs (maxSteps := 4000000) only [sim0, sim1, sim2, sim3, sim4, sim5, sim6, sim7, sim8, ↓reduceIte, Nat.reduceEqDiff, Nat.reduceAdd, Nat.reduceMul, Nat.reduceSub, Nat.reduceLT, Nat.reduceLeDiff, reduceCtorEq, Int.reduceToNat, Int.reduceNeg, Nat.reduceBEq, simx, ty])
      | (refine GC.callS l7Good_gc rfl rfl ?_ <;> try simp -implicitDefEqProofs (maxSteps := 4000000) only [sim0, sim1, sim2, sim3, sim4, sim5, sim6, sim7, sim8, ↓reduceIte, Nat.reduceEqDiff, Nat.reduceAdd, Nat.reduceMul, Nat.reduceSub, Nat.reduceLT, Nat.reduceLeDiff, reduceCtorEq, Int.reduceToNat, Int.reduceNeg, Nat.reduceBEq, simx, ty])
      | fail)
    | ((with_reducible refine onCode ?_); first
      | (refine onLid 4 ?_ (by rfl); refine acode_prune [0, 1, 2, 3, 4] ?_; simp only [prn_cons, prn_nil, lk_cons, lk_emp, Nat.reduceEqDiff, ↓reduceIte]; refine acode_loopS2 4 (by rfl) (α := Int) (fun a => [(4, vi a)]) [2, 3, 8, 9, 10, 11, 12, 13, 14, 15, 16, 17] [2, 3] (by kernel_rfl) (fun a => (0 ≤ a ∧ a ≤ 61) ∧ motionB x y vx vy h c = true ∧ lvGo x y vx vy 0 = lvGo x y vx vy a) (fun a => (61 - a).toNat) (0) ?_ (by (try simp only []) <;> first | (simp_all; done) | (simp_all; omega) | omega) ?_; (focus ((try dsimp only []); (repeat' (first | exact agr_none | exact lk_hd | refine lk_tl (by decide) ?_ | refine agr_one ?_ ?_)); done)); rintro a hJ; (try simp only [] at hJ); have hJ4 := hJ; simp -implicitDefEqProofs (maxSteps := 4000000) only [sim0, sim1, sim2, sim3, sim4, sim5, sim6, sim7, sim8, ↓reduceIte, Nat.reduceEqDiff, Nat.reduceAdd, Nat.reduceMul, Nat.reduceSub, Nat.reduceLT, Nat.reduceLeDiff, reduceCtorEq, Int.reduceToNat, Int.reduceNeg, Nat.reduceBEq, simx, ty])
      | fail)
    | ((with_reducible refine onLps ?_); first
      | (refine lps2_end (α := Int) (mods := (fun a => [(4, vi a)])) _ (by (try dsimp only []); simp only [agr_cons, agr_nil, lk_cons, lk_emp, Nat.reduceEqDiff, ↓reduceIte, and_true]; repeat' (first | rfl | apply And.intro)) (by unfold undK; kernel_rfl) ?_ ?_ <;> ((try simp only []); (obtain ⟨hb, hm, hg⟩ := hJ; (try rw [wrap_id (by omega) (by omega)]); first | omega | exact ⟨by omega, hm, lv_go hg (by assumption) hq⟩)))
      | fail)
    | ((with_reducible refine onFin ?_); first
      | (refine fin_nil ?_; (first | (first | (obtain ⟨hb, hm, hg⟩ := hJ4; first | (rw [lv_hit hm hg (by assumption) hq]; simp [fins]; done) | (rw [lv_end hm hg hq]; simp [fins]; done)) | (rw [lv_none hq]; simp [fins]; done)) | (simp_all [fins]; done) | (simp_all [-Int.not_lt, -Int.not_le, fins]; done) | (simp_all [fins]; omega)))
      | fail)
    | (with_reducible refine ite_intro (fun hq => ?_) (fun hq => ?_))
    | (with_reducible refine And.intro (fun hq => ?_) (fun hq => ?_))
    | (with_reducible refine And.intro ?_ ?_)
    | ((fail_if_success (with_reducible refine onCode ?_)); (fail_if_success (with_reducible refine onLps ?_)); (fail_if_success (with_reducible refine onLpd ?_)); (fail_if_success (with_reducible refine onLpe ?_)); (fail_if_success (with_reducible refine onFin ?_)); (fail_if_success (with_reducible refine onCall ?_)); (fail_if_success (with_reducible refine onQcall ?_)); first | omega | (rw [wrap_id (by omega) (by omega)]; omega) | (first | (obtain ⟨hb, hm, hg⟩ := hJ4; first | (rw [lv_hit hm hg (by assumption) hq]; simp [fins]; done) | (rw [lv_end hm hg hq]; simp [fins]; done)) | (rw [lv_none hq]; simp [fins]; done))))

set_option maxRecDepth 100000 in
set_option maxHeartbeats 4000000 in
theorem leavesAt_gc {x y vx vy h c : Int} : GC Try.prog 30 [.agg [vi x, vi y, vi vx, vi vy, vi h, vi c]] [] (fun r_ hs_ => r_ = .tup [vi (lv x y vx vy h c).1, vb (lv x y vx vy h c).2] ∧ hs_ = []) := by
  refine GC.of_func [] Try.call30 Try.func30 rfl ⟨by kernel_rfl, by kernel_rfl⟩ (by kernel_rfl) ?_
  rw [Try.results30]
  simp -implicitDefEqProofs (maxSteps := 4000000) only [sim0, sim1, sim2, sim3, sim4, sim5, sim6, sim7, sim8, ↓reduceIte, Nat.reduceEqDiff, Nat.reduceAdd, Nat.reduceMul, Nat.reduceSub, Nat.reduceLT, Nat.reduceLeDiff, reduceCtorEq, Int.reduceToNat, Int.reduceNeg, Nat.reduceBEq, simx, ty]
  repeat' (first
    | ((with_reducible refine onCall ?_); first
      | (refine GC.callS isValidMotion_gc rfl rfl ?_ <;> try simp -implicitDefEqProofs (maxSteps := 4000000) only [sim0, sim1, sim2, sim3, sim4, sim5, sim6, sim7, sim8, ↓reduceIte, Nat.reduceEqDiff, Nat.reduceAdd, Nat.reduceMul, Nat.reduceSub, Nat.reduceLT, Nat.reduceLeDiff, reduceCtorEq, Int.reduceToNat, Int.reduceNeg, Nat.reduceBEq, simx, ty])
      | (refine GC.callS motionAt_gc rfl rfl ?_ <;> try simp -implicitDefEqProofs (maxSteps := 4000000) only [sim0, sim1, sim2, sim3, sim4, sim5, sim6, sim7, sim8, ↓reduceIte, Nat.reduceEqDiff, Nat.reduceAdd, Nat.reduceMul, Nat.reduceSub, Nat.reduceLT, Nat.reduceLeDiff, reduceCtorEq, Int.reduceToNat, Int.reduceNeg, Nat.reduceBEq, simx, ty])
      | (refine GC.callS inPlace_gc rfl rfl ?_ <;> try simp -implicitDefEqProofs (maxSteps := 4000000) only [sim0, sim1, sim2, sim3, sim4, sim5, sim6, sim7, sim8, ↓reduceIte, Nat.reduceEqDiff, Nat.reduceAdd, Nat.reduceMul, Nat.reduceSub, Nat.reduceLT, Nat.reduceLeDiff, reduceCtorEq, Int.reduceToNat, Int.reduceNeg, Nat.reduceBEq, simx, ty])
      | fail)
    | ((with_reducible refine onCode ?_); first
      | (refine onLid 4 ?_ (by rfl); refine acode_prune [0, 1, 2, 3, 4, 5, 6] ?_; simp only [prn_cons, prn_nil, lk_cons, lk_emp, Nat.reduceEqDiff, ↓reduceIte]; refine acode_loopS2 4 (by rfl) (α := Int) (fun a => [(4, vi a)]) [2, 3, 5, 6, 10, 11, 12, 13, 14, 15, 16, 17, 18, 19, 20, 21, 22, 23, 24, 25, 26, 27, 28] [2, 3, 5, 6] (by kernel_rfl) (fun a => (0 ≤ a ∧ a ≤ 61) ∧ motionB x y vx vy h c = true ∧ lvGo x y vx vy 0 = lvGo x y vx vy a) (fun a => (61 - a).toNat) (0) ?_ (by (try simp only []) <;> first | (simp_all; done) | (simp_all; omega) | omega) ?_; (focus ((try dsimp only []); (repeat' (first | exact agr_none | exact lk_hd | refine lk_tl (by decide) ?_ | refine agr_one ?_ ?_)); done)); rintro a hJ; (try simp only [] at hJ); have hJ4 := hJ; simp -implicitDefEqProofs (maxSteps := 4000000) only [sim0, sim1, sim2, sim3, sim4, sim5, sim6, sim7, sim8, ↓reduceIte, Nat.reduceEqDiff, Nat.reduceAdd, Nat.reduceMul, Nat.reduceSub, Nat.reduceLT, Nat.reduceLeDiff, reduceCtorEq, Int.reduceToNat, Int.reduceNeg, Nat.reduceBEq, simx, ty])
      | fail)
    | ((with_reducible refine onLps ?_); first
      | (refine lps2_end (α := Int) (mods := (fun a => [(4, vi a)])) _ (by (try dsimp only []); simp only [agr_cons, agr_nil, lk_cons, lk_emp, Nat.reduceEqDiff, ↓reduceIte, and_true]; repeat' (first | rfl | apply And.intro)) (by unfold undK; kernel_rfl) ?_ ?_ <;> ((try simp only []); (obtain ⟨hb, hm, hg⟩ := hJ; (try rw [wrap_id (by omega) (by omega)]); first | omega | (rename_i h1 h2; exact ⟨by omega, hm, lv_go hg (by assumption) (lv_in h2 hq)⟩) | exact ⟨by omega, hm, lv_go hg (by assumption) (lv_in (by assumption) hq)⟩)))
      | fail)
    | ((with_reducible refine onFin ?_); first
      | (refine fin_nil ?_; (first | (first | (obtain ⟨hb, hm, hg⟩ := hJ4; first | (rw [lv_hit hm hg (by assumption) (lv_in1 hq)]; simp [fins]; done) | (rw [lv_hit hm hg (by assumption) (lv_in2 hq)]; simp [fins]; done) | (rw [lv_end hm hg hq]; simp [fins]; done)) | (rw [lv_none hq]; simp [fins]; done)) | (simp_all [fins]; done) | (simp_all [-Int.not_lt, -Int.not_le, fins]; done) | (simp_all [fins]; omega)))
      | fail)
    | (with_reducible refine ite_intro (fun hq => ?_) (fun hq => ?_))
    | (with_reducible refine And.intro (fun hq => ?_) (fun hq => ?_))
    | (with_reducible refine And.intro ?_ ?_)
    | ((fail_if_success (with_reducible refine onCode ?_)); (fail_if_success (with_reducible refine onLps ?_)); (fail_if_success (with_reducible refine onLpd ?_)); (fail_if_success (with_reducible refine onLpe ?_)); (fail_if_success (with_reducible refine onFin ?_)); (fail_if_success (with_reducible refine onCall ?_)); (fail_if_success (with_reducible refine onQcall ?_)); first | omega | (rw [wrap_id (by omega) (by omega)]; omega) | (first | (obtain ⟨hb, hm, hg⟩ := hJ4; first | (rw [lv_hit hm hg (by assumption) (lv_in1 hq)]; simp [fins]; done) | (rw [lv_hit hm hg (by assumption) (lv_in2 hq)]; simp [fins]; done) | (rw [lv_end hm hg hq]; simp [fins]; done)) | (rw [lv_none hq]; simp [fins]; done))))

end Go.Proofs.Ytboedpdpfomjgaa
