/-
Contracts of the distance of a track and a plot, and the law FnExactPlotDistance, over plain data.
No condition but those that the contracts name.
-/
import Derived.Test.YtnbkmfbnlodikaaT2
import Derived.Test.YtnbkmfbnlodikaaW2
namespace Go.Proofs.Ytnbkmfbnlodikaa
open Eng
set_option linter.unusedSimpArgs false
set_option linter.unusedVariables false
def pdV (tx ty px py : Int) : Int := w64 (absV (w64 (tx - px)) + absV (w64 (ty - py)))
set_option maxRecDepth 100000 in
set_option maxHeartbeats 4000000 in
theorem l7Abs_gc {n : Int} (h : -9223372036854775808 ≤ n ∧ n ≤ 9223372036854775807) : GC Try.prog 82 [vi n] [] (fun r_ hs_ => r_ = vi (absV n) ∧ hs_ = []) := by
  refine GC.of_func [] Try.call82 Try.func82 rfl ⟨by kernel_rfl, by kernel_rfl⟩ (by kernel_rfl) ?_
  rw [Try.results82]
  simp -implicitDefEqProofs (maxSteps := 4000000) only [sim0, sim1, sim2, sim3, sim4, sim5, sim6, sim7, sim8, ↓reduceIte, Nat.reduceEqDiff, Nat.reduceAdd, Nat.reduceMul, Nat.reduceSub, Nat.reduceLT, Nat.reduceLeDiff, reduceCtorEq, Int.reduceToNat, Int.reduceNeg, Nat.reduceBEq, simx, ty]
  repeat' (first
    | ((with_reducible refine onCall ?_); first
      | (refine GC.callS l1Most_gc rfl rfl ?_ <;> try simp -implicitDefEqProofs (maxSteps := 4000000) only [sim0, sim1, sim2, sim3, sim4, sim5, sim6, sim7, sim8, ↓reduceIte, Nat.reduceEqDiff, Nat.reduceAdd, Nat.reduceMul, Nat.reduceSub, Nat.reduceLT, Nat.reduceLeDiff, reduceCtorEq, Int.reduceToNat, Int.reduceNeg, Nat.reduceBEq, simx, ty])
      | fail)
    | ((with_reducible refine onFin ?_); first
      | (refine fin_nil ?_; (first | (simp_all [fins, most_abs h]; done) | (simp_all [-Int.not_lt, -Int.not_le, fins, most_abs h]; done) | (simp_all [fins, most_abs h]; omega)))
      | fail)
    | (with_reducible refine ite_intro (fun hq => ?_) (fun hq => ?_))
    | (with_reducible refine And.intro (fun hq => ?_) (fun hq => ?_))
    | (with_reducible refine And.intro ?_ ?_)
    | ((fail_if_success (with_reducible refine onCode ?_)); (fail_if_success (with_reducible refine onLps ?_)); (fail_if_success (with_reducible refine onLpd ?_)); (fail_if_success (with_reducible refine onLpe ?_)); (fail_if_success (with_reducible refine onFin ?_)); (fail_if_success (with_reducible refine onCall ?_)); (fail_if_success (with_reducible refine onQcall ?_)); first | omega | (rw [wrap_id (by omega) (by omega)]; omega) | (simp_all; done)))

set_option maxRecDepth 100000 in
set_option maxHeartbeats 4000000 in
theorem plotDistance_gc {i s x y h l px py : Int} : GC Try.prog 58 [.agg [vi i, vi s, vi x, vi y, vi h, vi l], .agg [vi px, vi py]] [] (fun r_ hs_ => r_ = vi (pdV x y px py) ∧ hs_ = []) := by
  refine GC.of_func [(1, .val 0 (.val 1 (.val 2 (.val 3 (.val 4 (.val 5 (.val 6 (.val 7 (.val 8 (.val 9 (.val 10 (.val 11 (.val 12 (.val 13 (.done)))))))))))))))] Try.call58 Try.func58 rfl ⟨by kernel_rfl, by kernel_rfl⟩ (by kernel_rfl) ?_
  rw [Try.results58]
  simp -implicitDefEqProofs (maxSteps := 4000000) only [sim0, sim1, sim2, sim3, sim4, sim5, sim6, sim7, sim8, ↓reduceIte, Nat.reduceEqDiff, Nat.reduceAdd, Nat.reduceMul, Nat.reduceSub, Nat.reduceLT, Nat.reduceLeDiff, reduceCtorEq, Int.reduceToNat, Int.reduceNeg, Nat.reduceBEq, simx, ty]
  repeat' (first
    | ((with_reducible refine onQcall ?_); first
      | (refine qcallS absI_gc rfl rfl ?_ <;> try simp -implicitDefEqProofs (maxSteps := 4000000) only [sim0, sim1, sim2, sim3, sim4, sim5, sim6, sim7, sim8, ↓reduceIte, Nat.reduceEqDiff, Nat.reduceAdd, Nat.reduceMul, Nat.reduceSub, Nat.reduceLT, Nat.reduceLeDiff, reduceCtorEq, Int.reduceToNat, Int.reduceNeg, Nat.reduceBEq, simx, ty])
      | fail)
    | ((with_reducible refine onFin ?_); first
      | (refine fin_nil ?_; (first | (simp_all [fins, pdV]; done) | (simp_all [-Int.not_lt, -Int.not_le, fins, pdV]; done) | (simp_all [fins, pdV]; omega)))
      | fail)
    | (with_reducible refine ite_intro (fun hq => ?_) (fun hq => ?_))
    | (with_reducible refine And.intro (fun hq => ?_) (fun hq => ?_))
    | (with_reducible refine And.intro ?_ ?_)
    | ((fail_if_success (with_reducible refine onCode ?_)); (fail_if_success (with_reducible refine onLps ?_)); (fail_if_success (with_reducible refine onLpd ?_)); (fail_if_success (with_reducible refine onLpe ?_)); (fail_if_success (with_reducible refine onFin ?_)); (fail_if_success (with_reducible refine onCall ?_)); (fail_if_success (with_reducible refine onQcall ?_)); first | omega | (rw [wrap_id (by omega) (by omega)]; omega) | (simp_all; done)))

set_option maxRecDepth 100000 in
set_option maxHeartbeats 4000000 in
theorem l15Distance_gc {i s x y h l px py : Int} : GC Try.prog 55 [.agg [vi i, vi s, vi x, vi y, vi h, vi l], .agg [vi px, vi py]] [] (fun r_ hs_ => r_ = vi (pdV x y px py) ∧ hs_ = []) := by
  refine GC.of_func [(1, .val 0 (.val 1 (.val 2 (.val 3 (.val 4 (.val 5 (.val 6 (.val 7 (.val 8 (.val 9 (.val 10 (.val 11 (.val 12 (.val 13 (.done)))))))))))))))] Try.call55 Try.func55 rfl ⟨by kernel_rfl, by kernel_rfl⟩ (by kernel_rfl) ?_
  rw [Try.results55]
  simp -implicitDefEqProofs (maxSteps := 4000000) only [sim0, sim1, sim2, sim3, sim4, sim5, sim6, sim7, sim8, ↓reduceIte, Nat.reduceEqDiff, Nat.reduceAdd, Nat.reduceMul, Nat.reduceSub, Nat.reduceLT, Nat.reduceLeDiff, reduceCtorEq, Int.reduceToNat, Int.reduceNeg, Nat.reduceBEq, simx, ty]
  repeat' (first
    | ((with_reducible refine onQcall ?_); first
      | (refine qcallS (l7Abs_gc ?_) rfl rfl ?_ <;> try simp -implicitDefEqProofs (maxSteps := 4000000) only [sim0, sim1, sim2, sim3, sim4, sim5, sim6, sim7, sim8, ↓reduceIte, Nat.reduceEqDiff, Nat.reduceAdd, Nat.reduceMul, Nat.reduceSub, Nat.reduceLT, Nat.reduceLeDiff, reduceCtorEq, Int.reduceToNat, Int.reduceNeg, Nat.reduceBEq, simx, ty])
      | fail)
    | ((with_reducible refine onFin ?_); first
      | (refine fin_nil ?_; (first | (simp_all [fins, pdV]; done) | (simp_all [-Int.not_lt, -Int.not_le, fins, pdV]; done) | (simp_all [fins, pdV]; omega)))
      | fail)
    | (with_reducible refine ite_intro (fun hq => ?_) (fun hq => ?_))
    | (with_reducible refine And.intro (fun hq => ?_) (fun hq => ?_))
    | (with_reducible refine And.intro ?_ ?_)
    | ((fail_if_success (with_reducible refine onCode ?_)); (fail_if_success (with_reducible refine onLps ?_)); (fail_if_success (with_reducible refine onLpd ?_)); (fail_if_success (with_reducible refine onLpe ?_)); (fail_if_success (with_reducible refine onFin ?_)); (fail_if_success (with_reducible refine onCall ?_)); (fail_if_success (with_reducible refine onQcall ?_)); first | ((first | exact (wrap_bd _).1 | exact (wrap_bd _).2); done) | omega | (rw [wrap_id (by omega) (by omega)]; omega) | (simp_all; done)))

def pdO (i s x y h l px py : Int) : Bool := trB i s x y h l && placeB px py
def pdR (i s x y h l px py : Int) : Int := if pdO i s x y h l px py = true then pdV x y px py else 0
set_option maxRecDepth 100000 in
set_option maxHeartbeats 4000000 in
theorem impPlotDistance_gc {i s x y h l px py : Int} : GC Try.prog 16 [.agg [vi i, vi s, vi x, vi y, vi h, vi l], .agg [vi px, vi py]] [] (fun r_ hs_ => r_ = .tup [vi (pdR i s x y h l px py), vb (pdO i s x y h l px py)] ∧ hs_ = []) := by
  refine GC.of_func [] Try.call16 Try.func16 rfl ⟨by kernel_rfl, by kernel_rfl⟩ (by kernel_rfl) ?_
  rw [Try.results16]
  simp -implicitDefEqProofs (maxSteps := 4000000) only [sim0, sim1, sim2, sim3, sim4, sim5, sim6, sim7, sim8, ↓reduceIte, Nat.reduceEqDiff, Nat.reduceAdd, Nat.reduceMul, Nat.reduceSub, Nat.reduceLT, Nat.reduceLeDiff, reduceCtorEq, Int.reduceToNat, Int.reduceNeg, Nat.reduceBEq, simx, ty]
  repeat' (first
    | ((with_reducible refine onCall ?_); first
      | (refine GC.callS isValidTrack_gc rfl rfl ?_ <;> try simp -implicitDefEqProofs (maxSteps := 4000000) only [sim0, sim1, sim2, sim3, sim4, sim5, sim6, sim7, sim8, ↓reduceIte, Nat.reduceEqDiff, Nat.reduceAdd, Nat.reduceMul, Nat.reduceSub, Nat.reduceLT, Nat.reduceLeDiff, reduceCtorEq, Int.reduceToNat, Int.reduceNeg, Nat.reduceBEq, simx, ty])
      | (refine GC.callS isValidPlace_gc rfl rfl ?_ <;> try simp -implicitDefEqProofs (maxSteps := 4000000) only [sim0, sim1, sim2, sim3, sim4, sim5, sim6, sim7, sim8, ↓reduceIte, Nat.reduceEqDiff, Nat.reduceAdd, Nat.reduceMul, Nat.reduceSub, Nat.reduceLT, Nat.reduceLeDiff, reduceCtorEq, Int.reduceToNat, Int.reduceNeg, Nat.reduceBEq, simx, ty])
      | (refine GC.callS plotDistance_gc rfl rfl ?_ <;> try simp -implicitDefEqProofs (maxSteps := 4000000) only [sim0, sim1, sim2, sim3, sim4, sim5, sim6, sim7, sim8, ↓reduceIte, Nat.reduceEqDiff, Nat.reduceAdd, Nat.reduceMul, Nat.reduceSub, Nat.reduceLT, Nat.reduceLeDiff, reduceCtorEq, Int.reduceToNat, Int.reduceNeg, Nat.reduceBEq, simx, ty])
      | fail)
    | ((with_reducible refine onFin ?_); first
      | (refine fin_nil ?_; (first | (simp_all [fins, pdR, pdO]; done) | (simp_all [-Int.not_lt, -Int.not_le, fins, pdR, pdO]; done) | (simp_all [fins, pdR, pdO]; omega)))
      | fail)
    | (with_reducible refine ite_intro (fun hq => ?_) (fun hq => ?_))
    | (with_reducible refine And.intro (fun hq => ?_) (fun hq => ?_))
    | (with_reducible refine And.intro ?_ ?_)
    | ((fail_if_success (with_reducible refine onCode ?_)); (fail_if_success (with_reducible refine onLps ?_)); (fail_if_success (with_reducible refine onLpd ?_)); (fail_if_success (with_reducible refine onLpe ?_)); (fail_if_success (with_reducible refine onFin ?_)); (fail_if_success (with_reducible refine onCall ?_)); (fail_if_success (with_reducible refine onQcall ?_)); first | omega | (rw [wrap_id (by omega) (by omega)]; omega) | (simp_all; done)))

set_option maxRecDepth 100000 in
set_option maxHeartbeats 4000000 in
theorem sPlotDistance_gc {i s x y h l px py : Int} : GC Try.prog 13 [.agg [vi i, vi s, vi x, vi y, vi h, vi l], .agg [vi px, vi py]] [] (fun r_ hs_ => r_ = .tup [vi (pdR i s x y h l px py), vb (pdO i s x y h l px py)] ∧ hs_ = []) := by
  refine GC.of_func [] Try.call13 Try.func13 rfl ⟨by kernel_rfl, by kernel_rfl⟩ (by kernel_rfl) ?_
  rw [Try.results13]
  simp -implicitDefEqProofs (maxSteps := 4000000) only [sim0, sim1, sim2, sim3, sim4, sim5, sim6, sim7, sim8, ↓reduceIte, Nat.reduceEqDiff, Nat.reduceAdd, Nat.reduceMul, Nat.reduceSub, Nat.reduceLT, Nat.reduceLeDiff, reduceCtorEq, Int.reduceToNat, Int.reduceNeg, Nat.reduceBEq, simx, ty]
  repeat' (first
    | ((with_reducible refine onCall ?_); first
      | (refine GC.callS l14Good_gc rfl rfl ?_ <;> try simp -implicitDefEqProofs (maxSteps := 4000000) only [sim0, sim1, sim2, sim3, sim4, sim5, sim6, sim7, sim8, ↓reduceIte, Nat.reduceEqDiff, Nat.reduceAdd, Nat.reduceMul, Nat.reduceSub, Nat.reduceLT, Nat.reduceLeDiff, reduceCtorEq, Int.reduceToNat, Int.reduceNeg, Nat.reduceBEq, simx, ty])
      | (refine GC.callS l7Good_gc rfl rfl ?_ <;> try simp -implicitDefEqProofs (maxSteps := 4000000) only [sim0, sim1, sim2, sim3, sim4, sim5, sim6, sim7, sim8, ↓reduceIte, Nat.reduceEqDiff, Nat.reduceAdd, Nat.reduceMul, Nat.reduceSub, Nat.reduceLT, Nat.reduceLeDiff, reduceCtorEq, Int.reduceToNat, Int.reduceNeg, Nat.reduceBEq, simx, ty])
      | (refine GC.callS l15Distance_gc rfl rfl ?_ <;> try simp -implicitDefEqProofs (maxSteps := 4000000) only [sim0, sim1, sim2, sim3, sim4, sim5, sim6, sim7, sim8, ↓reduceIte, Nat.reduceEqDiff, Nat.reduceAdd, Nat.reduceMul, Nat.reduceSub, Nat.reduceLT, Nat.reduceLeDiff, reduceCtorEq, Int.reduceToNat, Int.reduceNeg, Nat.reduceBEq, simx, ty])
      | fail)
    | ((with_reducible refine onFin ?_); first
      | (refine fin_nil ?_; (first | (simp_all [fins, pdR, pdO]; done) | (simp_all [-Int.not_lt, -Int.not_le, fins, pdR, pdO]; done) | (simp_all [fins, pdR, pdO]; omega)))
      | fail)
    | (with_reducible refine ite_intro (fun hq => ?_) (fun hq => ?_))
    | (with_reducible refine And.intro (fun hq => ?_) (fun hq => ?_))
    | (with_reducible refine And.intro ?_ ?_)
    | ((fail_if_success (with_reducible refine onCode ?_)); (fail_if_success (with_reducible refine onLps ?_)); (fail_if_success (with_reducible refine onLpd ?_)); (fail_if_success (with_reducible refine onLpe ?_)); (fail_if_success (with_reducible refine onFin ?_)); (fail_if_success (with_reducible refine onCall ?_)); (fail_if_success (with_reducible refine onQcall ?_)); first | omega | (rw [wrap_id (by omega) (by omega)]; omega) | (simp_all; done)))

set_option maxRecDepth 100000 in
set_option maxHeartbeats 4000000 in
theorem FnExactPlotDistance_gc (i : Int) (hi : I64 i) (s : Int) (hs : I64 s) (x : Int) (hx : I64 x) (y : Int) (hy : I64 y) (h : Int) (hh : I64 h) (l : Int) (hl : I64 l) (px : Int) (hpx : I64 px) (py : Int) (hpy : I64 py) : GC Try.prog 3 [.agg [vi i, vi s, vi x, vi y, vi h, vi l], .agg [vi px, vi py]] [] (fun r _ => r = vb true) := by
  refine GC.of_func [(1, .val 0 (.val 1 (.val 2 (.val 3 (.val 4 (.val 5 (.val 6 (.val 7 (.val 8 (.val 9 (.done))))))))))), (2, .val 0 (.val 1 (.val 2 (.val 3 (.val 4 (.val 5 (.val 6 (.val 7 (.val 8 (.val 9 (.done)))))))))))] Try.call3 Try.func3 rfl ⟨by kernel_rfl, by kernel_rfl⟩ (by kernel_rfl) ?_
  rw [Try.results3]
  simp -implicitDefEqProofs (maxSteps := 4000000) only [sim0, sim1, sim2, sim3, sim4, sim5, sim6, sim7, sim8, ↓reduceIte, Nat.reduceEqDiff, Nat.reduceAdd, Nat.reduceMul, Nat.reduceSub, Nat.reduceLT, Nat.reduceLeDiff, reduceCtorEq, Int.reduceToNat, Int.reduceNeg, Nat.reduceBEq, simx, ty]
  repeat' (first
    | ((with_reducible refine onQcall ?_); first
      | (refine qcallS toTrack_gc rfl rfl ?_ <;> try simp -implicitDefEqProofs (maxSteps := 4000000) only [sim0, sim1, sim2, sim3, sim4, sim5, sim6, sim7, sim8, ↓reduceIte, Nat.reduceEqDiff, Nat.reduceAdd, Nat.reduceMul, Nat.reduceSub, Nat.reduceLT, Nat.reduceLeDiff, reduceCtorEq, Int.reduceToNat, Int.reduceNeg, Nat.reduceBEq, simx, ty])
      | (refine qcallS toPlace_gc rfl rfl ?_ <;> try simp -implicitDefEqProofs (maxSteps := 4000000) only [sim0, sim1, sim2, sim3, sim4, sim5, sim6, sim7, sim8, ↓reduceIte, Nat.reduceEqDiff, Nat.reduceAdd, Nat.reduceMul, Nat.reduceSub, Nat.reduceLT, Nat.reduceLeDiff, reduceCtorEq, Int.reduceToNat, Int.reduceNeg, Nat.reduceBEq, simx, ty])
      | (refine qcallS sPlotDistance_gc rfl rfl ?_ <;> try simp -implicitDefEqProofs (maxSteps := 4000000) only [sim0, sim1, sim2, sim3, sim4, sim5, sim6, sim7, sim8, ↓reduceIte, Nat.reduceEqDiff, Nat.reduceAdd, Nat.reduceMul, Nat.reduceSub, Nat.reduceLT, Nat.reduceLeDiff, reduceCtorEq, Int.reduceToNat, Int.reduceNeg, Nat.reduceBEq, simx, ty])
      | (refine qcallS impPlotDistance_gc rfl rfl ?_ <;> try simp -implicitDefEqProofs (maxSteps := 4000000) only [sim0, sim1, sim2, sim3, sim4, sim5, sim6, sim7, sim8, ↓reduceIte, Nat.reduceEqDiff, Nat.reduceAdd, Nat.reduceMul, Nat.reduceSub, Nat.reduceLT, Nat.reduceLeDiff, reduceCtorEq, Int.reduceToNat, Int.reduceNeg, Nat.reduceBEq, simx, ty])
      | fail)
    | ((with_reducible refine onFin ?_); first
      | (refine fin_law ?_; (first | (simp_all [fins]; done) | (simp_all [-Int.not_lt, -Int.not_le, fins]; done) | (simp_all [fins]; omega)))
      | fail)
    | (with_reducible refine ite_intro (fun hq => ?_) (fun hq => ?_))
    | (with_reducible refine And.intro (fun hq => ?_) (fun hq => ?_))
    | (with_reducible refine And.intro ?_ ?_)
    | ((fail_if_success (with_reducible refine onCode ?_)); (fail_if_success (with_reducible refine onLps ?_)); (fail_if_success (with_reducible refine onLpd ?_)); (fail_if_success (with_reducible refine onLpe ?_)); (fail_if_success (with_reducible refine onFin ?_)); (fail_if_success (with_reducible refine onCall ?_)); (fail_if_success (with_reducible refine onQcall ?_)); first | omega | (rw [wrap_id (by omega) (by omega)]; omega) | (simp_all; done)))

end Go.Proofs.Ytnbkmfbnlodikaa
