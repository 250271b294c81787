/-
Contracts of TrackLine, over plain data, and the law FnExactTrackLine.
No condition but those that the contracts name.
-/
import Derived.Test.YtejahpnbplcgnaaT13
namespace Go.Proofs.Ytejahpnbplcgnaa
open Eng
set_option linter.unusedSimpArgs false
set_option linter.unusedVariables false
theorem trackLine_gc {i s x y h l : Int} (hr : trkR i s x y h l) : GC Try.prog 64 [.agg [vi i, vi s, vi x, vi y, vi h, vi l]] [] (fun r_ hs_ => r_ = vs (lineS i s x y h l) ∧ hs_ = []) := by
  rcases hr.2 with e | e | e <;> subst e
  · exact trackLine1_gc hr
  · exact trackLine2_gc hr
  · exact trackLine3_gc hr
theorem l14Line_gc {i s x y h l : Int} (hr : trkR i s x y h l) : GC Try.prog 63 [.agg [vi i, vi s, vi x, vi y, vi h, vi l]] [] (fun r_ hs_ => r_ = vs (lineS i s x y h l) ∧ hs_ = []) := by
  rcases hr.2 with e | e | e <;> subst e
  · exact l14Line1_gc hr
  · exact l14Line2_gc hr
  · exact l14Line3_gc hr
theorem trB_R {i s x y h l : Int} (t : trB i s x y h l = true) : trkR i s x y h l := by
  simp only [trB, placeB, Bool.and_eq_true] at t
  obtain ⟨⟨⟨t1, t2, t3⟩, t4⟩, t5⟩ := t
  have a1 := inB_iff.1 t1
  have a2 := inB_iff.1 t2
  have a3 := inB_iff.1 t3
  have a4 := inB_iff.1 t4
  have b : (0 ≤ l ∧ l ≤ 3) ∧ (s = 1 ∨ s = 2 ∨ s = 3) := by
    split at t5
    · rename_i e
      simp at t5; exact ⟨by omega, .inl e⟩
    · split at t5
      · rename_i e
        simp at t5; exact ⟨by omega, .inr (.inl e)⟩
      · split at t5
        · rename_i e
          simp only [Bool.and_eq_true] at t5
          have := inB_iff.1 t5.2
          exact ⟨by omega, .inr (.inr e)⟩
        · cases t5
  exact ⟨⟨by omega, by omega, by omega, by omega, by omega⟩, b.2⟩
def tlnS (i s x y h l : Int) : ByteArray := if trB i s x y h l = true then lineS i s x y h l else ⟨#[]⟩
set_option maxRecDepth 100000 in
set_option maxHeartbeats 4000000 in
theorem impTrackLine_gc {i s x y h l : Int} : GC Try.prog 23 [.agg [vi i, vi s, vi x, vi y, vi h, vi l]] [] (fun r_ hs_ => r_ = .tup [vs (tlnS i s x y h l), vb (trB i s x y h l)] ∧ hs_ = []) := by
  refine GC.of_func [] Try.call23 Try.func23 rfl ⟨by kernel_rfl, by kernel_rfl⟩ (by kernel_rfl) ?_
  rw [Try.results23]
  simp -implicitDefEqProofs (maxSteps := 4000000) only [sim0, sim1, sim2, sim3, sim4, sim5, sim6, sim7, sim8, ↓reduceIte, Nat.reduceEqDiff, Nat.reduceAdd, Nat.reduceMul, Nat.reduceSub, Nat.reduceLT, Nat.reduceLeDiff, reduceCtorEq, Int.reduceToNat, Int.reduceNeg, Nat.reduceBEq, simx, ty]
  repeat' (first
    | ((with_reducible refine onCall ?_); first
      | (refine GC.callS isValidTrack_gc rfl rfl ?_ <;> try simp -implicitDefEqProofs (maxSteps := 4000000) only [sim0, sim1, sim2, sim3, sim4, sim5, sim6, sim7, sim8, ↓reduceIte, Nat.reduceEqDiff, Nat.reduceAdd, Nat.reduceMul, Nat.reduceSub, Nat.reduceLT, Nat.reduceLeDiff, reduceCtorEq, Int.reduceToNat, Int.reduceNeg, Nat.reduceBEq, simx, ty])
      | (refine GC.callS (trackLine_gc ?_) rfl rfl ?_ <;> try simp -implicitDefEqProofs (maxSteps := 4000000) only [sim0, sim1, sim2, sim3, sim4, sim5, sim6, sim7, sim8, ↓reduceIte, Nat.reduceEqDiff, Nat.reduceAdd, Nat.reduceMul, Nat.reduceSub, Nat.reduceLT, Nat.reduceLeDiff, reduceCtorEq, Int.reduceToNat, Int.reduceNeg, Nat.reduceBEq, simx, ty])
      | fail)
    | ((with_reducible refine onFin ?_); first
      | (refine fin_nil ?_; (first | (first | (have e : trB i s x y h l = true := (by simpa using hq); simp [fins, tlnS, e]; done) | (simp [fins, tlnS, hq]; done)) | (simp_all [fins]; done) | (simp_all [-Int.not_lt, -Int.not_le, fins]; done) | (simp_all [fins]; omega)))
      | fail)
    | (with_reducible refine ite_intro (fun hq => ?_) (fun hq => ?_))
    | (with_reducible refine And.intro (fun hq => ?_) (fun hq => ?_))
    | (with_reducible refine And.intro ?_ ?_)
    | ((fail_if_success (with_reducible refine onCode ?_)); (fail_if_success (with_reducible refine onLps ?_)); (fail_if_success (with_reducible refine onLpd ?_)); (fail_if_success (with_reducible refine onLpe ?_)); (fail_if_success (with_reducible refine onFin ?_)); (fail_if_success (with_reducible refine onCall ?_)); (fail_if_success (with_reducible refine onQcall ?_)); first | ((exact trB_R (by simpa using hq)); done) | omega | (rw [wrap_id (by omega) (by omega)]; omega) | (first | (have e : trB i s x y h l = true := (by simpa using hq); simp [fins, tlnS, e]; done) | (simp [fins, tlnS, hq]; done))))

set_option maxRecDepth 100000 in
set_option maxHeartbeats 4000000 in
theorem sTrackLine_gc {i s x y h l : Int} : GC Try.prog 22 [.agg [vi i, vi s, vi x, vi y, vi h, vi l]] [] (fun r_ hs_ => r_ = .tup [vs (tlnS i s x y h l), vb (trB i s x y h l)] ∧ hs_ = []) := by
  refine GC.of_func [] Try.call22 Try.func22 rfl ⟨by kernel_rfl, by kernel_rfl⟩ (by kernel_rfl) ?_
  rw [Try.results22]
  simp -implicitDefEqProofs (maxSteps := 4000000) only [sim0, sim1, sim2, sim3, sim4, sim5, sim6, sim7, sim8, ↓reduceIte, Nat.reduceEqDiff, Nat.reduceAdd, Nat.reduceMul, Nat.reduceSub, Nat.reduceLT, Nat.reduceLeDiff, reduceCtorEq, Int.reduceToNat, Int.reduceNeg, Nat.reduceBEq, simx, ty]
  repeat' (first
    | ((with_reducible refine onCall ?_); first
      | (refine GC.callS l14Good_gc rfl rfl ?_ <;> try simp -implicitDefEqProofs (maxSteps := 4000000) only [sim0, sim1, sim2, sim3, sim4, sim5, sim6, sim7, sim8, ↓reduceIte, Nat.reduceEqDiff, Nat.reduceAdd, Nat.reduceMul, Nat.reduceSub, Nat.reduceLT, Nat.reduceLeDiff, reduceCtorEq, Int.reduceToNat, Int.reduceNeg, Nat.reduceBEq, simx, ty])
      | (refine GC.callS (l14Line_gc ?_) rfl rfl ?_ <;> try simp -implicitDefEqProofs (maxSteps := 4000000) only [sim0, sim1, sim2, sim3, sim4, sim5, sim6, sim7, sim8, ↓reduceIte, Nat.reduceEqDiff, Nat.reduceAdd, Nat.reduceMul, Nat.reduceSub, Nat.reduceLT, Nat.reduceLeDiff, reduceCtorEq, Int.reduceToNat, Int.reduceNeg, Nat.reduceBEq, simx, ty])
      | fail)
    | ((with_reducible refine onFin ?_); first
      | (refine fin_nil ?_; (first | (first | (have e : trB i s x y h l = true := (by simpa using hq); simp [fins, tlnS, e]; done) | (simp [fins, tlnS, hq]; done)) | (simp_all [fins]; done) | (simp_all [-Int.not_lt, -Int.not_le, fins]; done) | (simp_all [fins]; omega)))
      | fail)
    | (with_reducible refine ite_intro (fun hq => ?_) (fun hq => ?_))
    | (with_reducible refine And.intro (fun hq => ?_) (fun hq => ?_))
    | (with_reducible refine And.intro ?_ ?_)
    | ((fail_if_success (with_reducible refine onCode ?_)); (fail_if_success (with_reducible refine onLps ?_)); (fail_if_success (with_reducible refine onLpd ?_)); (fail_if_success (with_reducible refine onLpe ?_)); (fail_if_success (with_reducible refine onFin ?_)); (fail_if_success (with_reducible refine onCall ?_)); (fail_if_success (with_reducible refine onQcall ?_)); first | ((exact trB_R (by simpa using hq)); done) | omega | (rw [wrap_id (by omega) (by omega)]; omega) | (first | (have e : trB i s x y h l = true := (by simpa using hq); simp [fins, tlnS, e]; done) | (simp [fins, tlnS, hq]; done))))

set_option maxRecDepth 100000 in
set_option maxHeartbeats 4000000 in
theorem FnExactTrackLine_gc (i : Int) (hi : I64 i) (s : Int) (hs : I64 s) (x : Int) (hx : I64 x) (y : Int) (hy : I64 y) (h : Int) (hh : I64 h) (l : Int) (hl : I64 l) : GC Try.prog 5 [.agg [vi i, vi s, vi x, vi y, vi h, vi l]] [] (fun r _ => r = vb true) := by
  refine GC.of_func [] Try.call5 Try.func5 rfl ⟨by kernel_rfl, by kernel_rfl⟩ (by kernel_rfl) ?_
  rw [Try.results5]
  simp -implicitDefEqProofs (maxSteps := 4000000) only [sim0, sim1, sim2, sim3, sim4, sim5, sim6, sim7, sim8, ↓reduceIte, Nat.reduceEqDiff, Nat.reduceAdd, Nat.reduceMul, Nat.reduceSub, Nat.reduceLT, Nat.reduceLeDiff, reduceCtorEq, Int.reduceToNat, Int.reduceNeg, Nat.reduceBEq, simx, ty]
  repeat' (first
    | ((with_reducible refine onCall ?_); first
      | (refine GC.callS toTrack_gc rfl rfl ?_ <;> try simp -implicitDefEqProofs (maxSteps := 4000000) only [sim0, sim1, sim2, sim3, sim4, sim5, sim6, sim7, sim8, ↓reduceIte, Nat.reduceEqDiff, Nat.reduceAdd, Nat.reduceMul, Nat.reduceSub, Nat.reduceLT, Nat.reduceLeDiff, reduceCtorEq, Int.reduceToNat, Int.reduceNeg, Nat.reduceBEq, simx, ty])
      | (refine GC.callS sTrackLine_gc rfl rfl ?_ <;> try simp -implicitDefEqProofs (maxSteps := 4000000) only [sim0, sim1, sim2, sim3, sim4, sim5, sim6, sim7, sim8, ↓reduceIte, Nat.reduceEqDiff, Nat.reduceAdd, Nat.reduceMul, Nat.reduceSub, Nat.reduceLT, Nat.reduceLeDiff, reduceCtorEq, Int.reduceToNat, Int.reduceNeg, Nat.reduceBEq, simx, ty])
      | (refine GC.callS impTrackLine_gc rfl rfl ?_ <;> try simp -implicitDefEqProofs (maxSteps := 4000000) only [sim0, sim1, sim2, sim3, sim4, sim5, sim6, sim7, sim8, ↓reduceIte, Nat.reduceEqDiff, Nat.reduceAdd, Nat.reduceMul, Nat.reduceSub, Nat.reduceLT, Nat.reduceLeDiff, reduceCtorEq, Int.reduceToNat, Int.reduceNeg, Nat.reduceBEq, simx, ty])
      | fail)
    | ((with_reducible refine onFin ?_); first
      | (refine fin_law ?_; (first | (simp_all [fins]; done) | (simp_all [-Int.not_lt, -Int.not_le, fins]; done) | (simp_all [fins]; omega)))
      | fail)
    | (with_reducible refine ite_intro (fun hq => ?_) (fun hq => ?_))
    | (with_reducible refine And.intro (fun hq => ?_) (fun hq => ?_))
    | (with_reducible refine And.intro ?_ ?_)
    | ((fail_if_success (with_reducible refine onCode ?_)); (fail_if_success (with_reducible refine onLps ?_)); (fail_if_success (with_reducible refine onLpd ?_)); (fail_if_success (with_reducible refine onLpe ?_)); (fail_if_success (with_reducible refine onFin ?_)); (fail_if_success (with_reducible refine onCall ?_)); (fail_if_success (with_reducible refine onQcall ?_)); first | omega | (rw [wrap_id (by omega) (by omega)]; omega) | (simp_all; done)))

end Go.Proofs.Ytejahpnbplcgnaa
