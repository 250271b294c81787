/-
Contracts of the line of a track, over plain data, and the law FnExactTrackLine.
No condition but those that the contracts name.
-/
import Derived.Test.YtejahpnbplcgnaaW3
import Derived.Test.YtejahpnbplcgnaaT1
namespace Go.Proofs.Ytejahpnbplcgnaa
open Eng
set_option linter.unusedSimpArgs false
set_option linter.unusedVariables false
theorem litSz : (⟨#[32]⟩ : ByteArray).size = 1 ∧ (⟨#[44]⟩ : ByteArray).size = 1 ∧ (⟨#[32, 97, 116, 32]⟩ : ByteArray).size = 4 ∧ (⟨#[32, 104, 105, 116, 115, 32]⟩ : ByteArray).size = 6 ∧ (⟨#[32, 108, 111, 115, 116, 32]⟩ : ByteArray).size = 6 ∧ (⟨#[110, 101, 119]⟩ : ByteArray).size = 3 ∧ (⟨#[99, 111, 110, 102, 105, 114, 109, 101, 100]⟩ : ByteArray).size = 9 ∧ (⟨#[99, 111, 97, 115, 116, 105, 110, 103]⟩ : ByteArray).size = 8 := ⟨rfl, rfl, rfl, rfl, rfl, rfl, rfl, rfl⟩
def wordS (s : Int) : ByteArray := if s = 1 then ⟨#[110, 101, 119]⟩ else if s = 2 then ⟨#[99, 111, 110, 102, 105, 114, 109, 101, 100]⟩ else ⟨#[99, 111, 97, 115, 116, 105, 110, 103]⟩
def lineB (i x y h : Int) (w : ByteArray) : ByteArray := numS i.toNat ++ ⟨#[32]⟩ ++ w ++ ⟨#[32, 97, 116, 32]⟩ ++ numS x.toNat ++ ⟨#[44]⟩ ++ numS y.toNat ++ ⟨#[32, 104, 105, 116, 115, 32]⟩ ++ numS h.toNat
def lineS (i s x y h l : Int) : ByteArray := if l = 0 then lineB i x y h (wordS s) else lineB i x y h (wordS s) ++ (⟨#[32, 108, 111, 115, 116, 32]⟩ ++ numS l.toNat)
theorem lineS_0 {i s x y h l : Int} (e : l = 0) : lineS i s x y h l = lineB i x y h (wordS s) := if_pos e
theorem lineS_1 {i s x y h l : Int} (e : ¬ l = 0) : lineS i s x y h l = lineB i x y h (wordS s) ++ (⟨#[32, 108, 111, 115, 116, 32]⟩ ++ numS l.toNat) := if_neg e
def trkR (i s x y h l : Int) : Prop := ((0 ≤ i ∧ i ≤ 1000000) ∧ (0 ≤ x ∧ x ≤ 1000000) ∧ (0 ≤ y ∧ y ≤ 1000000) ∧ (0 ≤ h ∧ h ≤ 1000000) ∧ 0 ≤ l ∧ l ≤ 1000000) ∧ (s = 1 ∨ s = 2 ∨ s = 3)
theorem plW : plnLL [[vs ⟨#[]⟩], [vs ⟨#[110, 101, 119]⟩], [vs ⟨#[99, 111, 110, 102, 105, 114, 109, 101, 100]⟩], [vs ⟨#[99, 111, 97, 115, 116, 105, 110, 103]⟩]] = true := rfl
theorem loadS_two {n i o : Nat} {g : Bool} {c : AV → Prop} {a b : List AV} {r : List (List AV)} : loadS g n i o c (a :: b :: r) = (i < (a :: b :: r).length ∧ rd g n o (((a :: b :: r)[i]?).getD []) c) := (rfl)
theorem upW {n : Nat} {r : List Nat} : upE r n (.arr 1 [[vs ⟨#[]⟩], [vs ⟨#[110, 101, 119]⟩], [vs ⟨#[99, 111, 110, 102, 105, 114, 109, 101, 100]⟩], [vs ⟨#[99, 111, 97, 115, 116, 105, 110, 103]⟩]]) = .arr 1 [[vs ⟨#[]⟩], [vs ⟨#[110, 101, 119]⟩], [vs ⟨#[99, 111, 110, 102, 105, 114, 109, 101, 100]⟩], [vs ⟨#[99, 111, 97, 115, 116, 105, 110, 103]⟩]] := upE_pln plW
set_option maxRecDepth 100000 in
set_option maxHeartbeats 4000000 in
theorem stateWords_gc  : GC Try.prog 79 [] [] (fun r_ hs_ => r_ = .ref 0 4 ∧ hs_ = [.arr 1 [[vs ⟨#[]⟩], [vs ⟨#[110, 101, 119]⟩], [vs ⟨#[99, 111, 110, 102, 105, 114, 109, 101, 100]⟩], [vs ⟨#[99, 111, 97, 115, 116, 105, 110, 103]⟩]]]) := by
  refine GC.of_func [] Try.call79 Try.func79 rfl ⟨by kernel_rfl, by kernel_rfl⟩ (by kernel_rfl) ?_
  rw [Try.results79]
  simp -implicitDefEqProofs (maxSteps := 4000000) only [sim0, sim1, sim2, sim3, sim4, sim5, sim6, sim7, sim8, ↓reduceIte, Nat.reduceEqDiff, Nat.reduceAdd, Nat.reduceMul, Nat.reduceSub, Nat.reduceLT, Nat.reduceLeDiff, reduceCtorEq, Int.reduceToNat, Int.reduceNeg, Nat.reduceBEq, simx, ty, plW]
  repeat' (first
    | ((with_reducible refine onFin ?_); first
      | (refine fin_own' ?_ ?_ (by simp) (by first | (simp only [plnLL, pln, Value.oneCell', List.all_cons, List.all_nil, plnH, Bool.and_true, Bool.and_self, List.take_zero, List.nil_append, List.map_cons, List.map_nil]; done) | rfl) <;> (first | (simp_all [fins]; done) | (simp_all [-Int.not_lt, -Int.not_le, fins]; done) | (simp_all [fins]; omega)))
      | (refine fin_ownT' ?_ ?_ ?_ (by simp) (by first | (simp only [plnLL, pln, Value.oneCell', List.all_cons, List.all_nil, plnH, Bool.and_true, Bool.and_self, List.take_zero, List.nil_append, List.map_cons, List.map_nil]; done) | rfl) rfl <;> (first | (simp_all [fins]; done) | (simp_all [-Int.not_lt, -Int.not_le, fins]; done) | (simp_all [fins]; omega)))
      | (refine fin_ids ?_ ?_ ?_ (by first | (simp only [plnLL, pln, Value.oneCell', List.all_cons, List.all_nil, plnH, Bool.and_true, Bool.and_self, List.take_zero, List.nil_append, List.map_cons, List.map_nil]; done) | rfl) <;> (first | (simp_all [fins, funs]; done) | (simp [fins, funs]; done) | (simp_all [-Int.not_lt, -Int.not_le, fins, funs]; done) | (simp_all [fins, funs]; omega)))
      | fail)
    | (with_reducible refine ite_intro (fun hq => ?_) (fun hq => ?_))
    | (with_reducible refine And.intro (fun hq => ?_) (fun hq => ?_))
    | (with_reducible refine And.intro ?_ ?_)
    | ((fail_if_success (with_reducible refine onCode ?_)); (fail_if_success (with_reducible refine onLps ?_)); (fail_if_success (with_reducible refine onLpd ?_)); (fail_if_success (with_reducible refine onLpe ?_)); (fail_if_success (with_reducible refine onFin ?_)); (fail_if_success (with_reducible refine onCall ?_)); (fail_if_success (with_reducible refine onQcall ?_)); first | omega | (rw [wrap_id (by omega) (by omega)]; omega) | (simp_all; done)))

set_option maxRecDepth 100000 in
set_option maxHeartbeats 4000000 in
theorem l14Words_gc  : GC Try.prog 76 [] [] (fun r_ hs_ => r_ = .ref 0 4 ∧ hs_ = [.arr 1 [[vs ⟨#[]⟩], [vs ⟨#[110, 101, 119]⟩], [vs ⟨#[99, 111, 110, 102, 105, 114, 109, 101, 100]⟩], [vs ⟨#[99, 111, 97, 115, 116, 105, 110, 103]⟩]]]) := by
  refine GC.of_func [] Try.call76 Try.func76 rfl ⟨by kernel_rfl, by kernel_rfl⟩ (by kernel_rfl) ?_
  rw [Try.results76]
  simp -implicitDefEqProofs (maxSteps := 4000000) only [sim0, sim1, sim2, sim3, sim4, sim5, sim6, sim7, sim8, ↓reduceIte, Nat.reduceEqDiff, Nat.reduceAdd, Nat.reduceMul, Nat.reduceSub, Nat.reduceLT, Nat.reduceLeDiff, reduceCtorEq, Int.reduceToNat, Int.reduceNeg, Nat.reduceBEq, simx, ty, plW]
  repeat' (first
    | ((with_reducible refine onFin ?_); first
      | (refine fin_own' ?_ ?_ (by simp) (by first | (simp only [plnLL, pln, Value.oneCell', List.all_cons, List.all_nil, plnH, Bool.and_true, Bool.and_self, List.take_zero, List.nil_append, List.map_cons, List.map_nil]; done) | rfl) <;> (first | (simp_all [fins]; done) | (simp_all [-Int.not_lt, -Int.not_le, fins]; done) | (simp_all [fins]; omega)))
      | (refine fin_ownT' ?_ ?_ ?_ (by simp) (by first | (simp only [plnLL, pln, Value.oneCell', List.all_cons, List.all_nil, plnH, Bool.and_true, Bool.and_self, List.take_zero, List.nil_append, List.map_cons, List.map_nil]; done) | rfl) rfl <;> (first | (simp_all [fins]; done) | (simp_all [-Int.not_lt, -Int.not_le, fins]; done) | (simp_all [fins]; omega)))
      | (refine fin_ids ?_ ?_ ?_ (by first | (simp only [plnLL, pln, Value.oneCell', List.all_cons, List.all_nil, plnH, Bool.and_true, Bool.and_self, List.take_zero, List.nil_append, List.map_cons, List.map_nil]; done) | rfl) <;> (first | (simp_all [fins, funs]; done) | (simp [fins, funs]; done) | (simp_all [-Int.not_lt, -Int.not_le, fins, funs]; done) | (simp_all [fins, funs]; omega)))
      | fail)
    | (with_reducible refine ite_intro (fun hq => ?_) (fun hq => ?_))
    | (with_reducible refine And.intro (fun hq => ?_) (fun hq => ?_))
    | (with_reducible refine And.intro ?_ ?_)
    | ((fail_if_success (with_reducible refine onCode ?_)); (fail_if_success (with_reducible refine onLps ?_)); (fail_if_success (with_reducible refine onLpd ?_)); (fail_if_success (with_reducible refine onLpe ?_)); (fail_if_success (with_reducible refine onFin ?_)); (fail_if_success (with_reducible refine onCall ?_)); (fail_if_success (with_reducible refine onQcall ?_)); first | omega | (rw [wrap_id (by omega) (by omega)]; omega) | (simp_all; done)))

set_option maxRecDepth 100000 in
set_option maxHeartbeats 4000000 in
theorem trackLine1_gc {i x y h l : Int} (hr : trkR i 1 x y h l) : GC Try.prog 64 [.agg [vi i, vi 1, vi x, vi y, vi h, vi l]] [] (fun r_ hs_ => r_ = vs (lineS i 1 x y h l) ∧ hs_ = []) := by
  refine GC.of_func [(1, .val 0 (.val 1 (.val 2 (.val 3 (.val 5 (.val 6 (.val 11 (.val 12 (.val 16 (.val 17 (.val 21 (.val 22 (.eff [(4, [22, 21, 17, 16, 12, 11, 6, 5, 3], .val 7 (.val 8 (.val 9 (.val 10 (.val 13 (.val 14 (.val 15 (.val 18 (.val 19 (.val 20 (.val 23 (.val 24 (.val 25 (.done))))))))))))))])))))))))))))] Try.call64 Try.func64 rfl ⟨by kernel_rfl, by kernel_rfl⟩ (by kernel_rfl) ?_
  rw [Try.results64]
  simp -implicitDefEqProofs (maxSteps := 4000000) only [sim0, sim1, sim2, sim3, sim4, sim5, sim6, sim7, sim8, ↓reduceIte, Nat.reduceEqDiff, Nat.reduceAdd, Nat.reduceMul, Nat.reduceSub, Nat.reduceLT, Nat.reduceLeDiff, reduceCtorEq, Int.reduceToNat, Int.reduceNeg, Nat.reduceBEq, simx, ty, upW, loadS_two]
  repeat' (first
    | ((with_reducible refine onCall ?_); first
      | (refine GC.use true [] stateWords_gc rfl trivial (by repeat' (first | exact arL_nil | refine arL_cons ?_ ?_ | exact ar_v | exact ar_sl | exact ar_nil | refine ar_ref rfl rfl (by simp) (plnLL_map (fun _ => rfl) _) | refine ar_rs rfl rfl (by simp; omega) (plnLL_map (fun _ => rfl) _) | refine ar_agg ?_)) (.inr ⟨rfl, by first | rfl | simp []⟩) ?_ <;> try simp -implicitDefEqProofs (maxSteps := 4000000) only [sim0, sim1, sim2, sim3, sim4, sim5, sim6, sim7, sim8, ↓reduceIte, Nat.reduceEqDiff, Nat.reduceAdd, Nat.reduceMul, Nat.reduceSub, Nat.reduceLT, Nat.reduceLeDiff, reduceCtorEq, Int.reduceToNat, Int.reduceNeg, Nat.reduceBEq, simx, ty, upW, loadS_two])
      | (refine GC.callS (textF_gc ?_) rfl rfl ?_ <;> try simp -implicitDefEqProofs (maxSteps := 4000000) only [sim0, sim1, sim2, sim3, sim4, sim5, sim6, sim7, sim8, ↓reduceIte, Nat.reduceEqDiff, Nat.reduceAdd, Nat.reduceMul, Nat.reduceSub, Nat.reduceLT, Nat.reduceLeDiff, reduceCtorEq, Int.reduceToNat, Int.reduceNeg, Nat.reduceBEq, simx, ty, upW, loadS_two])
      | fail)
    | ((with_reducible refine onQcall ?_); first
      | (refine qcallS (textF_gc ?_) rfl rfl ?_ <;> try simp -implicitDefEqProofs (maxSteps := 4000000) only [sim0, sim1, sim2, sim3, sim4, sim5, sim6, sim7, sim8, ↓reduceIte, Nat.reduceEqDiff, Nat.reduceAdd, Nat.reduceMul, Nat.reduceSub, Nat.reduceLT, Nat.reduceLeDiff, reduceCtorEq, Int.reduceToNat, Int.reduceNeg, Nat.reduceBEq, simx, ty, upW, loadS_two])
      | fail)
    | ((with_reducible refine onFin ?_); first
      | (refine fin_nil ?_; (first | ((have b := hr.1; first | (rw [lineS_0 (by first | omega | (simp at hq; omega))]; rfl) | (rw [lineS_1 (by first | omega | (simp at hq; omega))]; first | rfl | (rw [← ByteArray.append_assoc]; rfl)))) | (simp_all [fins]; done) | (simp_all [-Int.not_lt, -Int.not_le, fins]; done) | (simp_all [fins]; omega)))
      | fail)
    | (with_reducible refine ite_intro (fun hq => ?_) (fun hq => ?_))
    | (with_reducible refine And.intro (fun hq => ?_) (fun hq => ?_))
    | (with_reducible refine And.intro ?_ ?_)
    | ((fail_if_success (with_reducible refine onCode ?_)); (fail_if_success (with_reducible refine onLps ?_)); (fail_if_success (with_reducible refine onLpd ?_)); (fail_if_success (with_reducible refine onLpe ?_)); (fail_if_success (with_reducible refine onFin ?_)); (fail_if_success (with_reducible refine onCall ?_)); (fail_if_success (with_reducible refine onQcall ?_)); first | (((have b := hr.1; (try simp only [ByteArray.size_append, litSz, mx64]); have s1 := numS_size i.toNat; have s2 := numS_size x.toNat; have s3 := numS_size y.toNat; have s4 := numS_size h.toNat; have s5 := numS_size l.toNat; omega)); done) | omega | (rw [wrap_id (by omega) (by omega)]; omega) | ((have b := hr.1; first | (rw [lineS_0 (by first | omega | (simp at hq; omega))]; rfl) | (rw [lineS_1 (by first | omega | (simp at hq; omega))]; first | rfl | (rw [← ByteArray.append_assoc]; rfl))))))

set_option maxRecDepth 100000 in
set_option maxHeartbeats 4000000 in
theorem trackLine2_gc {i x y h l : Int} (hr : trkR i 2 x y h l) : GC Try.prog 64 [.agg [vi i, vi 2, vi x, vi y, vi h, vi l]] [] (fun r_ hs_ => r_ = vs (lineS i 2 x y h l) ∧ hs_ = []) := by
  refine GC.of_func [(1, .val 0 (.val 1 (.val 2 (.val 3 (.val 5 (.val 6 (.val 11 (.val 12 (.val 16 (.val 17 (.val 21 (.val 22 (.eff [(4, [22, 21, 17, 16, 12, 11, 6, 5, 3], .val 7 (.val 8 (.val 9 (.val 10 (.val 13 (.val 14 (.val 15 (.val 18 (.val 19 (.val 20 (.val 23 (.val 24 (.val 25 (.done))))))))))))))])))))))))))))] Try.call64 Try.func64 rfl ⟨by kernel_rfl, by kernel_rfl⟩ (by kernel_rfl) ?_
  rw [Try.results64]
  simp -implicitDefEqProofs (maxSteps := 4000000) only [sim0, sim1, sim2, sim3, sim4, sim5, sim6, sim7, sim8, ↓reduceIte, Nat.reduceEqDiff, Nat.reduceAdd, Nat.reduceMul, Nat.reduceSub, Nat.reduceLT, Nat.reduceLeDiff, reduceCtorEq, Int.reduceToNat, Int.reduceNeg, Nat.reduceBEq, simx, ty, upW, loadS_two]
  repeat' (first
    | ((with_reducible refine onCall ?_); first
      | (refine GC.use true [] stateWords_gc rfl trivial (by repeat' (first | exact arL_nil | refine arL_cons ?_ ?_ | exact ar_v | exact ar_sl | exact ar_nil | refine ar_ref rfl rfl (by simp) (plnLL_map (fun _ => rfl) _) | refine ar_rs rfl rfl (by simp; omega) (plnLL_map (fun _ => rfl) _) | refine ar_agg ?_)) (.inr ⟨rfl, by first | rfl | simp []⟩) ?_ <;> try simp -implicitDefEqProofs (maxSteps := 4000000) only [sim0, sim1, sim2, sim3, sim4, sim5, sim6, sim7, sim8, ↓reduceIte, Nat.reduceEqDiff, Nat.reduceAdd, Nat.reduceMul, Nat.reduceSub, Nat.reduceLT, Nat.reduceLeDiff, reduceCtorEq, Int.reduceToNat, Int.reduceNeg, Nat.reduceBEq, simx, ty, upW, loadS_two])
      | (refine GC.callS (textF_gc ?_) rfl rfl ?_ <;> try simp -implicitDefEqProofs (maxSteps := 4000000) only [sim0, sim1, sim2, sim3, sim4, sim5, sim6, sim7, sim8, ↓reduceIte, Nat.reduceEqDiff, Nat.reduceAdd, Nat.reduceMul, Nat.reduceSub, Nat.reduceLT, Nat.reduceLeDiff, reduceCtorEq, Int.reduceToNat, Int.reduceNeg, Nat.reduceBEq, simx, ty, upW, loadS_two])
      | fail)
    | ((with_reducible refine onQcall ?_); first
      | (refine qcallS (textF_gc ?_) rfl rfl ?_ <;> try simp -implicitDefEqProofs (maxSteps := 4000000) only [sim0, sim1, sim2, sim3, sim4, sim5, sim6, sim7, sim8, ↓reduceIte, Nat.reduceEqDiff, Nat.reduceAdd, Nat.reduceMul, Nat.reduceSub, Nat.reduceLT, Nat.reduceLeDiff, reduceCtorEq, Int.reduceToNat, Int.reduceNeg, Nat.reduceBEq, simx, ty, upW, loadS_two])
      | fail)
    | ((with_reducible refine onFin ?_); first
      | (refine fin_nil ?_; (first | ((have b := hr.1; first | (rw [lineS_0 (by first | omega | (simp at hq; omega))]; rfl) | (rw [lineS_1 (by first | omega | (simp at hq; omega))]; first | rfl | (rw [← ByteArray.append_assoc]; rfl)))) | (simp_all [fins]; done) | (simp_all [-Int.not_lt, -Int.not_le, fins]; done) | (simp_all [fins]; omega)))
      | fail)
    | (with_reducible refine ite_intro (fun hq => ?_) (fun hq => ?_))
    | (with_reducible refine And.intro (fun hq => ?_) (fun hq => ?_))
    | (with_reducible refine And.intro ?_ ?_)
    | ((fail_if_success (with_reducible refine onCode ?_)); (fail_if_success (with_reducible refine onLps ?_)); (fail_if_success (with_reducible refine onLpd ?_)); (fail_if_success (with_reducible refine onLpe ?_)); (fail_if_success (with_reducible refine onFin ?_)); (fail_if_success (with_reducible refine onCall ?_)); (fail_if_success (with_reducible refine onQcall ?_)); first | (((have b := hr.1; (try simp only [ByteArray.size_append, litSz, mx64]); have s1 := numS_size i.toNat; have s2 := numS_size x.toNat; have s3 := numS_size y.toNat; have s4 := numS_size h.toNat; have s5 := numS_size l.toNat; omega)); done) | omega | (rw [wrap_id (by omega) (by omega)]; omega) | ((have b := hr.1; first | (rw [lineS_0 (by first | omega | (simp at hq; omega))]; rfl) | (rw [lineS_1 (by first | omega | (simp at hq; omega))]; first | rfl | (rw [← ByteArray.append_assoc]; rfl))))))

set_option maxRecDepth 100000 in
set_option maxHeartbeats 4000000 in
theorem trackLine3_gc {i x y h l : Int} (hr : trkR i 3 x y h l) : GC Try.prog 64 [.agg [vi i, vi 3, vi x, vi y, vi h, vi l]] [] (fun r_ hs_ => r_ = vs (lineS i 3 x y h l) ∧ hs_ = []) := by
  refine GC.of_func [(1, .val 0 (.val 1 (.val 2 (.val 3 (.val 5 (.val 6 (.val 11 (.val 12 (.val 16 (.val 17 (.val 21 (.val 22 (.eff [(4, [22, 21, 17, 16, 12, 11, 6, 5, 3], .val 7 (.val 8 (.val 9 (.val 10 (.val 13 (.val 14 (.val 15 (.val 18 (.val 19 (.val 20 (.val 23 (.val 24 (.val 25 (.done))))))))))))))])))))))))))))] Try.call64 Try.func64 rfl ⟨by kernel_rfl, by kernel_rfl⟩ (by kernel_rfl) ?_
  rw [Try.results64]
  simp -implicitDefEqProofs (maxSteps := 4000000) only [sim0, sim1, sim2, sim3, sim4, sim5, sim6, sim7, sim8, ↓reduceIte, Nat.reduceEqDiff, Nat.reduceAdd, Nat.reduceMul, Nat.reduceSub, Nat.reduceLT, Nat.reduceLeDiff, reduceCtorEq, Int.reduceToNat, Int.reduceNeg, Nat.reduceBEq, simx, ty, upW, loadS_two]
  repeat' (first
    | ((with_reducible refine onCall ?_); first
      | (refine GC.use true [] stateWords_gc rfl trivial (by repeat' (first | exact arL_nil | refine arL_cons ?_ ?_ | exact ar_v | exact ar_sl | exact ar_nil | refine ar_ref rfl rfl (by simp) (plnLL_map (fun _ => rfl) _) | refine ar_rs rfl rfl (by simp; omega) (plnLL_map (fun _ => rfl) _) | refine ar_agg ?_)) (.inr ⟨rfl, by first | rfl | simp []⟩) ?_ <;> try simp -implicitDefEqProofs (maxSteps := 4000000) only [sim0, sim1, sim2, sim3, sim4, sim5, sim6, sim7, sim8, ↓reduceIte, Nat.reduceEqDiff, Nat.reduceAdd, Nat.reduceMul, Nat.reduceSub, Nat.reduceLT, Nat.reduceLeDiff, reduceCtorEq, Int.reduceToNat, Int.reduceNeg, Nat.reduceBEq, simx, ty, upW, loadS_two])
      | (refine GC.callS (textF_gc ?_) rfl rfl ?_ <;> try simp -implicitDefEqProofs (maxSteps := 4000000) only [sim0, sim1, sim2, sim3, sim4, sim5, sim6, sim7, sim8, ↓reduceIte, Nat.reduceEqDiff, Nat.reduceAdd, Nat.reduceMul, Nat.reduceSub, Nat.reduceLT, Nat.reduceLeDiff, reduceCtorEq, Int.reduceToNat, Int.reduceNeg, Nat.reduceBEq, simx, ty, upW, loadS_two])
      | fail)
    | ((with_reducible refine onQcall ?_); first
      | (refine qcallS (textF_gc ?_) rfl rfl ?_ <;> try simp -implicitDefEqProofs (maxSteps := 4000000) only [sim0, sim1, sim2, sim3, sim4, sim5, sim6, sim7, sim8, ↓reduceIte, Nat.reduceEqDiff, Nat.reduceAdd, Nat.reduceMul, Nat.reduceSub, Nat.reduceLT, Nat.reduceLeDiff, reduceCtorEq, Int.reduceToNat, Int.reduceNeg, Nat.reduceBEq, simx, ty, upW, loadS_two])
      | fail)
    | ((with_reducible refine onFin ?_); first
      | (refine fin_nil ?_; (first | ((have b := hr.1; first | (rw [lineS_0 (by first | omega | (simp at hq; omega))]; rfl) | (rw [lineS_1 (by first | omega | (simp at hq; omega))]; first | rfl | (rw [← ByteArray.append_assoc]; rfl)))) | (simp_all [fins]; done) | (simp_all [-Int.not_lt, -Int.not_le, fins]; done) | (simp_all [fins]; omega)))
      | fail)
    | (with_reducible refine ite_intro (fun hq => ?_) (fun hq => ?_))
    | (with_reducible refine And.intro (fun hq => ?_) (fun hq => ?_))
    | (with_reducible refine And.intro ?_ ?_)
    | ((fail_if_success (with_reducible refine onCode ?_)); (fail_if_success (with_reducible refine onLps ?_)); (fail_if_success (with_reducible refine onLpd ?_)); (fail_if_success (with_reducible refine onLpe ?_)); (fail_if_success (with_reducible refine onFin ?_)); (fail_if_success (with_reducible refine onCall ?_)); (fail_if_success (with_reducible refine onQcall ?_)); first | (((have b := hr.1; (try simp only [ByteArray.size_append, litSz, mx64]); have s1 := numS_size i.toNat; have s2 := numS_size x.toNat; have s3 := numS_size y.toNat; have s4 := numS_size h.toNat; have s5 := numS_size l.toNat; omega)); done) | omega | (rw [wrap_id (by omega) (by omega)]; omega) | ((have b := hr.1; first | (rw [lineS_0 (by first | omega | (simp at hq; omega))]; rfl) | (rw [lineS_1 (by first | omega | (simp at hq; omega))]; first | rfl | (rw [← ByteArray.append_assoc]; rfl))))))

set_option maxRecDepth 100000 in
set_option maxHeartbeats 4000000 in
theorem l14Line1_gc {i x y h l : Int} (hr : trkR i 1 x y h l) : GC Try.prog 63 [.agg [vi i, vi 1, vi x, vi y, vi h, vi l]] [] (fun r_ hs_ => r_ = vs (lineS i 1 x y h l) ∧ hs_ = []) := by
  refine GC.of_func [(1, .val 0 (.val 1 (.val 2 (.val 3 (.val 5 (.val 6 (.val 11 (.val 12 (.val 16 (.val 17 (.val 21 (.val 22 (.eff [(4, [22, 21, 17, 16, 12, 11, 6, 5, 3], .val 7 (.val 8 (.val 9 (.val 10 (.val 13 (.val 14 (.val 15 (.val 18 (.val 19 (.val 20 (.val 23 (.val 24 (.val 25 (.done))))))))))))))])))))))))))))] Try.call63 Try.func63 rfl ⟨by kernel_rfl, by kernel_rfl⟩ (by kernel_rfl) ?_
  rw [Try.results63]
  simp -implicitDefEqProofs (maxSteps := 4000000) only [sim0, sim1, sim2, sim3, sim4, sim5, sim6, sim7, sim8, ↓reduceIte, Nat.reduceEqDiff, Nat.reduceAdd, Nat.reduceMul, Nat.reduceSub, Nat.reduceLT, Nat.reduceLeDiff, reduceCtorEq, Int.reduceToNat, Int.reduceNeg, Nat.reduceBEq, simx, ty, upW, loadS_two]
  repeat' (first
    | ((with_reducible refine onCall ?_); first
      | (refine GC.use true [] l14Words_gc rfl trivial (by repeat' (first | exact arL_nil | refine arL_cons ?_ ?_ | exact ar_v | exact ar_sl | exact ar_nil | refine ar_ref rfl rfl (by simp) (plnLL_map (fun _ => rfl) _) | refine ar_rs rfl rfl (by simp; omega) (plnLL_map (fun _ => rfl) _) | refine ar_agg ?_)) (.inr ⟨rfl, by first | rfl | simp []⟩) ?_ <;> try simp -implicitDefEqProofs (maxSteps := 4000000) only [sim0, sim1, sim2, sim3, sim4, sim5, sim6, sim7, sim8, ↓reduceIte, Nat.reduceEqDiff, Nat.reduceAdd, Nat.reduceMul, Nat.reduceSub, Nat.reduceLT, Nat.reduceLeDiff, reduceCtorEq, Int.reduceToNat, Int.reduceNeg, Nat.reduceBEq, simx, ty, upW, loadS_two])
      | (refine GC.callS (l1Num_gc ?_) rfl rfl ?_ <;> try simp -implicitDefEqProofs (maxSteps := 4000000) only [sim0, sim1, sim2, sim3, sim4, sim5, sim6, sim7, sim8, ↓reduceIte, Nat.reduceEqDiff, Nat.reduceAdd, Nat.reduceMul, Nat.reduceSub, Nat.reduceLT, Nat.reduceLeDiff, reduceCtorEq, Int.reduceToNat, Int.reduceNeg, Nat.reduceBEq, simx, ty, upW, loadS_two])
      | fail)
    | ((with_reducible refine onQcall ?_); first
      | (refine qcallS (l1Num_gc ?_) rfl rfl ?_ <;> try simp -implicitDefEqProofs (maxSteps := 4000000) only [sim0, sim1, sim2, sim3, sim4, sim5, sim6, sim7, sim8, ↓reduceIte, Nat.reduceEqDiff, Nat.reduceAdd, Nat.reduceMul, Nat.reduceSub, Nat.reduceLT, Nat.reduceLeDiff, reduceCtorEq, Int.reduceToNat, Int.reduceNeg, Nat.reduceBEq, simx, ty, upW, loadS_two])
      | fail)
    | ((with_reducible refine onFin ?_); first
      | (refine fin_nil ?_; (first | ((have b := hr.1; first | (rw [lineS_0 (by first | omega | (simp at hq; omega))]; rfl) | (rw [lineS_1 (by first | omega | (simp at hq; omega))]; first | rfl | (rw [← ByteArray.append_assoc]; rfl)))) | (simp_all [fins]; done) | (simp_all [-Int.not_lt, -Int.not_le, fins]; done) | (simp_all [fins]; omega)))
      | fail)
    | (with_reducible refine ite_intro (fun hq => ?_) (fun hq => ?_))
    | (with_reducible refine And.intro (fun hq => ?_) (fun hq => ?_))
    | (with_reducible refine And.intro ?_ ?_)
    | ((fail_if_success (with_reducible refine onCode ?_)); (fail_if_success (with_reducible refine onLps ?_)); (fail_if_success (with_reducible refine onLpd ?_)); (fail_if_success (with_reducible refine onLpe ?_)); (fail_if_success (with_reducible refine onFin ?_)); (fail_if_success (with_reducible refine onCall ?_)); (fail_if_success (with_reducible refine onQcall ?_)); first | (((have b := hr.1; (try simp only [ByteArray.size_append, litSz, mx64]); have s1 := numS_size i.toNat; have s2 := numS_size x.toNat; have s3 := numS_size y.toNat; have s4 := numS_size h.toNat; have s5 := numS_size l.toNat; omega)); done) | omega | (rw [wrap_id (by omega) (by omega)]; omega) | ((have b := hr.1; first | (rw [lineS_0 (by first | omega | (simp at hq; omega))]; rfl) | (rw [lineS_1 (by first | omega | (simp at hq; omega))]; first | rfl | (rw [← ByteArray.append_assoc]; rfl))))))

set_option maxRecDepth 100000 in
set_option maxHeartbeats 4000000 in
theorem l14Line2_gc {i x y h l : Int} (hr : trkR i 2 x y h l) : GC Try.prog 63 [.agg [vi i, vi 2, vi x, vi y, vi h, vi l]] [] (fun r_ hs_ => r_ = vs (lineS i 2 x y h l) ∧ hs_ = []) := by
  refine GC.of_func [(1, .val 0 (.val 1 (.val 2 (.val 3 (.val 5 (.val 6 (.val 11 (.val 12 (.val 16 (.val 17 (.val 21 (.val 22 (.eff [(4, [22, 21, 17, 16, 12, 11, 6, 5, 3], .val 7 (.val 8 (.val 9 (.val 10 (.val 13 (.val 14 (.val 15 (.val 18 (.val 19 (.val 20 (.val 23 (.val 24 (.val 25 (.done))))))))))))))])))))))))))))] Try.call63 Try.func63 rfl ⟨by kernel_rfl, by kernel_rfl⟩ (by kernel_rfl) ?_
  rw [Try.results63]
  simp -implicitDefEqProofs (maxSteps := 4000000) only [sim0, sim1, sim2, sim3, sim4, sim5, sim6, sim7, sim8, ↓reduceIte, Nat.reduceEqDiff, Nat.reduceAdd, Nat.reduceMul, Nat.reduceSub, Nat.reduceLT, Nat.reduceLeDiff, reduceCtorEq, Int.reduceToNat, Int.reduceNeg, Nat.reduceBEq, simx, ty, upW, loadS_two]
  repeat' (first
    | ((with_reducible refine onCall ?_); first
      | (refine GC.use true [] l14Words_gc rfl trivial (by repeat' (first | exact arL_nil | refine arL_cons ?_ ?_ | exact ar_v | exact ar_sl | exact ar_nil | refine ar_ref rfl rfl (by simp) (plnLL_map (fun _ => rfl) _) | refine ar_rs rfl rfl (by simp; omega) (plnLL_map (fun _ => rfl) _) | refine ar_agg ?_)) (.inr ⟨rfl, by first | rfl | simp []⟩) ?_ <;> try simp -implicitDefEqProofs (maxSteps := 4000000) only [sim0, sim1, sim2, sim3, sim4, sim5, sim6, sim7, sim8, ↓reduceIte, Nat.reduceEqDiff, Nat.reduceAdd, Nat.reduceMul, Nat.reduceSub, Nat.reduceLT, Nat.reduceLeDiff, reduceCtorEq, Int.reduceToNat, Int.reduceNeg, Nat.reduceBEq, simx, ty, upW, loadS_two])
      | (refine GC.callS (l1Num_gc ?_) rfl rfl ?_ <;> try simp -implicitDefEqProofs (maxSteps := 4000000) only [sim0, sim1, sim2, sim3, sim4, sim5, sim6, sim7, sim8, ↓reduceIte, Nat.reduceEqDiff, Nat.reduceAdd, Nat.reduceMul, Nat.reduceSub, Nat.reduceLT, Nat.reduceLeDiff, reduceCtorEq, Int.reduceToNat, Int.reduceNeg, Nat.reduceBEq, simx, ty, upW, loadS_two])
      | fail)
    | ((with_reducible refine onQcall ?_); first
      | (refine qcallS (l1Num_gc ?_) rfl rfl ?_ <;> try simp -implicitDefEqProofs (maxSteps := 4000000) only [sim0, sim1, sim2, sim3, sim4, sim5, sim6, sim7, sim8, ↓reduceIte, Nat.reduceEqDiff, Nat.reduceAdd, Nat.reduceMul, Nat.reduceSub, Nat.reduceLT, Nat.reduceLeDiff, reduceCtorEq, Int.reduceToNat, Int.reduceNeg, Nat.reduceBEq, simx, ty, upW, loadS_two])
      | fail)
    | ((with_reducible refine onFin ?_); first
      | (refine fin_nil ?_; (first | ((have b := hr.1; first | (rw [lineS_0 (by first | omega | (simp at hq; omega))]; rfl) | (rw [lineS_1 (by first | omega | (simp at hq; omega))]; first | rfl | (rw [← ByteArray.append_assoc]; rfl)))) | (simp_all [fins]; done) | (simp_all [-Int.not_lt, -Int.not_le, fins]; done) | (simp_all [fins]; omega)))
      | fail)
    | (with_reducible refine ite_intro (fun hq => ?_) (fun hq => ?_))
    | (with_reducible refine And.intro (fun hq => ?_) (fun hq => ?_))
    | (with_reducible refine And.intro ?_ ?_)
    | ((fail_if_success (with_reducible refine onCode ?_)); (fail_if_success (with_reducible refine onLps ?_)); (fail_if_success (with_reducible refine onLpd ?_)); (fail_if_success (with_reducible refine onLpe ?_)); (fail_if_success (with_reducible refine onFin ?_)); (fail_if_success (with_reducible refine onCall ?_)); (fail_if_success (with_reducible refine onQcall ?_)); first | (((have b := hr.1; (try simp only [ByteArray.size_append, litSz, mx64]); have s1 := numS_size i.toNat; have s2 := numS_size x.toNat; have s3 := numS_size y.toNat; have s4 := numS_size h.toNat; have s5 := numS_size l.toNat; omega)); done) | omega | (rw [wrap_id (by omega) (by omega)]; omega) | ((have b := hr.1; first | (rw [lineS_0 (by first | omega | (simp at hq; omega))]; rfl) | (rw [lineS_1 (by first | omega | (simp at hq; omega))]; first | rfl | (rw [← ByteArray.append_assoc]; rfl))))))

set_option maxRecDepth 100000 in
set_option maxHeartbeats 4000000 in
theorem l14Line3_gc {i x y h l : Int} (hr : trkR i 3 x y h l) : GC Try.prog 63 [.agg [vi i, vi 3, vi x, vi y, vi h, vi l]] [] (fun r_ hs_ => r_ = vs (lineS i 3 x y h l) ∧ hs_ = []) := by
  refine GC.of_func [(1, .val 0 (.val 1 (.val 2 (.val 3 (.val 5 (.val 6 (.val 11 (.val 12 (.val 16 (.val 17 (.val 21 (.val 22 (.eff [(4, [22, 21, 17, 16, 12, 11, 6, 5, 3], .val 7 (.val 8 (.val 9 (.val 10 (.val 13 (.val 14 (.val 15 (.val 18 (.val 19 (.val 20 (.val 23 (.val 24 (.val 25 (.done))))))))))))))])))))))))))))] Try.call63 Try.func63 rfl ⟨by kernel_rfl, by kernel_rfl⟩ (by kernel_rfl) ?_
  rw [Try.results63]
  simp -implicitDefEqProofs (maxSteps := 4000000) only [sim0, sim1, sim2, sim3, sim4, sim5, sim6, sim7, sim8, ↓reduceIte, Nat.reduceEqDiff, Nat.reduceAdd, Nat.reduceMul, Nat.reduceSub, Nat.reduceLT, Nat.reduceLeDiff, reduceCtorEq, Int.reduceToNat, Int.reduceNeg, Nat.reduceBEq, simx, ty, upW, loadS_two]
  repeat' (first
    | ((with_reducible refine onCall ?_); first
      | (refine GC.use true [] l14Words_gc rfl trivial (by repeat' (first | exact arL_nil | refine arL_cons ?_ ?_ | exact ar_v | exact ar_sl | exact ar_nil | refine ar_ref rfl rfl (by simp) (plnLL_map (fun _ => rfl) _) | refine ar_rs rfl rfl (by simp; omega) (plnLL_map (fun _ => rfl) _) | refine ar_agg ?_)) (.inr ⟨rfl, by first | rfl | simp []⟩) ?_ <;> try simp -implicitDefEqProofs (maxSteps := 4000000) only [sim0, sim1, sim2, sim3, sim4, sim5, sim6, sim7, sim8, ↓reduceIte, Nat.reduceEqDiff, Nat.reduceAdd, Nat.reduceMul, Nat.reduceSub, Nat.reduceLT, Nat.reduceLeDiff, reduceCtorEq, Int.reduceToNat, Int.reduceNeg, Nat.reduceBEq, simx, ty, upW, loadS_two])
      | (refine GC.callS (l1Num_gc ?_) rfl rfl ?_ <;> try simp -implicitDefEqProofs (maxSteps := 4000000) only [sim0, sim1, sim2, sim3, sim4, sim5, sim6, sim7, sim8, ↓reduceIte, Nat.reduceEqDiff, Nat.reduceAdd, Nat.reduceMul, Nat.reduceSub, Nat.reduceLT, Nat.reduceLeDiff, reduceCtorEq, Int.reduceToNat, Int.reduceNeg, Nat.reduceBEq, simx, ty, upW, loadS_two])
      | fail)
    | ((with_reducible refine onQcall ?_); first
      | (refine qcallS (l1Num_gc ?_) rfl rfl ?_ <;> try simp -implicitDefEqProofs (maxSteps := 4000000) only [sim0, sim1, sim2, sim3, sim4, sim5, sim6, sim7, sim8, ↓reduceIte, Nat.reduceEqDiff, Nat.reduceAdd, Nat.reduceMul, Nat.reduceSub, Nat.reduceLT, Nat.reduceLeDiff, reduceCtorEq, Int.reduceToNat, Int.reduceNeg, Nat.reduceBEq, simx, ty, upW, loadS_two])
      | fail)
    | ((with_reducible refine onFin ?_); first
      | (refine fin_nil ?_; (first | ((have b := hr.1; first | (rw [lineS_0 (by first | omega | (simp at hq; omega))]; rfl) | (rw [lineS_1 (by first | omega | (simp at hq; omega))]; first | rfl | (rw [← ByteArray.append_assoc]; rfl)))) | (simp_all [fins]; done) | (simp_all [-Int.not_lt, -Int.not_le, fins]; done) | (simp_all [fins]; omega)))
      | fail)
    | (with_reducible refine ite_intro (fun hq => ?_) (fun hq => ?_))
    | (with_reducible refine And.intro (fun hq => ?_) (fun hq => ?_))
    | (with_reducible refine And.intro ?_ ?_)
    | ((fail_if_success (with_reducible refine onCode ?_)); (fail_if_success (with_reducible refine onLps ?_)); (fail_if_success (with_reducible refine onLpd ?_)); (fail_if_success (with_reducible refine onLpe ?_)); (fail_if_success (with_reducible refine onFin ?_)); (fail_if_success (with_reducible refine onCall ?_)); (fail_if_success (with_reducible refine onQcall ?_)); first | (((have b := hr.1; (try simp only [ByteArray.size_append, litSz, mx64]); have s1 := numS_size i.toNat; have s2 := numS_size x.toNat; have s3 := numS_size y.toNat; have s4 := numS_size h.toNat; have s5 := numS_size l.toNat; omega)); done) | omega | (rw [wrap_id (by omega) (by omega)]; omega) | ((have b := hr.1; first | (rw [lineS_0 (by first | omega | (simp at hq; omega))]; rfl) | (rw [lineS_1 (by first | omega | (simp at hq; omega))]; first | rfl | (rw [← ByteArray.append_assoc]; rfl))))))

end Go.Proofs.Ytejahpnbplcgnaa
