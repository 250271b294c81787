/-
Contracts of what draws places, over plain data.
No condition but those that the contracts name.
-/
import Derived.Test.YtgcmahhejblpkaaW4
import Derived.Test.YtgcmahhejblpkaaVZ
namespace Go.Proofs.Ytgcmahhejblpkaa
open Eng
set_option linter.unusedSimpArgs false
set_option linter.unusedVariables false
set_option maxRecDepth 100000 in
set_option maxHeartbeats 4000000 in
theorem placeF_gc {cs : List By} {a s : Int} (hb : byOk cs) (ha : (0 ≤ a ∧ a ≤ 999999000) ∧ cs.length ≤ 1048576) : GC Try.prog 109 [.ptr 0 0 0] [.arr 3 [[.sl 1 (cs.map By.e), vi (a), u64 ( s)]]] (fun r_ hs_ => ∃ (x y ad sd : Int), (a ≤ ad ∧ ad ≤ a + 8) ∧ r_ = .agg [vi x, vi y] ∧ hs_ = [.arr 3 [[.sl 1 (cs.map By.e), vi (ad), u64 ( sd)]]]) := by
  refine GC.of_func [] Try.call109 Try.func109 rfl ⟨by kernel_rfl, by kernel_rfl⟩ (by kernel_rfl) ?_
  rw [Try.results109]
  simp -implicitDefEqProofs (maxSteps := 4000000) only [sim0, sim1, sim2, sim3, sim4, sim5, sim6, sim7, sim8, ↓reduceIte, Nat.reduceEqDiff, Nat.reduceAdd, Nat.reduceMul, Nat.reduceSub, Nat.reduceLT, Nat.reduceLeDiff, reduceCtorEq, Int.reduceToNat, Int.reduceNeg, Nat.reduceBEq, simx, ty, By.row, Ch.row, idxS_map, loadS_map, stoS_map, ← List.map_take, ← List.map_drop]
  repeat' (first
    | ((with_reducible refine onCall ?_); first
      | (apply GC.useP false [0] (pickF_gc ?_ ?_) rfl ?he ?ha (fun h_ => Bool.noConfusion h_) ?_; (case he => (refine ⟨rfl, ?_, trivial⟩; (rw [cur_up]); exact rfl)); (case ha => (repeat' (first | exact arL_nil | refine arL_cons ?_ ?_ | exact ar_v | exact ar_sl | exact ar_ptr rfl | exact ar_own rfl | refine ar_agg ?_))); (all_goals (try (intro r_ hs_ hk_; obtain ⟨v, ad, sd, hc_, rfl, rfl⟩ := hk_; (try simp -implicitDefEqProofs (maxSteps := 4000000) only [sim0, sim1, sim2, sim3, sim4, sim5, sim6, sim7, sim8, ↓reduceIte, Nat.reduceEqDiff, Nat.reduceAdd, Nat.reduceMul, Nat.reduceSub, Nat.reduceLT, Nat.reduceLeDiff, reduceCtorEq, Int.reduceToNat, Int.reduceNeg, Nat.reduceBEq, simx, ty, By.row, Ch.row, idxS_map, loadS_map, stoS_map, ← List.map_take, ← List.map_drop])))))
      | (refine GC.frzM rfl rfl ?_ ?_; (try (focus (first | decide | (simp only [List.length_cons, List.length_nil]; omega)))); rotate_left; (try simp only [List.set_cons_zero, List.set_cons_succ, unL_nil, unL_cons]); (apply GC.useP false [0] (pickF_gc ?_ ?_) rfl ?he ?ha (fun h_ => Bool.noConfusion h_) ?_; (case he => (refine ⟨rfl, ?_, trivial⟩; (rw [cur_up]); exact rfl)); (case ha => (repeat' (first | exact arL_nil | refine arL_cons ?_ ?_ | exact ar_v | exact ar_sl | exact ar_ptr rfl | exact ar_own rfl | refine ar_agg ?_))); (all_goals (try (intro r_ hs_ hk_; obtain ⟨v, ad, sd, hc_, rfl, rfl⟩ := hk_; (try simp -implicitDefEqProofs (maxSteps := 4000000) only [sim0, sim1, sim2, sim3, sim4, sim5, sim6, sim7, sim8, ↓reduceIte, Nat.reduceEqDiff, Nat.reduceAdd, Nat.reduceMul, Nat.reduceSub, Nat.reduceLT, Nat.reduceLeDiff, reduceCtorEq, Int.reduceToNat, Int.reduceNeg, Nat.reduceBEq, simx, ty, By.row, Ch.row, idxS_map, loadS_map, stoS_map, ← List.map_take, ← List.map_drop]))))))
      | (refine GC.frzN rfl rfl ?_ ?_; (try (focus (first | decide | (simp only [List.length_cons, List.length_nil]; omega)))); rotate_left; (try simp only [List.set_cons_zero, List.set_cons_succ, List.drop_zero, unL_nil, unL_cons]); (apply GC.useP false [0] (pickF_gc ?_ ?_) rfl ?he ?ha (fun h_ => Bool.noConfusion h_) ?_; (case he => (refine ⟨rfl, ?_, trivial⟩; (rw [cur_up]); exact rfl)); (case ha => (repeat' (first | exact arL_nil | refine arL_cons ?_ ?_ | exact ar_v | exact ar_sl | exact ar_ptr rfl | exact ar_own rfl | refine ar_agg ?_))); (all_goals (try (intro r_ hs_ hk_; obtain ⟨v, ad, sd, hc_, rfl, rfl⟩ := hk_; (try simp -implicitDefEqProofs (maxSteps := 4000000) only [sim0, sim1, sim2, sim3, sim4, sim5, sim6, sim7, sim8, ↓reduceIte, Nat.reduceEqDiff, Nat.reduceAdd, Nat.reduceMul, Nat.reduceSub, Nat.reduceLT, Nat.reduceLeDiff, reduceCtorEq, Int.reduceToNat, Int.reduceNeg, Nat.reduceBEq, simx, ty, By.row, Ch.row, idxS_map, loadS_map, stoS_map, ← List.map_take, ← List.map_drop]))))))
      | (apply GC.useP false [0] (amongF_gc ?_ ?_ ?_) rfl ?he ?ha (fun h_ => Bool.noConfusion h_) ?_; (case he => (refine ⟨rfl, ?_, trivial⟩; (rw [cur_up]); exact rfl)); (case ha => (repeat' (first | exact arL_nil | refine arL_cons ?_ ?_ | exact ar_v | exact ar_sl | exact ar_ptr rfl | exact ar_own rfl | refine ar_agg ?_))); (all_goals (try (intro r_ hs_ hk_; obtain ⟨v, ad, sd, hc_, rfl, rfl⟩ := hk_; (try simp -implicitDefEqProofs (maxSteps := 4000000) only [sim0, sim1, sim2, sim3, sim4, sim5, sim6, sim7, sim8, ↓reduceIte, Nat.reduceEqDiff, Nat.reduceAdd, Nat.reduceMul, Nat.reduceSub, Nat.reduceLT, Nat.reduceLeDiff, reduceCtorEq, Int.reduceToNat, Int.reduceNeg, Nat.reduceBEq, simx, ty, By.row, Ch.row, idxS_map, loadS_map, stoS_map, ← List.map_take, ← List.map_drop])))))
      | (refine GC.frzM rfl rfl ?_ ?_; (try (focus (first | decide | (simp only [List.length_cons, List.length_nil]; omega)))); rotate_left; (try simp only [List.set_cons_zero, List.set_cons_succ, unL_nil, unL_cons]); (apply GC.useP false [0] (amongF_gc ?_ ?_ ?_) rfl ?he ?ha (fun h_ => Bool.noConfusion h_) ?_; (case he => (refine ⟨rfl, ?_, trivial⟩; (rw [cur_up]); exact rfl)); (case ha => (repeat' (first | exact arL_nil | refine arL_cons ?_ ?_ | exact ar_v | exact ar_sl | exact ar_ptr rfl | exact ar_own rfl | refine ar_agg ?_))); (all_goals (try (intro r_ hs_ hk_; obtain ⟨v, ad, sd, hc_, rfl, rfl⟩ := hk_; (try simp -implicitDefEqProofs (maxSteps := 4000000) only [sim0, sim1, sim2, sim3, sim4, sim5, sim6, sim7, sim8, ↓reduceIte, Nat.reduceEqDiff, Nat.reduceAdd, Nat.reduceMul, Nat.reduceSub, Nat.reduceLT, Nat.reduceLeDiff, reduceCtorEq, Int.reduceToNat, Int.reduceNeg, Nat.reduceBEq, simx, ty, By.row, Ch.row, idxS_map, loadS_map, stoS_map, ← List.map_take, ← List.map_drop]))))))
      | (refine GC.frzN rfl rfl ?_ ?_; (try (focus (first | decide | (simp only [List.length_cons, List.length_nil]; omega)))); rotate_left; (try simp only [List.set_cons_zero, List.set_cons_succ, List.drop_zero, unL_nil, unL_cons]); (apply GC.useP false [0] (amongF_gc ?_ ?_ ?_) rfl ?he ?ha (fun h_ => Bool.noConfusion h_) ?_; (case he => (refine ⟨rfl, ?_, trivial⟩; (rw [cur_up]); exact rfl)); (case ha => (repeat' (first | exact arL_nil | refine arL_cons ?_ ?_ | exact ar_v | exact ar_sl | exact ar_ptr rfl | exact ar_own rfl | refine ar_agg ?_))); (all_goals (try (intro r_ hs_ hk_; obtain ⟨v, ad, sd, hc_, rfl, rfl⟩ := hk_; (try simp -implicitDefEqProofs (maxSteps := 4000000) only [sim0, sim1, sim2, sim3, sim4, sim5, sim6, sim7, sim8, ↓reduceIte, Nat.reduceEqDiff, Nat.reduceAdd, Nat.reduceMul, Nat.reduceSub, Nat.reduceLT, Nat.reduceLeDiff, reduceCtorEq, Int.reduceToNat, Int.reduceNeg, Nat.reduceBEq, simx, ty, By.row, Ch.row, idxS_map, loadS_map, stoS_map, ← List.map_take, ← List.map_drop]))))))
      | fail)
    | ((with_reducible refine onFin ?_); first
      | (refine fin_K (by (try simp -implicitDefEqProofs (maxSteps := 4000000) only [sim0, sim1, sim2, sim3, sim4, sim5, sim6, sim7, sim8, ↓reduceIte, Nat.reduceEqDiff, Nat.reduceAdd, Nat.reduceMul, Nat.reduceSub, Nat.reduceLT, Nat.reduceLeDiff, reduceCtorEq, Int.reduceToNat, Int.reduceNeg, Nat.reduceBEq, simx, ty, fins, funs, idn, ids, List.filter_nil, List.filter_cons, List.map_nil, By.row, Ch.row, idxS_map, loadS_map, stoS_map, ← List.map_take, ← List.map_drop]); first | done | (simp only [plnLL, pln, Value.oneCell', List.all_cons, List.all_nil, plnH, By.pl, Ch.pl, Bool.and_true, Bool.and_self]; done) | rfl) (by rfl) ?_; simp -implicitDefEqProofs (maxSteps := 4000000) only [sim0, sim1, sim2, sim3, sim4, sim5, sim6, sim7, sim8, ↓reduceIte, Nat.reduceEqDiff, Nat.reduceAdd, Nat.reduceMul, Nat.reduceSub, Nat.reduceLT, Nat.reduceLeDiff, reduceCtorEq, Int.reduceToNat, Int.reduceNeg, Nat.reduceBEq, simx, ty, fins, funs, idn, ids, List.filter_nil, List.filter_cons, List.map_nil, By.row, Ch.row, idxS_map, loadS_map, stoS_map, ← List.map_take, ← List.map_drop]; (first | (refine ⟨_, _, _, _, ?_, rfl, rfl⟩; omega) | fail))
      | fail)
    | (with_reducible refine ite_intro (fun hq => ?_) (fun hq => ?_))
    | (with_reducible refine And.intro (fun hq => ?_) (fun hq => ?_))
    | (with_reducible refine And.intro ?_ ?_)
    | ((fail_if_success (with_reducible refine onCode ?_)); (fail_if_success (with_reducible refine onLps ?_)); (fail_if_success (with_reducible refine onLpd ?_)); (fail_if_success (with_reducible refine onLpe ?_)); (fail_if_success (with_reducible refine onFin ?_)); (fail_if_success (with_reducible refine onCall ?_)); (fail_if_success (with_reducible refine onQcall ?_)); first | ((first | exact hb | omega | (simp [List.length_take]; done) | (simp [List.length_take]; omega) | (rw [cut_eq (by omega) (by omega)]; (try simp only [List.length_take, List.length_cons, List.length_nil, Nat.zero_add]); omega)); done) | omega | (rw [wrap_id (by omega) (by omega)]; omega) | (first | (refine ⟨_, _, _, _, ?_, rfl, rfl⟩; omega) | fail)))


theorem lenEq {a b : Nat} (h : ¬ (((a : Int) != (b : Int)) = true)) : a = b := by
  have : (a : Int) = b := by simpa using h
  omega
theorem lenNe {a b : Nat} (h : ((a : Int) != (b : Int)) = true) : a ≠ b := by
  have : ¬ (a : Int) = b := by simpa using h
  omega
/-- two lists are the same, cell by cell -/
def smB {α : Type} [Inhabited α] (p : α → α → Bool) (us vs : List α) : Bool := decide (us.length = vs.length) && allI (fun i => p (us.getD i.toNat default) (vs.getD i.toNat default)) 0 us.length
theorem smB_self {α : Type} [Inhabited α] {p : α → α → Bool} (hp : ∀ a, p a a = true) {us : List α} : smB p us us = true := by
  have : allI (fun i => p (us.getD i.toNat default) (us.getD i.toNat default)) 0 us.length = true := allI_iff.2 fun j _ _ => hp _
  unfold smB; rw [this]; simp
theorem smB_ne {α : Type} [Inhabited α] {p : α → α → Bool} {us vs : List α} (h : us.length ≠ vs.length) : smB p us vs = false := by
  unfold smB; simp [h]
theorem smB_eq {α : Type} [Inhabited α] {p : α → α → Bool} {us vs : List α} (h : us.length = vs.length) : smB p us vs = allI (fun i => p (us.getD i.toNat default) (vs.getD i.toNat default)) 0 us.length := by
  unfold smB; rw [decide_eq_true h, Bool.true_and]

set_option maxRecDepth 100000 in
set_option maxHeartbeats 4000000 in
theorem rBig_gc {cs : List By} : GC Try.prog 47 [.sl 1 (cs.map By.e)] [] (fun r_ hs_ => r_ = vb (decide (65536 < cs.length)) ∧ hs_ = []) := by
  refine GC.of_func [] Try.call47 Try.func47 rfl ⟨by kernel_rfl, by kernel_rfl⟩ (by kernel_rfl) ?_
  rw [Try.results47]
  simp -implicitDefEqProofs (maxSteps := 4000000) only [sim0, sim1, sim2, sim3, sim4, sim5, sim6, sim7, sim8, ↓reduceIte, Nat.reduceEqDiff, Nat.reduceAdd, Nat.reduceMul, Nat.reduceSub, Nat.reduceLT, Nat.reduceLeDiff, reduceCtorEq, Int.reduceToNat, Int.reduceNeg, Nat.reduceBEq, simx, ty, By.row, Ch.row, idxS_map, loadS_map, stoS_map, ← List.map_take, ← List.map_drop]
  repeat' (first
    | ((with_reducible refine onFin ?_); first
      | (refine fin_nil ?_; (first | (simp_all [fins]; done) | (simp_all [-Int.not_lt, -Int.not_le, fins]; done) | (simp_all [fins]; omega)))
      | fail)
    | (with_reducible refine ite_intro (fun hq => ?_) (fun hq => ?_))
    | (with_reducible refine And.intro (fun hq => ?_) (fun hq => ?_))
    | (with_reducible refine And.intro ?_ ?_)
    | ((fail_if_success (with_reducible refine onCode ?_)); (fail_if_success (with_reducible refine onLps ?_)); (fail_if_success (with_reducible refine onLpd ?_)); (fail_if_success (with_reducible refine onLpe ?_)); (fail_if_success (with_reducible refine onFin ?_)); (fail_if_success (with_reducible refine onCall ?_)); (fail_if_success (with_reducible refine onQcall ?_)); first | omega | (rw [wrap_id (by omega) (by omega)]; omega) | (simp_all; done)))

end Go.Proofs.Ytgcmahhejblpkaa
