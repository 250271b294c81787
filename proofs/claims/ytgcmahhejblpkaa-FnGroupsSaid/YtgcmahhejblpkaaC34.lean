/-
What the law FnGroups draws and calls, and plain laws on groups and their plots.
No condition but those that the contracts name.
-/
import Derived.Test.YtgcmahhejblpkaaC31
import Derived.Test.YtgcmahhejblpkaaC16
import Derived.Test.YtgcmahhejblpkaaC20
namespace Go.Proofs.Ytgcmahhejblpkaa
open Eng
set_option linter.unusedSimpArgs false
set_option linter.unusedVariables false
set_option maxRecDepth 100000 in
set_option maxHeartbeats 4000000 in
theorem drawGS_gc {cs : List By} (hb : byOk cs ∧ cs.length ≤ 1048576) : GC Try.prog 48 [.sl 1 (cs.map By.e)] [] (fun r_ hs_ => ∃ (ss : List Sgt) (w r : Int), (ss.length ≤ 22) ∧ r_ = .tup [.sl 5 (ss.map Sgt.e), vi w, vi r] ∧ hs_ = []) := by
  refine GC.of_func [] Try.call48 Try.func48 rfl ⟨by kernel_rfl, by kernel_rfl⟩ (by kernel_rfl) ?_
  rw [Try.results48]
  simp -implicitDefEqProofs (maxSteps := 4000000) only [sim0, sim1, sim2, sim3, sim4, sim5, sim6, sim7, sim8, ↓reduceIte, Nat.reduceEqDiff, Nat.reduceAdd, Nat.reduceMul, Nat.reduceSub, Nat.reduceLT, Nat.reduceLeDiff, reduceCtorEq, Int.reduceToNat, Int.reduceNeg, Nat.reduceBEq, simx, ty, By.row, Ch.row, Sgt.row, It.row, idxS_map, loadS_map, stoS_map, ← List.map_take, ← List.map_drop]
  repeat' (first
    | ((with_reducible refine onCall ?_); first
      | (apply GC.useP false [0] (sightF_gc ?_ ?_) rfl ?he ?ha (fun h_ => Bool.noConfusion h_) ?_; (case he => (refine ⟨rfl, ?_, trivial⟩; (rw [cur_up]); exact rfl)); (case ha => (repeat' (first | exact arL_nil | refine arL_cons ?_ ?_ | exact ar_v | exact ar_sl | exact ar_ptr rfl | exact ar_own rfl | refine ar_agg ?_))); (all_goals (try (intro r_ hs_ hk_; obtain ⟨ss, ad, sd, hc_, rfl, rfl⟩ := hk_; (try simp -implicitDefEqProofs (maxSteps := 4000000) only [sim0, sim1, sim2, sim3, sim4, sim5, sim6, sim7, sim8, ↓reduceIte, Nat.reduceEqDiff, Nat.reduceAdd, Nat.reduceMul, Nat.reduceSub, Nat.reduceLT, Nat.reduceLeDiff, reduceCtorEq, Int.reduceToNat, Int.reduceNeg, Nat.reduceBEq, simx, ty, By.row, Ch.row, Sgt.row, It.row, idxS_map, loadS_map, stoS_map, ← List.map_take, ← List.map_drop])))))
      | (refine GC.frzM rfl rfl ?_ ?_; (try (focus (first | decide | (simp only [List.length_cons, List.length_nil]; omega)))); rotate_left; (try simp only [List.set_cons_zero, List.set_cons_succ, unL_nil, unL_cons]); (apply GC.useP false [0] (sightF_gc ?_ ?_) rfl ?he ?ha (fun h_ => Bool.noConfusion h_) ?_; (case he => (refine ⟨rfl, ?_, trivial⟩; (rw [cur_up]); exact rfl)); (case ha => (repeat' (first | exact arL_nil | refine arL_cons ?_ ?_ | exact ar_v | exact ar_sl | exact ar_ptr rfl | exact ar_own rfl | refine ar_agg ?_))); (all_goals (try (intro r_ hs_ hk_; obtain ⟨ss, ad, sd, hc_, rfl, rfl⟩ := hk_; (try simp -implicitDefEqProofs (maxSteps := 4000000) only [sim0, sim1, sim2, sim3, sim4, sim5, sim6, sim7, sim8, ↓reduceIte, Nat.reduceEqDiff, Nat.reduceAdd, Nat.reduceMul, Nat.reduceSub, Nat.reduceLT, Nat.reduceLeDiff, reduceCtorEq, Int.reduceToNat, Int.reduceNeg, Nat.reduceBEq, simx, ty, By.row, Ch.row, Sgt.row, It.row, idxS_map, loadS_map, stoS_map, ← List.map_take, ← List.map_drop]))))))
      | (refine GC.frzN rfl rfl ?_ ?_; (try (focus (first | decide | (simp only [List.length_cons, List.length_nil]; omega)))); rotate_left; (try simp only [List.set_cons_zero, List.set_cons_succ, List.drop_zero, unL_nil, unL_cons]); (apply GC.useP false [0] (sightF_gc ?_ ?_) rfl ?he ?ha (fun h_ => Bool.noConfusion h_) ?_; (case he => (refine ⟨rfl, ?_, trivial⟩; (rw [cur_up]); exact rfl)); (case ha => (repeat' (first | exact arL_nil | refine arL_cons ?_ ?_ | exact ar_v | exact ar_sl | exact ar_ptr rfl | exact ar_own rfl | refine ar_agg ?_))); (all_goals (try (intro r_ hs_ hk_; obtain ⟨ss, ad, sd, hc_, rfl, rfl⟩ := hk_; (try simp -implicitDefEqProofs (maxSteps := 4000000) only [sim0, sim1, sim2, sim3, sim4, sim5, sim6, sim7, sim8, ↓reduceIte, Nat.reduceEqDiff, Nat.reduceAdd, Nat.reduceMul, Nat.reduceSub, Nat.reduceLT, Nat.reduceLeDiff, reduceCtorEq, Int.reduceToNat, Int.reduceNeg, Nat.reduceBEq, simx, ty, By.row, Ch.row, Sgt.row, It.row, idxS_map, loadS_map, stoS_map, ← List.map_take, ← List.map_drop]))))))
      | (apply GC.useP false [0] (windowF_gc ?_ ?_) rfl ?he ?ha (fun h_ => Bool.noConfusion h_) ?_; (case he => (refine ⟨rfl, ?_, trivial⟩; (rw [cur_up]); exact rfl)); (case ha => (repeat' (first | exact arL_nil | refine arL_cons ?_ ?_ | exact ar_v | exact ar_sl | exact ar_ptr rfl | exact ar_own rfl | refine ar_agg ?_))); (all_goals (try (intro r_ hs_ hk_; obtain ⟨v, w, ad, sd, hc_, rfl, rfl⟩ := hk_; (try simp -implicitDefEqProofs (maxSteps := 4000000) only [sim0, sim1, sim2, sim3, sim4, sim5, sim6, sim7, sim8, ↓reduceIte, Nat.reduceEqDiff, Nat.reduceAdd, Nat.reduceMul, Nat.reduceSub, Nat.reduceLT, Nat.reduceLeDiff, reduceCtorEq, Int.reduceToNat, Int.reduceNeg, Nat.reduceBEq, simx, ty, By.row, Ch.row, Sgt.row, It.row, idxS_map, loadS_map, stoS_map, ← List.map_take, ← List.map_drop])))))
      | (refine GC.frzM rfl rfl ?_ ?_; (try (focus (first | decide | (simp only [List.length_cons, List.length_nil]; omega)))); rotate_left; (try simp only [List.set_cons_zero, List.set_cons_succ, unL_nil, unL_cons]); (apply GC.useP false [0] (windowF_gc ?_ ?_) rfl ?he ?ha (fun h_ => Bool.noConfusion h_) ?_; (case he => (refine ⟨rfl, ?_, trivial⟩; (rw [cur_up]); exact rfl)); (case ha => (repeat' (first | exact arL_nil | refine arL_cons ?_ ?_ | exact ar_v | exact ar_sl | exact ar_ptr rfl | exact ar_own rfl | refine ar_agg ?_))); (all_goals (try (intro r_ hs_ hk_; obtain ⟨v, w, ad, sd, hc_, rfl, rfl⟩ := hk_; (try simp -implicitDefEqProofs (maxSteps := 4000000) only [sim0, sim1, sim2, sim3, sim4, sim5, sim6, sim7, sim8, ↓reduceIte, Nat.reduceEqDiff, Nat.reduceAdd, Nat.reduceMul, Nat.reduceSub, Nat.reduceLT, Nat.reduceLeDiff, reduceCtorEq, Int.reduceToNat, Int.reduceNeg, Nat.reduceBEq, simx, ty, By.row, Ch.row, Sgt.row, It.row, idxS_map, loadS_map, stoS_map, ← List.map_take, ← List.map_drop]))))))
      | (refine GC.frzN rfl rfl ?_ ?_; (try (focus (first | decide | (simp only [List.length_cons, List.length_nil]; omega)))); rotate_left; (try simp only [List.set_cons_zero, List.set_cons_succ, List.drop_zero, unL_nil, unL_cons]); (apply GC.useP false [0] (windowF_gc ?_ ?_) rfl ?he ?ha (fun h_ => Bool.noConfusion h_) ?_; (case he => (refine ⟨rfl, ?_, trivial⟩; (rw [cur_up]); exact rfl)); (case ha => (repeat' (first | exact arL_nil | refine arL_cons ?_ ?_ | exact ar_v | exact ar_sl | exact ar_ptr rfl | exact ar_own rfl | refine ar_agg ?_))); (all_goals (try (intro r_ hs_ hk_; obtain ⟨v, w, ad, sd, hc_, rfl, rfl⟩ := hk_; (try simp -implicitDefEqProofs (maxSteps := 4000000) only [sim0, sim1, sim2, sim3, sim4, sim5, sim6, sim7, sim8, ↓reduceIte, Nat.reduceEqDiff, Nat.reduceAdd, Nat.reduceMul, Nat.reduceSub, Nat.reduceLT, Nat.reduceLeDiff, reduceCtorEq, Int.reduceToNat, Int.reduceNeg, Nat.reduceBEq, simx, ty, By.row, Ch.row, Sgt.row, It.row, idxS_map, loadS_map, stoS_map, ← List.map_take, ← List.map_drop]))))))
      | fail)
    | ((with_reducible refine onFin ?_); first
      | (refine fin_K (by (try simp -implicitDefEqProofs (maxSteps := 4000000) only [sim0, sim1, sim2, sim3, sim4, sim5, sim6, sim7, sim8, ↓reduceIte, Nat.reduceEqDiff, Nat.reduceAdd, Nat.reduceMul, Nat.reduceSub, Nat.reduceLT, Nat.reduceLeDiff, reduceCtorEq, Int.reduceToNat, Int.reduceNeg, Nat.reduceBEq, simx, ty, fins, funs, idn, ids, List.filter_nil, List.filter_cons, List.map_nil, By.row, Ch.row, Sgt.row, It.row, idxS_map, loadS_map, stoS_map, ← List.map_take, ← List.map_drop]); first | done | (simp only [plnLL, pln, Value.oneCell', List.all_cons, List.all_nil, plnH, By.pl, Ch.pl, Sgt.pl, It.pl, Bool.and_true, Bool.and_self]; done) | rfl) (by rfl) ?_; simp -implicitDefEqProofs (maxSteps := 4000000) only [sim0, sim1, sim2, sim3, sim4, sim5, sim6, sim7, sim8, ↓reduceIte, Nat.reduceEqDiff, Nat.reduceAdd, Nat.reduceMul, Nat.reduceSub, Nat.reduceLT, Nat.reduceLeDiff, reduceCtorEq, Int.reduceToNat, Int.reduceNeg, Nat.reduceBEq, simx, ty, fins, funs, idn, ids, List.filter_nil, List.filter_cons, List.map_nil, By.row, Ch.row, Sgt.row, It.row, idxS_map, loadS_map, stoS_map, ← List.map_take, ← List.map_drop]; (first | (refine ⟨_, _, _, ?_, rfl⟩; omega) | fail))
      | fail)
    | (with_reducible refine ite_intro (fun hq => ?_) (fun hq => ?_))
    | (with_reducible refine And.intro (fun hq => ?_) (fun hq => ?_))
    | (with_reducible refine And.intro ?_ ?_)
    | ((fail_if_success (with_reducible refine onCode ?_)); (fail_if_success (with_reducible refine onLps ?_)); (fail_if_success (with_reducible refine onLpd ?_)); (fail_if_success (with_reducible refine onLpe ?_)); (fail_if_success (with_reducible refine onFin ?_)); (fail_if_success (with_reducible refine onCall ?_)); (fail_if_success (with_reducible refine onQcall ?_)); first | ((first | exact hb.1 | exact hb | omega); done) | omega | (rw [wrap_id (by omega) (by omega)]; omega) | (first | (refine ⟨_, _, _, ?_, rfl⟩; omega) | fail)))

set_option maxRecDepth 100000 in
set_option maxHeartbeats 4000000 in
theorem drawSO_gc {cs : List By} (hb : byOk cs ∧ cs.length ≤ 1048576) : GC Try.prog 51 [.sl 1 (cs.map By.e)] [] (fun r_ hs_ => ∃ (ss : List Sgt) (w r g : Int), (ss.length ≤ 22) ∧ r_ = .tup [.sl 5 (ss.map Sgt.e), vi w, vi r, vi g] ∧ hs_ = []) := by
  refine GC.of_func [] Try.call51 Try.func51 rfl ⟨by kernel_rfl, by kernel_rfl⟩ (by kernel_rfl) ?_
  rw [Try.results51]
  simp -implicitDefEqProofs (maxSteps := 4000000) only [sim0, sim1, sim2, sim3, sim4, sim5, sim6, sim7, sim8, ↓reduceIte, Nat.reduceEqDiff, Nat.reduceAdd, Nat.reduceMul, Nat.reduceSub, Nat.reduceLT, Nat.reduceLeDiff, reduceCtorEq, Int.reduceToNat, Int.reduceNeg, Nat.reduceBEq, simx, ty, By.row, Ch.row, Sgt.row, It.row, idxS_map, loadS_map, stoS_map, ← List.map_take, ← List.map_drop]
  repeat' (first
    | ((with_reducible refine onCall ?_); first
      | (apply GC.useP false [0] (sightF_gc ?_ ?_) rfl ?he ?ha (fun h_ => Bool.noConfusion h_) ?_; (case he => (refine ⟨rfl, ?_, trivial⟩; (rw [cur_up]); exact rfl)); (case ha => (repeat' (first | exact arL_nil | refine arL_cons ?_ ?_ | exact ar_v | exact ar_sl | exact ar_ptr rfl | exact ar_own rfl | refine ar_agg ?_))); (all_goals (try (intro r_ hs_ hk_; obtain ⟨ss, ad, sd, hc_, rfl, rfl⟩ := hk_; (try simp -implicitDefEqProofs (maxSteps := 4000000) only [sim0, sim1, sim2, sim3, sim4, sim5, sim6, sim7, sim8, ↓reduceIte, Nat.reduceEqDiff, Nat.reduceAdd, Nat.reduceMul, Nat.reduceSub, Nat.reduceLT, Nat.reduceLeDiff, reduceCtorEq, Int.reduceToNat, Int.reduceNeg, Nat.reduceBEq, simx, ty, By.row, Ch.row, Sgt.row, It.row, idxS_map, loadS_map, stoS_map, ← List.map_take, ← List.map_drop])))))
      | (refine GC.frzM rfl rfl ?_ ?_; (try (focus (first | decide | (simp only [List.length_cons, List.length_nil]; omega)))); rotate_left; (try simp only [List.set_cons_zero, List.set_cons_succ, unL_nil, unL_cons]); (apply GC.useP false [0] (sightF_gc ?_ ?_) rfl ?he ?ha (fun h_ => Bool.noConfusion h_) ?_; (case he => (refine ⟨rfl, ?_, trivial⟩; (rw [cur_up]); exact rfl)); (case ha => (repeat' (first | exact arL_nil | refine arL_cons ?_ ?_ | exact ar_v | exact ar_sl | exact ar_ptr rfl | exact ar_own rfl | refine ar_agg ?_))); (all_goals (try (intro r_ hs_ hk_; obtain ⟨ss, ad, sd, hc_, rfl, rfl⟩ := hk_; (try simp -implicitDefEqProofs (maxSteps := 4000000) only [sim0, sim1, sim2, sim3, sim4, sim5, sim6, sim7, sim8, ↓reduceIte, Nat.reduceEqDiff, Nat.reduceAdd, Nat.reduceMul, Nat.reduceSub, Nat.reduceLT, Nat.reduceLeDiff, reduceCtorEq, Int.reduceToNat, Int.reduceNeg, Nat.reduceBEq, simx, ty, By.row, Ch.row, Sgt.row, It.row, idxS_map, loadS_map, stoS_map, ← List.map_take, ← List.map_drop]))))))
      | (refine GC.frzN rfl rfl ?_ ?_; (try (focus (first | decide | (simp only [List.length_cons, List.length_nil]; omega)))); rotate_left; (try simp only [List.set_cons_zero, List.set_cons_succ, List.drop_zero, unL_nil, unL_cons]); (apply GC.useP false [0] (sightF_gc ?_ ?_) rfl ?he ?ha (fun h_ => Bool.noConfusion h_) ?_; (case he => (refine ⟨rfl, ?_, trivial⟩; (rw [cur_up]); exact rfl)); (case ha => (repeat' (first | exact arL_nil | refine arL_cons ?_ ?_ | exact ar_v | exact ar_sl | exact ar_ptr rfl | exact ar_own rfl | refine ar_agg ?_))); (all_goals (try (intro r_ hs_ hk_; obtain ⟨ss, ad, sd, hc_, rfl, rfl⟩ := hk_; (try simp -implicitDefEqProofs (maxSteps := 4000000) only [sim0, sim1, sim2, sim3, sim4, sim5, sim6, sim7, sim8, ↓reduceIte, Nat.reduceEqDiff, Nat.reduceAdd, Nat.reduceMul, Nat.reduceSub, Nat.reduceLT, Nat.reduceLeDiff, reduceCtorEq, Int.reduceToNat, Int.reduceNeg, Nat.reduceBEq, simx, ty, By.row, Ch.row, Sgt.row, It.row, idxS_map, loadS_map, stoS_map, ← List.map_take, ← List.map_drop]))))))
      | (apply GC.useP false [0] (windowF_gc ?_ ?_) rfl ?he ?ha (fun h_ => Bool.noConfusion h_) ?_; (case he => (refine ⟨rfl, ?_, trivial⟩; (rw [cur_up]); exact rfl)); (case ha => (repeat' (first | exact arL_nil | refine arL_cons ?_ ?_ | exact ar_v | exact ar_sl | exact ar_ptr rfl | exact ar_own rfl | refine ar_agg ?_))); (all_goals (try (intro r_ hs_ hk_; obtain ⟨v, w, ad, sd, hc_, rfl, rfl⟩ := hk_; (try simp -implicitDefEqProofs (maxSteps := 4000000) only [sim0, sim1, sim2, sim3, sim4, sim5, sim6, sim7, sim8, ↓reduceIte, Nat.reduceEqDiff, Nat.reduceAdd, Nat.reduceMul, Nat.reduceSub, Nat.reduceLT, Nat.reduceLeDiff, reduceCtorEq, Int.reduceToNat, Int.reduceNeg, Nat.reduceBEq, simx, ty, By.row, Ch.row, Sgt.row, It.row, idxS_map, loadS_map, stoS_map, ← List.map_take, ← List.map_drop])))))
      | (refine GC.frzM rfl rfl ?_ ?_; (try (focus (first | decide | (simp only [List.length_cons, List.length_nil]; omega)))); rotate_left; (try simp only [List.set_cons_zero, List.set_cons_succ, unL_nil, unL_cons]); (apply GC.useP false [0] (windowF_gc ?_ ?_) rfl ?he ?ha (fun h_ => Bool.noConfusion h_) ?_; (case he => (refine ⟨rfl, ?_, trivial⟩; (rw [cur_up]); exact rfl)); (case ha => (repeat' (first | exact arL_nil | refine arL_cons ?_ ?_ | exact ar_v | exact ar_sl | exact ar_ptr rfl | exact ar_own rfl | refine ar_agg ?_))); (all_goals (try (intro r_ hs_ hk_; obtain ⟨v, w, ad, sd, hc_, rfl, rfl⟩ := hk_; (try simp -implicitDefEqProofs (maxSteps := 4000000) only [sim0, sim1, sim2, sim3, sim4, sim5, sim6, sim7, sim8, ↓reduceIte, Nat.reduceEqDiff, Nat.reduceAdd, Nat.reduceMul, Nat.reduceSub, Nat.reduceLT, Nat.reduceLeDiff, reduceCtorEq, Int.reduceToNat, Int.reduceNeg, Nat.reduceBEq, simx, ty, By.row, Ch.row, Sgt.row, It.row, idxS_map, loadS_map, stoS_map, ← List.map_take, ← List.map_drop]))))))
      | (refine GC.frzN rfl rfl ?_ ?_; (try (focus (first | decide | (simp only [List.length_cons, List.length_nil]; omega)))); rotate_left; (try simp only [List.set_cons_zero, List.set_cons_succ, List.drop_zero, unL_nil, unL_cons]); (apply GC.useP false [0] (windowF_gc ?_ ?_) rfl ?he ?ha (fun h_ => Bool.noConfusion h_) ?_; (case he => (refine ⟨rfl, ?_, trivial⟩; (rw [cur_up]); exact rfl)); (case ha => (repeat' (first | exact arL_nil | refine arL_cons ?_ ?_ | exact ar_v | exact ar_sl | exact ar_ptr rfl | exact ar_own rfl | refine ar_agg ?_))); (all_goals (try (intro r_ hs_ hk_; obtain ⟨v, w, ad, sd, hc_, rfl, rfl⟩ := hk_; (try simp -implicitDefEqProofs (maxSteps := 4000000) only [sim0, sim1, sim2, sim3, sim4, sim5, sim6, sim7, sim8, ↓reduceIte, Nat.reduceEqDiff, Nat.reduceAdd, Nat.reduceMul, Nat.reduceSub, Nat.reduceLT, Nat.reduceLeDiff, reduceCtorEq, Int.reduceToNat, Int.reduceNeg, Nat.reduceBEq, simx, ty, By.row, Ch.row, Sgt.row, It.row, idxS_map, loadS_map, stoS_map, ← List.map_take, ← List.map_drop]))))))
      | (apply GC.useP false [0] (amongF_gc ?_ ?_ ?_) rfl ?he ?ha (fun h_ => Bool.noConfusion h_) ?_; (case he => (refine ⟨rfl, ?_, trivial⟩; (rw [cur_up]); exact rfl)); (case ha => (repeat' (first | exact arL_nil | refine arL_cons ?_ ?_ | exact ar_v | exact ar_sl | exact ar_ptr rfl | exact ar_own rfl | refine ar_agg ?_))); (all_goals (try (intro r_ hs_ hk_; obtain ⟨v, ad, sd, hc_, rfl, rfl⟩ := hk_; (try simp -implicitDefEqProofs (maxSteps := 4000000) only [sim0, sim1, sim2, sim3, sim4, sim5, sim6, sim7, sim8, ↓reduceIte, Nat.reduceEqDiff, Nat.reduceAdd, Nat.reduceMul, Nat.reduceSub, Nat.reduceLT, Nat.reduceLeDiff, reduceCtorEq, Int.reduceToNat, Int.reduceNeg, Nat.reduceBEq, simx, ty, By.row, Ch.row, Sgt.row, It.row, idxS_map, loadS_map, stoS_map, ← List.map_take, ← List.map_drop])))))
      | (refine GC.frzM rfl rfl ?_ ?_; (try (focus (first | decide | (simp only [List.length_cons, List.length_nil]; omega)))); rotate_left; (try simp only [List.set_cons_zero, List.set_cons_succ, unL_nil, unL_cons]); (apply GC.useP false [0] (amongF_gc ?_ ?_ ?_) rfl ?he ?ha (fun h_ => Bool.noConfusion h_) ?_; (case he => (refine ⟨rfl, ?_, trivial⟩; (rw [cur_up]); exact rfl)); (case ha => (repeat' (first | exact arL_nil | refine arL_cons ?_ ?_ | exact ar_v | exact ar_sl | exact ar_ptr rfl | exact ar_own rfl | refine ar_agg ?_))); (all_goals (try (intro r_ hs_ hk_; obtain ⟨v, ad, sd, hc_, rfl, rfl⟩ := hk_; (try simp -implicitDefEqProofs (maxSteps := 4000000) only [sim0, sim1, sim2, sim3, sim4, sim5, sim6, sim7, sim8, ↓reduceIte, Nat.reduceEqDiff, Nat.reduceAdd, Nat.reduceMul, Nat.reduceSub, Nat.reduceLT, Nat.reduceLeDiff, reduceCtorEq, Int.reduceToNat, Int.reduceNeg, Nat.reduceBEq, simx, ty, By.row, Ch.row, Sgt.row, It.row, idxS_map, loadS_map, stoS_map, ← List.map_take, ← List.map_drop]))))))
      | (refine GC.frzN rfl rfl ?_ ?_; (try (focus (first | decide | (simp only [List.length_cons, List.length_nil]; omega)))); rotate_left; (try simp only [List.set_cons_zero, List.set_cons_succ, List.drop_zero, unL_nil, unL_cons]); (apply GC.useP false [0] (amongF_gc ?_ ?_ ?_) rfl ?he ?ha (fun h_ => Bool.noConfusion h_) ?_; (case he => (refine ⟨rfl, ?_, trivial⟩; (rw [cur_up]); exact rfl)); (case ha => (repeat' (first | exact arL_nil | refine arL_cons ?_ ?_ | exact ar_v | exact ar_sl | exact ar_ptr rfl | exact ar_own rfl | refine ar_agg ?_))); (all_goals (try (intro r_ hs_ hk_; obtain ⟨v, ad, sd, hc_, rfl, rfl⟩ := hk_; (try simp -implicitDefEqProofs (maxSteps := 4000000) only [sim0, sim1, sim2, sim3, sim4, sim5, sim6, sim7, sim8, ↓reduceIte, Nat.reduceEqDiff, Nat.reduceAdd, Nat.reduceMul, Nat.reduceSub, Nat.reduceLT, Nat.reduceLeDiff, reduceCtorEq, Int.reduceToNat, Int.reduceNeg, Nat.reduceBEq, simx, ty, By.row, Ch.row, Sgt.row, It.row, idxS_map, loadS_map, stoS_map, ← List.map_take, ← List.map_drop]))))))
      | fail)
    | ((with_reducible refine onFin ?_); first
      | (refine fin_K (by (try simp -implicitDefEqProofs (maxSteps := 4000000) only [sim0, sim1, sim2, sim3, sim4, sim5, sim6, sim7, sim8, ↓reduceIte, Nat.reduceEqDiff, Nat.reduceAdd, Nat.reduceMul, Nat.reduceSub, Nat.reduceLT, Nat.reduceLeDiff, reduceCtorEq, Int.reduceToNat, Int.reduceNeg, Nat.reduceBEq, simx, ty, fins, funs, idn, ids, List.filter_nil, List.filter_cons, List.map_nil, By.row, Ch.row, Sgt.row, It.row, idxS_map, loadS_map, stoS_map, ← List.map_take, ← List.map_drop]); first | done | (simp only [plnLL, pln, Value.oneCell', List.all_cons, List.all_nil, plnH, By.pl, Ch.pl, Sgt.pl, It.pl, Bool.and_true, Bool.and_self]; done) | rfl) (by rfl) ?_; simp -implicitDefEqProofs (maxSteps := 4000000) only [sim0, sim1, sim2, sim3, sim4, sim5, sim6, sim7, sim8, ↓reduceIte, Nat.reduceEqDiff, Nat.reduceAdd, Nat.reduceMul, Nat.reduceSub, Nat.reduceLT, Nat.reduceLeDiff, reduceCtorEq, Int.reduceToNat, Int.reduceNeg, Nat.reduceBEq, simx, ty, fins, funs, idn, ids, List.filter_nil, List.filter_cons, List.map_nil, By.row, Ch.row, Sgt.row, It.row, idxS_map, loadS_map, stoS_map, ← List.map_take, ← List.map_drop]; (first | (refine ⟨_, _, _, _, ?_, rfl⟩; omega) | fail))
      | fail)
    | (with_reducible refine ite_intro (fun hq => ?_) (fun hq => ?_))
    | (with_reducible refine And.intro (fun hq => ?_) (fun hq => ?_))
    | (with_reducible refine And.intro ?_ ?_)
    | ((fail_if_success (with_reducible refine onCode ?_)); (fail_if_success (with_reducible refine onLps ?_)); (fail_if_success (with_reducible refine onLpd ?_)); (fail_if_success (with_reducible refine onLpe ?_)); (fail_if_success (with_reducible refine onFin ?_)); (fail_if_success (with_reducible refine onCall ?_)); (fail_if_success (with_reducible refine onQcall ?_)); first | ((first | exact hb.1 | exact hb | omega | (simp [List.length_take]; done) | (simp [List.length_take]; omega)); done) | omega | (rw [wrap_id (by omega) (by omega)]; omega) | (first | (refine ⟨_, _, _, _, ?_, rfl⟩; omega) | fail)))

def itB (a b : It) : Bool := a.n == b.n
theorem itB_self (a : It) : itB a a = true := by simp [itB]
set_option maxRecDepth 100000 in
set_option maxHeartbeats 4000000 in
theorem rInts_gc {us vs : List It} (hl : us.length ≤ 1048576 ∧ vs.length ≤ 1048576) : GC Try.prog 49 [.sl 1 (us.map It.e), .sl 1 (vs.map It.e)] [] (fun r_ hs_ => r_ = vb (smB itB us vs) ∧ hs_ = []) := by
  refine GC.of_func [(6, .val 0 (.val 1 (.val 2 (.val 3 (.val 4 (.val 5 (.val 6 (.val 7 (.val 8 (.done))))))))))] Try.call49 Try.func49 rfl ⟨by kernel_rfl, by kernel_rfl⟩ (by kernel_rfl) ?_
  rw [Try.results49]
  simp -implicitDefEqProofs (maxSteps := 4000000) only [sim0, sim1, sim2, sim3, sim4, sim5, sim6, sim7, sim8, ↓reduceIte, Nat.reduceEqDiff, Nat.reduceAdd, Nat.reduceMul, Nat.reduceSub, Nat.reduceLT, Nat.reduceLeDiff, reduceCtorEq, Int.reduceToNat, Int.reduceNeg, Nat.reduceBEq, simx, ty, By.row, Ch.row, Sgt.row, It.row, idxS_map, loadS_map, stoS_map, ← List.map_take, ← List.map_drop]
  repeat' (first
    | ((with_reducible refine onCode ?_); first
      | (refine onLid 4 ?_ (by rfl); refine acode_prune [0, 1, 4, 5] ?_; simp only [prn_cons, prn_nil, lk_cons, lk_emp, Nat.reduceEqDiff, ↓reduceIte]; refine acode_loopS2 4 (by rfl) (α := Int) (fun i => [(5, vi i)]) [4, 11, 12, 13, 14, 15, 16, 17, 18, 19, 20, 21, 22, 23, 24, 25] [4] (by kernel_rfl) (fun i => (0 ≤ i ∧ i ≤ us.length) ∧ us.length = vs.length ∧ smB itB us vs = allI (fun i => itB (us.getD i.toNat default) (vs.getD i.toNat default)) i us.length) (fun i => (us.length - i).toNat) (0) ?_ (by (try simp only []) <;> first | (exact ⟨by omega, lenEq hq, smB_eq (lenEq hq)⟩) | fail) ?_; (focus ((try dsimp only []); (repeat' (first | exact agr_none | exact lk_hd | refine lk_tl (by decide) ?_ | refine agr_one ?_ ?_)); done)); rintro i hJ; (try simp only [] at hJ); have hJ4 := hJ; simp -implicitDefEqProofs (maxSteps := 4000000) only [sim0, sim1, sim2, sim3, sim4, sim5, sim6, sim7, sim8, ↓reduceIte, Nat.reduceEqDiff, Nat.reduceAdd, Nat.reduceMul, Nat.reduceSub, Nat.reduceLT, Nat.reduceLeDiff, reduceCtorEq, Int.reduceToNat, Int.reduceNeg, Nat.reduceBEq, simx, ty, By.row, Ch.row, Sgt.row, It.row, idxS_map, loadS_map, stoS_map, ← List.map_take, ← List.map_drop])
      | fail)
    | ((with_reducible refine onLps ?_); first
      | (refine lps2_end (α := Int) (mods := (fun i => [(5, vi i)])) _ (by (try dsimp only []); simp only [agr_cons, agr_nil, lk_cons, lk_emp, Nat.reduceEqDiff, ↓reduceIte, and_true]; repeat' (first | rfl | apply And.intro)) (by unfold undK; kernel_rfl) ?_ ?_ <;> ((try simp only []); (have e : IntKind.i64.wrap (i + 1) = i + 1 := wrap_id (by omega) (by omega); rw [e]; obtain ⟨hb, hm, hg⟩ := hJ; first | omega | exact ⟨by omega, hm, allI_go rfl (by omega) (by simpa [itB] using hq) hg⟩)))
      | fail)
    | ((with_reducible refine onFin ?_); first
      | (refine fin_nil ?_; (first | (first | (obtain ⟨hb, hm, hg⟩ := hJ; rw [hg]; first | (rw [allI_end (by omega)]; rfl) | (rw [allI_no (by omega) (by simpa [itB] using hq)]; rfl)) | (rw [smB_ne (lenNe hq)]; rfl)) | (simp_all [fins]; done) | (simp_all [-Int.not_lt, -Int.not_le, fins]; done) | (simp_all [fins]; omega)))
      | fail)
    | (with_reducible refine ite_intro (fun hq => ?_) (fun hq => ?_))
    | (with_reducible refine And.intro (fun hq => ?_) (fun hq => ?_))
    | (with_reducible refine And.intro ?_ ?_)
    | ((fail_if_success (with_reducible refine onCode ?_)); (fail_if_success (with_reducible refine onLps ?_)); (fail_if_success (with_reducible refine onLpd ?_)); (fail_if_success (with_reducible refine onLpe ?_)); (fail_if_success (with_reducible refine onFin ?_)); (fail_if_success (with_reducible refine onCall ?_)); (fail_if_success (with_reducible refine onQcall ?_)); first | omega | (rw [wrap_id (by omega) (by omega)]; omega) | (first | (obtain ⟨hb, hm, hg⟩ := hJ; rw [hg]; first | (rw [allI_end (by omega)]; rfl) | (rw [allI_no (by omega) (by simpa [itB] using hq)]; rfl)) | (rw [smB_ne (lenNe hq)]; rfl))))

theorem smI_self {us : List It} : smB itB us us = true := smB_self itB_self
set_option maxRecDepth 100000 in
set_option maxHeartbeats 4000000 in
theorem rPlot_gc {s a x y : Int} {ts : List It} (hl : ts.length ≤ 1048576) : GC Try.prog 50 [.agg [vi s, vi a, vi x, vi y, .sl 1 (ts.map It.e)], .agg [vi s, vi a, vi x, vi y, .sl 1 (ts.map It.e)]] [] (fun r_ hs_ => r_ = vb true ∧ hs_ = []) := by
  refine GC.of_func [] Try.call50 Try.func50 rfl ⟨by kernel_rfl, by kernel_rfl⟩ (by kernel_rfl) ?_
  rw [Try.results50]
  simp -implicitDefEqProofs (maxSteps := 4000000) only [sim0, sim1, sim2, sim3, sim4, sim5, sim6, sim7, sim8, ↓reduceIte, Nat.reduceEqDiff, Nat.reduceAdd, Nat.reduceMul, Nat.reduceSub, Nat.reduceLT, Nat.reduceLeDiff, reduceCtorEq, Int.reduceToNat, Int.reduceNeg, Nat.reduceBEq, simx, ty, By.row, Ch.row, Sgt.row, It.row, idxS_map, loadS_map, stoS_map, ← List.map_take, ← List.map_drop, smI_self]
  repeat' (first
    | ((with_reducible refine onCall ?_); first
      | (refine GC.callR (by repeat' (first | exact rdL_nil | refine rdL_cons ?_ ?_ | exact rd_v | exact rd_sl | exact rd_nil | refine rd_ref rfl (by simp) (plnLL_map (fun _ => rfl) _) | refine rd_rs rfl (by simp; omega) (plnLL_map (fun _ => rfl) _) | refine rd_agg ?_)) (rInts_gc ?_) rfl ?_ <;> try simp -implicitDefEqProofs (maxSteps := 4000000) only [sim0, sim1, sim2, sim3, sim4, sim5, sim6, sim7, sim8, ↓reduceIte, Nat.reduceEqDiff, Nat.reduceAdd, Nat.reduceMul, Nat.reduceSub, Nat.reduceLT, Nat.reduceLeDiff, reduceCtorEq, Int.reduceToNat, Int.reduceNeg, Nat.reduceBEq, simx, ty, By.row, Ch.row, Sgt.row, It.row, idxS_map, loadS_map, stoS_map, ← List.map_take, ← List.map_drop, smI_self])
      | fail)
    | ((with_reducible refine onFin ?_); first
      | (refine fin_nil ?_; (first | (simp_all [fins]; done) | (simp_all [-Int.not_lt, -Int.not_le, fins]; done) | (simp_all [fins]; omega)))
      | fail)
    | (with_reducible refine ite_intro (fun hq => ?_) (fun hq => ?_))
    | (with_reducible refine And.intro (fun hq => ?_) (fun hq => ?_))
    | (with_reducible refine And.intro ?_ ?_)
    | ((fail_if_success (with_reducible refine onCode ?_)); (fail_if_success (with_reducible refine onLps ?_)); (fail_if_success (with_reducible refine onLpd ?_)); (fail_if_success (with_reducible refine onLpe ?_)); (fail_if_success (with_reducible refine onFin ?_)); (fail_if_success (with_reducible refine onCall ?_)); (fail_if_success (with_reducible refine onQcall ?_)); first | ((omega); done) | omega | (rw [wrap_id (by omega) (by omega)]; omega) | (simp_all; done)))

theorem GC.fzR {P : Program} {k : FuncId} {args : List AV} {r0 d : AV} {h1 : List Ent} (hz : Fz h1 r0 d) (hn : noid d = true) (h : GC P k args [] (fun r hs => r = r0 ∧ hs = h1)) : GC P k args [] (fun r hs => r = d ∧ hs = []) :=
  GC.frzX (h.mono fun r hs e => by obtain ⟨rfl, rfl⟩ := e; exact hz) hn
section
variable {ss : List Sgt} {w r i k x g : Int} {gs : List (List It)} {us own : List It} {ps : List Pl}
theorem impPlotsOfZ_gc (hl : ss.length ≤ 1048576) : GC Try.prog 43 [.sl 5 (ss.map Sgt.e), vi w, vi r] [] (fun x hs => x = .tup [.sl 5 ((plV ss w r).map Pl.e), vb (agB ss w r)] ∧ hs = []) :=
  GC.fzR (fz_tup (fzL_cons fz_plH (fzL_cons fz_v fzL_nil))) rfl (impPlotsOf_gc hl)
theorem sPlotsOfZ_gc (hl : ss.length ≤ 1048576) : GC Try.prog 42 [.sl 5 (ss.map Sgt.e), vi w, vi r] [] (fun x hs => x = .tup [.sl 5 ((plV ss w r).map Pl.e), vb (agB ss w r)] ∧ hs = []) :=
  GC.fzR (fz_tup (fzL_cons fz_plH (fzL_cons fz_v fzL_nil))) rfl (sPlotsOf_gc hl)
theorem impGroupSZ_gc (hl : ss.length ≤ 1048576) : GC Try.prog 35 [.sl 5 (ss.map Sgt.e), vi w, vi r] [] (fun x hs => x = .tup [.sl 1 ((gsV ss w r).map It.e), vb (agB ss w r)] ∧ hs = []) :=
  GC.fzR (fz_tup (fzL_cons (fz_ref rfl rfl (fun _ => rfl) (fun _ => rfl)) (fzL_cons fz_v fzL_nil))) rfl (impGroupS_gc hl)
theorem sGroupSZ_gc (hl : ss.length ≤ 1048576) : GC Try.prog 34 [.sl 5 (ss.map Sgt.e), vi w, vi r] [] (fun x hs => x = .tup [.sl 1 ((gsV ss w r).map It.e), vb (agB ss w r)] ∧ hs = []) :=
  GC.fzR (fz_tup (fzL_cons (fz_ref rfl rfl (fun _ => rfl) (fun _ => rfl)) (fzL_cons fz_v fzL_nil))) rfl (sGroupS_gc hl)
/- plots of groups are valid -/
theorem rise_len (h : rise us) (hb : ∀ j : Nat, j < us.length → 1 ≤ (us.getD j default).n ∧ (us.getD j default).n ≤ 9) : us.length ≤ 9 := by
  have key : ∀ j : Nat, j < us.length → (j : Int) + 1 ≤ (us.getD j default).n := by
    intro j
    induction j with
    | zero => intro hj; have := hb 0 hj; omega
    | succ j ih =>
      intro hj
      have h1 := ih (by omega)
      have h2 := h j (j + 1) (by omega) hj
      omega
  rcases Nat.lt_or_ge 9 us.length with h1 | h1
  · have h2 := key 9 h1
    have h3 := hb 9 h1
    omega
  · exact h1
theorem si_rng (d : DS ss own) (j : Nat) (hj : j < (siR ss own).length) : 1 ≤ ((siR ss own).getD j default).n ∧ ((siR ss own).getD j default).n ≤ 9 := by
  obtain ⟨m, h1, h2⟩ := (siR_SI d).mem j hj
  rw [h2]; exact d.rng m (by omega)
theorem plG_ok (h : sgB ss = true) (d : DS ss own) : plotB (plG ss own).c (plG ss own).a (plG ss own).x (plG ss own).y (plG ss own).ts = true := by
  have S := siR_SI d
  have hi := d.idx 0 d.pos
  have hb := sg_at h hi.1 hi.2
  simp only [Sgt.b, Bool.and_eq_true] at hb
  have hx := sx_bd d
  have hy := sy_bd d
  have hp := d.pos
  have nx := nr_rng (s := sxR ss own) (n := own.length) (by omega) hx.1 (by omega)
  have ny := nr_rng (s := syR ss own) (n := own.length) (by omega) hy.1 (by omega)
  have hl := rise_len S.up (si_rng d)
  have hsl := S.len
  unfold plotB plG
  simp only [Bool.and_eq_true]
  refine ⟨⟨⟨⟨⟨hb.1.1.1, hb.1.2⟩, ?_⟩, ?_⟩, ?_⟩, ?_⟩
  · unfold placeB; rw [Bool.and_eq_true]; exact ⟨inB_iff.2 nx, inB_iff.2 ny⟩
  · exact inB_iff.2 ⟨by omega, by omega⟩
  · rw [allI_iff]
    intro j h0 h1
    unfold awP ig
    exact inB_iff.2 (si_rng d j.toNat (by omega))
  · rw [allI_iff]
    intro j h0 h1
    unfold riP ig
    have e : (j - 1).toNat < j.toNat := by omega
    exact decide_eq_true (S.up _ _ e (by omega))
theorem plV_ag (h0 : 0 ≤ i) (h1 : i < (plV ss w r).length) : agB ss w r = true := by
  cases h : agB ss w r with
  | true => rfl
  | false => rw [plV_no h] at h1; simp at h1; omega
theorem plV_at (h0 : 0 ≤ i) (h1 : i < (plV ss w r).length) : (plV ss w r).getD i.toNat default = plG ss ((grR ss w r).getD i.toNat default) ∧ DS ss ((grR ss w r).getD i.toNat default) := by
  have ha := plV_ag h0 h1
  rw [plV_yes ha] at h1 ⊢
  obtain ⟨h2, h3⟩ := plR_spec (ss := ss) (w := w) (r := r)
  exact ⟨h3 _ (by omega), grR_DS ha h0 (by omega)⟩
theorem plV_ok (h0 : 0 ≤ i) (h1 : i < (plV ss w r).length) : plotB ((plV ss w r).getD i.toNat default).c ((plV ss w r).getD i.toNat default).a ((plV ss w r).getD i.toNat default).x ((plV ss w r).getD i.toNat default).y ((plV ss w r).getD i.toNat default).ts = true := by
  obtain ⟨h2, h3⟩ := plV_at h0 h1
  rw [h2]; exact plG_ok (ag_sg (plV_ag h0 h1)) h3
theorem plV_tl (h0 : 0 ≤ i) (h1 : i < (plV ss w r).length) : ((plV ss w r).getD i.toNat default).ts.length = ((grR ss w r).getD i.toNat default).length ∧ ((plV ss w r).getD i.toNat default).ts.length ≤ 20 := by
  obtain ⟨h2, h3⟩ := plV_at h0 h1
  have e : ((plV ss w r).getD i.toNat default).ts = siR ss ((grR ss w r).getD i.toNat default) := by rw [h2]; rfl
  have := (siR_SI h3).len
  have := h3.len
  rw [e]; omega
theorem plV_le : (plV ss w r).length ≤ 20 := by
  cases h : agB ss w r with
  | false => rw [plV_no h]; simp
  | true =>
    rw [plV_yes h]
    have h1 := (plR_spec (ss := ss) (w := w) (r := r)).1
    have g1 := (grR_GI (ss := ss) (w := w) (r := r)).len
    have g2 := ag_len h
    omega
/- the sightings of all groups are the list -/
def suml : List (List It) → Nat
  | [] => 0
  | g :: r => g.length + suml r
theorem suml_app : ∀ {gs hs : List (List It)}, suml (gs ++ hs) = suml gs + suml hs
  | [], hs => by simp [suml]
  | g :: gs, hs => by simp only [List.cons_append, suml, suml_app]; omega
theorem suml_set : ∀ {gs : List (List It)} {q : Nat} {z : It}, q < gs.length → suml (gs.set q (gs.getD q [] ++ [z])) = suml gs + 1
  | [], q, z, h => by simp at h
  | g :: gs, 0, z, h => by simp [suml]; omega
  | g :: gs, q + 1, z, h => by
    have := suml_set (gs := gs) (q := q) (z := z) (by simpa using h)
    simp only [List.set_cons_succ, suml, List.getD_cons_succ, this]; omega
theorem suml_take : ∀ {gs : List (List It)} {q : Nat}, q < gs.length → suml (gs.take (q + 1)) = suml (gs.take q) + (gs.getD q default).length
  | [], q, h => by simp at h
  | g :: gs, 0, h => by simp [suml]
  | g :: gs, q + 1, h => by
    have := suml_take (gs := gs) (q := q) (by simpa using h)
    simp only [List.take_succ_cons, suml, List.getD_cons_succ, this]; omega
theorem grF_sum : suml (grF ss w r gs i) = suml gs + 1 := by
  have hk := fi_rng (p := gkB ss w r gs i) (n := gs.length) _ 0 (by omega) (Nat.le_refl _) (by omega)
  unfold grF
  split
  · rename_i hl
    exact suml_set (by omega)
  · rw [suml_app]; rfl
theorem grR_sum : (suml (grR ss w r) : Int) = ss.length := by
  have := foldI_ind (f := grF ss w r) (n := ss.length) (fun (gs : List (List It)) i => (suml gs : Int) = i) (a := []) (i := 0) (by omega) rfl (fun a j h1 h2 h => by rw [grF_sum]; omega)
  exact this
/-- how many sites the plots have -/
def stF (ps : List Pl) (a i : Int) : Int := a + (ps.getD i.toNat default).ts.length
def stV (ps : List Pl) : Int := foldI (stF ps) 0 0 ps.length
theorem stV_eq (h : agB ss w r = true) : stV (plV ss w r) = ss.length := by
  have hl := (plR_spec (ss := ss) (w := w) (r := r)).1
  have hv := plV_yes h
  have := foldI_ind (f := stF (plV ss w r)) (n := (plV ss w r).length) (fun (a : Int) i => a = (suml ((grR ss w r).take i.toNat) : Int)) (a := 0) (i := 0) (by omega) (by simp [suml]) (fun a j h1 h2 h3 => by
    have e1 : (j + 1).toNat = j.toNat + 1 := by omega
    have e2 := (plV_tl h1 h2).1
    rw [e1, suml_take (by rw [hv] at h2; omega)]
    unfold stF
    rw [e2, h3]; omega)
  have e3 : (grR ss w r).take (((plV ss w r).length : Int)).toNat = grR ss w r := by
    rw [Int.toNat_natCast, List.take_of_length_le (by rw [hv]; omega)]
  rw [e3, grR_sum] at this
  exact this
/- two sightings of one group -/
theorem gsV_ag (h0 : 0 ≤ i) (h1 : i < (gsV ss w r).length) : agB ss w r = true := by
  cases h : agB ss w r with
  | true => rfl
  | false => rw [gsV_no h] at h1; simp at h1; omega
theorem gsV_le : (gsV ss w r).length ≤ 20 := by
  cases h : agB ss w r with
  | false => rw [gsV_no h]; simp
  | true =>
    have := ag_len h
    rw [gsV_yes h, gsR_len]; omega
theorem gsV_ln (h : agB ss w r = true) : (gsV ss w r).length = ss.length := by rw [gsV_yes h, gsR_len]
theorem ab_le {a b n : Int} (h : absV (w64 (a - b)) ≤ n) (ha : -100000 ≤ a ∧ a ≤ 100000) (hb : -100000 ≤ b ∧ b ≤ 100000) : a - b ≤ n ∧ b - a ≤ n := by
  have e : w64 (a - b) = a - b := wrap_id (by omega) (by omega)
  rw [e] at h
  unfold absV at h
  split at h
  · rw [wrap_id (by omega) (by omega)] at h; omega
  · omega
theorem tw_iff {a b : Sgt} (h : twB a b w r = true) : a.a = b.a ∧ absV (w64 (a.c - b.c)) ≤ w ∧ absV (w64 (a.x - b.x)) ≤ r ∧ absV (w64 (a.y - b.y)) ≤ r := by
  simp only [twB, Bool.and_eq_true, beq_iff_eq, decide_eq_true_eq] at h
  exact h
theorem sgb_rng (h : sgB ss = true) (h0 : 0 ≤ i) (h1 : i < ss.length) : (0 ≤ (sg ss i).c ∧ (sg ss i).c ≤ 86400) ∧ (0 ≤ (sg ss i).x ∧ (sg ss i).x ≤ 9899) ∧ (0 ≤ (sg ss i).y ∧ (sg ss i).y ≤ 9899) := by
  have hb := sg_at h h0 h1
  simp only [Sgt.b, Bool.and_eq_true, placeB] at hb
  exact ⟨inB_iff.1 hb.1.1.1, inB_iff.1 hb.2.1, inB_iff.1 hb.2.2⟩
/-- two sightings with the same number -/
theorem gs_two (h0 : 0 ≤ k) (h1 : k < i) (h2 : i < (gsV ss w r).length) (e : ((gsV ss w r).getD k.toNat default).n = ((gsV ss w r).getD i.toNat default).n) :
    ¬ (ss.getD k.toNat default).s = (ss.getD i.toNat default).s ∧ (ss.getD k.toNat default).a = (ss.getD i.toNat default).a ∧ IntKind.i64.wrap ((ss.getD i.toNat default).c - (ss.getD k.toNat default).c) ≤ w := by
  have ha := gsV_ag (by omega) h2
  have hl := gsV_ln ha
  have hs := ag_sg ha
  have A := grR_GA ha
  rw [gsV_yes ha] at e
  obtain ⟨g1, a, a1, a2, a3⟩ := gs_mem ha h0 (by omega)
  obtain ⟨g2, b, b1, b2, b3⟩ := gs_mem ha (x := i) (by omega) (by omega)
  have eg : g1 = g2 := by
    have : ig (gsR ss w r) k = ig (gsR ss w r) i := e
    omega
  subst eg
  have hab : a < b := by
    rcases Nat.lt_trichotomy a b with h | h | h
    · exact h
    · subst h; omega
    · have := A.up _ _ _ h a1; omega
  have s1 := A.st _ _ _ hab b1
  have t1 := tw_iff (A.tw _ _ a1)
  have t2 := tw_iff (A.tw _ _ b1)
  rw [a2] at s1 t1
  rw [b2] at s1 t2
  have hf := A.inr g1 0 (by omega)
  have c0 := sgb_rng hs hf.1 hf.2
  have c1 := sgb_rng hs (i := k) h0 (by omega)
  have c2 := sgb_rng hs (i := i) (by omega) (by omega)
  have u1 := sg_up hs (a := gel (grR ss w r) g1 0) (b := k) hf.1 (by
    by_cases ea : a = 0
    · subst ea; omega
    · have := A.up g1 0 a (by omega) a1; omega) (by omega)
  have u2 := ab_le t2.2.1 (by omega) (by omega)
  refine ⟨s1, ?_, ?_⟩
  · have z1 : (sg ss k).a = (sg ss i).a := by rw [← t1.1, t2.1]
    exact z1
  · show IntKind.i64.wrap ((sg ss i).c - (sg ss k).c) ≤ w
    rw [wrap_id (by omega) (by omega)]; omega
/- the spread of a group -/
theorem sp_le (h0 : 0 ≤ i) (h1 : i < (gsV ss w r).length) : spO ss w r ((gsV ss w r).getD i.toNat default).n = true ∧ spU ss w r ((gsV ss w r).getD i.toNat default).n ≤ IntKind.i64.wrap (2 * r) ∧ spV ss w r ((gsV ss w r).getD i.toNat default).n ≤ IntKind.i64.wrap (2 * r) := by
  have ha := gsV_ag h0 h1
  have hl := gsV_ln ha
  have hs := ag_sg ha
  have A := grR_GA ha
  have hr := ag_rng ha
  have G := (grR_GI (ss := ss) (w := w) (r := r))
  obtain ⟨g, j, j1, j2, j3⟩ := gs_mem ha h0 (by omega)
  have e : ((gsV ss w r).getD i.toNat default).n = (g : Int) := by rw [gsV_yes ha]; exact j3
  have hg : g < (grR ss w r).length := by
    rcases Nat.lt_or_ge g (grR ss w r).length with h | h
    · exact h
    · exfalso; unfold gln at j1; rw [List.getD, List.getElem?_eq_none h] at j1; simp at j1
  have ho : spO ss w r g = true := by
    unfold spO; rw [ha, Bool.true_and]; exact inB_iff.2 ⟨by omega, by omega⟩
  have hy := sp_yes ho
  have hw : spW ss w r g = (grR ss w r).getD g default := by unfold spW; rw [Int.toNat_natCast]
  have hlen : (spW ss w r g).length = gln (grR ss w r) g := by rw [hw]; rfl
  have e2 : IntKind.i64.wrap (2 * r) = 2 * r := wrap_id (by omega) (by omega)
  have near : ∀ a : Int, 0 ≤ a → a < (spW ss w r g).length → (spX ss w r g a - (sg ss (gel (grR ss w r) g 0)).x ≤ r ∧ (sg ss (gel (grR ss w r) g 0)).x - spX ss w r g a ≤ r) ∧ (spY ss w r g a - (sg ss (gel (grR ss w r) g 0)).y ≤ r ∧ (sg ss (gel (grR ss w r) g 0)).y - spY ss w r g a ≤ r) := by
    intro a a0 a1
    have hk : a.toNat < gln (grR ss w r) g := by omega
    have t := tw_iff (A.tw g a.toNat hk)
    have hi := A.inr g a.toNat hk
    have hf := A.inr g 0 (by omega)
    have c0 := sgb_rng hs hf.1 hf.2
    have c1 := sgb_rng hs hi.1 hi.2
    have ex : spX ss w r g a = (sg ss (gel (grR ss w r) g a.toNat)).x := by unfold spX; rw [hw]; rfl
    have ey : spY ss w r g a = (sg ss (gel (grR ss w r) g a.toNat)).y := by unfold spY; rw [hw]; rfl
    have u := ab_le t.2.2.1 (by omega) (by omega)
    have v := ab_le t.2.2.2 (by omega) (by omega)
    rw [ex, ey]; omega
  rw [e, hy.1, hy.2, e2]
  refine ⟨ho, ?_, ?_⟩
  · rcases (mxA_law (p := spX ss w r g) (n := (spW ss w r g).length) (by omega)).2.2 with h | ⟨a, b, ha2, hb2, h⟩
    · omega
    · have n1 := near a ha2.1 ha2.2
      have n2 := near b hb2.1 hb2.2
      omega
  · rcases (mxA_law (p := spY ss w r g) (n := (spW ss w r g).length) (by omega)).2.2 with h | ⟨a, b, ha2, hb2, h⟩
    · omega
    · have n1 := near a ha2.1 ha2.2
      have n2 := near b hb2.1 hb2.2
      omega
end
end Go.Proofs.Ytgcmahhejblpkaa
