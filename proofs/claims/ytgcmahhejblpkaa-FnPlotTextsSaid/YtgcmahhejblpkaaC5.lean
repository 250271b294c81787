/-
Contracts of what reads several numbers, over plain data.
No condition but those that the contracts name.
-/
import Derived.Test.YtgcmahhejblpkaaC2
import Derived.Test.YtgcmahhejblpkaaW7
namespace Go.Proofs.Ytgcmahhejblpkaa
open Eng
set_option linter.unusedSimpArgs false
set_option linter.unusedVariables false
section
variable {ws : List Sg} {us : List It} {i v : Int} {b : Bool}
def nbJ (ws : List Sg) (i : Int) (us : List It) : Prop := ∀ js : List Nat, (∀ j ∈ js, j ≤ 999999) → ws = js.map (fun (j : Nat) => (⟨numS j⟩ : Sg)) → us = (js.take i.toNat).map (fun (j : Nat) => (⟨(j : Int)⟩ : It))
def nbC (s : ByteArray) (v : Int) (b : Bool) : Prop := ∀ j : Nat, j ≤ 999999 → s = numS j → v = j ∧ b = true
theorem nb_at {js : List Nat} (h : ws = js.map (fun (j : Nat) => (⟨numS j⟩ : Sg))) (h0 : 0 ≤ i) (h1 : i < ws.length) : ∃ hi : i.toNat < js.length, (ws.getD i.toNat default).b = numS js[i.toNat] := by
  have hl : ws.length = js.length := by rw [h]; simp
  have hi : i.toNat < js.length := by omega
  refine ⟨hi, ?_⟩
  rw [h]
  simp [List.getD, List.getElem?_eq_getElem hi]
theorem nb_go (hJ : nbJ ws i us) (h0 : 0 ≤ i) (h1 : i < ws.length) (hc : nbC (ws.getD i.toNat default).b v b) : nbJ ws (i + 1) (us ++ [⟨v⟩]) := by
  intro js hj e
  obtain ⟨hi, g⟩ := nb_at e h0 h1
  have e1 : (i + 1).toNat = i.toNat + 1 := by omega
  rw [hJ js hj e, e1, List.take_add_one, List.getElem?_eq_getElem hi, (hc _ (hj _ (List.getElem_mem hi)) g).1, List.map_append]
  rfl
theorem nb_no (h0 : 0 ≤ i) (h1 : i < ws.length) (hc : nbC (ws.getD i.toNat default).b v b) (hb : b = false) {js : List Nat} (hj : ∀ j ∈ js, j ≤ 999999) (e : ws = js.map (fun (j : Nat) => (⟨numS j⟩ : Sg))) : False := by
  obtain ⟨hi, g⟩ := nb_at e h0 h1
  have := (hc _ (hj _ (List.getElem_mem hi)) g).2
  rw [hb] at this; cases this
theorem nb_end (hJ : nbJ ws i us) (h1 : ¬ i < ws.length) {js : List Nat} (hj : ∀ j ∈ js, j ≤ 999999) (e : ws = js.map (fun (j : Nat) => (⟨numS j⟩ : Sg))) : us = js.map (fun (j : Nat) => (⟨(j : Int)⟩ : It)) := by
  have hl : ws.length = js.length := by rw [e]; simp
  have := hJ js hj e
  rwa [List.take_of_length_le (by omega)] at this
theorem nb_sz (hl : ws.length ≤ 1048576 ∧ ∀ w ∈ ws, w.b.size ≤ 1048576) (h0 : 0 ≤ i) (h1 : i < ws.length) : (ws.getD i.toNat default).b.size ≤ 1048576 := by
  have hi : i.toNat < ws.length := by omega
  have e : ws.getD i.toNat default = ws[i.toNat] := by simp [List.getD, List.getElem?_eq_getElem hi]
  rw [e]; exact hl.2 _ (List.getElem_mem hi)
end
def nbsC (ws : List Sg) (ns : List It) (b : Bool) : Prop := (∀ js : List Nat, (∀ j ∈ js, j ≤ 999999) → ws = js.map (fun (j : Nat) => (⟨numS j⟩ : Sg)) → ns = js.map (fun (j : Nat) => (⟨(j : Int)⟩ : It)) ∧ b = true) ∧ (b = true → ns.length = ws.length)
set_option maxRecDepth 100000 in
set_option maxHeartbeats 4000000 in
theorem numbersOf_gc {ws : List Sg} (hl : ws.length ≤ 1048576 ∧ ∀ w ∈ ws, w.b.size ≤ 1048576) : GC Try.prog 85 [.sl 1 (ws.map Sg.e)] [] (fun r_ hs_ => ∃ (ns : List It) (b : Bool), (nbsC ws ns b) ∧ r_ = .tup [.sl 1 (ns.map It.e), vb b] ∧ hs_ = []) := by
  refine GC.frzE ?_
  refine GC.of_func [] Try.call85 Try.func85 rfl ⟨by kernel_rfl, by kernel_rfl⟩ (by kernel_rfl) ?_
  rw [Try.results85]
  simp -implicitDefEqProofs (maxSteps := 4000000) only [sim0, sim1, sim2, sim3, sim4, sim5, sim6, sim7, sim8, ↓reduceIte, Nat.reduceEqDiff, Nat.reduceAdd, Nat.reduceMul, Nat.reduceSub, Nat.reduceLT, Nat.reduceLeDiff, reduceCtorEq, Int.reduceToNat, Int.reduceNeg, Nat.reduceBEq, simx, ty, Sg.row, It.row, idxS_map, loadS_map, stoS_map, ← List.map_take, ← List.map_drop]
  repeat' (first
    | ((with_reducible refine onCall ?_); first
      | (apply GC.useP false [] (number_gc ?_) rfl ?he ?ha (fun h_ => Bool.noConfusion h_) ?_; (case he => (trivial)); (case ha => (repeat' (first | exact arL_nil | refine arL_cons ?_ ?_ | exact ar_v | exact ar_sl | exact ar_ptr rfl | exact ar_own rfl | refine ar_agg ?_))); (all_goals (try (intro r_ hs_ hk_; obtain ⟨v, b, hc_, rfl, rfl⟩ := hk_; (try simp -implicitDefEqProofs (maxSteps := 4000000) only [sim0, sim1, sim2, sim3, sim4, sim5, sim6, sim7, sim8, ↓reduceIte, Nat.reduceEqDiff, Nat.reduceAdd, Nat.reduceMul, Nat.reduceSub, Nat.reduceLT, Nat.reduceLeDiff, reduceCtorEq, Int.reduceToNat, Int.reduceNeg, Nat.reduceBEq, simx, ty, Sg.row, It.row, idxS_map, loadS_map, stoS_map, ← List.map_take, ← List.map_drop])))))
      | fail)
    | ((with_reducible refine onCode ?_); first
      | (refine onLid 3 ?_ (by rfl); refine acode_loop_wk (Wk.nil 4 1 (by rfl)) ?_; try (simp -implicitDefEqProofs (maxSteps := 4000000) only [sim0, sim1, sim2, sim3, sim4, sim5, sim6, sim7, sim8, ↓reduceIte, Nat.reduceEqDiff, Nat.reduceAdd, Nat.reduceMul, Nat.reduceSub, Nat.reduceLT, Nat.reduceLeDiff, reduceCtorEq, Int.reduceToNat, Int.reduceNeg, Nat.reduceBEq, simx, ty, Sg.row, It.row, idxS_map, loadS_map, stoS_map, ← List.map_take, ← List.map_drop]); refine acode_prune [0, 2, 3, 4, 6, 7, 8, 9, 10, 11] ?_; simp only [prn_cons, prn_nil, lk_cons, lk_emp, Nat.reduceEqDiff, ↓reduceIte]; refine acode_loopE2 3 (by rfl) (α := Int × List It) (fun ⟨i, us⟩ => [(11, vi i), (4, .ref 0 us.length)]) [2, 3, 6, 7, 8, 12, 13, 14, 15, 16, 17, 18, 19, 20, 21, 22, 23, 24, 25, 26] [2, 3, 6, 7, 8] (by kernel_rfl) [(4, 0)] (fun ⟨i, us⟩ => [.arr 1 (us.map It.e)]) (fun _ => by simp) (fun _ _ => rfl) (fun ⟨i, us⟩ => (0 ≤ i ∧ i ≤ ws.length) ∧ (us.length : Int) = i ∧ nbJ ws i us) (fun ⟨i, us⟩ => (ws.length - i).toNat) ((0, [])) ?_ ?_ (by (try simp only []) <;> first | (exact ⟨by omega, by simp, fun js _ _ => by simp⟩) | fail) ?_; (focus ((try dsimp only []); (repeat' (first | exact agr_none | exact lk_hd | refine lk_tl (by decide) ?_ | refine agr_one ?_ ?_)); done)); (focus (first | rfl | (simp; done))); rintro ⟨i, us⟩ hJ; (try simp only [] at hJ); have hJ3 := hJ; simp -implicitDefEqProofs (maxSteps := 4000000) only [sim0, sim1, sim2, sim3, sim4, sim5, sim6, sim7, sim8, ↓reduceIte, Nat.reduceEqDiff, Nat.reduceAdd, Nat.reduceMul, Nat.reduceSub, Nat.reduceLT, Nat.reduceLeDiff, reduceCtorEq, Int.reduceToNat, Int.reduceNeg, Nat.reduceBEq, simx, ty, Sg.row, It.row, idxS_map, loadS_map, stoS_map, ← List.map_take, ← List.map_drop])
      | fail)
    | ((with_reducible refine onLpe ?_); first
      | (refine lpe2_end0 (α := Int × List It) (mods := (fun ⟨i, us⟩ => [(11, vi i), (4, .ref 0 us.length)])) _ (_, _) rfl rfl rfl (by (try dsimp only []); rfl) (by first | (simp only [plnLL, pln, Value.oneCell', List.all_cons, List.all_nil, plnH, Sg.pl, It.pl, Bool.and_true, Bool.and_self]; done) | rfl) (by (try dsimp only []); simp only [agrR_cons, agrR_nil, lk_cons, lk_emp, Nat.reduceEqDiff, ↓reduceIte, and_true]; repeat' (first | exact rn_v | rfl | (simp only [List.length_append, List.length_cons, List.length_nil]; rfl) | apply And.intro)) (by unfold undK; kernel_rfl) ?_ ?_ <;> ((try simp only []); ((have e_ : IntKind.i64.wrap (i + 1) = i + 1 := wrap_id (by omega) (by omega); (try simp only [e_] at hq ⊢); first | omega | exact ⟨by omega, by simp; omega, nb_go hJ3.2.2 hJ3.1.1 (by omega) hc_⟩))))
      | fail)
    | ((with_reducible refine onFin ?_); first
      | (refine fin_fzK' (by (try simp -implicitDefEqProofs (maxSteps := 4000000) only [sim0, sim1, sim2, sim3, sim4, sim5, sim6, sim7, sim8, ↓reduceIte, Nat.reduceEqDiff, Nat.reduceAdd, Nat.reduceMul, Nat.reduceSub, Nat.reduceLT, Nat.reduceLeDiff, reduceCtorEq, Int.reduceToNat, Int.reduceNeg, Nat.reduceBEq, simx, ty, fins, funs, idn, ids, List.filter_nil, List.filter_cons, List.map_nil, Sg.row, It.row, idxS_map, loadS_map, stoS_map, ← List.map_take, ← List.map_drop]); first | done | (simp only [plnLL, pln, Value.oneCell', List.all_cons, List.all_nil, plnH, Sg.pl, It.pl, Bool.and_true, Bool.and_self]; done) | rfl) (by rfl) ?_; apply Exists.intro; refine And.intro ?_ (And.intro ?_ ?_); (focus ((repeat' (first | exact fzrL_nil | apply fzrL_cons | exact fzr_nil (α := It) (f := It.e) (sz := 1) | exact fzr_v | exact fzr_sl | exact fzr_ref0 rfl | (refine fzr_ref rfl ?_ (fun _ => rfl); (focus (first | rfl | (simp; done) | (simp only [List.length_append, List.length_map, List.length_set, List.length_cons, List.length_nil]; done) | (simp only [List.length_append, List.length_map, List.length_set, List.length_cons, List.length_nil]; omega)))) | (refine fzr_refT rfl ?_ (fun _ => rfl); (focus (first | omega | (simp; omega)))) | (refine fzr_rs rfl ?_ (fun _ => rfl); (focus (first | omega | (simp; omega)))) | apply fzr_agg | apply fzr_tup)); done)); (focus rfl); (first | (refine ⟨_, _, ⟨fun js hj e => ?_, fun h => ?_⟩, rfl⟩; (exact (nb_no hJ3.1.1 (by assumption) hc_ hq hj e).elim); cases h) | (refine ⟨_, _, ⟨fun js hj e => ⟨nb_end hJ3.2.2 (by assumption) hj e, rfl⟩, fun _ => ?_⟩, rfl⟩; omega) | fail))
      | fail)
    | (with_reducible refine ite_intro (fun hq => ?_) (fun hq => ?_))
    | (with_reducible refine And.intro (fun hq => ?_) (fun hq => ?_))
    | (with_reducible refine And.intro ?_ ?_)
    | ((fail_if_success (with_reducible refine onCode ?_)); (fail_if_success (with_reducible refine onLps ?_)); (fail_if_success (with_reducible refine onLpd ?_)); (fail_if_success (with_reducible refine onLpe ?_)); (fail_if_success (with_reducible refine onFin ?_)); (fail_if_success (with_reducible refine onCall ?_)); (fail_if_success (with_reducible refine onQcall ?_)); first | ((first | omega | exact nb_sz hl hJ3.1.1 (by omega)); done) | omega | (rw [wrap_id (by omega) (by omega)]; omega) | (first | (refine ⟨_, _, ⟨fun js hj e => ?_, fun h => ?_⟩, rfl⟩; (exact (nb_no hJ3.1.1 (by assumption) hc_ hq hj e).elim); cases h) | (refine ⟨_, _, ⟨fun js hj e => ⟨nb_end hJ3.2.2 (by assumption) hj e, rfl⟩, fun _ => ?_⟩, rfl⟩; omega) | fail)))

end Go.Proofs.Ytgcmahhejblpkaa
