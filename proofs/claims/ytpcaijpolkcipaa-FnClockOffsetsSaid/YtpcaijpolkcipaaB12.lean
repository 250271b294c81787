/-
Contracts of AddClockLink and ClockOffsets, over plain data, and their laws.
No condition but those that the contracts name.
-/
import Derived.Test.YtpcaijpolkcipaaB11
namespace Go.Proofs.Ytpcaijpolkcipaa
open Eng
set_option linter.unusedSimpArgs false
set_option linter.unusedVariables false
section
variable {ls : List Lnk} {i j k n s c f t o : Int} {us vs : List It}
theorem ag_ok (hn : 0 ≤ n) (hk : lkOk n ls) : (agR n ls).2.2 = allI (shO n ls) 0 n := by
  have h := (agR_inv hn hk).2
  cases hb : (agR n ls).2.2 with
  | true =>
    refine (allI_iff.2 fun s h1 h2 => ?_).symm
    exact (shO_iff ⟨h1, h2⟩ hk).2 ⟨_, fun l hl _ => h.pot hb l hl⟩
  | false =>
    obtain ⟨s, h1, h2⟩ := h.bad hb
    cases ha : allI (shO n ls) 0 n with
    | false => rfl
    | true => exact absurd ((shO_iff h1 hk).1 (allI_iff.1 ha s h1.1 h1.2)) h2
def acL (ls : List Lnk) (f t o : Int) : List Lnk := ls ++ [⟨f, t, o⟩]
theorem lkB_init {l : Lnk} (h : lkB n (ls ++ [l]) = true) : lkB n ls = true := by
  simp only [lkB, Bool.and_eq_true, decide_eq_true_eq] at h ⊢
  refine ⟨⟨h.1.1, by have := h.1.2; simp at this; omega⟩, allI_iff.2 fun i h1 h2 => ?_⟩
  have h3 := allI_iff.1 h.2 i h1 (by simp; omega)
  have e : lk' (ls ++ [l]) i = lk' ls i := by
    unfold lk'; simp only [List.getD]; rw [List.getElem?_append_left (by omega)]
  simpa [lkP, e] using h3
def acO (n : Int) (ls : List Lnk) (f t o : Int) : Bool := lkB n (acL ls f t o) && allI (shO n (acL ls f t o)) 0 n
def acV (n : Int) (ls : List Lnk) (f t o : Int) : List Lnk := if acO n ls f t o = true then acL ls f t o else []
theorem ac_no (h : acO n ls f t o = false) : acV n ls f t o = [] := by simp [acV, h]
theorem ac_n1 (h : lkB n (ls ++ [⟨f, t, o⟩]) = false) : acO n ls f t o = false := by
  have h' : lkB n (acL ls f t o) = false := h
  simp [acO, h']
theorem ac_n0 (h : lkB n ls = false) : acO n ls f t o = false := by
  refine ac_n1 ?_
  cases h2 : lkB n (ls ++ [(⟨f, t, o⟩ : Lnk)]) with
  | false => rfl
  | true => rw [lkB_init h2] at h; cases h
theorem ac_n2 (h : allI (shO n (ls ++ [⟨f, t, o⟩])) 0 n = false) : acO n ls f t o = false := by
  have h' : allI (shO n (acL ls f t o)) 0 n = false := h
  simp [acO, h']
theorem ac_y (h1 : lkB n (ls ++ [⟨f, t, o⟩]) = true) (h2 : allI (shO n (ls ++ [⟨f, t, o⟩])) 0 n = true) : acO n ls f t o = true ∧ acV n ls f t o = ls ++ [⟨f, t, o⟩] := by
  have h : acO n ls f t o = true := by
    have h1' : lkB n (acL ls f t o) = true := h1
    have h2' : allI (shO n (acL ls f t o)) 0 n = true := h2
    simp [acO, h1', h2']
  exact ⟨h, if_pos h⟩
theorem acV_len : (acV n ls f t o).length ≤ 1048576 := by
  unfold acV; split
  · rename_i h
    simp only [acO, Bool.and_eq_true] at h
    have := (lkB_ok h.1).1.2; omega
  · simp
end
set_option maxRecDepth 100000 in
set_option maxHeartbeats 4000000 in
theorem impAddClockLink_gc {n f t o : Int} {ls : List Lnk} (hl : ls.length ≤ 1048576) : GC Try.prog 35 [vi n, .sl 3 (ls.map Lnk.e), .agg [vi f, vi t, vi o]] [] (fun r_ hs_ => r_ = .tup [.ref 0 (acV n ls f t o).length, vb (acO n ls f t o)] ∧ hs_ = [.arr 3 ((acV n ls f t o).map Lnk.e)]) := by
  refine GC.nilX 3 ?_
  refine GC.of_func [(1, .val 1 (.val 3 (.eff [(0, [3, 1], .eff [(2, [3], .eff [(4, [1], .eff [(5, [], .val 6 (.done))])]), (4, [1], .eff [(2, [3], .eff [(5, [], .val 6 (.done))])])]), (4, [1], .eff [(0, [3, 1], .eff [(2, [3], .eff [(5, [], .val 6 (.done))])])])])))] Try.call35 Try.func35 rfl ⟨by kernel_rfl, by kernel_rfl⟩ (by kernel_rfl) ?_
  rw [Try.results35]
  simp -implicitDefEqProofs (maxSteps := 4000000) only [sim0, sim1, sim2, sim3, sim4, sim5, sim6, sim7, sim8, ↓reduceIte, Nat.reduceEqDiff, Nat.reduceAdd, Nat.reduceMul, Nat.reduceSub, Nat.reduceLT, Nat.reduceLeDiff, reduceCtorEq, Int.reduceToNat, Int.reduceNeg, Nat.reduceBEq, simx, ty, Lnk.row, It.row, Bo.row, idxS_map, loadS_map, stoS_map, ← List.map_take, ← List.map_drop]
  repeat' (first
    | ((with_reducible refine onCall ?_); first
      | (refine GC.callR (by repeat' (first | exact rdL_nil | refine rdL_cons ?_ ?_ | exact rd_v | exact rd_sl | exact rd_nil | refine rd_ref rfl (by simp) (plnLL_map (fun _ => rfl) _) | refine rd_rs rfl (by simp; omega) (plnLL_map (fun _ => rfl) _) | refine rd_agg ?_)) (areLinks_gc ?_) rfl ?_ <;> try simp -implicitDefEqProofs (maxSteps := 4000000) only [sim0, sim1, sim2, sim3, sim4, sim5, sim6, sim7, sim8, ↓reduceIte, Nat.reduceEqDiff, Nat.reduceAdd, Nat.reduceMul, Nat.reduceSub, Nat.reduceLT, Nat.reduceLeDiff, reduceCtorEq, Int.reduceToNat, Int.reduceNeg, Nat.reduceBEq, simx, ty, Lnk.row, It.row, Bo.row, idxS_map, loadS_map, stoS_map, ← List.map_take, ← List.map_drop])
      | (refine GC.use true [] (agree_gc ?_ ?_ ?_) rfl trivial (by repeat' (first | exact arL_nil | refine arL_cons ?_ ?_ | exact ar_v | exact ar_sl | exact ar_nil | refine ar_ref rfl rfl (by simp) (plnLL_map (fun _ => rfl) _) | refine ar_rs rfl rfl (by simp; omega) (plnLL_map (fun _ => rfl) _) | refine ar_agg ?_)) (.inr ⟨rfl, by first | rfl | simp [Lnk.ns, It.ns, Bo.ns]⟩) ?_ <;> try simp -implicitDefEqProofs (maxSteps := 4000000) only [sim0, sim1, sim2, sim3, sim4, sim5, sim6, sim7, sim8, ↓reduceIte, Nat.reduceEqDiff, Nat.reduceAdd, Nat.reduceMul, Nat.reduceSub, Nat.reduceLT, Nat.reduceLeDiff, reduceCtorEq, Int.reduceToNat, Int.reduceNeg, Nat.reduceBEq, simx, ty, Lnk.row, It.row, Bo.row, idxS_map, loadS_map, stoS_map, ← List.map_take, ← List.map_drop])
      | fail)
    | ((with_reducible refine onFin ?_); first
      | (refine fin_orL ?_ ?_ ?_ (by first | (simp only [plnLL, pln, Value.oneCell', List.all_cons, List.all_nil, plnH, Lnk.pl, It.pl, Bo.pl, Bool.and_true, Bool.and_self, List.take_zero, List.nil_append, List.map_cons, List.map_nil]; done) | rfl) <;> (first | (first | (rename_i h0; have h := lkB_ok (eq_true_of_ne_false h0); have e := ag_ok (by omega) h.2; have g := ac_y (eq_true_of_ne_false h0) (e.symm.trans (eq_true_of_ne_false hq)); simp [fins, funs, ids_tup, g.1, g.2]; done) | (have hn := ac_n0 (f := f) (t := t) (o := o) hq; simp [fins, funs, ids_tup, hn, ac_no hn]; done) | (have hn := ac_n1 hq; simp [fins, funs, ids_tup, hn, ac_no hn]; done) | (rename_i h0; have h := lkB_ok (eq_true_of_ne_false h0); have e := ag_ok (by omega) h.2; have hn := ac_n2 (e.symm.trans hq); simp [fins, funs, ids_tup, hn, ac_no hn]; done)) | (simp_all [fins, funs]; done) | (simp [fins, funs]; done) | (simp_all [-Int.not_lt, -Int.not_le, fins, funs]; done) | (simp_all [fins, funs]; omega)))
      | (refine fin_orR ?_ ?_ <;> (first | (first | (rename_i h0; have h := lkB_ok (eq_true_of_ne_false h0); have e := ag_ok (by omega) h.2; have g := ac_y (eq_true_of_ne_false h0) (e.symm.trans (eq_true_of_ne_false hq)); simp [fins, funs, ids_tup, g.1, g.2]; done) | (have hn := ac_n0 (f := f) (t := t) (o := o) hq; simp [fins, funs, ids_tup, hn, ac_no hn]; done) | (have hn := ac_n1 hq; simp [fins, funs, ids_tup, hn, ac_no hn]; done) | (rename_i h0; have h := lkB_ok (eq_true_of_ne_false h0); have e := ag_ok (by omega) h.2; have hn := ac_n2 (e.symm.trans hq); simp [fins, funs, ids_tup, hn, ac_no hn]; done)) | (simp_all [fins, funs]; done) | (simp [fins, funs]; done) | (simp_all [-Int.not_lt, -Int.not_le, fins, funs]; done) | (simp_all [fins, funs]; omega)))
      | fail)
    | (with_reducible refine ite_intro (fun hq => ?_) (fun hq => ?_))
    | (with_reducible refine And.intro (fun hq => ?_) (fun hq => ?_))
    | (with_reducible refine And.intro ?_ ?_)
    | ((fail_if_success (with_reducible refine onCode ?_)); (fail_if_success (with_reducible refine onLps ?_)); (fail_if_success (with_reducible refine onLpd ?_)); (fail_if_success (with_reducible refine onLpe ?_)); (fail_if_success (with_reducible refine onFin ?_)); (fail_if_success (with_reducible refine onCall ?_)); (fail_if_success (with_reducible refine onQcall ?_)); first | ((first | omega | (simp; omega) | (have h := lkB_ok (n := n) (ls := ls ++ [⟨f, t, o⟩]) (by simpa using hq); first | omega | exact h.2 | (have h3 := h.1.2; simp only [List.length_append, List.length_cons, List.length_nil] at h3 ⊢; omega) | (have h3 := h.1.2; simp at h3; omega))); done) | omega | (rw [wrap_id (by omega) (by omega)]; omega) | (first | (rename_i h0; have h := lkB_ok (eq_true_of_ne_false h0); have e := ag_ok (by omega) h.2; have g := ac_y (eq_true_of_ne_false h0) (e.symm.trans (eq_true_of_ne_false hq)); simp [fins, funs, ids_tup, g.1, g.2]; done) | (have hn := ac_n0 (f := f) (t := t) (o := o) hq; simp [fins, funs, ids_tup, hn, ac_no hn]; done) | (have hn := ac_n1 hq; simp [fins, funs, ids_tup, hn, ac_no hn]; done) | (rename_i h0; have h := lkB_ok (eq_true_of_ne_false h0); have e := ag_ok (by omega) h.2; have hn := ac_n2 (e.symm.trans hq); simp [fins, funs, ids_tup, hn, ac_no hn]; done))))

end Go.Proofs.Ytpcaijpolkcipaa
