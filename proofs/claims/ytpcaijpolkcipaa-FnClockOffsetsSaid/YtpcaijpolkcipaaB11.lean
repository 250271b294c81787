/-
Contracts of NeedlessLinks, over plain data, and its law.
No condition but those that the contracts name.
-/
import Derived.Test.YtpcaijpolkcipaaK2
namespace Go.Proofs.Ytpcaijpolkcipaa
open Eng
set_option linter.unusedSimpArgs false
set_option linter.unusedVariables false
section
variable {ls : List Lnk} {i j k n s c : Int} {us vs : List It}
theorem foldB_snoc {α : Type} {f : α → Int → α} {a : α} {k : Int} (h : 0 ≤ k) : foldI f a 0 (k + 1) = f (foldI f a 0 k) k := by
  have key : ∀ (m : Nat) (i : Int) (a : α), (k - i).toNat ≤ m → i ≤ k → foldI f a i (k + 1) = f (foldI f a i k) k := by
    intro m
    induction m with
    | zero =>
      intro i a h h1
      have e : i = k := by omega
      subst e
      rw [foldI_step (by omega), foldI_end (by omega), foldI_end (by omega)]
    | succ m ih =>
      intro i a h h1
      by_cases e : i = k
      · subst e; rw [foldI_step (by omega), foldI_end (by omega), foldI_end (by omega)]
      · rw [foldI_step (by omega), foldI_step (n := k) (by omega)]; exact ih (i + 1) _ (by omega) (by omega)
  exact key _ 0 a (Nat.le_refl _) h
theorem foldB_congr {α : Type} {f g : α → Int → α} {n : Int} {a : α} {i : Int} (h : ∀ a j, i ≤ j → j < n → f a j = g a j) : foldI f a i n = foldI g a i n :=
  foldI_rel (fun x y => x = y) rfl (fun a b j h1 h2 e => by rw [e]; exact h b j h1 h2)
def agP (n : Int) (ls : List Lnk) (i : Int) : List It × List It × Bool := foldI (agF ls) (idL n.toNat, zrL n.toNat, true) 0 i
theorem agP_zero : agP n ls 0 = (idL n.toNat, zrL n.toNat, true) := foldI_end (by omega)
theorem agP_go (h : 0 ≤ i) : agP n ls (i + 1) = agF ls (agP n ls i) i := foldB_snoc h
theorem lk_take {m : Nat} (h0 : 0 ≤ j) (h : j < m) : lk' (ls.take m) j = lk' ls j := by
  have h2 : j.toNat < m := by omega
  simp [lk', List.getD, List.getElem?_take, h2]
theorem agP_take (h0 : 0 ≤ i) (h1 : i ≤ ls.length) : agR n (ls.take i.toNat) = agP n ls i := by
  unfold agR agP
  have e : ((ls.take i.toNat).length : Int) = i := by simp; omega
  rw [e]
  exact foldB_congr (fun a j h2 h3 => by unfold agF; rw [lk_take h2 (by omega)])
def nlF (n : Int) (ls : List Lnk) (c i : Int) : Int := if lnN (agP n ls i).1 (lk' ls i).f (lk' ls i).t = true then w64 (c + 1) else c
def nlC (n : Int) (ls : List Lnk) : Int := foldI (nlF n ls) 0 0 ls.length
def nlV (n : Int) (ls : List Lnk) : Int := if lkB n ls = true then nlC n ls else 0
def nlJ (n : Int) (ls : List Lnk) (us vs : List It) (c i : Int) : Prop := (us.length = n.toNat ∧ vs.length = n.toNat) ∧ (us = (agP n ls i).1 ∧ vs = (agP n ls i).2.1) ∧ nlC n ls = foldI (nlF n ls) c i ls.length
theorem nlJ_start : nlJ n ls (idL n.toNat) (zrL n.toNat) 0 0 := ⟨by simp, by rw [agP_zero]; exact ⟨rfl, rfl⟩, rfl⟩
theorem nlJ_go {d : Int} (h : nlJ n ls us vs c i) (h0 : 0 ≤ i) (h1 : i < ls.length) (e : d = if lnN us (lk' ls i).f (lk' ls i).t = true then w64 (c + 1) else c) : nlJ n ls (lnR us vs (lk' ls i).f (lk' ls i).t (lk' ls i).o).1 (lnR us vs (lk' ls i).f (lk' ls i).t (lk' ls i).o).2 d (i + 1) := by
  obtain ⟨a1, ⟨rfl, rfl⟩, a3⟩ := h
  refine ⟨by simpa using a1, ?_, foldI_go rfl h1 e a3⟩
  rw [agP_go h0]; exact ⟨rfl, rfl⟩
theorem nl_seen (hn : 0 ≤ n) (hk : lkOk n ls) (h0 : 0 ≤ i) (h1 : i < ls.length) : sb (shR n (ls.take i.toNat) (lk' ls i).f).1 (lk' ls i).t = lnN (agP n ls i).1 (lk' ls i).f (lk' ls i).t := by
  have hl := hk i h0 h1
  have hk' := lkOk_take hk (m := i.toNat)
  have h2 := shR_seen hl.1 hk' hl.2.1 hl.2.2
  have h3 := (agR_inv hn hk').2.grp _ _ hl.1.1 hl.1.2 hl.2.1 hl.2.2
  rw [agP_take h0 (by omega)] at h3
  have h4 : lnN (agP n ls i).1 (lk' ls i).f (lk' ls i).t = true ↔ ig (agP n ls i).1 (lk' ls i).f = ig (agP n ls i).1 (lk' ls i).t := by simp [lnN]
  cases h5 : sb (shR n (ls.take i.toNat) (lk' ls i).f).1 (lk' ls i).t <;> cases h6 : lnN (agP n ls i).1 (lk' ls i).f (lk' ls i).t <;> simp_all
end
set_option maxRecDepth 100000 in
set_option maxHeartbeats 4000000 in
theorem impNeedlessLinks_gc {n : Int} {ls : List Lnk} (hl : ls.length ≤ 1048576) : GC Try.prog 31 [vi n, .sl 3 (ls.map Lnk.e)] [] (fun r_ hs_ => r_ = .tup [vi (nlV n ls), vb (lkB n ls)] ∧ hs_ = []) := by
  refine GC.of_func [] Try.call31 Try.func31 rfl ⟨by kernel_rfl, by kernel_rfl⟩ (by kernel_rfl) ?_
  rw [Try.results31]
  simp -implicitDefEqProofs (maxSteps := 4000000) only [sim0, sim1, sim2, sim3, sim4, sim5, sim6, sim7, sim8, ↓reduceIte, Nat.reduceEqDiff, Nat.reduceAdd, Nat.reduceMul, Nat.reduceSub, Nat.reduceLT, Nat.reduceLeDiff, reduceCtorEq, Int.reduceToNat, Int.reduceNeg, Nat.reduceBEq, simx, ty, Lnk.row, It.row, Bo.row, idxS_map, loadS_map, stoS_map, ← List.map_take, ← List.map_drop, lnR_len1, lnR_len2]
  repeat' (first
    | ((with_reducible refine onCall ?_); first
      | (refine GC.callR (by repeat' (first | exact rdL_nil | refine rdL_cons ?_ ?_ | exact rd_v | exact rd_sl | exact rd_nil | refine rd_ref rfl (by simp) (plnLL_map (fun _ => rfl) _) | refine rd_rs rfl (by simp; omega) (plnLL_map (fun _ => rfl) _) | refine rd_agg ?_)) (areLinks_gc ?_) rfl ?_ <;> try simp -implicitDefEqProofs (maxSteps := 4000000) only [sim0, sim1, sim2, sim3, sim4, sim5, sim6, sim7, sim8, ↓reduceIte, Nat.reduceEqDiff, Nat.reduceAdd, Nat.reduceMul, Nat.reduceSub, Nat.reduceLT, Nat.reduceLeDiff, reduceCtorEq, Int.reduceToNat, Int.reduceNeg, Nat.reduceBEq, simx, ty, Lnk.row, It.row, Bo.row, idxS_map, loadS_map, stoS_map, ← List.map_take, ← List.map_drop, lnR_len1, lnR_len2])
      | (refine GC.use true [] (apartF_gc ?_) rfl trivial (by repeat' (first | exact arL_nil | refine arL_cons ?_ ?_ | exact ar_v | exact ar_sl | exact ar_nil | refine ar_ref rfl rfl (by simp) (plnLL_map (fun _ => rfl) _) | refine ar_rs rfl rfl (by simp; omega) (plnLL_map (fun _ => rfl) _) | refine ar_agg ?_)) (.inr ⟨rfl, by first | rfl | simp [Lnk.ns, It.ns, Bo.ns]⟩) ?_ <;> try simp -implicitDefEqProofs (maxSteps := 4000000) only [sim0, sim1, sim2, sim3, sim4, sim5, sim6, sim7, sim8, ↓reduceIte, Nat.reduceEqDiff, Nat.reduceAdd, Nat.reduceMul, Nat.reduceSub, Nat.reduceLT, Nat.reduceLeDiff, reduceCtorEq, Int.reduceToNat, Int.reduceNeg, Nat.reduceBEq, simx, ty, Lnk.row, It.row, Bo.row, idxS_map, loadS_map, stoS_map, ← List.map_take, ← List.map_drop, lnR_len1, lnR_len2])
      | (apply GC.use false [0, 1] (lnkLink_gc ?_) rfl ?he ?ha (.inl rfl) ?_; (case he => (refine ⟨rfl, ?_, rfl, ?_, trivial⟩ <;> ((first | rw [Lnk.up] | rw [It.up] | rw [Bo.up]); exact rfl))); (case ha => (repeat' (first | exact arL_nil | refine arL_cons ?_ ?_ | exact ar_v | exact ar_own rfl | refine ar_agg ?_))); (all_goals (try simp -implicitDefEqProofs (maxSteps := 4000000) only [sim0, sim1, sim2, sim3, sim4, sim5, sim6, sim7, sim8, ↓reduceIte, Nat.reduceEqDiff, Nat.reduceAdd, Nat.reduceMul, Nat.reduceSub, Nat.reduceLT, Nat.reduceLeDiff, reduceCtorEq, Int.reduceToNat, Int.reduceNeg, Nat.reduceBEq, simx, ty, Lnk.row, It.row, Bo.row, idxS_map, loadS_map, stoS_map, ← List.map_take, ← List.map_drop, lnR_len1, lnR_len2])))
      | fail)
    | ((with_reducible refine onCode ?_); first
      | (refine onLid 6 ?_ (by rfl); refine acode_prune [0, 1, 4, 5, 6, 7, 9, 10, 18, 19, 20] ?_; simp only [prn_cons, prn_nil, lk_cons, lk_emp, Nat.reduceEqDiff, ↓reduceIte]; refine acode_loopE2 6 (by rfl) (α := Int × List It × List It × Int) (fun ⟨i, us, vs, c⟩ => [(20, vi i), (7, vi c)]) [9, 10, 11, 21, 22, 23, 24, 25, 26, 27, 28, 29, 30, 31, 32, 33] [9, 10] (by kernel_rfl) [] (fun ⟨i, us, vs, c⟩ => [.arr 1 (us.map It.e), .arr 1 (vs.map It.e), .arr 2 [[.ref 0 us.length, .ref 1 vs.length]]]) (fun _ => by simp) (fun _ _ => rfl) (fun ⟨i, us, vs, c⟩ => (0 ≤ i ∧ i ≤ ls.length) ∧ lkB n ls = true ∧ nlJ n ls us vs c i) (fun ⟨i, us, vs, c⟩ => (ls.length - i).toNat) ((0, idL n.toNat, zrL n.toNat, 0)) ?_ ?_ (by (try simp only []) <;> first | (exact ⟨by omega, by simpa using hq, nlJ_start⟩) | fail) ?_; (focus ((try dsimp only []); (repeat' (first | exact agr_none | exact lk_hd | refine lk_tl (by decide) ?_ | refine agr_one ?_ ?_)); done)); (focus (first | rfl | (simp; done))); rintro ⟨i, us, vs, c⟩ hJ; (try simp only [] at hJ); have hJ6 := hJ; simp -implicitDefEqProofs (maxSteps := 4000000) only [sim0, sim1, sim2, sim3, sim4, sim5, sim6, sim7, sim8, ↓reduceIte, Nat.reduceEqDiff, Nat.reduceAdd, Nat.reduceMul, Nat.reduceSub, Nat.reduceLT, Nat.reduceLeDiff, reduceCtorEq, Int.reduceToNat, Int.reduceNeg, Nat.reduceBEq, simx, ty, Lnk.row, It.row, Bo.row, idxS_map, loadS_map, stoS_map, ← List.map_take, ← List.map_drop, lnR_len1, lnR_len2])
      | fail)
    | ((with_reducible refine onLpe ?_); first
      | (refine lpe2_endG (α := Int × List It × List It × Int) (mods := (fun ⟨i, us, vs, c⟩ => [(20, vi i), (7, vi c)])) [0, 1, 2] (IntKind.i64.wrap (i + 1), (lnR us vs (ls.getD i.toNat default).f (ls.getD i.toNat default).t (ls.getD i.toNat default).o).1, (lnR us vs (ls.getD i.toNat default).f (ls.getD i.toNat default).t (ls.getD i.toNat default).o).2, IntKind.i64.wrap (c + 1)) rfl rfl rfl ?_ ?_ (by (try dsimp only []); simp only [agrR_cons, agrR_nil, lk_cons, lk_emp, Nat.reduceEqDiff, ↓reduceIte, and_true]; repeat' (first | exact rn_v | rfl | (simp only [List.length_append, List.length_cons, List.length_nil]; rfl) | apply And.intro)) (by unfold undK; kernel_rfl) ?_ ?_; (focus ((try dsimp only []); simp -implicitDefEqProofs (maxSteps := 4000000) only [sim0, sim1, sim2, sim3, sim4, sim5, sim6, sim7, sim8, ↓reduceIte, Nat.reduceEqDiff, Nat.reduceAdd, Nat.reduceMul, Nat.reduceSub, Nat.reduceLT, Nat.reduceLeDiff, reduceCtorEq, Int.reduceToNat, Int.reduceNeg, Nat.reduceBEq, simx, ty, fins, List.getD_cons_zero, List.getD_cons_succ, Lnk.row, It.row, Bo.row, idxS_map, loadS_map, stoS_map, ← List.map_take, ← List.map_drop, lnR_len1, lnR_len2]; (try rfl); done)); (focus ((try dsimp only []); (first | rfl | (simp only [okL, okE, plnH, Lnk.pl, It.pl, Bo.pl, Bool.true_or, Bool.true_and, Bool.and_true]; done) | (simp only [okL, okE, plnH, Lnk.pl, It.pl, Bo.pl, Bool.true_or, Bool.true_and, Bool.and_true]; rfl)); done)); (all_goals ((try simp only []); (have e_ : IntKind.i64.wrap (i + 1) = i + 1 := wrap_id (by omega) (by omega); (try simp only [e_] at hq ⊢); first | omega | exact ⟨by omega, hJ6.2.1, nlJ_go hJ6.2.2 (by omega) (by omega) (if_pos hq).symm⟩ | exact ⟨by omega, hJ6.2.1, nlJ_go hJ6.2.2 (by omega) (by omega) (if_neg hq).symm⟩))))
      | (refine lpe2_endG (α := Int × List It × List It × Int) (mods := (fun ⟨i, us, vs, c⟩ => [(20, vi i), (7, vi c)])) [0, 1, 2] (IntKind.i64.wrap (i + 1), (lnR us vs (ls.getD i.toNat default).f (ls.getD i.toNat default).t (ls.getD i.toNat default).o).1, (lnR us vs (ls.getD i.toNat default).f (ls.getD i.toNat default).t (ls.getD i.toNat default).o).2, c) rfl rfl rfl ?_ ?_ (by (try dsimp only []); simp only [agrR_cons, agrR_nil, lk_cons, lk_emp, Nat.reduceEqDiff, ↓reduceIte, and_true]; repeat' (first | exact rn_v | rfl | (simp only [List.length_append, List.length_cons, List.length_nil]; rfl) | apply And.intro)) (by unfold undK; kernel_rfl) ?_ ?_; (focus ((try dsimp only []); simp -implicitDefEqProofs (maxSteps := 4000000) only [sim0, sim1, sim2, sim3, sim4, sim5, sim6, sim7, sim8, ↓reduceIte, Nat.reduceEqDiff, Nat.reduceAdd, Nat.reduceMul, Nat.reduceSub, Nat.reduceLT, Nat.reduceLeDiff, reduceCtorEq, Int.reduceToNat, Int.reduceNeg, Nat.reduceBEq, simx, ty, fins, List.getD_cons_zero, List.getD_cons_succ, Lnk.row, It.row, Bo.row, idxS_map, loadS_map, stoS_map, ← List.map_take, ← List.map_drop, lnR_len1, lnR_len2]; (try rfl); done)); (focus ((try dsimp only []); (first | rfl | (simp only [okL, okE, plnH, Lnk.pl, It.pl, Bo.pl, Bool.true_or, Bool.true_and, Bool.and_true]; done) | (simp only [okL, okE, plnH, Lnk.pl, It.pl, Bo.pl, Bool.true_or, Bool.true_and, Bool.and_true]; rfl)); done)); (all_goals ((try simp only []); (have e_ : IntKind.i64.wrap (i + 1) = i + 1 := wrap_id (by omega) (by omega); (try simp only [e_] at hq ⊢); first | omega | exact ⟨by omega, hJ6.2.1, nlJ_go hJ6.2.2 (by omega) (by omega) (if_pos hq).symm⟩ | exact ⟨by omega, hJ6.2.1, nlJ_go hJ6.2.2 (by omega) (by omega) (if_neg hq).symm⟩))))
      | (refine lpe2_end0 (α := Int × List It × List It × Int) (mods := (fun ⟨i, us, vs, c⟩ => [(20, vi i), (7, vi c)])) [0, 1, 2] (_, _, _, _) rfl rfl rfl (by (try dsimp only []); rfl) (by first | (simp only [plnLL, pln, Value.oneCell', List.all_cons, List.all_nil, plnH, Lnk.pl, It.pl, Bo.pl, Bool.and_true, Bool.and_self]; done) | rfl) (by (try dsimp only []); simp only [agrR_cons, agrR_nil, lk_cons, lk_emp, Nat.reduceEqDiff, ↓reduceIte, and_true]; repeat' (first | exact rn_v | rfl | (simp only [List.length_append, List.length_cons, List.length_nil]; rfl) | apply And.intro)) (by unfold undK; kernel_rfl) ?_ ?_ <;> ((try simp only []); (have e_ : IntKind.i64.wrap (i + 1) = i + 1 := wrap_id (by omega) (by omega); (try simp only [e_] at hq ⊢); first | omega | exact ⟨by omega, hJ6.2.1, nlJ_go hJ6.2.2 (by omega) (by omega) (if_pos hq).symm⟩ | exact ⟨by omega, hJ6.2.1, nlJ_go hJ6.2.2 (by omega) (by omega) (if_neg hq).symm⟩)))
      | fail)
    | ((with_reducible refine onFin ?_); first
      | (refine fin_nil ?_; (first | (first | (have h := foldI_fin (by omega) hJ6.2.2.2.2; simp [fins, nlV, hJ6.2.1, h]; done) | (simp [fins, nlV, hq]; done)) | (simp_all [fins]; done) | (simp_all [-Int.not_lt, -Int.not_le, fins]; done) | (simp_all [fins]; omega)))
      | fail)
    | (with_reducible refine ite_intro (fun hq => ?_) (fun hq => ?_))
    | (with_reducible refine And.intro (fun hq => ?_) (fun hq => ?_))
    | (with_reducible refine And.intro ?_ ?_)
    | ((fail_if_success (with_reducible refine onCode ?_)); (fail_if_success (with_reducible refine onLps ?_)); (fail_if_success (with_reducible refine onLpd ?_)); (fail_if_success (with_reducible refine onLpe ?_)); (fail_if_success (with_reducible refine onFin ?_)); (fail_if_success (with_reducible refine onCall ?_)); (fail_if_success (with_reducible refine onQcall ?_)); first | ((first | omega | (have h := lkB_ok (n := n) (ls := ls) (by first | exact hJ6.2.1 | (simpa using hq)); first | omega | (have h3 := h.2 i hJ6.1.1 (by omega); have h2 := hJ6.2.2.1; simp only [lk'] at h3; omega))); done) | omega | (rw [wrap_id (by omega) (by omega)]; omega) | (first | (have h := foldI_fin (by omega) hJ6.2.2.2.2; simp [fins, nlV, hJ6.2.1, h]; done) | (simp [fins, nlV, hq]; done))))

set_option maxRecDepth 100000 in
set_option maxHeartbeats 4000000 in
theorem sNeedlessLinks_gc {n : Int} {ls : List Lnk} (hl : ls.length ≤ 1048576) : GC Try.prog 29 [vi n, .sl 3 (ls.map Lnk.e)] [] (fun r_ hs_ => r_ = .tup [vi (nlV n ls), vb (lkB n ls)] ∧ hs_ = []) := by
  refine GC.of_func [(7, .val 0 (.val 1 (.val 2 (.val 3 (.val 4 (.val 5 (.val 6 (.val 7 (.val 8 (.eff [(9, [], .val 10 (.val 11 (.val 12 (.val 13 (.val 14 (.val 15 (.val 16 (.done))))))))]))))))))))] Try.call29 Try.func29 rfl ⟨by kernel_rfl, by kernel_rfl⟩ (by kernel_rfl) ?_
  rw [Try.results29]
  simp -implicitDefEqProofs (maxSteps := 4000000) only [sim0, sim1, sim2, sim3, sim4, sim5, sim6, sim7, sim8, ↓reduceIte, Nat.reduceEqDiff, Nat.reduceAdd, Nat.reduceMul, Nat.reduceSub, Nat.reduceLT, Nat.reduceLeDiff, reduceCtorEq, Int.reduceToNat, Int.reduceNeg, Nat.reduceBEq, simx, ty, Lnk.row, It.row, Bo.row, idxS_map, loadS_map, stoS_map, ← List.map_take, ← List.map_drop]
  repeat' (first
    | ((with_reducible refine onCall ?_); first
      | (refine GC.callR (by repeat' (first | exact rdL_nil | refine rdL_cons ?_ ?_ | exact rd_v | exact rd_sl | exact rd_nil | refine rd_ref rfl (by simp) (plnLL_map (fun _ => rfl) _) | refine rd_rs rfl (by simp; omega) (plnLL_map (fun _ => rfl) _) | refine rd_agg ?_)) (l12Links_gc ?_) rfl ?_ <;> try simp -implicitDefEqProofs (maxSteps := 4000000) only [sim0, sim1, sim2, sim3, sim4, sim5, sim6, sim7, sim8, ↓reduceIte, Nat.reduceEqDiff, Nat.reduceAdd, Nat.reduceMul, Nat.reduceSub, Nat.reduceLT, Nat.reduceLeDiff, reduceCtorEq, Int.reduceToNat, Int.reduceNeg, Nat.reduceBEq, simx, ty, Lnk.row, It.row, Bo.row, idxS_map, loadS_map, stoS_map, ← List.map_take, ← List.map_drop])
      | (refine GC.use true [] (l12Show_gc ?_ ?_ ?_ ?_) rfl trivial (by repeat' (first | exact arL_nil | refine arL_cons ?_ ?_ | exact ar_v | exact ar_sl | exact ar_nil | refine ar_ref rfl rfl (by simp) (plnLL_map (fun _ => rfl) _) | refine ar_rs rfl rfl (by simp; omega) (plnLL_map (fun _ => rfl) _) | refine ar_agg ?_)) (.inr ⟨rfl, by first | rfl | simp [Lnk.ns, It.ns, Bo.ns]⟩) ?_ <;> try simp -implicitDefEqProofs (maxSteps := 4000000) only [sim0, sim1, sim2, sim3, sim4, sim5, sim6, sim7, sim8, ↓reduceIte, Nat.reduceEqDiff, Nat.reduceAdd, Nat.reduceMul, Nat.reduceSub, Nat.reduceLT, Nat.reduceLeDiff, reduceCtorEq, Int.reduceToNat, Int.reduceNeg, Nat.reduceBEq, simx, ty, Lnk.row, It.row, Bo.row, idxS_map, loadS_map, stoS_map, ← List.map_take, ← List.map_drop])
      | fail)
    | ((with_reducible refine onCode ?_); first
      | (refine onLid 5 ?_ (by rfl); refine acode_prune [0, 1, 4, 5, 6, 7, 8] ?_; simp only [prn_cons, prn_nil, lk_cons, lk_emp, Nat.reduceEqDiff, ↓reduceIte]; refine acode_loopD2 5 (by rfl) (α := Int × Int) (fun ⟨i, c⟩ => [(7, vi i), (6, vi c)]) [8, 9, 10, 15, 16, 17, 18, 19, 20, 21, 22, 23, 24, 25, 26, 27, 28, 29, 30, 31, 32, 33, 34, 35, 36, 37, 38, 39, 40, 41, 42, 43, 44] [8] (by kernel_rfl) (fun ⟨i, c⟩ => (0 ≤ i ∧ i ≤ ls.length) ∧ lkB n ls = true ∧ nlC n ls = foldI (nlF n ls) c i ls.length) (fun ⟨i, c⟩ => (ls.length - i).toNat) ((0, 0)) ?_ (by first | (simp only [plnLL, pln, Value.oneCell', List.all_cons, List.all_nil, plnH, Lnk.pl, It.pl, Bo.pl, Bool.and_true, Bool.and_self]; done) | rfl) (by simp) rfl (by (try simp only []) <;> first | (exact ⟨by omega, by simpa using hq, rfl⟩) | fail) ?_; (focus ((try dsimp only []); (repeat' (first | exact agr_none | exact lk_hd | refine lk_tl (by decide) ?_ | refine agr_one ?_ ?_)); done)); rintro ⟨i, c⟩ hJ; (try simp only [] at hJ); have hJ5 := hJ; simp -implicitDefEqProofs (maxSteps := 4000000) only [sim0, sim1, sim2, sim3, sim4, sim5, sim6, sim7, sim8, ↓reduceIte, Nat.reduceEqDiff, Nat.reduceAdd, Nat.reduceMul, Nat.reduceSub, Nat.reduceLT, Nat.reduceLeDiff, reduceCtorEq, Int.reduceToNat, Int.reduceNeg, Nat.reduceBEq, simx, ty, Lnk.row, It.row, Bo.row, idxS_map, loadS_map, stoS_map, ← List.map_take, ← List.map_drop])
      | fail)
    | ((with_reducible refine onLpd ?_); first
      | (refine lpd2_end (α := Int × Int) (mods := (fun ⟨i, c⟩ => [(7, vi i), (6, vi c)])) (_, _) (by (try dsimp only []); simp only [agr_cons, agr_nil, lk_cons, lk_emp, Nat.reduceEqDiff, ↓reduceIte, and_true]; repeat' (first | rfl | apply And.intro)) (by unfold undK; kernel_rfl) _ rfl rfl ?_ ?_ <;> ((try simp only []); (have e_ : IntKind.i64.wrap (i + 1) = i + 1 := wrap_id (by omega) (by omega); (try simp only [e_] at hq ⊢); (have hk := lkB_ok hJ5.2.1); (have hs := nl_seen (n := n) (by omega) hk.2 hJ5.1.1 (by assumption)); first | omega | exact ⟨by omega, hJ5.2.1, foldI_go rfl (by omega) (by unfold nlF; rw [← hs]; exact (if_pos hq).symm) hJ5.2.2⟩ | exact ⟨by omega, hJ5.2.1, foldI_go rfl (by omega) (by unfold nlF; rw [← hs]; exact (if_neg hq).symm) hJ5.2.2⟩)))
      | fail)
    | ((with_reducible refine onFin ?_); first
      | (refine fin_nil ?_; (first | (first | (have h := foldI_fin (by omega) hJ5.2.2; simp [fins, nlV, hJ5.2.1, h]; done) | (simp [fins, nlV, hq]; done)) | (simp_all [fins]; done) | (simp_all [-Int.not_lt, -Int.not_le, fins]; done) | (simp_all [fins]; omega)))
      | fail)
    | (with_reducible refine ite_intro (fun hq => ?_) (fun hq => ?_))
    | (with_reducible refine And.intro (fun hq => ?_) (fun hq => ?_))
    | (with_reducible refine And.intro ?_ ?_)
    | ((fail_if_success (with_reducible refine onCode ?_)); (fail_if_success (with_reducible refine onLps ?_)); (fail_if_success (with_reducible refine onLpd ?_)); (fail_if_success (with_reducible refine onLpe ?_)); (fail_if_success (with_reducible refine onFin ?_)); (fail_if_success (with_reducible refine onCall ?_)); (fail_if_success (with_reducible refine onQcall ?_)); first | ((first | omega | (have h := lkB_ok hJ5.2.1; have h3 := h.2 i hJ5.1.1 (by omega); have h4 := (shR_SJ h3.1 (lkOk_take h.2 (m := i.toNat))).1.l1; simp only [lk'] at h3 h4; first | omega | exact h3.1.1 | exact h3.1.2 | exact lkOk_take h.2 | (simp only [List.length_take]; omega))); done) | omega | (rw [wrap_id (by omega) (by omega)]; omega) | (first | (have h := foldI_fin (by omega) hJ5.2.2; simp [fins, nlV, hJ5.2.1, h]; done) | (simp [fins, nlV, hq]; done))))

set_option maxRecDepth 100000 in
set_option maxHeartbeats 4000000 in
theorem FnExactNeedlessLinks_g0 {n : Int} {ls : List Lnk} (hl : ls.length ≤ maxLen) : GC Try.prog 8 [vi n, .sl 3 (ls.map Lnk.e)] [] (fun r _ => r = vb true) := by
  refine GC.of_func [] Try.call8 Try.func8 rfl ⟨by kernel_rfl, by kernel_rfl⟩ (by kernel_rfl) ?_
  rw [Try.results8]
  simp -implicitDefEqProofs (maxSteps := 4000000) only [sim0, sim1, sim2, sim3, sim4, sim5, sim6, sim7, sim8, ↓reduceIte, Nat.reduceEqDiff, Nat.reduceAdd, Nat.reduceMul, Nat.reduceSub, Nat.reduceLT, Nat.reduceLeDiff, reduceCtorEq, Int.reduceToNat, Int.reduceNeg, Nat.reduceBEq, simx, ty, Lnk.row, It.row, Bo.row, idxS_map, loadS_map, stoS_map, ← List.map_take, ← List.map_drop, sz_neg, mkLnk_len, mkIt_len]
  repeat' (first
    | ((with_reducible refine onCall ?_); first
      | (refine GC.callR (by repeat' (first | exact rdL_nil | refine rdL_cons ?_ ?_ | exact rd_v | exact rd_sl | exact rd_nil | refine rd_ref rfl (by simp [mkLnk_len, mkIt_len]) (plnLL_map (fun _ => rfl) _) | refine rd_rs rfl (by simp; omega) (plnLL_map (fun _ => rfl) _) | refine rd_agg ?_)) (szClockLinkS_gc ?_ ?_) rfl ?_ <;> try simp -implicitDefEqProofs (maxSteps := 4000000) only [sim0, sim1, sim2, sim3, sim4, sim5, sim6, sim7, sim8, ↓reduceIte, Nat.reduceEqDiff, Nat.reduceAdd, Nat.reduceMul, Nat.reduceSub, Nat.reduceLT, Nat.reduceLeDiff, reduceCtorEq, Int.reduceToNat, Int.reduceNeg, Nat.reduceBEq, simx, ty, Lnk.row, It.row, Bo.row, idxS_map, loadS_map, stoS_map, ← List.map_take, ← List.map_drop, sz_neg, mkLnk_len, mkIt_len])
      | (refine GC.use true [] (toClockLinkS_gc ?_) rfl trivial (by repeat' (first | exact arL_nil | refine arL_cons ?_ ?_ | exact ar_v | exact ar_sl | exact ar_nil | refine ar_ref rfl rfl (by simp [mkLnk_len, mkIt_len]) (plnLL_map (fun _ => rfl) _) | refine ar_rs rfl rfl (by simp; omega) (plnLL_map (fun _ => rfl) _) | refine ar_agg ?_)) (.inr ⟨rfl, by first | rfl | simp [Lnk.ns, It.ns, Bo.ns]⟩) ?_ <;> try simp -implicitDefEqProofs (maxSteps := 4000000) only [sim0, sim1, sim2, sim3, sim4, sim5, sim6, sim7, sim8, ↓reduceIte, Nat.reduceEqDiff, Nat.reduceAdd, Nat.reduceMul, Nat.reduceSub, Nat.reduceLT, Nat.reduceLeDiff, reduceCtorEq, Int.reduceToNat, Int.reduceNeg, Nat.reduceBEq, simx, ty, Lnk.row, It.row, Bo.row, idxS_map, loadS_map, stoS_map, ← List.map_take, ← List.map_drop, sz_neg, mkLnk_len, mkIt_len])
      | (refine GC.callR (by repeat' (first | exact rdL_nil | refine rdL_cons ?_ ?_ | exact rd_v | exact rd_sl | exact rd_nil | refine rd_ref rfl (by simp [mkLnk_len, mkIt_len]) (plnLL_map (fun _ => rfl) _) | refine rd_rs rfl (by simp; omega) (plnLL_map (fun _ => rfl) _) | refine rd_agg ?_)) (sNeedlessLinks_gc ?_) rfl ?_ <;> try simp -implicitDefEqProofs (maxSteps := 4000000) only [sim0, sim1, sim2, sim3, sim4, sim5, sim6, sim7, sim8, ↓reduceIte, Nat.reduceEqDiff, Nat.reduceAdd, Nat.reduceMul, Nat.reduceSub, Nat.reduceLT, Nat.reduceLeDiff, reduceCtorEq, Int.reduceToNat, Int.reduceNeg, Nat.reduceBEq, simx, ty, Lnk.row, It.row, Bo.row, idxS_map, loadS_map, stoS_map, ← List.map_take, ← List.map_drop, sz_neg, mkLnk_len, mkIt_len])
      | (refine GC.callR (by repeat' (first | exact rdL_nil | refine rdL_cons ?_ ?_ | exact rd_v | exact rd_sl | exact rd_nil | refine rd_ref rfl (by simp [mkLnk_len, mkIt_len]) (plnLL_map (fun _ => rfl) _) | refine rd_rs rfl (by simp; omega) (plnLL_map (fun _ => rfl) _) | refine rd_agg ?_)) (impNeedlessLinks_gc ?_) rfl ?_ <;> try simp -implicitDefEqProofs (maxSteps := 4000000) only [sim0, sim1, sim2, sim3, sim4, sim5, sim6, sim7, sim8, ↓reduceIte, Nat.reduceEqDiff, Nat.reduceAdd, Nat.reduceMul, Nat.reduceSub, Nat.reduceLT, Nat.reduceLeDiff, reduceCtorEq, Int.reduceToNat, Int.reduceNeg, Nat.reduceBEq, simx, ty, Lnk.row, It.row, Bo.row, idxS_map, loadS_map, stoS_map, ← List.map_take, ← List.map_drop, sz_neg, mkLnk_len, mkIt_len])
      | (refine GC.callR (by repeat' (first | exact rdL_nil | refine rdL_cons ?_ ?_ | exact rd_v | exact rd_sl | exact rd_nil | refine rd_ref rfl (by simp [mkLnk_len, mkIt_len]) (plnLL_map (fun _ => rfl) _) | refine rd_rs rfl (by simp; omega) (plnLL_map (fun _ => rfl) _) | refine rd_agg ?_)) (eqClockLinkS_gc ?_) rfl ?_ <;> try simp -implicitDefEqProofs (maxSteps := 4000000) only [sim0, sim1, sim2, sim3, sim4, sim5, sim6, sim7, sim8, ↓reduceIte, Nat.reduceEqDiff, Nat.reduceAdd, Nat.reduceMul, Nat.reduceSub, Nat.reduceLT, Nat.reduceLeDiff, reduceCtorEq, Int.reduceToNat, Int.reduceNeg, Nat.reduceBEq, simx, ty, Lnk.row, It.row, Bo.row, idxS_map, loadS_map, stoS_map, ← List.map_take, ← List.map_drop, sz_neg, mkLnk_len, mkIt_len])
      | fail)
    | ((with_reducible refine onFin ?_); first
      | (refine fin_law ?_; (first | (simp_all [fins]; done) | (simp_all [-Int.not_lt, -Int.not_le, fins]; done) | (simp_all [fins]; omega)))
      | fail)
    | (with_reducible refine ite_intro (fun hq => ?_) (fun hq => ?_))
    | (with_reducible refine And.intro (fun hq => ?_) (fun hq => ?_))
    | (with_reducible refine And.intro ?_ ?_)
    | ((fail_if_success (with_reducible refine onCode ?_)); (fail_if_success (with_reducible refine onLps ?_)); (fail_if_success (with_reducible refine onLpd ?_)); (fail_if_success (with_reducible refine onLpe ?_)); (fail_if_success (with_reducible refine onFin ?_)); (fail_if_success (with_reducible refine onCall ?_)); (fail_if_success (with_reducible refine onQcall ?_)); first | ((omega); done) | omega | (rw [wrap_id (by omega) (by omega)]; omega) | (simp_all; done)))

theorem FnExactNeedlessLinks_gc (n : Int) (hn : I64 n) (xs : List (List Int)) (w : ∀ e ∈ xs, e.length = 3 ∧ ∀ z ∈ e, (Lit.int .i64 z).wf = true) (m : xs.length ≤ maxLen) : GC Try.prog 8 [vi n, .sl 3 (els .i64 xs)] [] (fun r _ => r = vb true) := by
  obtain ⟨ts, h1, h2, h3⟩ := Lnk.of w
  rw [h1]; exact FnExactNeedlessLinks_g0 (by omega)
end Go.Proofs.Ytpcaijpolkcipaa
