/-
The law FnExactParsePlot, over plain data.
No condition but those that the contracts name.
-/
import Derived.Test.YtgcmahhejblpkaaC8
namespace Go.Proofs.Ytgcmahhejblpkaa
open Eng
set_option linter.unusedSimpArgs false
set_option linter.unusedVariables false
set_option maxRecDepth 100000 in
set_option maxHeartbeats 4000000 in
theorem heldPlot_gc {s a x y k : Int} {ts : List It} (hl : ts.length ≤ 1048576) (hk : 0 ≤ k ∧ k ≤ 1000000000) (hm : ∀ n : Nat, n < ts.length → ts.getD n default = ⟨k + 1 * n⟩) : GC Try.prog 41 [.agg [vi s, vi a, vi x, vi y, .sl 1 (ts.map It.e)], vi k] [] (fun r_ hs_ => r_ = vi (k + 1 * ts.length) ∧ hs_ = []) := by
  refine GC.of_func [] Try.call41 Try.func41 rfl ⟨by kernel_rfl, by kernel_rfl⟩ (by kernel_rfl) ?_
  rw [Try.results41]
  simp -implicitDefEqProofs (maxSteps := 4000000) only [sim0, sim1, sim2, sim3, sim4, sim5, sim6, sim7, sim8, ↓reduceIte, Nat.reduceEqDiff, Nat.reduceAdd, Nat.reduceMul, Nat.reduceSub, Nat.reduceLT, Nat.reduceLeDiff, reduceCtorEq, Int.reduceToNat, Int.reduceNeg, Nat.reduceBEq, simx, ty, Sg.row, It.row, idxS_map, loadS_map, stoS_map, ← List.map_take, ← List.map_drop]
  repeat' (first
    | ((with_reducible refine onCall ?_); first
      | (refine GC.callR (by repeat' (first | exact rdL_nil | refine rdL_cons ?_ ?_ | exact rd_v | exact rd_sl | exact rd_nil | refine rd_ref rfl (by simp) (plnLL_map (fun _ => rfl) _) | refine rd_rs rfl (by simp; omega) (plnLL_map (fun _ => rfl) _) | refine rd_agg ?_)) (heldIntS_gc ?_ ?_ ?_) rfl ?_ <;> try simp -implicitDefEqProofs (maxSteps := 4000000) only [sim0, sim1, sim2, sim3, sim4, sim5, sim6, sim7, sim8, ↓reduceIte, Nat.reduceEqDiff, Nat.reduceAdd, Nat.reduceMul, Nat.reduceSub, Nat.reduceLT, Nat.reduceLeDiff, reduceCtorEq, Int.reduceToNat, Int.reduceNeg, Nat.reduceBEq, simx, ty, Sg.row, It.row, idxS_map, loadS_map, stoS_map, ← List.map_take, ← List.map_drop])
      | fail)
    | ((with_reducible refine onFin ?_); first
      | (refine fin_nil ?_; (first | (first | rfl | (exfalso; omega)) | (simp_all [fins]; done) | (simp_all [-Int.not_lt, -Int.not_le, fins]; done) | (simp_all [fins]; omega)))
      | fail)
    | (with_reducible refine ite_intro (fun hq => ?_) (fun hq => ?_))
    | (with_reducible refine And.intro (fun hq => ?_) (fun hq => ?_))
    | (with_reducible refine And.intro ?_ ?_)
    | ((fail_if_success (with_reducible refine onCode ?_)); (fail_if_success (with_reducible refine onLps ?_)); (fail_if_success (with_reducible refine onLpd ?_)); (fail_if_success (with_reducible refine onLpe ?_)); (fail_if_success (with_reducible refine onFin ?_)); (fail_if_success (with_reducible refine onCall ?_)); (fail_if_success (with_reducible refine onQcall ?_)); first | ((first | exact hl | exact hk | exact hm); done) | omega | (rw [wrap_id (by omega) (by omega)]; omega) | (first | rfl | (exfalso; omega))))

set_option maxRecDepth 100000 in
set_option maxHeartbeats 4000000 in
theorem markNil_gc {k : Int} : GC Try.prog 28 [.v (.slice none 0 0), vi k] [] (fun r_ hs_ => r_ = vi k ∧ hs_ = []) := by
  refine GC.of_func [] Try.call28 Try.func28 rfl ⟨by kernel_rfl, by kernel_rfl⟩ (by kernel_rfl) ?_
  rw [Try.results28]
  simp -implicitDefEqProofs (maxSteps := 4000000) only [sim0, sim1, sim2, sim3, sim4, sim5, sim6, sim7, sim8, ↓reduceIte, Nat.reduceEqDiff, Nat.reduceAdd, Nat.reduceMul, Nat.reduceSub, Nat.reduceLT, Nat.reduceLeDiff, reduceCtorEq, Int.reduceToNat, Int.reduceNeg, Nat.reduceBEq, simx, ty]
  repeat' (first
    | ((with_reducible refine onCode ?_); first
      | (refine onLid 2 ?_ (by rfl); refine acode_prune [0, 1, 4, 5] ?_; simp only [prn_cons, prn_nil, lk_cons, lk_emp, Nat.reduceEqDiff, ↓reduceIte]; refine acode_loopS2 2 (by rfl) (α := Int × Int) (fun ⟨i, kk⟩ => [(5, vi i), (1, vi kk)]) [6, 7, 8, 9, 10, 11, 12, 13, 14, 15, 16, 17] [] (by kernel_rfl) (fun ⟨i, kk⟩ => i = 0 ∧ kk = k) (fun ⟨i, kk⟩ => (0 : Nat)) ((0, k)) ?_ (by (try simp only []) <;> first | (exact ⟨by first | rfl | trivial, by first | rfl | trivial⟩) | fail) ?_; (focus ((try dsimp only []); (repeat' (first | exact agr_none | exact lk_hd | refine lk_tl (by decide) ?_ | refine agr_one ?_ ?_)); done)); rintro ⟨i, kk⟩ hJ; (try simp only [] at hJ); have hJ2 := hJ; simp -implicitDefEqProofs (maxSteps := 4000000) only [sim0, sim1, sim2, sim3, sim4, sim5, sim6, sim7, sim8, ↓reduceIte, Nat.reduceEqDiff, Nat.reduceAdd, Nat.reduceMul, Nat.reduceSub, Nat.reduceLT, Nat.reduceLeDiff, reduceCtorEq, Int.reduceToNat, Int.reduceNeg, Nat.reduceBEq, simx, ty])
      | fail)
    | ((with_reducible refine onLps ?_); first
      | (refine lps2_end (α := Int × Int) (mods := (fun ⟨i, kk⟩ => [(5, vi i), (1, vi kk)])) (_, _) (by (try dsimp only []); simp only [agr_cons, agr_nil, lk_cons, lk_emp, Nat.reduceEqDiff, ↓reduceIte, and_true]; repeat' (first | rfl | apply And.intro)) (by unfold undK; kernel_rfl) ?_ ?_ <;> ((try simp only []); (omega)))
      | fail)
    | ((with_reducible refine onFin ?_); first
      | (refine fin_nil ?_; (first | ((rw [hJ2.2]; rfl)) | (simp_all [fins]; done) | (simp_all [-Int.not_lt, -Int.not_le, fins]; done) | (simp_all [fins]; omega)))
      | fail)
    | ((exfalso; omega))
    | (with_reducible refine ite_intro (fun hq => ?_) (fun hq => ?_))
    | (with_reducible refine And.intro (fun hq => ?_) (fun hq => ?_))
    | (with_reducible refine And.intro ?_ ?_)
    | ((fail_if_success (with_reducible refine onCode ?_)); (fail_if_success (with_reducible refine onLps ?_)); (fail_if_success (with_reducible refine onLpd ?_)); (fail_if_success (with_reducible refine onLpe ?_)); (fail_if_success (with_reducible refine onFin ?_)); (fail_if_success (with_reducible refine onCall ?_)); (fail_if_success (with_reducible refine onQcall ?_)); first | omega | (rw [wrap_id (by omega) (by omega)]; omega) | ((rw [hJ2.2]; rfl))))

set_option maxRecDepth 100000 in
set_option maxHeartbeats 4000000 in
theorem markPlotN_gc {s a x y k : Int} : GC Try.prog 40 [.agg [vi s, vi a, vi x, vi y, .v (.slice none 0 0)], vi k] [] (fun r_ hs_ => r_ = vi k ∧ hs_ = []) := by
  refine GC.of_func [] Try.call40 Try.func40 rfl ⟨by kernel_rfl, by kernel_rfl⟩ (by kernel_rfl) ?_
  rw [Try.results40]
  simp -implicitDefEqProofs (maxSteps := 4000000) only [sim0, sim1, sim2, sim3, sim4, sim5, sim6, sim7, sim8, ↓reduceIte, Nat.reduceEqDiff, Nat.reduceAdd, Nat.reduceMul, Nat.reduceSub, Nat.reduceLT, Nat.reduceLeDiff, reduceCtorEq, Int.reduceToNat, Int.reduceNeg, Nat.reduceBEq, simx, ty]
  repeat' (first
    | ((with_reducible refine onCall ?_); first
      | (refine GC.callS markNil_gc rfl rfl ?_ <;> try simp -implicitDefEqProofs (maxSteps := 4000000) only [sim0, sim1, sim2, sim3, sim4, sim5, sim6, sim7, sim8, ↓reduceIte, Nat.reduceEqDiff, Nat.reduceAdd, Nat.reduceMul, Nat.reduceSub, Nat.reduceLT, Nat.reduceLeDiff, reduceCtorEq, Int.reduceToNat, Int.reduceNeg, Nat.reduceBEq, simx, ty])
      | fail)
    | ((with_reducible refine onFin ?_); first
      | (refine fin_nil ?_; (first | (simp_all [fins]; done) | (simp_all [-Int.not_lt, -Int.not_le, fins]; done) | (simp_all [fins]; omega)))
      | fail)
    | (with_reducible refine ite_intro (fun hq => ?_) (fun hq => ?_))
    | (with_reducible refine And.intro (fun hq => ?_) (fun hq => ?_))
    | (with_reducible refine And.intro ?_ ?_)
    | ((fail_if_success (with_reducible refine onCode ?_)); (fail_if_success (with_reducible refine onLps ?_)); (fail_if_success (with_reducible refine onLpd ?_)); (fail_if_success (with_reducible refine onLpe ?_)); (fail_if_success (with_reducible refine onFin ?_)); (fail_if_success (with_reducible refine onCall ?_)); (fail_if_success (with_reducible refine onQcall ?_)); first | omega | (rw [wrap_id (by omega) (by omega)]; omega) | (simp_all; done)))

set_option maxRecDepth 100000 in
set_option maxHeartbeats 4000000 in
theorem lawA_gc {t : ByteArray} {s a x y : Int} {ts : List It} (hP : PlF t s a x y ts) (hB : plotB s a x y ts = true ∧ t = ptS s a x y ts) : GC Try.prog 10 [vs t] [] (fun r_ hs_ => r_ = vb true ∧ hs_ = []) := by
  refine GC.of_func [] Try.call10 Try.func10 rfl ⟨by kernel_rfl, by kernel_rfl⟩ (by kernel_rfl) ?_
  rw [Try.results10]
  simp -implicitDefEqProofs (maxSteps := 4000000) only [sim0, sim1, sim2, sim3, sim4, sim5, sim6, sim7, sim8, ↓reduceIte, Nat.reduceEqDiff, Nat.reduceAdd, Nat.reduceMul, Nat.reduceSub, Nat.reduceLT, Nat.reduceLeDiff, reduceCtorEq, Int.reduceToNat, Int.reduceNeg, Nat.reduceBEq, simx, ty, Sg.row, It.row, idxS_map, loadS_map, stoS_map, ← List.map_take, ← List.map_drop, mkIt_len]
  repeat' (first
    | ((with_reducible refine onCall ?_); first
      | ((refine GC.use true [] (impParseA_gc hP hB) rfl trivial (by repeat' (first | exact arL_nil | refine arL_cons ?_ ?_ | exact ar_v | exact ar_sl | exact ar_nil | refine ar_ref rfl rfl (by simp) (plnLL_map (fun _ => rfl) _) | refine ar_rs rfl rfl (by simp; omega) (plnLL_map (fun _ => rfl) _) | refine ar_agg ?_)) (.inr ⟨rfl, by first | rfl | simp [Sg.ns, It.ns]⟩) ?_ <;> try simp -implicitDefEqProofs (maxSteps := 4000000) only [sim0, sim1, sim2, sim3, sim4, sim5, sim6, sim7, sim8, ↓reduceIte, Nat.reduceEqDiff, Nat.reduceAdd, Nat.reduceMul, Nat.reduceSub, Nat.reduceLT, Nat.reduceLeDiff, reduceCtorEq, Int.reduceToNat, Int.reduceNeg, Nat.reduceBEq, simx, ty, Sg.row, It.row, idxS_map, loadS_map, stoS_map, ← List.map_take, ← List.map_drop, mkIt_len]))
      | ((refine GC.use true [] (sParseA_gc hP hB) rfl trivial (by repeat' (first | exact arL_nil | refine arL_cons ?_ ?_ | exact ar_v | exact ar_sl | exact ar_nil | refine ar_ref rfl rfl (by simp) (plnLL_map (fun _ => rfl) _) | refine ar_rs rfl rfl (by simp; omega) (plnLL_map (fun _ => rfl) _) | refine ar_agg ?_)) (.inr ⟨rfl, by first | rfl | simp [Sg.ns, It.ns]⟩) ?_ <;> try simp -implicitDefEqProofs (maxSteps := 4000000) only [sim0, sim1, sim2, sim3, sim4, sim5, sim6, sim7, sim8, ↓reduceIte, Nat.reduceEqDiff, Nat.reduceAdd, Nat.reduceMul, Nat.reduceSub, Nat.reduceLT, Nat.reduceLeDiff, reduceCtorEq, Int.reduceToNat, Int.reduceNeg, Nat.reduceBEq, simx, ty, Sg.row, It.row, idxS_map, loadS_map, stoS_map, ← List.map_take, ← List.map_drop, mkIt_len]))
      | (refine GC.callR (by repeat' (first | exact rdL_nil | refine rdL_cons ?_ ?_ | exact rd_v | exact rd_sl | exact rd_nil | refine rd_ref rfl (by simp [mkIt_len]) (plnLL_map (fun _ => rfl) _) | refine rd_rs rfl (by simp; omega) (plnLL_map (fun _ => rfl) _) | refine rd_agg ?_)) (eqPlot_gc ?_) rfl ?_ <;> try simp -implicitDefEqProofs (maxSteps := 4000000) only [sim0, sim1, sim2, sim3, sim4, sim5, sim6, sim7, sim8, ↓reduceIte, Nat.reduceEqDiff, Nat.reduceAdd, Nat.reduceMul, Nat.reduceSub, Nat.reduceLT, Nat.reduceLeDiff, reduceCtorEq, Int.reduceToNat, Int.reduceNeg, Nat.reduceBEq, simx, ty, Sg.row, It.row, idxS_map, loadS_map, stoS_map, ← List.map_take, ← List.map_drop, mkIt_len])
      | (apply GC.use false [2] (markPlot_gc ?_ ?_) rfl ?he ?ha (.inl rfl) ?_; (case he => (refine ⟨rfl, ?_, trivial⟩; (first | rw [Sg.up] | rw [It.up]); exact rfl)); (case ha => (repeat' (first | exact arL_nil | refine arL_cons ?_ ?_ | exact ar_v | exact ar_own rfl | refine ar_agg ?_))); (all_goals (try simp -implicitDefEqProofs (maxSteps := 4000000) only [sim0, sim1, sim2, sim3, sim4, sim5, sim6, sim7, sim8, ↓reduceIte, Nat.reduceEqDiff, Nat.reduceAdd, Nat.reduceMul, Nat.reduceSub, Nat.reduceLT, Nat.reduceLeDiff, reduceCtorEq, Int.reduceToNat, Int.reduceNeg, Nat.reduceBEq, simx, ty, Sg.row, It.row, idxS_map, loadS_map, stoS_map, ← List.map_take, ← List.map_drop, mkIt_len])))
      | (refine GC.callR (by repeat' (first | exact rdL_nil | refine rdL_cons ?_ ?_ | exact rd_v | exact rd_sl | exact rd_nil | refine rd_ref rfl (by simp [mkIt_len]) (plnLL_map (fun _ => rfl) _) | refine rd_rs rfl (by simp; omega) (plnLL_map (fun _ => rfl) _) | refine rd_agg ?_)) (heldPlot_gc ?_ ?_ ?_) rfl ?_ <;> try simp -implicitDefEqProofs (maxSteps := 4000000) only [sim0, sim1, sim2, sim3, sim4, sim5, sim6, sim7, sim8, ↓reduceIte, Nat.reduceEqDiff, Nat.reduceAdd, Nat.reduceMul, Nat.reduceSub, Nat.reduceLT, Nat.reduceLeDiff, reduceCtorEq, Int.reduceToNat, Int.reduceNeg, Nat.reduceBEq, simx, ty, Sg.row, It.row, idxS_map, loadS_map, stoS_map, ← List.map_take, ← List.map_drop, mkIt_len])
      | fail)
    | ((with_reducible refine onFin ?_); first
      | (refine fin_nil ?_; (first | (first | rfl | (exfalso; have g9 := hP.rg; omega) | (exfalso; simp at hq; done)) | (simp_all [fins]; done) | (simp_all [-Int.not_lt, -Int.not_le, fins]; done) | (simp_all [fins]; omega)))
      | fail)
    | (with_reducible refine ite_intro (fun hq => ?_) (fun hq => ?_))
    | (with_reducible refine And.intro (fun hq => ?_) (fun hq => ?_))
    | (with_reducible refine And.intro ?_ ?_)
    | ((fail_if_success (with_reducible refine onCode ?_)); (fail_if_success (with_reducible refine onLps ?_)); (fail_if_success (with_reducible refine onLpd ?_)); (fail_if_success (with_reducible refine onLpe ?_)); (fail_if_success (with_reducible refine onFin ?_)); (fail_if_success (with_reducible refine onCall ?_)); (fail_if_success (with_reducible refine onQcall ?_)); first | (((have g9 := hP.rg; first | omega | (rw [mkIt_len]; omega) | exact fun n h => mkIt_get h | exact fun n h => mkIt_get (by rw [mkIt_len] at h; exact h))); done) | omega | (rw [wrap_id (by omega) (by omega)]; omega) | (first | rfl | (exfalso; have g9 := hP.rg; omega) | (exfalso; simp at hq; done))))

set_option maxRecDepth 100000 in
set_option maxHeartbeats 4000000 in
theorem lawB_gc {t : ByteArray} (hno : ∀ (s a x y : Int) (ts : List It), plotB s a x y ts = true → ¬ t = ptS s a x y ts) : GC Try.prog 10 [vs t] [] (fun r_ hs_ => r_ = vb true ∧ hs_ = []) := by
  refine GC.of_func [] Try.call10 Try.func10 rfl ⟨by kernel_rfl, by kernel_rfl⟩ (by kernel_rfl) ?_
  rw [Try.results10]
  simp -implicitDefEqProofs (maxSteps := 4000000) only [sim0, sim1, sim2, sim3, sim4, sim5, sim6, sim7, sim8, ↓reduceIte, Nat.reduceEqDiff, Nat.reduceAdd, Nat.reduceMul, Nat.reduceSub, Nat.reduceLT, Nat.reduceLeDiff, reduceCtorEq, Int.reduceToNat, Int.reduceNeg, Nat.reduceBEq, simx, ty, Sg.row, It.row, idxS_map, loadS_map, stoS_map, ← List.map_take, ← List.map_drop]
  repeat' (first
    | ((with_reducible refine onCall ?_); first
      | (refine GC.callS (impParseB_gc ?_ hno) rfl rfl ?_ <;> try simp -implicitDefEqProofs (maxSteps := 4000000) only [sim0, sim1, sim2, sim3, sim4, sim5, sim6, sim7, sim8, ↓reduceIte, Nat.reduceEqDiff, Nat.reduceAdd, Nat.reduceMul, Nat.reduceSub, Nat.reduceLT, Nat.reduceLeDiff, reduceCtorEq, Int.reduceToNat, Int.reduceNeg, Nat.reduceBEq, simx, ty, Sg.row, It.row, idxS_map, loadS_map, stoS_map, ← List.map_take, ← List.map_drop])
      | (refine GC.callS (sParseB_gc ?_ hno) rfl rfl ?_ <;> try simp -implicitDefEqProofs (maxSteps := 4000000) only [sim0, sim1, sim2, sim3, sim4, sim5, sim6, sim7, sim8, ↓reduceIte, Nat.reduceEqDiff, Nat.reduceAdd, Nat.reduceMul, Nat.reduceSub, Nat.reduceLT, Nat.reduceLeDiff, reduceCtorEq, Int.reduceToNat, Int.reduceNeg, Nat.reduceBEq, simx, ty, Sg.row, It.row, idxS_map, loadS_map, stoS_map, ← List.map_take, ← List.map_drop])
      | (refine GC.callS markPlotN_gc rfl rfl ?_ <;> try simp -implicitDefEqProofs (maxSteps := 4000000) only [sim0, sim1, sim2, sim3, sim4, sim5, sim6, sim7, sim8, ↓reduceIte, Nat.reduceEqDiff, Nat.reduceAdd, Nat.reduceMul, Nat.reduceSub, Nat.reduceLT, Nat.reduceLeDiff, reduceCtorEq, Int.reduceToNat, Int.reduceNeg, Nat.reduceBEq, simx, ty, Sg.row, It.row, idxS_map, loadS_map, stoS_map, ← List.map_take, ← List.map_drop])
      | ((refine GC.callR (rdL_cons (rd_agg (rdL_cons rd_v (rdL_cons rd_v (rdL_cons rd_v (rdL_cons rd_v (rdL_cons rd_nil rdL_nil)))))) (rdL_cons (rd_agg (rdL_cons rd_v (rdL_cons rd_v (rdL_cons rd_v (rdL_cons rd_v (rdL_cons rd_nil rdL_nil)))))) rdL_nil)) (eqPlot_gc (ts := []) ?_) rfl ?_ <;> try simp -implicitDefEqProofs (maxSteps := 4000000) only [sim0, sim1, sim2, sim3, sim4, sim5, sim6, sim7, sim8, ↓reduceIte, Nat.reduceEqDiff, Nat.reduceAdd, Nat.reduceMul, Nat.reduceSub, Nat.reduceLT, Nat.reduceLeDiff, reduceCtorEq, Int.reduceToNat, Int.reduceNeg, Nat.reduceBEq, simx, ty, Sg.row, It.row, idxS_map, loadS_map, stoS_map, ← List.map_take, ← List.map_drop]))
      | ((refine GC.callR (rdL_cons (rd_agg (rdL_cons rd_v (rdL_cons rd_v (rdL_cons rd_v (rdL_cons rd_v (rdL_cons rd_nil rdL_nil)))))) (rdL_cons rd_v rdL_nil)) (heldPlot_gc (ts := []) ?_ ?_ ?_) rfl ?_ <;> try simp -implicitDefEqProofs (maxSteps := 4000000) only [sim0, sim1, sim2, sim3, sim4, sim5, sim6, sim7, sim8, ↓reduceIte, Nat.reduceEqDiff, Nat.reduceAdd, Nat.reduceMul, Nat.reduceSub, Nat.reduceLT, Nat.reduceLeDiff, reduceCtorEq, Int.reduceToNat, Int.reduceNeg, Nat.reduceBEq, simx, ty, Sg.row, It.row, idxS_map, loadS_map, stoS_map, ← List.map_take, ← List.map_drop]))
      | fail)
    | ((with_reducible refine onFin ?_); first
      | (refine fin_nil ?_; (first | (first | rfl | (exfalso; omega) | (exfalso; simp at hq; done)) | (simp_all [fins]; done) | (simp_all [-Int.not_lt, -Int.not_le, fins]; done) | (simp_all [fins]; omega)))
      | fail)
    | (with_reducible refine ite_intro (fun hq => ?_) (fun hq => ?_))
    | (with_reducible refine And.intro (fun hq => ?_) (fun hq => ?_))
    | (with_reducible refine And.intro ?_ ?_)
    | ((fail_if_success (with_reducible refine onCode ?_)); (fail_if_success (with_reducible refine onLps ?_)); (fail_if_success (with_reducible refine onLpd ?_)); (fail_if_success (with_reducible refine onLpe ?_)); (fail_if_success (with_reducible refine onFin ?_)); (fail_if_success (with_reducible refine onCall ?_)); (fail_if_success (with_reducible refine onQcall ?_)); first | ((first | omega | (intro n h; simp at h; done) | (simp; done)); done) | omega | (rw [wrap_id (by omega) (by omega)]; omega) | (first | rfl | (exfalso; omega) | (exfalso; simp at hq; done))))

theorem FnExactParsePlot_gc (t : ByteArray) (w : t.size ≤ maxLen) : GC Try.prog 10 [vs t] [] (fun r _ => r = vb true) := by
  by_cases hB : ∃ (s a x y : Int) (ts : List It), plotB s a x y ts = true ∧ t = ptS s a x y ts
  · obtain ⟨s, a, x, y, ts, h1, h2⟩ := hB
    exact (lawA_gc (pl_of h1 h2) ⟨h1, h2⟩).mono fun r hs h => h.1
  · exact (lawB_gc (t := t) fun s a x y ts h1 h2 => hB ⟨s, a, x, y, ts, h1, h2⟩).mono fun r hs h => h.1
end Go.Proofs.Ytgcmahhejblpkaa
