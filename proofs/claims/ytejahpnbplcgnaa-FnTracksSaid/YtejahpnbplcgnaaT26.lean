/-
The law FnTracks, over plain data.
No condition but those that the contracts name.
-/
import Derived.Test.YtejahpnbplcgnaaT24
import Derived.Test.YtejahpnbplcgnaaT25
namespace Go.Proofs.Ytejahpnbplcgnaa
open Eng
set_option linter.unusedSimpArgs false
set_option linter.unusedVariables false
section
variable {ts : List Trk} {id i x y s h l : Int} {t : ByteArray} {b : Bool}
theorem hit_at (h : hiO ts id x y = true) (h0 : 0 ≤ i) (h1 : i < (hiV ts id x y).length) (e : (tk (hiV ts id x y) i).i = id) : (tk (hiV ts id x y) i).l = 0 ∧ (tk (hiV ts id x y) i).x = x ∧ (tk (hiV ts id x y) i).y = y ∧ (tk (hiV ts id x y) i).h = w64 ((tk ts i).h + 1) := by
  have ev : hiV ts id x y = hiL ts id x y := if_pos h
  rw [ev] at h1 e ⊢
  simp only [hiO, Bool.and_eq_true, Bool.not_eq_true', decide_eq_false_iff_not] at h
  obtain ⟨⟨⟨ht, _⟩, hf⟩, _⟩ := h
  rcases fdI_cases (ts := ts) (id := id) with g | ⟨g1, g2, g3⟩
  · omega
  · unfold hiL at h1 e ⊢
    rw [List.length_set] at h1
    by_cases ei : i = fdI ts id
    · have e2 : tk (ts.set (fdI ts id).toNat (hitV (tk ts (fdI ts id)) x y)) i = hitV (tk ts (fdI ts id)) x y := by
        unfold tk
        rw [ei]
        simp [List.getD, List.getElem?_set, show (fdI ts id).toNat < ts.length by omega]
      rw [e2, ei]; exact ⟨rfl, rfl, rfl, rfl⟩
    · exfalso
      have e2 : tk (ts.set (fdI ts id).toNat (hitV (tk ts (fdI ts id)) x y)) i = tk ts i := by
        unfold tk
        simp [List.getD, List.getElem?_set, show ¬ (fdI ts id).toNat = i.toNat by omega]
      rw [e2, ← g3] at e
      exact ei (tl_inj ht h0 h1 g1 g2 e)
theorem hi_le : (hiV ts id x y).length ≤ ts.length := by
  unfold hiV; split
  · unfold hiL; rw [List.length_set]; exact Nat.le_refl _
  · simp
theorem hi_o (h1 : 0 ≤ i) (h2 : i < (hiV ts id x y).length) : hiO ts id x y = true := by
  cases h : hiO ts id x y with
  | true => rfl
  | false => unfold hiV at h2; rw [h] at h2; simp at h2; omega
theorem tln_sz : (tlnS i s x y h l).size ≤ 1048576 := by
  unfold tlnS; split
  · rename_i g; have := ln_sz g; omega
  · exact Nat.le_of_ble_eq_true rfl
theorem tln_eq (g : trB i s x y h l = true) : tlnS i s x y h l = lineS i s x y h l := if_pos g
theorem stV_le (hl : ts.length ≤ 1000) : (stV ts x y).length ≤ 1048576 := by
  unfold stV; split
  · unfold stL; simp; omega
  · simp
theorem st_len (h : stO ts x y = true) : (stV ts x y).length = ts.length + 1 ∧ tlB (stV ts x y) = true := by
  rw [(st_yes h).1]
  simp only [stO, Bool.and_eq_true] at h
  exact ⟨by simp [stL], h.2⟩
section
variable {i' s' x' y' h' l' : Int} {u : ByteArray}
theorem ft_5 (hJ : 0 ≤ i ∧ i ≤ ((hiV ts id x y).length : Int)) (h1 : i < ((hiV ts id x y).length : Int)) (e : (((hiV ts id x y).getD i.toNat default).i == id) = true) : ((hiV ts id x y).getD i.toNat default).l = 0 ∧ ((hiV ts id x y).getD i.toNat default).x = x ∧ ((hiV ts id x y).getD i.toNat default).y = y ∧ ((hiV ts id x y).getD i.toNat default).h = IntKind.i64.wrap ((ts.getD i.toNat default).h + 1) :=
  hit_at (hi_o hJ.1 h1) hJ.1 h1 (by simpa [tk] using e)
theorem ft_6 (hl : ts.length ≤ 8) (h : stO ts x y = true) : ((stV ts x y).length : Int) = IntKind.i64.wrap (ts.length + 1) ∧ tlB (stV ts x y) = true := by
  obtain ⟨g1, g2⟩ := st_len h
  refine ⟨?_, g2⟩
  rw [g1, wrap_id (by omega) (by omega)]; omega
theorem ft_1 (p : PtP (tlnS i' s' x' y' h' l') i s x y h l b) (g : trB i' s' x' y' h' l' = true) (hq : b = false) : False := by
  have := (p.all _ _ _ _ _ _ g (tln_eq g)).1
  rw [hq] at this; cases this
theorem ft_2 (p : PtP (tlnS i' s' x' y' h' l') i s x y h l b) (g : trB i' s' x' y' h' l' = true) (g2 : ¬ b = false) (hq : (i == i' && (s == s' && (x == x' && (y == y' && (h == h' && l == l'))))) = false) : False := by
  obtain ⟨_, e1, e2, e3, e4, e5, e6⟩ := p.all _ _ _ _ _ _ g (tln_eq g)
  simp [e1, e2, e3, e4, e5, e6] at hq
theorem ft_3 (p : PtP u i s x y h l b) (g : b = true) (hq : trB i s x y h l = false) : False := by
  have := (p.yes g).1
  rw [hq] at this; cases this
theorem ft_4 (p : PtP u i s x y h l b) (g : b = true) (hq : ((tlnS i s x y h l).toList == u.toList) = false) : False := by
  obtain ⟨g1, g2⟩ := p.yes g
  rw [tln_eq g1, ← g2] at hq
  simp at hq
end
end
set_option maxRecDepth 100000 in
set_option maxHeartbeats 4000000 in
theorem FnTracks_g0 {cs : List By} (hb : byOk cs) : GC Try.prog 13 [.sl 1 (cs.map By.e)] [] (fun r _ => r = vb true) := by
  refine GC.of_func [(22, .val 0 (.val 1 (.val 2 (.val 3 (.val 4 (.val 5 (.val 6 (.val 7 (.val 8 (.val 9 (.val 10 (.val 11 (.val 12 (.val 13 (.val 14 (.val 15 (.val 16 (.val 17 (.val 18 (.val 19 (.val 20 (.val 21 (.val 22 (.val 23 (.val 24 (.val 25 (.val 26 (.val 27 (.val 28 (.val 29 (.val 30 (.val 31 (.val 32 (.val 33 (.val 34 (.val 35 (.val 36 (.val 37 (.val 38 (.val 39 (.val 40 (.val 41 (.val 42 (.val 43 (.val 44 (.val 45 (.val 46 (.val 47 (.val 48 (.done))))))))))))))))))))))))))))))))))))))))))))))))))] Try.call13 Try.func13 rfl ⟨by kernel_rfl, by kernel_rfl⟩ (by kernel_rfl) ?_
  rw [Try.results13]
  simp -implicitDefEqProofs (maxSteps := 4000000) only [sim0, sim1, sim2, sim3, sim4, sim5, sim6, sim7, sim8, ↓reduceIte, Nat.reduceEqDiff, Nat.reduceAdd, Nat.reduceMul, Nat.reduceSub, Nat.reduceLT, Nat.reduceLeDiff, reduceCtorEq, Int.reduceToNat, Int.reduceNeg, Nat.reduceBEq, simx, ty, By.row, Ch.row, Trk.row, Plc.row, It.row, Sg.row, idxS_map, loadS_map, stoS_map, ← List.map_take, ← List.map_drop, bne_self_eq_false, Bool.false_eq_true, smB_self tkB_self]
  repeat' (first
    | ((with_reducible refine onCall ?_); first
      | (refine GC.callR (by repeat' (first | exact rdL_nil | refine rdL_cons ?_ ?_ | exact rd_v | exact rd_sl | exact rd_nil | refine rd_ref rfl (by simp) (plnLL_map (fun _ => rfl) _) | refine rd_rs rfl (by simp; omega) (plnLL_map (fun _ => rfl) _) | refine rd_agg ?_)) vBig_gc rfl ?_ <;> try simp -implicitDefEqProofs (maxSteps := 4000000) only [sim0, sim1, sim2, sim3, sim4, sim5, sim6, sim7, sim8, ↓reduceIte, Nat.reduceEqDiff, Nat.reduceAdd, Nat.reduceMul, Nat.reduceSub, Nat.reduceLT, Nat.reduceLeDiff, reduceCtorEq, Int.reduceToNat, Int.reduceNeg, Nat.reduceBEq, simx, ty, By.row, Ch.row, Trk.row, Plc.row, It.row, Sg.row, idxS_map, loadS_map, stoS_map, ← List.map_take, ← List.map_drop, bne_self_eq_false, Bool.false_eq_true, smB_self tkB_self])
      | (apply GC.useP false [] (drawLine_gc ?_) rfl ?he ?ha (fun h_ => Bool.noConfusion h_) ?_; (case he => (trivial)); (case ha => (repeat' (first | exact arL_nil | refine arL_cons ?_ ?_ | exact ar_v | exact ar_sl | exact ar_ptr rfl | exact ar_own rfl | refine ar_agg ?_))); (all_goals (try (intro r_ hs_ hk_; obtain ⟨i, st, x, y, h, l, hc_, rfl, rfl⟩ := hk_; (try simp -implicitDefEqProofs (maxSteps := 4000000) only [sim0, sim1, sim2, sim3, sim4, sim5, sim6, sim7, sim8, ↓reduceIte, Nat.reduceEqDiff, Nat.reduceAdd, Nat.reduceMul, Nat.reduceSub, Nat.reduceLT, Nat.reduceLeDiff, reduceCtorEq, Int.reduceToNat, Int.reduceNeg, Nat.reduceBEq, simx, ty, By.row, Ch.row, Trk.row, Plc.row, It.row, Sg.row, idxS_map, loadS_map, stoS_map, ← List.map_take, ← List.map_drop, bne_self_eq_false, Bool.false_eq_true, smB_self tkB_self])))))
      | (refine GC.callS impTrackLine_gc rfl rfl ?_ <;> try simp -implicitDefEqProofs (maxSteps := 4000000) only [sim0, sim1, sim2, sim3, sim4, sim5, sim6, sim7, sim8, ↓reduceIte, Nat.reduceEqDiff, Nat.reduceAdd, Nat.reduceMul, Nat.reduceSub, Nat.reduceLT, Nat.reduceLeDiff, reduceCtorEq, Int.reduceToNat, Int.reduceNeg, Nat.reduceBEq, simx, ty, By.row, Ch.row, Trk.row, Plc.row, It.row, Sg.row, idxS_map, loadS_map, stoS_map, ← List.map_take, ← List.map_drop, bne_self_eq_false, Bool.false_eq_true, smB_self tkB_self])
      | (apply GC.useP false [] (impParse_gc ?_) rfl ?he ?ha (fun h_ => Bool.noConfusion h_) ?_; (case he => (trivial)); (case ha => (repeat' (first | exact arL_nil | refine arL_cons ?_ ?_ | exact ar_v | exact ar_sl | exact ar_ptr rfl | exact ar_own rfl | refine ar_agg ?_))); (all_goals (try (intro r_ hs_ hk_; obtain ⟨i, s, x, y, h, l, b, hc_, rfl, rfl⟩ := hk_; (try simp -implicitDefEqProofs (maxSteps := 4000000) only [sim0, sim1, sim2, sim3, sim4, sim5, sim6, sim7, sim8, ↓reduceIte, Nat.reduceEqDiff, Nat.reduceAdd, Nat.reduceMul, Nat.reduceSub, Nat.reduceLT, Nat.reduceLeDiff, reduceCtorEq, Int.reduceToNat, Int.reduceNeg, Nat.reduceBEq, simx, ty, By.row, Ch.row, Trk.row, Plc.row, It.row, Sg.row, idxS_map, loadS_map, stoS_map, ← List.map_take, ← List.map_drop, bne_self_eq_false, Bool.false_eq_true, smB_self tkB_self])))))
      | (refine GC.callS sTrackLine_gc rfl rfl ?_ <;> try simp -implicitDefEqProofs (maxSteps := 4000000) only [sim0, sim1, sim2, sim3, sim4, sim5, sim6, sim7, sim8, ↓reduceIte, Nat.reduceEqDiff, Nat.reduceAdd, Nat.reduceMul, Nat.reduceSub, Nat.reduceLT, Nat.reduceLeDiff, reduceCtorEq, Int.reduceToNat, Int.reduceNeg, Nat.reduceBEq, simx, ty, By.row, Ch.row, Trk.row, Plc.row, It.row, Sg.row, idxS_map, loadS_map, stoS_map, ← List.map_take, ← List.map_drop, bne_self_eq_false, Bool.false_eq_true, smB_self tkB_self])
      | (refine GC.callS isValidTrack_gc rfl rfl ?_ <;> try simp -implicitDefEqProofs (maxSteps := 4000000) only [sim0, sim1, sim2, sim3, sim4, sim5, sim6, sim7, sim8, ↓reduceIte, Nat.reduceEqDiff, Nat.reduceAdd, Nat.reduceMul, Nat.reduceSub, Nat.reduceLT, Nat.reduceLeDiff, reduceCtorEq, Int.reduceToNat, Int.reduceNeg, Nat.reduceBEq, simx, ty, By.row, Ch.row, Trk.row, Plc.row, It.row, Sg.row, idxS_map, loadS_map, stoS_map, ← List.map_take, ← List.map_drop, bne_self_eq_false, Bool.false_eq_true, smB_self tkB_self])
      | (apply GC.useP false [] (drawParse_gc ?_) rfl ?he ?ha (fun h_ => Bool.noConfusion h_) ?_; (case he => (trivial)); (case ha => (repeat' (first | exact arL_nil | refine arL_cons ?_ ?_ | exact ar_v | exact ar_sl | exact ar_ptr rfl | exact ar_own rfl | refine ar_agg ?_))); (all_goals (try (intro r_ hs_ hk_; obtain ⟨u, hc_, rfl, rfl⟩ := hk_; (try simp -implicitDefEqProofs (maxSteps := 4000000) only [sim0, sim1, sim2, sim3, sim4, sim5, sim6, sim7, sim8, ↓reduceIte, Nat.reduceEqDiff, Nat.reduceAdd, Nat.reduceMul, Nat.reduceSub, Nat.reduceLT, Nat.reduceLeDiff, reduceCtorEq, Int.reduceToNat, Int.reduceNeg, Nat.reduceBEq, simx, ty, By.row, Ch.row, Trk.row, Plc.row, It.row, Sg.row, idxS_map, loadS_map, stoS_map, ← List.map_take, ← List.map_drop, bne_self_eq_false, Bool.false_eq_true, smB_self tkB_self])))))
      | (apply GC.useP false [] (drawHit_gc ?_) rfl ?he ?ha (fun h_ => Bool.noConfusion h_) ?_; (case he => (trivial)); (case ha => (repeat' (first | exact arL_nil | refine arL_cons ?_ ?_ | exact ar_v | exact ar_sl | exact ar_ptr rfl | exact ar_own rfl | refine ar_agg ?_))); (all_goals (try (intro r_ hs_ hk_; obtain ⟨ts, id, p, q, hc_, rfl, rfl⟩ := hk_; (try simp -implicitDefEqProofs (maxSteps := 4000000) only [sim0, sim1, sim2, sim3, sim4, sim5, sim6, sim7, sim8, ↓reduceIte, Nat.reduceEqDiff, Nat.reduceAdd, Nat.reduceMul, Nat.reduceSub, Nat.reduceLT, Nat.reduceLeDiff, reduceCtorEq, Int.reduceToNat, Int.reduceNeg, Nat.reduceBEq, simx, ty, By.row, Ch.row, Trk.row, Plc.row, It.row, Sg.row, idxS_map, loadS_map, stoS_map, ← List.map_take, ← List.map_drop, bne_self_eq_false, Bool.false_eq_true, smB_self tkB_self])))))
      | (refine GC.use true [] (impHitTrack_gc ?_) rfl trivial (by repeat' (first | exact arL_nil | refine arL_cons ?_ ?_ | exact ar_v | exact ar_sl | exact ar_nil | refine ar_ref rfl rfl (by simp) (plnLL_map (fun _ => rfl) _) | refine ar_rs rfl rfl (by simp; omega) (plnLL_map (fun _ => rfl) _) | refine ar_agg ?_)) (.inr ⟨rfl, by first | rfl | simp [By.ns, Ch.ns, Trk.ns, Plc.ns, It.ns, Sg.ns]⟩) ?_ <;> try simp -implicitDefEqProofs (maxSteps := 4000000) only [sim0, sim1, sim2, sim3, sim4, sim5, sim6, sim7, sim8, ↓reduceIte, Nat.reduceEqDiff, Nat.reduceAdd, Nat.reduceMul, Nat.reduceSub, Nat.reduceLT, Nat.reduceLeDiff, reduceCtorEq, Int.reduceToNat, Int.reduceNeg, Nat.reduceBEq, simx, ty, By.row, Ch.row, Trk.row, Plc.row, It.row, Sg.row, idxS_map, loadS_map, stoS_map, ← List.map_take, ← List.map_drop, bne_self_eq_false, Bool.false_eq_true, smB_self tkB_self])
      | (refine GC.use true [] (sHitTrack_gc ?_) rfl trivial (by repeat' (first | exact arL_nil | refine arL_cons ?_ ?_ | exact ar_v | exact ar_sl | exact ar_nil | refine ar_ref rfl rfl (by simp) (plnLL_map (fun _ => rfl) _) | refine ar_rs rfl rfl (by simp; omega) (plnLL_map (fun _ => rfl) _) | refine ar_agg ?_)) (.inr ⟨rfl, by first | rfl | simp [By.ns, Ch.ns, Trk.ns, Plc.ns, It.ns, Sg.ns]⟩) ?_ <;> try simp -implicitDefEqProofs (maxSteps := 4000000) only [sim0, sim1, sim2, sim3, sim4, sim5, sim6, sim7, sim8, ↓reduceIte, Nat.reduceEqDiff, Nat.reduceAdd, Nat.reduceMul, Nat.reduceSub, Nat.reduceLT, Nat.reduceLeDiff, reduceCtorEq, Int.reduceToNat, Int.reduceNeg, Nat.reduceBEq, simx, ty, By.row, Ch.row, Trk.row, Plc.row, It.row, Sg.row, idxS_map, loadS_map, stoS_map, ← List.map_take, ← List.map_drop, bne_self_eq_false, Bool.false_eq_true, smB_self tkB_self])
      | (refine GC.callR (by repeat' (first | exact rdL_nil | refine rdL_cons ?_ ?_ | exact rd_v | exact rd_sl | exact rd_nil | refine rd_ref rfl (by simp) (plnLL_map (fun _ => rfl) _) | refine rd_rs rfl (by simp; omega) (plnLL_map (fun _ => rfl) _) | refine rd_agg ?_)) (vTracks_gc ?_) rfl ?_ <;> try simp -implicitDefEqProofs (maxSteps := 4000000) only [sim0, sim1, sim2, sim3, sim4, sim5, sim6, sim7, sim8, ↓reduceIte, Nat.reduceEqDiff, Nat.reduceAdd, Nat.reduceMul, Nat.reduceSub, Nat.reduceLT, Nat.reduceLeDiff, reduceCtorEq, Int.reduceToNat, Int.reduceNeg, Nat.reduceBEq, simx, ty, By.row, Ch.row, Trk.row, Plc.row, It.row, Sg.row, idxS_map, loadS_map, stoS_map, ← List.map_take, ← List.map_drop, bne_self_eq_false, Bool.false_eq_true, smB_self tkB_self])
      | (apply GC.useP false [] (drawStart_gc ?_) rfl ?he ?ha (fun h_ => Bool.noConfusion h_) ?_; (case he => (trivial)); (case ha => (repeat' (first | exact arL_nil | refine arL_cons ?_ ?_ | exact ar_v | exact ar_sl | exact ar_ptr rfl | exact ar_own rfl | refine ar_agg ?_))); (all_goals (try (intro r_ hs_ hk_; obtain ⟨ts, p, q, hc_, rfl, rfl⟩ := hk_; (try simp -implicitDefEqProofs (maxSteps := 4000000) only [sim0, sim1, sim2, sim3, sim4, sim5, sim6, sim7, sim8, ↓reduceIte, Nat.reduceEqDiff, Nat.reduceAdd, Nat.reduceMul, Nat.reduceSub, Nat.reduceLT, Nat.reduceLeDiff, reduceCtorEq, Int.reduceToNat, Int.reduceNeg, Nat.reduceBEq, simx, ty, By.row, Ch.row, Trk.row, Plc.row, It.row, Sg.row, idxS_map, loadS_map, stoS_map, ← List.map_take, ← List.map_drop, bne_self_eq_false, Bool.false_eq_true, smB_self tkB_self])))))
      | (refine GC.use true [] (impStartTrack_gc ?_) rfl trivial (by repeat' (first | exact arL_nil | refine arL_cons ?_ ?_ | exact ar_v | exact ar_sl | exact ar_nil | refine ar_ref rfl rfl (by simp) (plnLL_map (fun _ => rfl) _) | refine ar_rs rfl rfl (by simp; omega) (plnLL_map (fun _ => rfl) _) | refine ar_agg ?_)) (.inr ⟨rfl, by first | rfl | simp [By.ns, Ch.ns, Trk.ns, Plc.ns, It.ns, Sg.ns]⟩) ?_ <;> try simp -implicitDefEqProofs (maxSteps := 4000000) only [sim0, sim1, sim2, sim3, sim4, sim5, sim6, sim7, sim8, ↓reduceIte, Nat.reduceEqDiff, Nat.reduceAdd, Nat.reduceMul, Nat.reduceSub, Nat.reduceLT, Nat.reduceLeDiff, reduceCtorEq, Int.reduceToNat, Int.reduceNeg, Nat.reduceBEq, simx, ty, By.row, Ch.row, Trk.row, Plc.row, It.row, Sg.row, idxS_map, loadS_map, stoS_map, ← List.map_take, ← List.map_drop, bne_self_eq_false, Bool.false_eq_true, smB_self tkB_self])
      | (refine GC.use true [] (sStartTrack_gc ?_) rfl trivial (by repeat' (first | exact arL_nil | refine arL_cons ?_ ?_ | exact ar_v | exact ar_sl | exact ar_nil | refine ar_ref rfl rfl (by simp) (plnLL_map (fun _ => rfl) _) | refine ar_rs rfl rfl (by simp; omega) (plnLL_map (fun _ => rfl) _) | refine ar_agg ?_)) (.inr ⟨rfl, by first | rfl | simp [By.ns, Ch.ns, Trk.ns, Plc.ns, It.ns, Sg.ns]⟩) ?_ <;> try simp -implicitDefEqProofs (maxSteps := 4000000) only [sim0, sim1, sim2, sim3, sim4, sim5, sim6, sim7, sim8, ↓reduceIte, Nat.reduceEqDiff, Nat.reduceAdd, Nat.reduceMul, Nat.reduceSub, Nat.reduceLT, Nat.reduceLeDiff, reduceCtorEq, Int.reduceToNat, Int.reduceNeg, Nat.reduceBEq, simx, ty, By.row, Ch.row, Trk.row, Plc.row, It.row, Sg.row, idxS_map, loadS_map, stoS_map, ← List.map_take, ← List.map_drop, bne_self_eq_false, Bool.false_eq_true, smB_self tkB_self])
      | (refine GC.callR (by repeat' (first | exact rdL_nil | refine rdL_cons ?_ ?_ | exact rd_v | exact rd_sl | exact rd_nil | refine rd_ref rfl (by simp) (plnLL_map (fun _ => rfl) _) | refine rd_rs rfl (by simp; omega) (plnLL_map (fun _ => rfl) _) | refine rd_agg ?_)) isValidTracks_gc rfl ?_ <;> try simp -implicitDefEqProofs (maxSteps := 4000000) only [sim0, sim1, sim2, sim3, sim4, sim5, sim6, sim7, sim8, ↓reduceIte, Nat.reduceEqDiff, Nat.reduceAdd, Nat.reduceMul, Nat.reduceSub, Nat.reduceLT, Nat.reduceLeDiff, reduceCtorEq, Int.reduceToNat, Int.reduceNeg, Nat.reduceBEq, simx, ty, By.row, Ch.row, Trk.row, Plc.row, It.row, Sg.row, idxS_map, loadS_map, stoS_map, ← List.map_take, ← List.map_drop, bne_self_eq_false, Bool.false_eq_true, smB_self tkB_self])
      | fail)
    | ((with_reducible refine onCode ?_); first
      | (refine onLid 20 ?_ (by rfl); refine acode_prune [0, 2, 3, 4, 5, 6, 7, 8, 9, 10, 11, 12, 13, 14, 15, 16, 17, 18, 19, 20, 21, 22, 23, 24, 25, 26, 27, 28, 29, 30] ?_; simp only [prn_cons, prn_nil, lk_cons, lk_emp, Nat.reduceEqDiff, ↓reduceIte]; refine acode_loopS2 20 (by rfl) (α := Int) (fun i => [(22, vi i)]) [2, 127, 128, 129, 130, 131, 132, 133, 134, 135, 136, 137, 138, 139, 140, 141, 142, 143, 144, 145, 146, 147, 148, 149, 150, 151, 152, 153, 154, 155, 156, 157, 158, 159, 160, 161, 162, 163, 164, 165, 166, 167, 168, 169, 170, 171, 172, 173, 174, 175, 176, 177, 178, 179, 180, 181] [2] (by kernel_rfl) (fun i => 0 ≤ i ∧ i ≤ (hiV ts id p q).length) (fun i => ((hiV ts id p q).length - i).toNat) (0) ?_ (by (try simp only []) <;> first | (simp_all; done) | (simp_all; omega) | omega) ?_; (focus ((try dsimp only []); (repeat' (first | exact agr_none | exact lk_hd | refine lk_tl (by decide) ?_ | refine agr_one ?_ ?_)); done)); rintro i hJ; (try simp only [] at hJ); have hJ20 := hJ; simp -implicitDefEqProofs (maxSteps := 4000000) only [sim0, sim1, sim2, sim3, sim4, sim5, sim6, sim7, sim8, ↓reduceIte, Nat.reduceEqDiff, Nat.reduceAdd, Nat.reduceMul, Nat.reduceSub, Nat.reduceLT, Nat.reduceLeDiff, reduceCtorEq, Int.reduceToNat, Int.reduceNeg, Nat.reduceBEq, simx, ty, By.row, Ch.row, Trk.row, Plc.row, It.row, Sg.row, idxS_map, loadS_map, stoS_map, ← List.map_take, ← List.map_drop, bne_self_eq_false, Bool.false_eq_true, smB_self tkB_self])
      | fail)
    | ((with_reducible refine onLps ?_); first
      | (refine lps2_end (α := Int) (mods := (fun i => [(22, vi i)])) _ (by (try dsimp only []); simp only [agr_cons, agr_nil, lk_cons, lk_emp, Nat.reduceEqDiff, ↓reduceIte, and_true]; repeat' (first | rfl | apply And.intro)) (by unfold undK; kernel_rfl) ?_ ?_ <;> ((try simp only []); ((have g9 := hi_le (ts := ts) (id := id) (x := p) (y := q)); have e_ : IntKind.i64.wrap (i + 1) = i + 1 := wrap_id (by omega) (by omega); (try simp only [e_] at hq ⊢); omega)))
      | fail)
    | ((with_reducible refine onFin ?_); first
      | (refine fin_law ?_; (first | (first | rfl | exact (ft_6 (ts := ts) (x := p) (y := q) (by omega) (eq_true_of_ne_false (by assumption))).2 | (exfalso; first | (have g9 := ft_5 (ts := ts) (id := id) (x := p) (y := q) (i := i) hJ20 (by assumption) (by assumption); first | (rw [g9.1] at hq; simp at hq; done) | (rw [g9.2.1] at hq; simp at hq; done) | (rw [g9.2.2.1] at hq; simp at hq; done) | (rw [g9.2.2.2] at hq; simp at hq; done)) | (have g9 := ft_6 (ts := ts) (x := p) (y := q) (by omega) (eq_true_of_ne_false (by assumption)); refine hq ?_; rw [g9.1]; simp; done) | exact ft_1 (by assumption) (by assumption) hq | exact ft_2 hc_ (by assumption) (by assumption) hq | exact ft_3 (by assumption) (by assumption) hq | exact ft_4 (by assumption) (by assumption) hq)) | (simp_all [fins]; done) | (simp_all [-Int.not_lt, -Int.not_le, fins]; done) | (simp_all [fins]; omega)))
      | fail)
    | (with_reducible refine ite_intro (fun hq => ?_) (fun hq => ?_))
    | (with_reducible refine And.intro (fun hq => ?_) (fun hq => ?_))
    | (with_reducible refine And.intro ?_ ?_)
    | ((fail_if_success (with_reducible refine onCode ?_)); (fail_if_success (with_reducible refine onLps ?_)); (fail_if_success (with_reducible refine onLpd ?_)); (fail_if_success (with_reducible refine onLpe ?_)); (fail_if_success (with_reducible refine onFin ?_)); (fail_if_success (with_reducible refine onCall ?_)); (fail_if_success (with_reducible refine onQcall ?_)); first | ((first | exact ⟨hb, by omega⟩ | omega | exact tln_sz | (have g9 := hi_le (ts := ts) (id := id) (x := p) (y := q); omega) | exact stV_le (by omega)); done) | omega | (rw [wrap_id (by omega) (by omega)]; omega) | (first | rfl | exact (ft_6 (ts := ts) (x := p) (y := q) (by omega) (eq_true_of_ne_false (by assumption))).2 | (exfalso; first | (have g9 := ft_5 (ts := ts) (id := id) (x := p) (y := q) (i := i) hJ20 (by assumption) (by assumption); first | (rw [g9.1] at hq; simp at hq; done) | (rw [g9.2.1] at hq; simp at hq; done) | (rw [g9.2.2.1] at hq; simp at hq; done) | (rw [g9.2.2.2] at hq; simp at hq; done)) | (have g9 := ft_6 (ts := ts) (x := p) (y := q) (by omega) (eq_true_of_ne_false (by assumption)); refine hq ?_; rw [g9.1]; simp; done) | exact ft_1 (by assumption) (by assumption) hq | exact ft_2 hc_ (by assumption) (by assumption) hq | exact ft_3 (by assumption) (by assumption) hq | exact ft_4 (by assumption) (by assumption) hq))))

theorem FnTracks_gc (xs : List (List Int)) (w : ∀ e ∈ xs, e.length = 1 ∧ ∀ z ∈ e, (Lit.int .u8 z).wf = true) (m : xs.length ≤ maxLen) : GC Try.prog 13 [.sl 1 (els .u8 xs)] [] (fun r _ => r = vb true) := by
  obtain ⟨cs, h1, h2, h3⟩ := byOk_of w
  rw [h1]; exact FnTracks_g0 h3
end Go.Proofs.Ytejahpnbplcgnaa
