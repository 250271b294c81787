/-
Contracts of the reference's reading of the line of a track, over plain data, and the law FnExactParseTrackLine.
No condition but those that the contracts name.
-/
import Derived.Test.YtejahpnbplcgnaaT22
namespace Go.Proofs.Ytejahpnbplcgnaa
open Eng
set_option linter.unusedSimpArgs false
set_option linter.unusedVariables false
theorem wdW_len : wdW.length = 4 := rfl
theorem l14WordsM_gc : GC Try.prog 76 [] [] (fun r_ hs_ => r_ = .ref 0 4 ∧ hs_ = [.arr 1 (wdW.map Sg.e)]) := l14Words_gc
def ixGo (w : ByteArray) (k : Int) : Int := if k < 4 then (if ((wdW.getD k.toNat default).b.toList == w.toList) = true then k else ixGo w (k + 1)) else 0
termination_by (4 - k).toNat
section
variable {w t : ByteArray} {k i s x y h l : Int} {n : Nat} {v : Int} {b : Bool} {X : Int}
theorem ix_go (h0 : k < 4) (hq : ¬ ((wdW.getD k.toNat default).b.toList == w.toList) = true) (h : X = ixGo w k) : X = ixGo w (k + 1) := by
  rw [h, ixGo.eq_1, if_pos h0, if_neg hq]
theorem ix_hit (h0 : k < 4) (hq : ((wdW.getD k.toNat default).b.toList == w.toList) = true) (h : X = ixGo w k) : X = k := by
  rw [h, ixGo.eq_1, if_pos h0, if_pos hq]
theorem ix_end (h0 : ¬ k < 4) (h : X = ixGo w k) : X = 0 := by
  rw [h, ixGo.eq_1, if_neg h0]
theorem ix_at (h0 : 0 ≤ k ∧ k < 4) (hs : s = 1 ∨ s = 2 ∨ s = 3) : ixGo (wordS s) k = if k = s then k else ixGo (wordS s) (k + 1) := by
  rw [ixGo.eq_1, if_pos h0.2, wd_eq h0 hs]
  by_cases e : k = s
  · rw [if_pos (by simpa using e), if_pos e]
  · rw [if_neg (by simpa using e), if_neg e]
theorem ixV_eq (hs : s = 1 ∨ s = 2 ∨ s = 3) (e : w = wordS s) : ixGo w 1 = s := by
  subst e
  rcases hs with rfl | rfl | rfl
  · rw [ix_at (by omega) (by omega)]; rfl
  · rw [ix_at (by omega) (by omega), if_neg (by omega), ix_at (by omega) (by omega)]; rfl
  · rw [ix_at (by omega) (by omega), if_neg (by omega), ix_at (by omega) (by omega), if_neg (by omega), ix_at (by omega) (by omega)]; rfl
theorem sp_num {u : ByteArray} {m : Int} (hc : ∀ j : Nat, j ≤ 999999 → u = numS j → v = j ∧ b = true) (e : u = numS m.toNat) (h0 : 0 ≤ m) (h1 : m ≤ 99999) : v = m ∧ b = true := by
  obtain ⟨e1, e2⟩ := hc m.toNat (by omega) e
  exact ⟨by omega, e2⟩
theorem w3x (P : PtF t i s x y h l) : ((splS ((splS t 32).getD 3 default).b 44).getD 0 default).b = numS x.toNat := by rw [P.w3]; rfl
theorem w3y (P : PtF t i s x y h l) : ((splS ((splS t 32).getD 3 default).b 44).getD 1 default).b = numS y.toNat := by rw [P.w3]; rfl
end
set_option maxRecDepth 100000 in
set_option maxHeartbeats 4000000 in
theorem l5Index_gc {w : ByteArray} : GC Try.prog 75 [.sl 1 (wdW.map Sg.e), vs w] [] (fun r_ hs_ => r_ = vi (ixGo w 1) ∧ hs_ = []) := by
  refine GC.of_func [] Try.call75 Try.func75 rfl ⟨by kernel_rfl, by kernel_rfl⟩ (by kernel_rfl) ?_
  rw [Try.results75]
  simp -implicitDefEqProofs (maxSteps := 4000000) only [sim0, sim1, sim2, sim3, sim4, sim5, sim6, sim7, sim8, ↓reduceIte, Nat.reduceEqDiff, Nat.reduceAdd, Nat.reduceMul, Nat.reduceSub, Nat.reduceLT, Nat.reduceLeDiff, reduceCtorEq, Int.reduceToNat, Int.reduceNeg, Nat.reduceBEq, simx, ty, Sg.row, It.row, idxS_map, loadS_map, stoS_map, ← List.map_take, ← List.map_drop, wdW_len]
  repeat' (first
    | ((with_reducible refine onCode ?_); first
      | (refine onLid 2 ?_ (by rfl); refine acode_prune [0, 1, 4, 5] ?_; simp only [prn_cons, prn_nil, lk_cons, lk_emp, Nat.reduceEqDiff, ↓reduceIte]; refine acode_loopS2 2 (by rfl) (α := Int) (fun k => [(5, vi k)]) [4, 6, 7, 8, 9, 10, 11, 12, 13, 14, 15, 16, 17, 18] [4] (by kernel_rfl) (fun k => (1 ≤ k ∧ k ≤ 4) ∧ ixGo w 1 = ixGo w k) (fun k => (4 - k).toNat) (1) ?_ (by (try simp only []) <;> first | (exact ⟨by omega, by first | rfl | trivial⟩) | fail) ?_; (focus ((try dsimp only []); (repeat' (first | exact agr_none | exact lk_hd | refine lk_tl (by decide) ?_ | refine agr_one ?_ ?_)); done)); rintro k hJ; (try simp only [] at hJ); have hJ2 := hJ; simp -implicitDefEqProofs (maxSteps := 4000000) only [sim0, sim1, sim2, sim3, sim4, sim5, sim6, sim7, sim8, ↓reduceIte, Nat.reduceEqDiff, Nat.reduceAdd, Nat.reduceMul, Nat.reduceSub, Nat.reduceLT, Nat.reduceLeDiff, reduceCtorEq, Int.reduceToNat, Int.reduceNeg, Nat.reduceBEq, simx, ty, Sg.row, It.row, idxS_map, loadS_map, stoS_map, ← List.map_take, ← List.map_drop, wdW_len])
      | fail)
    | ((with_reducible refine onLps ?_); first
      | (refine lps2_end (α := Int) (mods := (fun k => [(5, vi k)])) _ (by (try dsimp only []); simp only [agr_cons, agr_nil, lk_cons, lk_emp, Nat.reduceEqDiff, ↓reduceIte, and_true]; repeat' (first | rfl | apply And.intro)) (by unfold undK; kernel_rfl) ?_ ?_ <;> ((try simp only []); ((have e_ : IntKind.i64.wrap (k + 1) = k + 1 := wrap_id (by omega) (by omega); (try simp only [e_] at hq ⊢); first | omega | exact ⟨by omega, ix_go (by omega) hq hJ2.2⟩))))
      | fail)
    | ((with_reducible refine onFin ?_); first
      | (refine fin_nil ?_; (first | (refine rn_vi ?_; first | exact ix_hit (by omega) hq hJ2.2 | exact ix_end (by omega) hJ2.2) | (simp_all [fins]; done) | (simp_all [-Int.not_lt, -Int.not_le, fins]; done) | (simp_all [fins]; omega)))
      | fail)
    | (with_reducible refine ite_intro (fun hq => ?_) (fun hq => ?_))
    | (with_reducible refine And.intro (fun hq => ?_) (fun hq => ?_))
    | (with_reducible refine And.intro ?_ ?_)
    | ((fail_if_success (with_reducible refine onCode ?_)); (fail_if_success (with_reducible refine onLps ?_)); (fail_if_success (with_reducible refine onLpd ?_)); (fail_if_success (with_reducible refine onLpe ?_)); (fail_if_success (with_reducible refine onFin ?_)); (fail_if_success (with_reducible refine onCall ?_)); (fail_if_success (with_reducible refine onQcall ?_)); first | ((omega); done) | omega | (rw [wrap_id (by omega) (by omega)]; omega) | (refine rn_vi ?_; first | exact ix_hit (by omega) hq hJ2.2 | exact ix_end (by omega) hJ2.2)))

set_option maxRecDepth 100000 in
set_option maxHeartbeats 4000000 in
theorem sParse_gc {t : ByteArray} (hl : t.size ≤ 1048576) : GC Try.prog 38 [vs t] [] (fun r_ hs_ => ∃ (i s x y h l : Int) (b : Bool), (PtP t i s x y h l b) ∧ r_ = .tup [.agg [vi i, vi s, vi x, vi y, vi h, vi l], vb b] ∧ hs_ = []) := by
  refine GC.of_func [(16, .val 0 (.val 2 (.val 3 (.val 4 (.val 6 (.val 7 (.val 8 (.val 9 (.eff [(1, [9, 8, 7, 6, 4, 3, 2, 0], .val 5 (.val 10 (.eff [(11, [10, 5, 9, 8, 7, 6, 4, 3, 2, 0], .eff [(12, [], .done)])]))), (11, [9, 8, 7, 6, 4, 3, 2, 0], .eff [(1, [9, 8, 7, 6, 4, 3, 2, 0], .val 5 (.val 10 (.eff [(12, [], .done)])))])])))))))))] Try.call38 Try.func38 rfl ⟨by kernel_rfl, by kernel_rfl⟩ (by kernel_rfl) ?_
  rw [Try.results38]
  simp -implicitDefEqProofs (maxSteps := 4000000) only [sim0, sim1, sim2, sim3, sim4, sim5, sim6, sim7, sim8, ↓reduceIte, Nat.reduceEqDiff, Nat.reduceAdd, Nat.reduceMul, Nat.reduceSub, Nat.reduceLT, Nat.reduceLeDiff, reduceCtorEq, Int.reduceToNat, Int.reduceNeg, Nat.reduceBEq, simx, ty, Sg.row, It.row, idxS_map, loadS_map, stoS_map, ← List.map_take, ← List.map_drop, wdW_len]
  repeat' (first
    | ((with_reducible refine onCall ?_); first
      | ((refine GC.use true [] l14WordsM_gc rfl trivial (by repeat' (first | exact arL_nil | refine arL_cons ?_ ?_ | exact ar_v | exact ar_sl | exact ar_nil | refine ar_ref rfl rfl (by simp) (plnLL_map (fun _ => rfl) _) | refine ar_rs rfl rfl (by simp; omega) (plnLL_map (fun _ => rfl) _) | refine ar_agg ?_)) (.inr ⟨rfl, rfl⟩) ?_ <;> try simp -implicitDefEqProofs (maxSteps := 4000000) only [sim0, sim1, sim2, sim3, sim4, sim5, sim6, sim7, sim8, ↓reduceIte, Nat.reduceEqDiff, Nat.reduceAdd, Nat.reduceMul, Nat.reduceSub, Nat.reduceLT, Nat.reduceLeDiff, reduceCtorEq, Int.reduceToNat, Int.reduceNeg, Nat.reduceBEq, simx, ty, Sg.row, It.row, idxS_map, loadS_map, stoS_map, ← List.map_take, ← List.map_drop, wdW_len]))
      | (refine GC.use true [] (l1Split_gc ?_ ?_) rfl trivial (by repeat' (first | exact arL_nil | refine arL_cons ?_ ?_ | exact ar_v | exact ar_sl | exact ar_nil | refine ar_ref rfl rfl (by simp [wdW_len]) (plnLL_map (fun _ => rfl) _) | refine ar_rs rfl rfl (by simp; omega) (plnLL_map (fun _ => rfl) _) | refine ar_agg ?_)) (.inr ⟨rfl, by first | rfl | simp [Sg.ns, It.ns]⟩) ?_ <;> try simp -implicitDefEqProofs (maxSteps := 4000000) only [sim0, sim1, sim2, sim3, sim4, sim5, sim6, sim7, sim8, ↓reduceIte, Nat.reduceEqDiff, Nat.reduceAdd, Nat.reduceMul, Nat.reduceSub, Nat.reduceLT, Nat.reduceLeDiff, reduceCtorEq, Int.reduceToNat, Int.reduceNeg, Nat.reduceBEq, simx, ty, Sg.row, It.row, idxS_map, loadS_map, stoS_map, ← List.map_take, ← List.map_drop, wdW_len])
      | (apply GC.useP false [] (l1Read_gc ?_) rfl ?he ?ha (fun h_ => Bool.noConfusion h_) ?_; (case he => (trivial)); (case ha => (repeat' (first | exact arL_nil | refine arL_cons ?_ ?_ | exact ar_v | exact ar_sl | exact ar_ptr rfl | exact ar_own rfl | refine ar_agg ?_))); (all_goals (try (intro r_ hs_ hk_; obtain ⟨v, b, hc_, rfl, rfl⟩ := hk_; (try simp -implicitDefEqProofs (maxSteps := 4000000) only [sim0, sim1, sim2, sim3, sim4, sim5, sim6, sim7, sim8, ↓reduceIte, Nat.reduceEqDiff, Nat.reduceAdd, Nat.reduceMul, Nat.reduceSub, Nat.reduceLT, Nat.reduceLeDiff, reduceCtorEq, Int.reduceToNat, Int.reduceNeg, Nat.reduceBEq, simx, ty, Sg.row, It.row, idxS_map, loadS_map, stoS_map, ← List.map_take, ← List.map_drop, wdW_len])))))
      | (refine GC.callS l14Good_gc rfl rfl ?_ <;> try simp -implicitDefEqProofs (maxSteps := 4000000) only [sim0, sim1, sim2, sim3, sim4, sim5, sim6, sim7, sim8, ↓reduceIte, Nat.reduceEqDiff, Nat.reduceAdd, Nat.reduceMul, Nat.reduceSub, Nat.reduceLT, Nat.reduceLeDiff, reduceCtorEq, Int.reduceToNat, Int.reduceNeg, Nat.reduceBEq, simx, ty, Sg.row, It.row, idxS_map, loadS_map, stoS_map, ← List.map_take, ← List.map_drop, wdW_len])
      | (refine GC.callS (l14Line_gc ?_) rfl rfl ?_ <;> try simp -implicitDefEqProofs (maxSteps := 4000000) only [sim0, sim1, sim2, sim3, sim4, sim5, sim6, sim7, sim8, ↓reduceIte, Nat.reduceEqDiff, Nat.reduceAdd, Nat.reduceMul, Nat.reduceSub, Nat.reduceLT, Nat.reduceLeDiff, reduceCtorEq, Int.reduceToNat, Int.reduceNeg, Nat.reduceBEq, simx, ty, Sg.row, It.row, idxS_map, loadS_map, stoS_map, ← List.map_take, ← List.map_drop, wdW_len])
      | fail)
    | ((with_reducible refine onQcall ?_); first
      | (refine qcallR (by repeat' (first | exact rdL_nil | refine rdL_cons ?_ ?_ | exact rd_v | exact rd_sl | exact rd_nil | refine rd_ref rfl (by simp [wdW_len]) (plnLL_map (fun _ => rfl) _) | refine rd_rs rfl (by simp; omega) (plnLL_map (fun _ => rfl) _) | refine rd_agg ?_)) l5Index_gc rfl ?_ <;> try simp -implicitDefEqProofs (maxSteps := 4000000) only [sim0, sim1, sim2, sim3, sim4, sim5, sim6, sim7, sim8, ↓reduceIte, Nat.reduceEqDiff, Nat.reduceAdd, Nat.reduceMul, Nat.reduceSub, Nat.reduceLT, Nat.reduceLeDiff, reduceCtorEq, Int.reduceToNat, Int.reduceNeg, Nat.reduceBEq, simx, ty, Sg.row, It.row, idxS_map, loadS_map, stoS_map, ← List.map_take, ← List.map_drop, wdW_len])
      | fail)
    | ((with_reducible refine onFin ?_); first
      | (refine fin_K (by (try simp -implicitDefEqProofs (maxSteps := 4000000) only [sim0, sim1, sim2, sim3, sim4, sim5, sim6, sim7, sim8, ↓reduceIte, Nat.reduceEqDiff, Nat.reduceAdd, Nat.reduceMul, Nat.reduceSub, Nat.reduceLT, Nat.reduceLeDiff, reduceCtorEq, Int.reduceToNat, Int.reduceNeg, Nat.reduceBEq, simx, ty, fins, funs, idn, ids, List.filter_nil, List.filter_cons, List.map_nil, Sg.row, It.row, idxS_map, loadS_map, stoS_map, ← List.map_take, ← List.map_drop, wdW_len]); first | done | (simp only [plnLL, pln, Value.oneCell', List.all_cons, List.all_nil, plnH, Sg.pl, It.pl, Bool.and_true, Bool.and_self]; done) | rfl) (by rfl) ?_; simp -implicitDefEqProofs (maxSteps := 4000000) only [sim0, sim1, sim2, sim3, sim4, sim5, sim6, sim7, sim8, ↓reduceIte, Nat.reduceEqDiff, Nat.reduceAdd, Nat.reduceMul, Nat.reduceSub, Nat.reduceLT, Nat.reduceLeDiff, reduceCtorEq, Int.reduceToNat, Int.reduceNeg, Nat.reduceBEq, simx, ty, fins, funs, idn, ids, List.filter_nil, List.filter_cons, List.map_nil, Sg.row, It.row, idxS_map, loadS_map, stoS_map, ← List.map_take, ← List.map_drop, wdW_len]; (first | (refine ⟨_, _, _, _, _, _, _, ⟨fun h => Bool.noConfusion h, fun _ => ⟨rfl, rfl, rfl, rfl, rfl, rfl⟩, fun i' s' x' y' h' l' ht e => ?_⟩, rfl⟩; exfalso; have P := pt_of ht e; first | (have g := P.sz; omega) | exact len68 P (by assumption) (by assumption) | exact len44 P hq | (have hr := P.rg; have q0 := sp_num (by assumption) P.w0 (by omega) (by omega); have q1 := sp_num (by assumption) (w3x P) (by omega) (by omega); have q2 := sp_num (by assumption) (w3y P) (by omega) (by omega); have q5 := sp_num (by assumption) P.w5 (by omega) (by omega); have g2 := ixV_eq P.st P.w1; first | (rw [q0.2] at hq; cases hq; done) | (rw [q1.2] at hq; cases hq; done) | (rw [q2.2] at hq; cases hq; done) | (rw [q5.2] at hq; cases hq; done) | (have g3 := l_of6 P (len6 (by assumption)); rw [q0.1, g2, q1.1, q2.1, q5.1, ← g3] at hq; first | (rw [ht] at hq; cases hq; done) | (rw [← e] at hq; simp at hq; done)) | (have q7 := sp_num (by assumption) (P.w7 (l_of8 P (len8' (by assumption)))) (by omega) (by omega); first | (rw [q7.2] at hq; cases hq; done) | (rw [q0.1, g2, q1.1, q2.1, q5.1, q7.1] at hq; first | (rw [ht] at hq; cases hq; done) | (rw [← e] at hq; simp at hq; done))))) | (refine ⟨_, _, _, _, _, _, _, ⟨fun _ => ⟨eq_true_of_ne_false (by assumption), tl_eq hq⟩, fun h => Bool.noConfusion h, fun i' s' x' y' h' l' ht e => ?_⟩, rfl⟩; have P := pt_of ht e; have hr := P.rg; have q0 := sp_num (by assumption) P.w0 (by omega) (by omega); have q1 := sp_num (by assumption) (w3x P) (by omega) (by omega); have q2 := sp_num (by assumption) (w3y P) (by omega) (by omega); have q5 := sp_num (by assumption) P.w5 (by omega) (by omega); have g2 := ixV_eq P.st P.w1; first | exact ⟨rfl, q0.1, g2, q1.1, q2.1, q5.1, (l_of6 P (len6 (by assumption))).symm⟩ | (have q7 := sp_num (by assumption) (P.w7 (l_of8 P (len8' (by assumption)))) (by omega) (by omega); exact ⟨rfl, q0.1, g2, q1.1, q2.1, q5.1, q7.1⟩)) | fail))
      | fail)
    | ((exfalso; simp only [bne_iff_ne, beq_iff_eq, ne_eq, Decidable.not_not] at *; omega))
    | (with_reducible refine ite_intro (fun hq => ?_) (fun hq => ?_))
    | (with_reducible refine And.intro (fun hq => ?_) (fun hq => ?_))
    | (with_reducible refine And.intro ?_ ?_)
    | ((fail_if_success (with_reducible refine onCode ?_)); (fail_if_success (with_reducible refine onLps ?_)); (fail_if_success (with_reducible refine onLpd ?_)); (fail_if_success (with_reducible refine onLpe ?_)); (fail_if_success (with_reducible refine onFin ?_)); (fail_if_success (with_reducible refine onCall ?_)); (fail_if_success (with_reducible refine onQcall ?_)); first | ((first | omega | (have g9 := wd_sz (t := t) (n := 32) (k := 3); omega) | exact Nat.le_trans wd_sz hl | exact Nat.le_trans wd_sz (Nat.le_trans wd_sz hl) | exact trB_R (eq_true_of_ne_false hq) | (simp only [bne_iff_ne, beq_iff_eq, ne_eq, Decidable.not_not] at *; omega)); done) | omega | (rw [wrap_id (by omega) (by omega)]; omega) | (first | (refine ⟨_, _, _, _, _, _, _, ⟨fun h => Bool.noConfusion h, fun _ => ⟨rfl, rfl, rfl, rfl, rfl, rfl⟩, fun i' s' x' y' h' l' ht e => ?_⟩, rfl⟩; exfalso; have P := pt_of ht e; first | (have g := P.sz; omega) | exact len68 P (by assumption) (by assumption) | exact len44 P hq | (have hr := P.rg; have q0 := sp_num (by assumption) P.w0 (by omega) (by omega); have q1 := sp_num (by assumption) (w3x P) (by omega) (by omega); have q2 := sp_num (by assumption) (w3y P) (by omega) (by omega); have q5 := sp_num (by assumption) P.w5 (by omega) (by omega); have g2 := ixV_eq P.st P.w1; first | (rw [q0.2] at hq; cases hq; done) | (rw [q1.2] at hq; cases hq; done) | (rw [q2.2] at hq; cases hq; done) | (rw [q5.2] at hq; cases hq; done) | (have g3 := l_of6 P (len6 (by assumption)); rw [q0.1, g2, q1.1, q2.1, q5.1, ← g3] at hq; first | (rw [ht] at hq; cases hq; done) | (rw [← e] at hq; simp at hq; done)) | (have q7 := sp_num (by assumption) (P.w7 (l_of8 P (len8' (by assumption)))) (by omega) (by omega); first | (rw [q7.2] at hq; cases hq; done) | (rw [q0.1, g2, q1.1, q2.1, q5.1, q7.1] at hq; first | (rw [ht] at hq; cases hq; done) | (rw [← e] at hq; simp at hq; done))))) | (refine ⟨_, _, _, _, _, _, _, ⟨fun _ => ⟨eq_true_of_ne_false (by assumption), tl_eq hq⟩, fun h => Bool.noConfusion h, fun i' s' x' y' h' l' ht e => ?_⟩, rfl⟩; have P := pt_of ht e; have hr := P.rg; have q0 := sp_num (by assumption) P.w0 (by omega) (by omega); have q1 := sp_num (by assumption) (w3x P) (by omega) (by omega); have q2 := sp_num (by assumption) (w3y P) (by omega) (by omega); have q5 := sp_num (by assumption) P.w5 (by omega) (by omega); have g2 := ixV_eq P.st P.w1; first | exact ⟨rfl, q0.1, g2, q1.1, q2.1, q5.1, (l_of6 P (len6 (by assumption))).symm⟩ | (have q7 := sp_num (by assumption) (P.w7 (l_of8 P (len8' (by assumption)))) (by omega) (by omega); exact ⟨rfl, q0.1, g2, q1.1, q2.1, q5.1, q7.1⟩)) | fail)))

end Go.Proofs.Ytejahpnbplcgnaa
