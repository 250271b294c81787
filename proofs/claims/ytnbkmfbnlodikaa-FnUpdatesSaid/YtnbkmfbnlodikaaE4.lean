/-
Contracts of what an assignment costs, over plain data, and the law FnExactAssignmentCost.
No condition but those that the contracts name.
-/
import Derived.Test.YtnbkmfbnlodikaaE3
namespace Go.Proofs.Ytnbkmfbnlodikaa
open Eng
set_option linter.unusedSimpArgs false
set_option linter.unusedVariables false
def dcV (ts : List Trk) (ps : List Plc) (xs : List It) (i : Int) : Int := dsV ts ps i (ig xs i)
def coF (ts : List Trk) (ps : List Plc) (xs : List It) (q : Int × Int) (i : Int) : Int × Int := if 0 ≤ ig xs i then (w64 (q.1 + dcV ts ps xs i), w64 (q.2 - 2)) else q
def coR (ts : List Trk) (ps : List Plc) (xs : List It) : Int × Int := foldI (coF ts ps xs) (0, w64 (ts.length + ps.length)) 0 xs.length
def coV (ts : List Trk) (ps : List Plc) (g : Int) (xs : List It) : Int := w64 ((coR ts ps xs).1 + (coR ts ps xs).2 * (g + 1))
def scF (ts : List Trk) (ps : List Plc) (g : Int) (xs : List It) (s : Int) (i : Int) : Int := if 0 ≤ ig xs i then w64 (w64 (s + dcV ts ps xs i) - w64 (2 * w64 (g + 1))) else s
theorem iaB_at {ts : List Trk} {ps : List Plc} {g : Int} {xs : List It} (h : iaB ts ps g xs = true) {i : Int} (h0 : 0 ≤ i) (h1 : i < xs.length) : ((xs.length : Int) = ts.length ∧ (ps.length : Int) ≤ 5) ∧ (ig xs i = -1 ∨ (0 ≤ ig xs i ∧ ig xs i < ps.length)) := by
  simp only [iaB, asB, Bool.and_eq_true, decide_eq_true_eq] at h
  refine ⟨⟨h.1.2, h.1.1.1.1.2⟩, ?_⟩
  have := allI_iff.1 h.2 i h0 h1
  simp only [paP, Bool.or_eq_true, beq_iff_eq, Bool.and_eq_true, inB_iff] at this
  omega
set_option maxRecDepth 100000 in
set_option maxHeartbeats 4000000 in
theorem costOf_gc {ts : List Trk} {ps : List Plc} {g : Int} {xs : List It} (hv : iaB ts ps g xs = true) (hl : xs.length ≤ 1048576) : GC Try.prog 66 [.sl 6 (ts.map Trk.e), .sl 2 (ps.map Plc.e), vi g, .sl 1 (xs.map It.e)] [] (fun r_ hs_ => r_ = vi (coV ts ps g xs) ∧ hs_ = []) := by
  refine GC.of_func [(6, .val 0 (.val 1 (.val 2 (.val 3 (.val 4 (.val 5 (.val 6 (.val 7 (.val 8 (.val 9 (.val 10 (.val 11 (.done)))))))))))))] Try.call66 Try.func66 rfl ⟨by kernel_rfl, by kernel_rfl⟩ (by kernel_rfl) ?_
  rw [Try.results66]
  simp -implicitDefEqProofs (maxSteps := 4000000) only [sim0, sim1, sim2, sim3, sim4, sim5, sim6, sim7, sim8, ↓reduceIte, Nat.reduceEqDiff, Nat.reduceAdd, Nat.reduceMul, Nat.reduceSub, Nat.reduceLT, Nat.reduceLeDiff, reduceCtorEq, Int.reduceToNat, Int.reduceNeg, Nat.reduceBEq, simx, ty, Trk.row, Plc.row, It.row, idxS_map, loadS_map, stoS_map, ← List.map_take, ← List.map_drop]
  repeat' (first
    | ((with_reducible refine onQcall ?_); first
      | (refine qcallS plotDistance_gc rfl rfl ?_ <;> try simp -implicitDefEqProofs (maxSteps := 4000000) only [sim0, sim1, sim2, sim3, sim4, sim5, sim6, sim7, sim8, ↓reduceIte, Nat.reduceEqDiff, Nat.reduceAdd, Nat.reduceMul, Nat.reduceSub, Nat.reduceLT, Nat.reduceLeDiff, reduceCtorEq, Int.reduceToNat, Int.reduceNeg, Nat.reduceBEq, simx, ty, Trk.row, Plc.row, It.row, idxS_map, loadS_map, stoS_map, ← List.map_take, ← List.map_drop])
      | fail)
    | ((with_reducible refine onCode ?_); first
      | (refine onLid 3 ?_ (by rfl); refine acode_prune [0, 1, 2, 3, 8, 9, 10, 11, 12, 18, 19, 20] ?_; simp only [prn_cons, prn_nil, lk_cons, lk_emp, Nat.reduceEqDiff, ↓reduceIte]; refine acode_loopS2 3 (by rfl) (α := Int × Int × Int) (fun ⟨i, c, a⟩ => [(20, vi i), (9, vi c), (10, vi a)]) [11, 12, 21, 22, 23, 24, 25, 26, 27, 28, 29, 30, 31, 32, 33, 34, 35, 36, 37, 38, 39, 40] [11, 12] (by kernel_rfl) (fun ⟨i, c, a⟩ => (0 ≤ i ∧ i ≤ xs.length) ∧ coR ts ps xs = foldI (coF ts ps xs) (c, a) i xs.length) (fun ⟨i, c, a⟩ => (xs.length - i).toNat) ((0, 0, IntKind.i64.wrap (ts.length + ps.length))) ?_ (by (try simp only []) <;> first | (exact ⟨by omega, rfl⟩) | fail) ?_; (focus ((try dsimp only []); (repeat' (first | exact agr_none | exact lk_hd | refine lk_tl (by decide) ?_ | refine agr_one ?_ ?_)); done)); rintro ⟨i, c, a⟩ hJ; (try simp only [] at hJ); have hJ3 := hJ; simp -implicitDefEqProofs (maxSteps := 4000000) only [sim0, sim1, sim2, sim3, sim4, sim5, sim6, sim7, sim8, ↓reduceIte, Nat.reduceEqDiff, Nat.reduceAdd, Nat.reduceMul, Nat.reduceSub, Nat.reduceLT, Nat.reduceLeDiff, reduceCtorEq, Int.reduceToNat, Int.reduceNeg, Nat.reduceBEq, simx, ty, Trk.row, Plc.row, It.row, idxS_map, loadS_map, stoS_map, ← List.map_take, ← List.map_drop])
      | fail)
    | ((with_reducible refine onLps ?_); first
      | (refine lps2_end (α := Int × Int × Int) (mods := (fun ⟨i, c, a⟩ => [(20, vi i), (9, vi c), (10, vi a)])) (_, _, _) (by (try dsimp only []); simp only [agr_cons, agr_nil, lk_cons, lk_emp, Nat.reduceEqDiff, ↓reduceIte, and_true]; repeat' (first | rfl | apply And.intro)) (by unfold undK; kernel_rfl) ?_ ?_ <;> ((try simp only []); (have e_ : IntKind.i64.wrap (i + 1) = i + 1 := wrap_id (by omega) (by omega); (try simp only [e_] at hq ⊢); first | omega | (refine ⟨by omega, foldI_go rfl (by omega) ?_ hJ3.2⟩; first | exact (if_pos hq).symm | exact (if_neg hq).symm))))
      | fail)
    | ((with_reducible refine onFin ?_); first
      | (refine fin_nil ?_; (first | (refine rn_vi ?_; (have h := foldI_fin (by omega) hJ3.2; simp only [coV, h, ws])) | (simp_all [fins]; done) | (simp_all [-Int.not_lt, -Int.not_le, fins]; done) | (simp_all [fins]; omega)))
      | fail)
    | (with_reducible refine ite_intro (fun hq => ?_) (fun hq => ?_))
    | (with_reducible refine And.intro (fun hq => ?_) (fun hq => ?_))
    | (with_reducible refine And.intro ?_ ?_)
    | ((fail_if_success (with_reducible refine onCode ?_)); (fail_if_success (with_reducible refine onLps ?_)); (fail_if_success (with_reducible refine onLpd ?_)); (fail_if_success (with_reducible refine onLpe ?_)); (fail_if_success (with_reducible refine onFin ?_)); (fail_if_success (with_reducible refine onCall ?_)); (fail_if_success (with_reducible refine onQcall ?_)); first | (((have h := iaB_at hv hJ3.1.1 (by omega); simp only [ig] at h; omega)); done) | omega | (rw [wrap_id (by omega) (by omega)]; omega) | (refine rn_vi ?_; (have h := foldI_fin (by omega) hJ3.2; simp only [coV, h, ws]))))

theorem coV_eq {ts : List Trk} {ps : List Plc} {g : Int} {xs : List It} : foldI (scF ts ps g xs) (w64 (w64 (g + 1) * w64 (ts.length + ps.length))) 0 xs.length = coV ts ps g xs := by
  have h := cost_rel (d := dcV ts ps xs) (x := ig xs) (g := g) (n := xs.length) (c := 0) (a := w64 (ts.length + ps.length)) (s := w64 (w64 (g + 1) * w64 (ts.length + ps.length))) (by simp only [ws, Int.zero_add]; rw [Int.mul_comm])
  exact h
set_option maxRecDepth 100000 in
set_option maxHeartbeats 4000000 in
theorem l15Cost_gc {ts : List Trk} {ps : List Plc} {g : Int} {xs : List It} (hv : iaB ts ps g xs = true) (hl : xs.length ≤ 1048576) : GC Try.prog 65 [.sl 6 (ts.map Trk.e), .sl 2 (ps.map Plc.e), vi g, .sl 1 (xs.map It.e)] [] (fun r_ hs_ => r_ = vi (coV ts ps g xs) ∧ hs_ = []) := by
  refine GC.of_func [(7, .val 0 (.val 1 (.val 2 (.val 3 (.val 4 (.val 5 (.val 6 (.val 7 (.val 8 (.val 9 (.val 10 (.val 11 (.val 12 (.val 13 (.val 14 (.val 15 (.done)))))))))))))))))] Try.call65 Try.func65 rfl ⟨by kernel_rfl, by kernel_rfl⟩ (by kernel_rfl) ?_
  rw [Try.results65]
  simp -implicitDefEqProofs (maxSteps := 4000000) only [sim0, sim1, sim2, sim3, sim4, sim5, sim6, sim7, sim8, ↓reduceIte, Nat.reduceEqDiff, Nat.reduceAdd, Nat.reduceMul, Nat.reduceSub, Nat.reduceLT, Nat.reduceLeDiff, reduceCtorEq, Int.reduceToNat, Int.reduceNeg, Nat.reduceBEq, simx, ty, Trk.row, Plc.row, It.row, idxS_map, loadS_map, stoS_map, ← List.map_take, ← List.map_drop]
  repeat' (first
    | ((with_reducible refine onQcall ?_); first
      | (refine qcallS l15Distance_gc rfl rfl ?_ <;> try simp -implicitDefEqProofs (maxSteps := 4000000) only [sim0, sim1, sim2, sim3, sim4, sim5, sim6, sim7, sim8, ↓reduceIte, Nat.reduceEqDiff, Nat.reduceAdd, Nat.reduceMul, Nat.reduceSub, Nat.reduceLT, Nat.reduceLeDiff, reduceCtorEq, Int.reduceToNat, Int.reduceNeg, Nat.reduceBEq, simx, ty, Trk.row, Plc.row, It.row, idxS_map, loadS_map, stoS_map, ← List.map_take, ← List.map_drop])
      | fail)
    | ((with_reducible refine onCode ?_); first
      | (refine onLid 3 ?_ (by rfl); refine acode_prune [0, 1, 2, 3, 8, 9, 10, 11] ?_; simp only [prn_cons, prn_nil, lk_cons, lk_emp, Nat.reduceEqDiff, ↓reduceIte]; refine acode_loopS2 3 (by rfl) (α := Int × Int) (fun ⟨i, s⟩ => [(10, vi i), (9, vi s)]) [11, 20, 21, 22, 23, 24, 25, 26, 27, 28, 29, 30, 31, 32, 33, 34, 35, 36, 37, 38, 39, 40, 41, 42, 43, 44, 45, 46] [11] (by kernel_rfl) (fun ⟨i, s⟩ => (0 ≤ i ∧ i ≤ xs.length) ∧ coV ts ps g xs = foldI (scF ts ps g xs) s i xs.length) (fun ⟨i, s⟩ => (xs.length - i).toNat) ((0, _)) ?_ (by (try simp only []) <;> first | (exact ⟨by omega, coV_eq.symm⟩) | fail) ?_; (focus ((try dsimp only []); (repeat' (first | exact agr_none | exact lk_hd | refine lk_tl (by decide) ?_ | refine agr_one ?_ ?_)); done)); rintro ⟨i, s⟩ hJ; (try simp only [] at hJ); have hJ3 := hJ; simp -implicitDefEqProofs (maxSteps := 4000000) only [sim0, sim1, sim2, sim3, sim4, sim5, sim6, sim7, sim8, ↓reduceIte, Nat.reduceEqDiff, Nat.reduceAdd, Nat.reduceMul, Nat.reduceSub, Nat.reduceLT, Nat.reduceLeDiff, reduceCtorEq, Int.reduceToNat, Int.reduceNeg, Nat.reduceBEq, simx, ty, Trk.row, Plc.row, It.row, idxS_map, loadS_map, stoS_map, ← List.map_take, ← List.map_drop])
      | fail)
    | ((with_reducible refine onLps ?_); first
      | (refine lps2_end (α := Int × Int) (mods := (fun ⟨i, s⟩ => [(10, vi i), (9, vi s)])) (_, _) (by (try dsimp only []); simp only [agr_cons, agr_nil, lk_cons, lk_emp, Nat.reduceEqDiff, ↓reduceIte, and_true]; repeat' (first | rfl | apply And.intro)) (by unfold undK; kernel_rfl) ?_ ?_ <;> ((try simp only []); (have e_ : IntKind.i64.wrap (i + 1) = i + 1 := wrap_id (by omega) (by omega); (try simp only [e_] at hq ⊢); first | omega | (refine ⟨by omega, foldI_go rfl (by omega) ?_ hJ3.2⟩; first | exact (if_pos hq).symm | exact (if_neg hq).symm))))
      | fail)
    | ((with_reducible refine onFin ?_); first
      | (refine fin_nil ?_; (first | (refine rn_vi ?_; exact foldI_fin (by omega) hJ3.2) | (simp_all [fins]; done) | (simp_all [-Int.not_lt, -Int.not_le, fins]; done) | (simp_all [fins]; omega)))
      | fail)
    | (with_reducible refine ite_intro (fun hq => ?_) (fun hq => ?_))
    | (with_reducible refine And.intro (fun hq => ?_) (fun hq => ?_))
    | (with_reducible refine And.intro ?_ ?_)
    | ((fail_if_success (with_reducible refine onCode ?_)); (fail_if_success (with_reducible refine onLps ?_)); (fail_if_success (with_reducible refine onLpd ?_)); (fail_if_success (with_reducible refine onLpe ?_)); (fail_if_success (with_reducible refine onFin ?_)); (fail_if_success (with_reducible refine onCall ?_)); (fail_if_success (with_reducible refine onQcall ?_)); first | (((have h := iaB_at hv hJ3.1.1 (by omega); simp only [ig] at h; omega)); done) | omega | (rw [wrap_id (by omega) (by omega)]; omega) | (refine rn_vi ?_; exact foldI_fin (by omega) hJ3.2)))

def acV (ts : List Trk) (ps : List Plc) (g : Int) (xs : List It) : Int := if iaB ts ps g xs = true then coV ts ps g xs else 0
set_option maxRecDepth 100000 in
set_option maxHeartbeats 4000000 in
theorem impAssignmentCost_gc {ts : List Trk} {ps : List Plc} {g : Int} {xs : List It} (hl : ps.length ≤ 1048576 ∧ xs.length ≤ 1048576) : GC Try.prog 28 [.sl 6 (ts.map Trk.e), .sl 2 (ps.map Plc.e), vi g, .sl 1 (xs.map It.e)] [] (fun r_ hs_ => r_ = .tup [vi (acV ts ps g xs), vb (iaB ts ps g xs)] ∧ hs_ = []) := by
  refine GC.of_func [] Try.call28 Try.func28 rfl ⟨by kernel_rfl, by kernel_rfl⟩ (by kernel_rfl) ?_
  rw [Try.results28]
  simp -implicitDefEqProofs (maxSteps := 4000000) only [sim0, sim1, sim2, sim3, sim4, sim5, sim6, sim7, sim8, ↓reduceIte, Nat.reduceEqDiff, Nat.reduceAdd, Nat.reduceMul, Nat.reduceSub, Nat.reduceLT, Nat.reduceLeDiff, reduceCtorEq, Int.reduceToNat, Int.reduceNeg, Nat.reduceBEq, simx, ty, Trk.row, Plc.row, It.row, idxS_map, loadS_map, stoS_map, ← List.map_take, ← List.map_drop]
  repeat' (first
    | ((with_reducible refine onCall ?_); first
      | (refine GC.callR (by repeat' (first | exact rdL_nil | refine rdL_cons ?_ ?_ | exact rd_v | exact rd_sl | exact rd_nil | refine rd_ref rfl (by simp) (plnLL_map (fun _ => rfl) _) | refine rd_rs rfl (by simp; omega) (plnLL_map (fun _ => rfl) _) | refine rd_agg ?_)) (isAssignment_gc ?_) rfl ?_ <;> try simp -implicitDefEqProofs (maxSteps := 4000000) only [sim0, sim1, sim2, sim3, sim4, sim5, sim6, sim7, sim8, ↓reduceIte, Nat.reduceEqDiff, Nat.reduceAdd, Nat.reduceMul, Nat.reduceSub, Nat.reduceLT, Nat.reduceLeDiff, reduceCtorEq, Int.reduceToNat, Int.reduceNeg, Nat.reduceBEq, simx, ty, Trk.row, Plc.row, It.row, idxS_map, loadS_map, stoS_map, ← List.map_take, ← List.map_drop])
      | (refine GC.callR (by repeat' (first | exact rdL_nil | refine rdL_cons ?_ ?_ | exact rd_v | exact rd_sl | exact rd_nil | refine rd_ref rfl (by simp) (plnLL_map (fun _ => rfl) _) | refine rd_rs rfl (by simp; omega) (plnLL_map (fun _ => rfl) _) | refine rd_agg ?_)) (costOf_gc ?_ ?_) rfl ?_ <;> try simp -implicitDefEqProofs (maxSteps := 4000000) only [sim0, sim1, sim2, sim3, sim4, sim5, sim6, sim7, sim8, ↓reduceIte, Nat.reduceEqDiff, Nat.reduceAdd, Nat.reduceMul, Nat.reduceSub, Nat.reduceLT, Nat.reduceLeDiff, reduceCtorEq, Int.reduceToNat, Int.reduceNeg, Nat.reduceBEq, simx, ty, Trk.row, Plc.row, It.row, idxS_map, loadS_map, stoS_map, ← List.map_take, ← List.map_drop])
      | fail)
    | ((with_reducible refine onFin ?_); first
      | (refine fin_nil ?_; (first | (simp_all [fins, acV]; done) | (simp_all [fins]; done) | (simp_all [-Int.not_lt, -Int.not_le, fins]; done) | (simp_all [fins]; omega)))
      | fail)
    | (with_reducible refine ite_intro (fun hq => ?_) (fun hq => ?_))
    | (with_reducible refine And.intro (fun hq => ?_) (fun hq => ?_))
    | (with_reducible refine And.intro ?_ ?_)
    | ((fail_if_success (with_reducible refine onCode ?_)); (fail_if_success (with_reducible refine onLps ?_)); (fail_if_success (with_reducible refine onLpd ?_)); (fail_if_success (with_reducible refine onLpe ?_)); (fail_if_success (with_reducible refine onFin ?_)); (fail_if_success (with_reducible refine onCall ?_)); (fail_if_success (with_reducible refine onQcall ?_)); first | ((first | exact hl | exact hl.2 | (simpa using hq)); done) | omega | (rw [wrap_id (by omega) (by omega)]; omega) | (simp_all [fins, acV]; done)))

set_option maxRecDepth 100000 in
set_option maxHeartbeats 4000000 in
theorem sAssignmentCost_gc {ts : List Trk} {ps : List Plc} {g : Int} {xs : List It} (hl : ps.length ≤ 1048576 ∧ xs.length ≤ 1048576) : GC Try.prog 27 [.sl 6 (ts.map Trk.e), .sl 2 (ps.map Plc.e), vi g, .sl 1 (xs.map It.e)] [] (fun r_ hs_ => r_ = .tup [vi (acV ts ps g xs), vb (iaB ts ps g xs)] ∧ hs_ = []) := by
  refine GC.of_func [] Try.call27 Try.func27 rfl ⟨by kernel_rfl, by kernel_rfl⟩ (by kernel_rfl) ?_
  rw [Try.results27]
  simp -implicitDefEqProofs (maxSteps := 4000000) only [sim0, sim1, sim2, sim3, sim4, sim5, sim6, sim7, sim8, ↓reduceIte, Nat.reduceEqDiff, Nat.reduceAdd, Nat.reduceMul, Nat.reduceSub, Nat.reduceLT, Nat.reduceLeDiff, reduceCtorEq, Int.reduceToNat, Int.reduceNeg, Nat.reduceBEq, simx, ty, Trk.row, Plc.row, It.row, idxS_map, loadS_map, stoS_map, ← List.map_take, ← List.map_drop]
  repeat' (first
    | ((with_reducible refine onCall ?_); first
      | (refine GC.callR (by repeat' (first | exact rdL_nil | refine rdL_cons ?_ ?_ | exact rd_v | exact rd_sl | exact rd_nil | refine rd_ref rfl (by simp) (plnLL_map (fun _ => rfl) _) | refine rd_rs rfl (by simp; omega) (plnLL_map (fun _ => rfl) _) | refine rd_agg ?_)) (l15Good_gc ?_) rfl ?_ <;> try simp -implicitDefEqProofs (maxSteps := 4000000) only [sim0, sim1, sim2, sim3, sim4, sim5, sim6, sim7, sim8, ↓reduceIte, Nat.reduceEqDiff, Nat.reduceAdd, Nat.reduceMul, Nat.reduceSub, Nat.reduceLT, Nat.reduceLeDiff, reduceCtorEq, Int.reduceToNat, Int.reduceNeg, Nat.reduceBEq, simx, ty, Trk.row, Plc.row, It.row, idxS_map, loadS_map, stoS_map, ← List.map_take, ← List.map_drop])
      | (refine GC.callR (by repeat' (first | exact rdL_nil | refine rdL_cons ?_ ?_ | exact rd_v | exact rd_sl | exact rd_nil | refine rd_ref rfl (by simp) (plnLL_map (fun _ => rfl) _) | refine rd_rs rfl (by simp; omega) (plnLL_map (fun _ => rfl) _) | refine rd_agg ?_)) (l15Cost_gc ?_ ?_) rfl ?_ <;> try simp -implicitDefEqProofs (maxSteps := 4000000) only [sim0, sim1, sim2, sim3, sim4, sim5, sim6, sim7, sim8, ↓reduceIte, Nat.reduceEqDiff, Nat.reduceAdd, Nat.reduceMul, Nat.reduceSub, Nat.reduceLT, Nat.reduceLeDiff, reduceCtorEq, Int.reduceToNat, Int.reduceNeg, Nat.reduceBEq, simx, ty, Trk.row, Plc.row, It.row, idxS_map, loadS_map, stoS_map, ← List.map_take, ← List.map_drop])
      | fail)
    | ((with_reducible refine onFin ?_); first
      | (refine fin_nil ?_; (first | (simp_all [fins, acV]; done) | (simp_all [fins]; done) | (simp_all [-Int.not_lt, -Int.not_le, fins]; done) | (simp_all [fins]; omega)))
      | fail)
    | (with_reducible refine ite_intro (fun hq => ?_) (fun hq => ?_))
    | (with_reducible refine And.intro (fun hq => ?_) (fun hq => ?_))
    | (with_reducible refine And.intro ?_ ?_)
    | ((fail_if_success (with_reducible refine onCode ?_)); (fail_if_success (with_reducible refine onLps ?_)); (fail_if_success (with_reducible refine onLpd ?_)); (fail_if_success (with_reducible refine onLpe ?_)); (fail_if_success (with_reducible refine onFin ?_)); (fail_if_success (with_reducible refine onCall ?_)); (fail_if_success (with_reducible refine onQcall ?_)); first | ((first | exact hl | exact hl.2 | (simpa using hq)); done) | omega | (rw [wrap_id (by omega) (by omega)]; omega) | (simp_all [fins, acV]; done)))

set_option maxRecDepth 100000 in
set_option maxHeartbeats 4000000 in
theorem FnExactAssignmentCost_g0 {ts : List Trk} {ps : List Plc} {g : Int} {xs : List It} (hl : ts.length ≤ maxLen ∧ ps.length ≤ maxLen ∧ xs.length ≤ maxLen) : GC Try.prog 5 [.sl 6 (ts.map Trk.e), .sl 2 (ps.map Plc.e), vi g, .sl 1 (xs.map It.e)] [] (fun r _ => r = vb true) := by
  refine GC.of_func [] Try.call5 Try.func5 rfl ⟨by kernel_rfl, by kernel_rfl⟩ (by kernel_rfl) ?_
  rw [Try.results5]
  simp -implicitDefEqProofs (maxSteps := 4000000) only [sim0, sim1, sim2, sim3, sim4, sim5, sim6, sim7, sim8, ↓reduceIte, Nat.reduceEqDiff, Nat.reduceAdd, Nat.reduceMul, Nat.reduceSub, Nat.reduceLT, Nat.reduceLeDiff, reduceCtorEq, Int.reduceToNat, Int.reduceNeg, Nat.reduceBEq, simx, ty, Trk.row, Plc.row, It.row, idxS_map, loadS_map, stoS_map, ← List.map_take, ← List.map_drop, sz_neg]
  repeat' (first
    | ((with_reducible refine onCall ?_); first
      | (refine GC.callR (by repeat' (first | exact rdL_nil | refine rdL_cons ?_ ?_ | exact rd_v | exact rd_sl | exact rd_nil | refine rd_ref rfl (by simp) (plnLL_map (fun _ => rfl) _) | refine rd_rs rfl (by simp; omega) (plnLL_map (fun _ => rfl) _) | refine rd_agg ?_)) (szTrackS_gc ?_ ?_) rfl ?_ <;> try simp -implicitDefEqProofs (maxSteps := 4000000) only [sim0, sim1, sim2, sim3, sim4, sim5, sim6, sim7, sim8, ↓reduceIte, Nat.reduceEqDiff, Nat.reduceAdd, Nat.reduceMul, Nat.reduceSub, Nat.reduceLT, Nat.reduceLeDiff, reduceCtorEq, Int.reduceToNat, Int.reduceNeg, Nat.reduceBEq, simx, ty, Trk.row, Plc.row, It.row, idxS_map, loadS_map, stoS_map, ← List.map_take, ← List.map_drop, sz_neg])
      | (refine GC.callR (by repeat' (first | exact rdL_nil | refine rdL_cons ?_ ?_ | exact rd_v | exact rd_sl | exact rd_nil | refine rd_ref rfl (by simp) (plnLL_map (fun _ => rfl) _) | refine rd_rs rfl (by simp; omega) (plnLL_map (fun _ => rfl) _) | refine rd_agg ?_)) (szPlaceS_gc ?_ ?_) rfl ?_ <;> try simp -implicitDefEqProofs (maxSteps := 4000000) only [sim0, sim1, sim2, sim3, sim4, sim5, sim6, sim7, sim8, ↓reduceIte, Nat.reduceEqDiff, Nat.reduceAdd, Nat.reduceMul, Nat.reduceSub, Nat.reduceLT, Nat.reduceLeDiff, reduceCtorEq, Int.reduceToNat, Int.reduceNeg, Nat.reduceBEq, simx, ty, Trk.row, Plc.row, It.row, idxS_map, loadS_map, stoS_map, ← List.map_take, ← List.map_drop, sz_neg])
      | (refine GC.use true [] (toTrackS_gc ?_) rfl trivial (by repeat' (first | exact arL_nil | refine arL_cons ?_ ?_ | exact ar_v | exact ar_sl | exact ar_nil | refine ar_ref rfl rfl (by simp) (plnLL_map (fun _ => rfl) _) | refine ar_rs rfl rfl (by simp; omega) (plnLL_map (fun _ => rfl) _) | refine ar_agg ?_)) (.inr ⟨rfl, by first | rfl | simp [Trk.ns, Plc.ns, It.ns]⟩) ?_ <;> try simp -implicitDefEqProofs (maxSteps := 4000000) only [sim0, sim1, sim2, sim3, sim4, sim5, sim6, sim7, sim8, ↓reduceIte, Nat.reduceEqDiff, Nat.reduceAdd, Nat.reduceMul, Nat.reduceSub, Nat.reduceLT, Nat.reduceLeDiff, reduceCtorEq, Int.reduceToNat, Int.reduceNeg, Nat.reduceBEq, simx, ty, Trk.row, Plc.row, It.row, idxS_map, loadS_map, stoS_map, ← List.map_take, ← List.map_drop, sz_neg])
      | (refine GC.use true [] (toPlaceS_gc ?_) rfl trivial (by repeat' (first | exact arL_nil | refine arL_cons ?_ ?_ | exact ar_v | exact ar_sl | exact ar_nil | refine ar_ref rfl rfl (by simp) (plnLL_map (fun _ => rfl) _) | refine ar_rs rfl rfl (by simp; omega) (plnLL_map (fun _ => rfl) _) | refine ar_agg ?_)) (.inr ⟨rfl, by first | rfl | simp [Trk.ns, Plc.ns, It.ns]⟩) ?_ <;> try simp -implicitDefEqProofs (maxSteps := 4000000) only [sim0, sim1, sim2, sim3, sim4, sim5, sim6, sim7, sim8, ↓reduceIte, Nat.reduceEqDiff, Nat.reduceAdd, Nat.reduceMul, Nat.reduceSub, Nat.reduceLT, Nat.reduceLeDiff, reduceCtorEq, Int.reduceToNat, Int.reduceNeg, Nat.reduceBEq, simx, ty, Trk.row, Plc.row, It.row, idxS_map, loadS_map, stoS_map, ← List.map_take, ← List.map_drop, sz_neg])
      | (refine GC.use true [] (toIntS_gc ?_) rfl trivial (by repeat' (first | exact arL_nil | refine arL_cons ?_ ?_ | exact ar_v | exact ar_sl | exact ar_nil | refine ar_ref rfl rfl (by simp) (plnLL_map (fun _ => rfl) _) | refine ar_rs rfl rfl (by simp; omega) (plnLL_map (fun _ => rfl) _) | refine ar_agg ?_)) (.inr ⟨rfl, by first | rfl | simp [Trk.ns, Plc.ns, It.ns]⟩) ?_ <;> try simp -implicitDefEqProofs (maxSteps := 4000000) only [sim0, sim1, sim2, sim3, sim4, sim5, sim6, sim7, sim8, ↓reduceIte, Nat.reduceEqDiff, Nat.reduceAdd, Nat.reduceMul, Nat.reduceSub, Nat.reduceLT, Nat.reduceLeDiff, reduceCtorEq, Int.reduceToNat, Int.reduceNeg, Nat.reduceBEq, simx, ty, Trk.row, Plc.row, It.row, idxS_map, loadS_map, stoS_map, ← List.map_take, ← List.map_drop, sz_neg])
      | (refine GC.callR (by repeat' (first | exact rdL_nil | refine rdL_cons ?_ ?_ | exact rd_v | exact rd_sl | exact rd_nil | refine rd_ref rfl (by simp) (plnLL_map (fun _ => rfl) _) | refine rd_rs rfl (by simp; omega) (plnLL_map (fun _ => rfl) _) | refine rd_agg ?_)) (sAssignmentCost_gc ?_) rfl ?_ <;> try simp -implicitDefEqProofs (maxSteps := 4000000) only [sim0, sim1, sim2, sim3, sim4, sim5, sim6, sim7, sim8, ↓reduceIte, Nat.reduceEqDiff, Nat.reduceAdd, Nat.reduceMul, Nat.reduceSub, Nat.reduceLT, Nat.reduceLeDiff, reduceCtorEq, Int.reduceToNat, Int.reduceNeg, Nat.reduceBEq, simx, ty, Trk.row, Plc.row, It.row, idxS_map, loadS_map, stoS_map, ← List.map_take, ← List.map_drop, sz_neg])
      | (refine GC.callR (by repeat' (first | exact rdL_nil | refine rdL_cons ?_ ?_ | exact rd_v | exact rd_sl | exact rd_nil | refine rd_ref rfl (by simp) (plnLL_map (fun _ => rfl) _) | refine rd_rs rfl (by simp; omega) (plnLL_map (fun _ => rfl) _) | refine rd_agg ?_)) (impAssignmentCost_gc ?_) rfl ?_ <;> try simp -implicitDefEqProofs (maxSteps := 4000000) only [sim0, sim1, sim2, sim3, sim4, sim5, sim6, sim7, sim8, ↓reduceIte, Nat.reduceEqDiff, Nat.reduceAdd, Nat.reduceMul, Nat.reduceSub, Nat.reduceLT, Nat.reduceLeDiff, reduceCtorEq, Int.reduceToNat, Int.reduceNeg, Nat.reduceBEq, simx, ty, Trk.row, Plc.row, It.row, idxS_map, loadS_map, stoS_map, ← List.map_take, ← List.map_drop, sz_neg])
      | (refine GC.callR (by repeat' (first | exact rdL_nil | refine rdL_cons ?_ ?_ | exact rd_v | exact rd_sl | exact rd_nil | refine rd_ref rfl (by simp) (plnLL_map (fun _ => rfl) _) | refine rd_rs rfl (by simp; omega) (plnLL_map (fun _ => rfl) _) | refine rd_agg ?_)) (eqTrackS_gc ?_) rfl ?_ <;> try simp -implicitDefEqProofs (maxSteps := 4000000) only [sim0, sim1, sim2, sim3, sim4, sim5, sim6, sim7, sim8, ↓reduceIte, Nat.reduceEqDiff, Nat.reduceAdd, Nat.reduceMul, Nat.reduceSub, Nat.reduceLT, Nat.reduceLeDiff, reduceCtorEq, Int.reduceToNat, Int.reduceNeg, Nat.reduceBEq, simx, ty, Trk.row, Plc.row, It.row, idxS_map, loadS_map, stoS_map, ← List.map_take, ← List.map_drop, sz_neg])
      | (refine GC.callR (by repeat' (first | exact rdL_nil | refine rdL_cons ?_ ?_ | exact rd_v | exact rd_sl | exact rd_nil | refine rd_ref rfl (by simp) (plnLL_map (fun _ => rfl) _) | refine rd_rs rfl (by simp; omega) (plnLL_map (fun _ => rfl) _) | refine rd_agg ?_)) (eqPlaceS_gc ?_) rfl ?_ <;> try simp -implicitDefEqProofs (maxSteps := 4000000) only [sim0, sim1, sim2, sim3, sim4, sim5, sim6, sim7, sim8, ↓reduceIte, Nat.reduceEqDiff, Nat.reduceAdd, Nat.reduceMul, Nat.reduceSub, Nat.reduceLT, Nat.reduceLeDiff, reduceCtorEq, Int.reduceToNat, Int.reduceNeg, Nat.reduceBEq, simx, ty, Trk.row, Plc.row, It.row, idxS_map, loadS_map, stoS_map, ← List.map_take, ← List.map_drop, sz_neg])
      | (refine GC.callR (by repeat' (first | exact rdL_nil | refine rdL_cons ?_ ?_ | exact rd_v | exact rd_sl | exact rd_nil | refine rd_ref rfl (by simp) (plnLL_map (fun _ => rfl) _) | refine rd_rs rfl (by simp; omega) (plnLL_map (fun _ => rfl) _) | refine rd_agg ?_)) (eqIntS_gc ?_) rfl ?_ <;> try simp -implicitDefEqProofs (maxSteps := 4000000) only [sim0, sim1, sim2, sim3, sim4, sim5, sim6, sim7, sim8, ↓reduceIte, Nat.reduceEqDiff, Nat.reduceAdd, Nat.reduceMul, Nat.reduceSub, Nat.reduceLT, Nat.reduceLeDiff, reduceCtorEq, Int.reduceToNat, Int.reduceNeg, Nat.reduceBEq, simx, ty, Trk.row, Plc.row, It.row, idxS_map, loadS_map, stoS_map, ← List.map_take, ← List.map_drop, sz_neg])
      | fail)
    | ((with_reducible refine onFin ?_); first
      | (refine fin_law ?_; (first | (simp_all [fins]; done) | (simp_all [-Int.not_lt, -Int.not_le, fins]; done) | (simp_all [fins]; omega)))
      | fail)
    | (with_reducible refine ite_intro (fun hq => ?_) (fun hq => ?_))
    | (with_reducible refine And.intro (fun hq => ?_) (fun hq => ?_))
    | (with_reducible refine And.intro ?_ ?_)
    | ((fail_if_success (with_reducible refine onCode ?_)); (fail_if_success (with_reducible refine onLps ?_)); (fail_if_success (with_reducible refine onLpd ?_)); (fail_if_success (with_reducible refine onLpe ?_)); (fail_if_success (with_reducible refine onFin ?_)); (fail_if_success (with_reducible refine onCall ?_)); (fail_if_success (with_reducible refine onQcall ?_)); first | ((omega); done) | omega | (rw [wrap_id (by omega) (by omega)]; omega) | (simp_all; done)))

theorem FnExactAssignmentCost_gc (xs : List (List Int)) (w : ∀ e ∈ xs, e.length = 6 ∧ ∀ z ∈ e, (Lit.int .i64 z).wf = true) (m : xs.length ≤ maxLen) (ys : List (List Int)) (w' : ∀ e ∈ ys, e.length = 2 ∧ ∀ z ∈ e, (Lit.int .i64 z).wf = true) (m' : ys.length ≤ maxLen) (g : Int) (hg : I64 g) (zs : List (List Int)) (w'' : ∀ e ∈ zs, e.length = 1 ∧ ∀ z ∈ e, (Lit.int .i64 z).wf = true) (m'' : zs.length ≤ maxLen) : GC Try.prog 5 [.sl 6 (els .i64 xs), .sl 2 (els .i64 ys), vi g, .sl 1 (els .i64 zs)] [] (fun r _ => r = vb true) := by
  obtain ⟨ts, h1, h2, h3⟩ := Trk.of w
  obtain ⟨us, h4, h5, h6⟩ := Plc.of w'
  obtain ⟨vs, h7, h8, h9⟩ := It.of w''
  rw [h1, h4, h7]; exact FnExactAssignmentCost_g0 ⟨by omega, by omega, by omega⟩
end Go.Proofs.Ytnbkmfbnlodikaa
