/-
Contracts of StartTrack, over plain data, and its law.
No condition but those that the contracts name.
-/
import Derived.Test.YtnbkmfbnlodikaaT5
namespace Go.Proofs.Ytnbkmfbnlodikaa
open Eng
set_option linter.unusedSimpArgs false
set_option linter.unusedVariables false
def stI (ts : List Trk) : Int := if 0 < ts.length then w64 ((tk ts (ts.length - 1)).i + 1) else 1
def stL (ts : List Trk) (x y : Int) : List Trk := ts ++ [⟨stI ts, 1, x, y, 1, 0⟩]
def stO (ts : List Trk) (x y : Int) : Bool := tlB ts && placeB x y && tlB (stL ts x y)
def stV (ts : List Trk) (x y : Int) : List Trk := if stO ts x y = true then stL ts x y else []
def stW (ts : List Trk) (x y : Int) : Int := if stO ts x y = true then stI ts else 0
theorem st_no {ts : List Trk} {x y : Int} (h : stO ts x y = false) : stV ts x y = [] ∧ stW ts x y = 0 := by simp [stV, stW, h]
theorem st_yes {ts : List Trk} {x y : Int} (h : stO ts x y = true) : stV ts x y = stL ts x y ∧ stW ts x y = stI ts := by simp [stV, stW, h]
theorem stI_pos {ts : List Trk} (h : 0 < (ts.length : Int)) (hl : ts.length ≤ 1048576) : stI ts = w64 ((ts.getD (w64 ((ts.length : Int) - 1)).toNat default).i + 1) := by
  have e : w64 ((ts.length : Int) - 1) = ts.length - 1 := wrap_id (by omega) (by omega)
  rw [e]; exact if_pos (by omega)
theorem stI_zero {ts : List Trk} (h : ¬ 0 < (ts.length : Int)) : stI ts = 1 := if_neg (by omega)
theorem stV_len {ts : List Trk} {x y : Int} : (stV ts x y).length ≤ 1048576 := by
  unfold stV; split
  · rename_i h
    simp only [stO, Bool.and_eq_true] at h
    have := tlB_len h.2; omega
  · simp
theorem st_n1 {ts : List Trk} {x y : Int} (h : tlB ts = false) : stO ts x y = false := by simp [stO, h]
theorem st_n2 {ts : List Trk} {x y : Int} (h : placeB x y = false) : stO ts x y = false := by simp [stO, h]
theorem st_n3 {ts : List Trk} {x y : Int} (hl : ts.length ≤ 1048576) (h0 : 0 < (ts.length : Int)) (h : tlB (ts ++ [⟨w64 ((ts.getD (w64 ((ts.length : Int) - 1)).toNat default).i + 1), 1, x, y, 1, 0⟩]) = false) : stO ts x y = false := by
  rw [← stI_pos h0 hl] at h; simp [stO, stL, h]
theorem st_n4 {ts : List Trk} {x y : Int} (h0 : ¬ 0 < (ts.length : Int)) (h : tlB (ts ++ [⟨1, 1, x, y, 1, 0⟩]) = false) : stO ts x y = false := by
  have e := stI_zero h0; simp [stO, stL, e, h]
theorem st_y3 {ts : List Trk} {x y : Int} (hl : ts.length ≤ 1048576) (h1 : ¬ tlB ts = false) (h2 : ¬ placeB x y = false) (h0 : 0 < (ts.length : Int)) (h : ¬ tlB (ts ++ [⟨w64 ((ts.getD (w64 ((ts.length : Int) - 1)).toNat default).i + 1), 1, x, y, 1, 0⟩]) = false) :
    stO ts x y = true ∧ stV ts x y = ts ++ [⟨w64 ((ts.getD (w64 ((ts.length : Int) - 1)).toNat default).i + 1), 1, x, y, 1, 0⟩] ∧ stW ts x y = w64 ((ts.getD (w64 ((ts.length : Int) - 1)).toNat default).i + 1) := by
  rw [← stI_pos h0 hl] at h ⊢
  have e : stO ts x y = true := by simp only [stO, stL, Bool.and_eq_true]; exact ⟨⟨by simpa using h1, by simpa using h2⟩, by simpa using h⟩
  exact ⟨e, (st_yes e).1, (st_yes e).2⟩
theorem st_y4 {ts : List Trk} {x y : Int} (h1 : ¬ tlB ts = false) (h2 : ¬ placeB x y = false) (h0 : ¬ 0 < (ts.length : Int)) (h : ¬ tlB (ts ++ [⟨1, 1, x, y, 1, 0⟩]) = false) :
    stO ts x y = true ∧ stV ts x y = ts ++ [⟨1, 1, x, y, 1, 0⟩] ∧ stW ts x y = 1 := by
  have e1 := stI_zero h0
  have e : stO ts x y = true := by simp only [stO, stL, Bool.and_eq_true, e1]; exact ⟨⟨by simpa using h1, by simpa using h2⟩, by simpa using h⟩
  exact ⟨e, by rw [(st_yes e).1, stL, e1], by rw [(st_yes e).2, e1]⟩
set_option maxRecDepth 100000 in
set_option maxHeartbeats 4000000 in
theorem impStartTrack_gc {ts : List Trk} {x y : Int} (hl : ts.length ≤ 1048576) : GC Try.prog 76 [.sl 6 (ts.map Trk.e), .agg [vi x, vi y]] [] (fun r_ hs_ => r_ = .tup [.ref 0 (stV ts x y).length, vi (stW ts x y), vb (stO ts x y)] ∧ hs_ = [.arr 6 ((stV ts x y).map Trk.e)]) := by
  refine GC.nilX 6 ?_
  refine GC.of_func [(6, .val 1 (.val 3 (.val 4 (.val 5 (.val 6 (.val 7 (.val 8 (.eff [(0, [8, 7, 6, 5, 4, 3, 1], .eff [(2, [8, 7, 6, 5, 4, 3], .eff [(9, [1], .eff [(10, [], .val 11 (.done))])]), (9, [1], .eff [(2, [8, 7, 6, 5, 4, 3], .eff [(10, [], .val 11 (.done))])])]), (9, [1], .eff [(0, [8, 7, 6, 5, 4, 3, 1], .eff [(2, [8, 7, 6, 5, 4, 3], .eff [(10, [], .val 11 (.done))])])])]))))))))] Try.call76 Try.func76 rfl ⟨by kernel_rfl, by kernel_rfl⟩ (by kernel_rfl) ?_
  rw [Try.results76]
  simp -implicitDefEqProofs (maxSteps := 4000000) only [sim0, sim1, sim2, sim3, sim4, sim5, sim6, sim7, sim8, ↓reduceIte, Nat.reduceEqDiff, Nat.reduceAdd, Nat.reduceMul, Nat.reduceSub, Nat.reduceLT, Nat.reduceLeDiff, reduceCtorEq, Int.reduceToNat, Int.reduceNeg, Nat.reduceBEq, simx, ty, Trk.row, Plc.row, It.row, idxS_map, loadS_map, stoS_map, ← List.map_take, ← List.map_drop]
  repeat' (first
    | ((with_reducible refine onCall ?_); first
      | (refine GC.callR (by repeat' (first | exact rdL_nil | refine rdL_cons ?_ ?_ | exact rd_v | exact rd_sl | exact rd_nil | refine rd_ref rfl (by simp) (plnLL_map (fun _ => rfl) _) | refine rd_rs rfl (by simp; omega) (plnLL_map (fun _ => rfl) _) | refine rd_agg ?_)) isValidTracks_gc rfl ?_ <;> try simp -implicitDefEqProofs (maxSteps := 4000000) only [sim0, sim1, sim2, sim3, sim4, sim5, sim6, sim7, sim8, ↓reduceIte, Nat.reduceEqDiff, Nat.reduceAdd, Nat.reduceMul, Nat.reduceSub, Nat.reduceLT, Nat.reduceLeDiff, reduceCtorEq, Int.reduceToNat, Int.reduceNeg, Nat.reduceBEq, simx, ty, Trk.row, Plc.row, It.row, idxS_map, loadS_map, stoS_map, ← List.map_take, ← List.map_drop])
      | (refine GC.callS isValidPlace_gc rfl rfl ?_ <;> try simp -implicitDefEqProofs (maxSteps := 4000000) only [sim0, sim1, sim2, sim3, sim4, sim5, sim6, sim7, sim8, ↓reduceIte, Nat.reduceEqDiff, Nat.reduceAdd, Nat.reduceMul, Nat.reduceSub, Nat.reduceLT, Nat.reduceLeDiff, reduceCtorEq, Int.reduceToNat, Int.reduceNeg, Nat.reduceBEq, simx, ty, Trk.row, Plc.row, It.row, idxS_map, loadS_map, stoS_map, ← List.map_take, ← List.map_drop])
      | fail)
    | ((with_reducible refine onFin ?_); first
      | (refine fin_orL ?_ ?_ ?_ (by first | (simp only [plnLL, pln, Value.oneCell', List.all_cons, List.all_nil, plnH, Trk.pl, Plc.pl, It.pl, Bool.and_true, Bool.and_self, List.take_zero, List.nil_append, List.map_cons, List.map_nil]; done) | rfl) <;> (first | (first | (rename_i h1 h2 h3; have g := st_y3 hl h1 h2 h3 hq; simp [fins, funs, ids_tup, g.1, g.2.1, g.2.2]; done) | (rename_i h1 h2 h3; have g := st_y4 h1 h2 h3 hq; simp [fins, funs, ids_tup, g.1, g.2.1, g.2.2]; done) | (have hn := st_n1 (x := x) (y := y) hq; simp [fins, funs, ids_tup, hn, (st_no hn).1, (st_no hn).2]; done) | (have hn := st_n2 (ts := ts) hq; simp [fins, funs, ids_tup, hn, (st_no hn).1, (st_no hn).2]; done) | (rename_i h3; have hn := st_n3 hl h3 hq; simp [fins, funs, ids_tup, hn, (st_no hn).1, (st_no hn).2]; done) | (rename_i h3; have hn := st_n4 h3 hq; simp [fins, funs, ids_tup, hn, (st_no hn).1, (st_no hn).2]; done)) | (simp_all [fins, funs]; done) | (simp [fins, funs]; done) | (simp_all [-Int.not_lt, -Int.not_le, fins, funs]; done) | (simp_all [fins, funs]; omega)))
      | (refine fin_orR ?_ ?_ <;> (first | (first | (rename_i h1 h2 h3; have g := st_y3 hl h1 h2 h3 hq; simp [fins, funs, ids_tup, g.1, g.2.1, g.2.2]; done) | (rename_i h1 h2 h3; have g := st_y4 h1 h2 h3 hq; simp [fins, funs, ids_tup, g.1, g.2.1, g.2.2]; done) | (have hn := st_n1 (x := x) (y := y) hq; simp [fins, funs, ids_tup, hn, (st_no hn).1, (st_no hn).2]; done) | (have hn := st_n2 (ts := ts) hq; simp [fins, funs, ids_tup, hn, (st_no hn).1, (st_no hn).2]; done) | (rename_i h3; have hn := st_n3 hl h3 hq; simp [fins, funs, ids_tup, hn, (st_no hn).1, (st_no hn).2]; done) | (rename_i h3; have hn := st_n4 h3 hq; simp [fins, funs, ids_tup, hn, (st_no hn).1, (st_no hn).2]; done)) | (simp_all [fins, funs]; done) | (simp [fins, funs]; done) | (simp_all [-Int.not_lt, -Int.not_le, fins, funs]; done) | (simp_all [fins, funs]; omega)))
      | fail)
    | (with_reducible refine ite_intro (fun hq => ?_) (fun hq => ?_))
    | (with_reducible refine And.intro (fun hq => ?_) (fun hq => ?_))
    | (with_reducible refine And.intro ?_ ?_)
    | ((fail_if_success (with_reducible refine onCode ?_)); (fail_if_success (with_reducible refine onLps ?_)); (fail_if_success (with_reducible refine onLpd ?_)); (fail_if_success (with_reducible refine onLpe ?_)); (fail_if_success (with_reducible refine onFin ?_)); (fail_if_success (with_reducible refine onCall ?_)); (fail_if_success (with_reducible refine onQcall ?_)); first | ((first | (rw [wrap_id (by omega) (by omega)]; omega)); done) | omega | (rw [wrap_id (by omega) (by omega)]; omega) | (first | (rename_i h1 h2 h3; have g := st_y3 hl h1 h2 h3 hq; simp [fins, funs, ids_tup, g.1, g.2.1, g.2.2]; done) | (rename_i h1 h2 h3; have g := st_y4 h1 h2 h3 hq; simp [fins, funs, ids_tup, g.1, g.2.1, g.2.2]; done) | (have hn := st_n1 (x := x) (y := y) hq; simp [fins, funs, ids_tup, hn, (st_no hn).1, (st_no hn).2]; done) | (have hn := st_n2 (ts := ts) hq; simp [fins, funs, ids_tup, hn, (st_no hn).1, (st_no hn).2]; done) | (rename_i h3; have hn := st_n3 hl h3 hq; simp [fins, funs, ids_tup, hn, (st_no hn).1, (st_no hn).2]; done) | (rename_i h3; have hn := st_n4 h3 hq; simp [fins, funs, ids_tup, hn, (st_no hn).1, (st_no hn).2]; done))))

set_option maxRecDepth 100000 in
set_option maxHeartbeats 4000000 in
theorem sStartTrack_gc {ts : List Trk} {x y : Int} (hl : ts.length ≤ 1048576) : GC Try.prog 74 [.sl 6 (ts.map Trk.e), .agg [vi x, vi y]] [] (fun r_ hs_ => r_ = .tup [.ref 0 (stV ts x y).length, vi (stW ts x y), vb (stO ts x y)] ∧ hs_ = [.arr 6 ((stV ts x y).map Trk.e)]) := by
  refine GC.nilX 6 ?_
  refine GC.of_func [(7, .val 1 (.val 3 (.val 4 (.val 5 (.val 6 (.val 7 (.val 8 (.eff [(0, [8, 7, 6, 5, 4, 3, 1], .eff [(2, [8, 7, 6, 5, 4, 3], .eff [(9, [1], .eff [(10, [], .val 11 (.done))])]), (9, [1], .eff [(2, [8, 7, 6, 5, 4, 3], .eff [(10, [], .val 11 (.done))])])]), (9, [1], .eff [(0, [8, 7, 6, 5, 4, 3, 1], .eff [(2, [8, 7, 6, 5, 4, 3], .eff [(10, [], .val 11 (.done))])])])]))))))))] Try.call74 Try.func74 rfl ⟨by kernel_rfl, by kernel_rfl⟩ (by kernel_rfl) ?_
  rw [Try.results74]
  simp -implicitDefEqProofs (maxSteps := 4000000) only [sim0, sim1, sim2, sim3, sim4, sim5, sim6, sim7, sim8, ↓reduceIte, Nat.reduceEqDiff, Nat.reduceAdd, Nat.reduceMul, Nat.reduceSub, Nat.reduceLT, Nat.reduceLeDiff, reduceCtorEq, Int.reduceToNat, Int.reduceNeg, Nat.reduceBEq, simx, ty, Trk.row, Plc.row, It.row, idxS_map, loadS_map, stoS_map, ← List.map_take, ← List.map_drop]
  repeat' (first
    | ((with_reducible refine onCall ?_); first
      | (refine GC.callR (by repeat' (first | exact rdL_nil | refine rdL_cons ?_ ?_ | exact rd_v | exact rd_sl | exact rd_nil | refine rd_ref rfl (by simp) (plnLL_map (fun _ => rfl) _) | refine rd_rs rfl (by simp; omega) (plnLL_map (fun _ => rfl) _) | refine rd_agg ?_)) l14List_gc rfl ?_ <;> try simp -implicitDefEqProofs (maxSteps := 4000000) only [sim0, sim1, sim2, sim3, sim4, sim5, sim6, sim7, sim8, ↓reduceIte, Nat.reduceEqDiff, Nat.reduceAdd, Nat.reduceMul, Nat.reduceSub, Nat.reduceLT, Nat.reduceLeDiff, reduceCtorEq, Int.reduceToNat, Int.reduceNeg, Nat.reduceBEq, simx, ty, Trk.row, Plc.row, It.row, idxS_map, loadS_map, stoS_map, ← List.map_take, ← List.map_drop])
      | (refine GC.callS l7Good_gc rfl rfl ?_ <;> try simp -implicitDefEqProofs (maxSteps := 4000000) only [sim0, sim1, sim2, sim3, sim4, sim5, sim6, sim7, sim8, ↓reduceIte, Nat.reduceEqDiff, Nat.reduceAdd, Nat.reduceMul, Nat.reduceSub, Nat.reduceLT, Nat.reduceLeDiff, reduceCtorEq, Int.reduceToNat, Int.reduceNeg, Nat.reduceBEq, simx, ty, Trk.row, Plc.row, It.row, idxS_map, loadS_map, stoS_map, ← List.map_take, ← List.map_drop])
      | fail)
    | ((with_reducible refine onFin ?_); first
      | (refine fin_orL ?_ ?_ ?_ (by first | (simp only [plnLL, pln, Value.oneCell', List.all_cons, List.all_nil, plnH, Trk.pl, Plc.pl, It.pl, Bool.and_true, Bool.and_self, List.take_zero, List.nil_append, List.map_cons, List.map_nil]; done) | rfl) <;> (first | (first | (rename_i h1 h2 h3; have g := st_y3 hl h1 h2 h3 hq; simp [fins, funs, ids_tup, g.1, g.2.1, g.2.2]; done) | (rename_i h1 h2 h3; have g := st_y4 h1 h2 h3 hq; simp [fins, funs, ids_tup, g.1, g.2.1, g.2.2]; done) | (have hn := st_n1 (x := x) (y := y) hq; simp [fins, funs, ids_tup, hn, (st_no hn).1, (st_no hn).2]; done) | (have hn := st_n2 (ts := ts) hq; simp [fins, funs, ids_tup, hn, (st_no hn).1, (st_no hn).2]; done) | (rename_i h3; have hn := st_n3 hl h3 hq; simp [fins, funs, ids_tup, hn, (st_no hn).1, (st_no hn).2]; done) | (rename_i h3; have hn := st_n4 h3 hq; simp [fins, funs, ids_tup, hn, (st_no hn).1, (st_no hn).2]; done)) | (simp_all [fins, funs]; done) | (simp [fins, funs]; done) | (simp_all [-Int.not_lt, -Int.not_le, fins, funs]; done) | (simp_all [fins, funs]; omega)))
      | (refine fin_orR ?_ ?_ <;> (first | (first | (rename_i h1 h2 h3; have g := st_y3 hl h1 h2 h3 hq; simp [fins, funs, ids_tup, g.1, g.2.1, g.2.2]; done) | (rename_i h1 h2 h3; have g := st_y4 h1 h2 h3 hq; simp [fins, funs, ids_tup, g.1, g.2.1, g.2.2]; done) | (have hn := st_n1 (x := x) (y := y) hq; simp [fins, funs, ids_tup, hn, (st_no hn).1, (st_no hn).2]; done) | (have hn := st_n2 (ts := ts) hq; simp [fins, funs, ids_tup, hn, (st_no hn).1, (st_no hn).2]; done) | (rename_i h3; have hn := st_n3 hl h3 hq; simp [fins, funs, ids_tup, hn, (st_no hn).1, (st_no hn).2]; done) | (rename_i h3; have hn := st_n4 h3 hq; simp [fins, funs, ids_tup, hn, (st_no hn).1, (st_no hn).2]; done)) | (simp_all [fins, funs]; done) | (simp [fins, funs]; done) | (simp_all [-Int.not_lt, -Int.not_le, fins, funs]; done) | (simp_all [fins, funs]; omega)))
      | fail)
    | (with_reducible refine ite_intro (fun hq => ?_) (fun hq => ?_))
    | (with_reducible refine And.intro (fun hq => ?_) (fun hq => ?_))
    | (with_reducible refine And.intro ?_ ?_)
    | ((fail_if_success (with_reducible refine onCode ?_)); (fail_if_success (with_reducible refine onLps ?_)); (fail_if_success (with_reducible refine onLpd ?_)); (fail_if_success (with_reducible refine onLpe ?_)); (fail_if_success (with_reducible refine onFin ?_)); (fail_if_success (with_reducible refine onCall ?_)); (fail_if_success (with_reducible refine onQcall ?_)); first | ((first | (rw [wrap_id (by omega) (by omega)]; omega)); done) | omega | (rw [wrap_id (by omega) (by omega)]; omega) | (first | (rename_i h1 h2 h3; have g := st_y3 hl h1 h2 h3 hq; simp [fins, funs, ids_tup, g.1, g.2.1, g.2.2]; done) | (rename_i h1 h2 h3; have g := st_y4 h1 h2 h3 hq; simp [fins, funs, ids_tup, g.1, g.2.1, g.2.2]; done) | (have hn := st_n1 (x := x) (y := y) hq; simp [fins, funs, ids_tup, hn, (st_no hn).1, (st_no hn).2]; done) | (have hn := st_n2 (ts := ts) hq; simp [fins, funs, ids_tup, hn, (st_no hn).1, (st_no hn).2]; done) | (rename_i h3; have hn := st_n3 hl h3 hq; simp [fins, funs, ids_tup, hn, (st_no hn).1, (st_no hn).2]; done) | (rename_i h3; have hn := st_n4 h3 hq; simp [fins, funs, ids_tup, hn, (st_no hn).1, (st_no hn).2]; done))))

end Go.Proofs.Ytnbkmfbnlodikaa
