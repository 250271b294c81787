/-
Contracts of the laws' small functions, over plain data.
No condition but those that the contracts name.
-/
import Derived.Test.YtnbkmfbnlodikaaE11
import Derived.Test.YtnbkmfbnlodikaaE10
namespace Go.Proofs.Ytnbkmfbnlodikaa
open Eng
set_option linter.unusedSimpArgs false
set_option linter.unusedVariables false
def itB (a b : It) : Bool := a.n == b.n
theorem itB_self (a : It) : itB a a = true := by simp [itB]
set_option maxRecDepth 100000 in
set_option maxHeartbeats 4000000 in
theorem vInts_gc {us vs : List It} (hl : us.length ≤ 1048576 ∧ vs.length ≤ 1048576) : GC Try.prog 46 [.sl 1 (us.map It.e), .sl 1 (vs.map It.e)] [] (fun r_ hs_ => r_ = vb (smB itB us vs) ∧ hs_ = []) := by
  refine GC.of_func [(6, .val 0 (.val 1 (.val 2 (.val 3 (.val 4 (.val 5 (.val 6 (.val 7 (.val 8 (.done))))))))))] Try.call46 Try.func46 rfl ⟨by kernel_rfl, by kernel_rfl⟩ (by kernel_rfl) ?_
  rw [Try.results46]
  simp -implicitDefEqProofs (maxSteps := 4000000) only [sim0, sim1, sim2, sim3, sim4, sim5, sim6, sim7, sim8, ↓reduceIte, Nat.reduceEqDiff, Nat.reduceAdd, Nat.reduceMul, Nat.reduceSub, Nat.reduceLT, Nat.reduceLeDiff, reduceCtorEq, Int.reduceToNat, Int.reduceNeg, Nat.reduceBEq, simx, ty, By.row, Ch.row, Trk.row, Plc.row, It.row, idxS_map, loadS_map, stoS_map, ← List.map_take, ← List.map_drop]
  repeat' (first
    | ((with_reducible refine onCode ?_); first
      | (refine onLid 4 ?_ (by rfl); refine acode_prune [0, 1, 4, 5] ?_; simp only [prn_cons, prn_nil, lk_cons, lk_emp, Nat.reduceEqDiff, ↓reduceIte]; refine acode_loopS2 4 (by rfl) (α := Int) (fun i => [(5, vi i)]) [4, 11, 12, 13, 14, 15, 16, 17, 18, 19, 20, 21, 22, 23, 24, 25] [4] (by kernel_rfl) (fun i => (0 ≤ i ∧ i ≤ us.length) ∧ us.length = vs.length ∧ smB itB us vs = allI (fun i => itB (us.getD i.toNat default) (vs.getD i.toNat default)) i us.length) (fun i => (us.length - i).toNat) (0) ?_ (by (try simp only []) <;> first | (exact ⟨by omega, lenEq hq, smB_eq (lenEq hq)⟩) | fail) ?_; (focus ((try dsimp only []); (repeat' (first | exact agr_none | exact lk_hd | refine lk_tl (by decide) ?_ | refine agr_one ?_ ?_)); done)); rintro i hJ; (try simp only [] at hJ); have hJ4 := hJ; simp -implicitDefEqProofs (maxSteps := 4000000) only [sim0, sim1, sim2, sim3, sim4, sim5, sim6, sim7, sim8, ↓reduceIte, Nat.reduceEqDiff, Nat.reduceAdd, Nat.reduceMul, Nat.reduceSub, Nat.reduceLT, Nat.reduceLeDiff, reduceCtorEq, Int.reduceToNat, Int.reduceNeg, Nat.reduceBEq, simx, ty, By.row, Ch.row, Trk.row, Plc.row, It.row, idxS_map, loadS_map, stoS_map, ← List.map_take, ← List.map_drop])
      | fail)
    | ((with_reducible refine onLps ?_); first
      | (refine lps2_end (α := Int) (mods := (fun i => [(5, vi i)])) _ (by (try dsimp only []); simp only [agr_cons, agr_nil, lk_cons, lk_emp, Nat.reduceEqDiff, ↓reduceIte, and_true]; repeat' (first | rfl | apply And.intro)) (by unfold undK; kernel_rfl) ?_ ?_ <;> ((try simp only []); (have e : IntKind.i64.wrap (i + 1) = i + 1 := wrap_id (by omega) (by omega); rw [e]; obtain ⟨hb, hm, hg⟩ := hJ; first | omega | exact ⟨by omega, hm, allI_go rfl (by omega) (by simpa [itB] using hq) hg⟩)))
      | fail)
    | ((with_reducible refine onFin ?_); first
      | (refine fin_nil ?_; (first | (first | (obtain ⟨hb, hm, hg⟩ := hJ; rw [hg]; first | (rw [allI_end (by omega)]; rfl) | (rw [allI_no (by omega) (by simpa [itB] using hq)]; rfl)) | (rw [smB_ne (lenNe hq)]; rfl)) | (simp_all [fins]; done) | (simp_all [-Int.not_lt, -Int.not_le, fins]; done) | (simp_all [fins]; omega)))
      | fail)
    | (with_reducible refine ite_intro (fun hq => ?_) (fun hq => ?_))
    | (with_reducible refine And.intro (fun hq => ?_) (fun hq => ?_))
    | (with_reducible refine And.intro ?_ ?_)
    | ((fail_if_success (with_reducible refine onCode ?_)); (fail_if_success (with_reducible refine onLps ?_)); (fail_if_success (with_reducible refine onLpd ?_)); (fail_if_success (with_reducible refine onLpe ?_)); (fail_if_success (with_reducible refine onFin ?_)); (fail_if_success (with_reducible refine onCall ?_)); (fail_if_success (with_reducible refine onQcall ?_)); first | omega | (rw [wrap_id (by omega) (by omega)]; omega) | (first | (obtain ⟨hb, hm, hg⟩ := hJ; rw [hg]; first | (rw [allI_end (by omega)]; rfl) | (rw [allI_no (by omega) (by simpa [itB] using hq)]; rfl)) | (rw [smB_ne (lenNe hq)]; rfl))))

def tkB (a b : Trk) : Bool := a.i == b.i && (a.s == b.s && (a.x == b.x && (a.y == b.y && (a.h == b.h && a.l == b.l))))
theorem tkB_self (a : Trk) : tkB a a = true := by simp [tkB]
set_option maxRecDepth 100000 in
set_option maxHeartbeats 4000000 in
theorem vTracks_gc {us vs : List Trk} (hl : us.length ≤ 1048576 ∧ vs.length ≤ 1048576) : GC Try.prog 49 [.sl 6 (us.map Trk.e), .sl 6 (vs.map Trk.e)] [] (fun r_ hs_ => r_ = vb (smB tkB us vs) ∧ hs_ = []) := by
  refine GC.of_func [(6, .val 0 (.val 1 (.val 2 (.val 3 (.val 4 (.val 5 (.val 6 (.val 7 (.val 8 (.done))))))))))] Try.call49 Try.func49 rfl ⟨by kernel_rfl, by kernel_rfl⟩ (by kernel_rfl) ?_
  rw [Try.results49]
  simp -implicitDefEqProofs (maxSteps := 4000000) only [sim0, sim1, sim2, sim3, sim4, sim5, sim6, sim7, sim8, ↓reduceIte, Nat.reduceEqDiff, Nat.reduceAdd, Nat.reduceMul, Nat.reduceSub, Nat.reduceLT, Nat.reduceLeDiff, reduceCtorEq, Int.reduceToNat, Int.reduceNeg, Nat.reduceBEq, simx, ty, By.row, Ch.row, Trk.row, Plc.row, It.row, idxS_map, loadS_map, stoS_map, ← List.map_take, ← List.map_drop]
  repeat' (first
    | ((with_reducible refine onCode ?_); first
      | (refine onLid 4 ?_ (by rfl); refine acode_prune [0, 1, 4, 5] ?_; simp only [prn_cons, prn_nil, lk_cons, lk_emp, Nat.reduceEqDiff, ↓reduceIte]; refine acode_loopS2 4 (by rfl) (α := Int) (fun i => [(5, vi i)]) [4, 11, 12, 13, 14, 15, 16, 17, 18, 19, 20, 21, 22, 23, 24, 25] [4] (by kernel_rfl) (fun i => (0 ≤ i ∧ i ≤ us.length) ∧ us.length = vs.length ∧ smB tkB us vs = allI (fun i => tkB (us.getD i.toNat default) (vs.getD i.toNat default)) i us.length) (fun i => (us.length - i).toNat) (0) ?_ (by (try simp only []) <;> first | (exact ⟨by omega, lenEq hq, smB_eq (lenEq hq)⟩) | fail) ?_; (focus ((try dsimp only []); (repeat' (first | exact agr_none | exact lk_hd | refine lk_tl (by decide) ?_ | refine agr_one ?_ ?_)); done)); rintro i hJ; (try simp only [] at hJ); have hJ4 := hJ; simp -implicitDefEqProofs (maxSteps := 4000000) only [sim0, sim1, sim2, sim3, sim4, sim5, sim6, sim7, sim8, ↓reduceIte, Nat.reduceEqDiff, Nat.reduceAdd, Nat.reduceMul, Nat.reduceSub, Nat.reduceLT, Nat.reduceLeDiff, reduceCtorEq, Int.reduceToNat, Int.reduceNeg, Nat.reduceBEq, simx, ty, By.row, Ch.row, Trk.row, Plc.row, It.row, idxS_map, loadS_map, stoS_map, ← List.map_take, ← List.map_drop])
      | fail)
    | ((with_reducible refine onLps ?_); first
      | (refine lps2_end (α := Int) (mods := (fun i => [(5, vi i)])) _ (by (try dsimp only []); simp only [agr_cons, agr_nil, lk_cons, lk_emp, Nat.reduceEqDiff, ↓reduceIte, and_true]; repeat' (first | rfl | apply And.intro)) (by unfold undK; kernel_rfl) ?_ ?_ <;> ((try simp only []); (have e : IntKind.i64.wrap (i + 1) = i + 1 := wrap_id (by omega) (by omega); rw [e]; obtain ⟨hb, hm, hg⟩ := hJ; first | omega | exact ⟨by omega, hm, allI_go rfl (by omega) (eq_true_of_ne_false hq) hg⟩)))
      | fail)
    | ((with_reducible refine onFin ?_); first
      | (refine fin_nil ?_; (first | (first | (obtain ⟨hb, hm, hg⟩ := hJ; rw [hg]; first | (rw [allI_end (by omega)]; rfl) | (rw [allI_no (by omega) hq]; rfl)) | (rw [smB_ne (lenNe hq)]; rfl)) | (simp_all [fins]; done) | (simp_all [-Int.not_lt, -Int.not_le, fins]; done) | (simp_all [fins]; omega)))
      | fail)
    | (with_reducible refine ite_intro (fun hq => ?_) (fun hq => ?_))
    | (with_reducible refine And.intro (fun hq => ?_) (fun hq => ?_))
    | (with_reducible refine And.intro ?_ ?_)
    | ((fail_if_success (with_reducible refine onCode ?_)); (fail_if_success (with_reducible refine onLps ?_)); (fail_if_success (with_reducible refine onLpd ?_)); (fail_if_success (with_reducible refine onLpe ?_)); (fail_if_success (with_reducible refine onFin ?_)); (fail_if_success (with_reducible refine onCall ?_)); (fail_if_success (with_reducible refine onQcall ?_)); first | omega | (rw [wrap_id (by omega) (by omega)]; omega) | (first | (obtain ⟨hb, hm, hg⟩ := hJ; rw [hg]; first | (rw [allI_end (by omega)]; rfl) | (rw [allI_no (by omega) hq]; rfl)) | (rw [smB_ne (lenNe hq)]; rfl))))

set_option maxRecDepth 100000 in
set_option maxHeartbeats 4000000 in
theorem vHas_gc {xs : List It} {k : Int} (hl : xs.length ≤ 1048576) : GC Try.prog 47 [.sl 1 (xs.map It.e), vi k] [] (fun r_ hs_ => r_ = vb (hasV xs k) ∧ hs_ = []) := by
  refine GC.of_func [] Try.call47 Try.func47 rfl ⟨by kernel_rfl, by kernel_rfl⟩ (by kernel_rfl) ?_
  rw [Try.results47]
  simp -implicitDefEqProofs (maxSteps := 4000000) only [sim0, sim1, sim2, sim3, sim4, sim5, sim6, sim7, sim8, ↓reduceIte, Nat.reduceEqDiff, Nat.reduceAdd, Nat.reduceMul, Nat.reduceSub, Nat.reduceLT, Nat.reduceLeDiff, reduceCtorEq, Int.reduceToNat, Int.reduceNeg, Nat.reduceBEq, simx, ty, By.row, Ch.row, Trk.row, Plc.row, It.row, idxS_map, loadS_map, stoS_map, ← List.map_take, ← List.map_drop]
  repeat' (first
    | ((with_reducible refine onCode ?_); first
      | (refine onLid 2 ?_ (by rfl); refine acode_prune [0, 1, 4, 5] ?_; simp only [prn_cons, prn_nil, lk_cons, lk_emp, Nat.reduceEqDiff, ↓reduceIte]; refine acode_loopS2 2 (by rfl) (α := Int) (fun i => [(5, vi i)]) [4, 6, 7, 8, 9, 10, 11, 12, 13, 14, 15, 16, 17] [4] (by kernel_rfl) (fun i => (0 ≤ i ∧ i ≤ xs.length) ∧ hasV xs k = anyI (hasP xs k) i xs.length) (fun i => (xs.length - i).toNat) (0) ?_ (by (try simp only []) <;> first | (exact ⟨by omega, rfl⟩) | fail) ?_; (focus ((try dsimp only []); (repeat' (first | exact agr_none | exact lk_hd | refine lk_tl (by decide) ?_ | refine agr_one ?_ ?_)); done)); rintro i hJ; (try simp only [] at hJ); have hJ2 := hJ; simp -implicitDefEqProofs (maxSteps := 4000000) only [sim0, sim1, sim2, sim3, sim4, sim5, sim6, sim7, sim8, ↓reduceIte, Nat.reduceEqDiff, Nat.reduceAdd, Nat.reduceMul, Nat.reduceSub, Nat.reduceLT, Nat.reduceLeDiff, reduceCtorEq, Int.reduceToNat, Int.reduceNeg, Nat.reduceBEq, simx, ty, By.row, Ch.row, Trk.row, Plc.row, It.row, idxS_map, loadS_map, stoS_map, ← List.map_take, ← List.map_drop])
      | fail)
    | ((with_reducible refine onLps ?_); first
      | (refine lps2_end (α := Int) (mods := (fun i => [(5, vi i)])) _ (by (try dsimp only []); simp only [agr_cons, agr_nil, lk_cons, lk_emp, Nat.reduceEqDiff, ↓reduceIte, and_true]; repeat' (first | rfl | apply And.intro)) (by unfold undK; kernel_rfl) ?_ ?_ <;> ((try simp only []); (have e_ : IntKind.i64.wrap (i + 1) = i + 1 := wrap_id (by omega) (by omega); (try simp only [e_] at hq ⊢); first | omega | exact ⟨by omega, anyI_go rfl (by omega) (by simpa [hasP, ig] using hq) hJ2.2⟩)))
      | fail)
    | ((with_reducible refine onFin ?_); first
      | (refine fin_nil ?_; (first | (refine rn_vb ?_; first | exact anyI_fin (by omega) hJ2.2 | exact anyI_hit (p := hasP xs k) (i := i) (n := xs.length) (by omega) (by simpa [hasP, ig] using hq) hJ2.2) | (simp_all [fins]; done) | (simp_all [-Int.not_lt, -Int.not_le, fins]; done) | (simp_all [fins]; omega)))
      | fail)
    | (with_reducible refine ite_intro (fun hq => ?_) (fun hq => ?_))
    | (with_reducible refine And.intro (fun hq => ?_) (fun hq => ?_))
    | (with_reducible refine And.intro ?_ ?_)
    | ((fail_if_success (with_reducible refine onCode ?_)); (fail_if_success (with_reducible refine onLps ?_)); (fail_if_success (with_reducible refine onLpd ?_)); (fail_if_success (with_reducible refine onLpe ?_)); (fail_if_success (with_reducible refine onFin ?_)); (fail_if_success (with_reducible refine onCall ?_)); (fail_if_success (with_reducible refine onQcall ?_)); first | omega | (rw [wrap_id (by omega) (by omega)]; omega) | (refine rn_vb ?_; first | exact anyI_fin (by omega) hJ2.2 | exact anyI_hit (p := hasP xs k) (i := i) (n := xs.length) (by omega) (by simpa [hasP, ig] using hq) hJ2.2)))

/-- a result that holds own blocks, told as one that nobody writes any more -/
theorem GC.fzR {P : Program} {k : FuncId} {args : List AV} {r0 d : AV} {h1 : List Ent} (hz : Fz h1 r0 d) (hn : noid d = true) (h : GC P k args [] (fun r hs => r = r0 ∧ hs = h1)) : GC P k args [] (fun r hs => r = d ∧ hs = []) :=
  GC.frzX (h.mono fun r hs e => by obtain ⟨rfl, rfl⟩ := e; exact hz) hn
theorem impBestAssignmentZ_gc {ts : List Trk} {ps : List Plc} {g : Int} (hl : ts.length ≤ 1048576 ∧ ps.length ≤ 1048576) : GC Try.prog 40 [.sl 6 (ts.map Trk.e), .sl 2 (ps.map Plc.e), vi g] [] (fun r hs => r = .tup [.sl 1 ((baV ts ps g).map It.e), vi (baC ts ps g), vb (asB ts ps g)] ∧ hs = []) :=
  GC.fzR (fz_tup (fzL_cons (fz_ref rfl rfl (fun _ => rfl) (fun _ => rfl)) (fzL_cons fz_v (fzL_cons fz_v fzL_nil)))) rfl (impBestAssignment_gc hl)
theorem impNearestAssignmentZ_gc {ts : List Trk} {ps : List Plc} {g : Int} (hl : ts.length ≤ 1048576 ∧ ps.length ≤ 1048576) : GC Try.prog 32 [.sl 6 (ts.map Trk.e), .sl 2 (ps.map Plc.e), vi g] [] (fun r hs => r = .tup [.sl 1 ((naV ts ps g).map It.e), vb (asB ts ps g)] ∧ hs = []) :=
  GC.fzR (fz_tup (fzL_cons (fz_ref rfl rfl (fun _ => rfl) (fun _ => rfl)) (fzL_cons fz_v fzL_nil))) rfl (impNearestAssignment_gc hl)
theorem sNearestAssignmentZ_gc {ts : List Trk} {ps : List Plc} {g : Int} (hl : ts.length ≤ 1048576 ∧ ps.length ≤ 1048576) : GC Try.prog 31 [.sl 6 (ts.map Trk.e), .sl 2 (ps.map Plc.e), vi g] [] (fun r hs => r = .tup [.sl 1 ((naV ts ps g).map It.e), vb (asB ts ps g)] ∧ hs = []) :=
  GC.fzR (fz_tup (fzL_cons (fz_ref rfl rfl (fun _ => rfl) (fun _ => rfl)) (fzL_cons fz_v fzL_nil))) rfl (sNearestAssignment_gc hl)
theorem impFreePlotsZ_gc {ts : List Trk} {ps : List Plc} {g : Int} {xs : List It} (hl : ps.length ≤ 1048576 ∧ xs.length ≤ 1048576) : GC Try.prog 38 [.sl 6 (ts.map Trk.e), .sl 2 (ps.map Plc.e), vi g, .sl 1 (xs.map It.e)] [] (fun r hs => r = .tup [.sl 1 ((fpV ts ps g xs).map It.e), vb (iaB ts ps g xs)] ∧ hs = []) :=
  GC.fzR (fz_tup (fzL_cons (fz_ref rfl rfl (fun _ => rfl) (fun _ => rfl)) (fzL_cons fz_v fzL_nil))) rfl (impFreePlots_gc hl)
theorem impUpdateTracksZ_gc {ts : List Trk} {ps : List Plc} {g : Int} (hl : ts.length ≤ 1048576 ∧ ps.length ≤ 1048576) : GC Try.prog 42 [.sl 6 (ts.map Trk.e), .sl 2 (ps.map Plc.e), vi g] [] (fun r hs => r = .tup [.sl 6 ((upV ts ps g).map Trk.e), vb (upO ts ps g)] ∧ hs = []) :=
  GC.fzR (fz_tup (fzL_cons (fz_ref rfl rfl (fun _ => rfl) (fun _ => rfl)) (fzL_cons fz_v fzL_nil))) rfl (impUpdateTracks_gc hl)
theorem sUpdateTracksZ_gc {ts : List Trk} {ps : List Plc} {g : Int} (hl : ts.length ≤ 1048576 ∧ ps.length ≤ 1048576) : GC Try.prog 41 [.sl 6 (ts.map Trk.e), .sl 2 (ps.map Plc.e), vi g] [] (fun r hs => r = .tup [.sl 6 ((upV ts ps g).map Trk.e), vb (upO ts ps g)] ∧ hs = []) :=
  GC.fzR (fz_tup (fzL_cons (fz_ref rfl rfl (fun _ => rfl) (fun _ => rfl)) (fzL_cons fz_v fzL_nil))) rfl (sUpdateTracks_gc hl)
end Go.Proofs.Ytnbkmfbnlodikaa
