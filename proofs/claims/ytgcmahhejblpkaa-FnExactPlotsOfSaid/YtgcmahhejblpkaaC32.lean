/-
Contracts of eqPlotS, markPlotS and heldPlotS, over plain data.
No condition but those that the contracts name.
-/
import Derived.Test.YtgcmahhejblpkaaC31
namespace Go.Proofs.Ytgcmahhejblpkaa
open Eng
set_option linter.unusedSimpArgs false
set_option linter.unusedVariables false
section
variable {ps us : List Pl} {k kk i z : Int} {e : Ent} {K : AV → List Ent → Prop}
theorem mark_call {j len : Nat} (hj : j < us.length) (e1 : (us.getD j default).ts.length = len) (hl : len ≤ 1048576) (hz : 0 ≤ z ∧ z ≤ 1000000000) (hK : K (vi (z + 1 * len)) (e :: (plI us).set j (.arr 1 ((mkIt z len).map It.e)))) :
    GC Try.prog 28 [.ref (j + 1) len, vi z] (e :: plI us) K := by
  subst e1
  refine GC.use false [j + 1] (markIntS_gc hl hz) rfl ⟨rfl, ?_, trivial⟩ (arL_cons (ar_own rfl) (arL_cons ar_v arL_nil)) (.inl rfl) ?_
  · rw [upE_pln (plnLL_map it_pl _)]; exact plI_at hj
  · have e5 : mrg (e :: plI us) [j + 1] [.arr 1 ((mkIt z (us.getD j default).ts.length).map It.e)] = e :: (plI us).set j (.arr 1 ((mkIt z (us.getD j default).ts.length).map It.e)) := by
      rw [mrg_eq, List.map_cons, setL_cons, setL_nil, upE_pln (plnLL_map it_pl _), List.set_cons_succ]
      simp
    rw [e5]; exact hK
theorem wr4 (h : 0 ≤ kk ∧ kk ≤ 100000000) : IntKind.i64.wrap (kk + 1) = kk + 1 ∧ IntKind.i64.wrap (kk + 1 + 1) = kk + 2 ∧ IntKind.i64.wrap (kk + 2 + 1) = kk + 3 ∧ IntKind.i64.wrap (kk + 3 + 1) = kk + 4 := by
  refine ⟨wrap_id (by omega) (by omega), ?_, ?_, ?_⟩ <;> (rw [wrap_id (by omega) (by omega)]; omega)
theorem PM.bd (h : PM ps us k kk i) (ht : ∀ j : Nat, j < ps.length → (ps.getD j default).ts.length ≤ 100) (h0 : 0 ≤ i ∧ i ≤ ps.length) : k ≤ kk ∧ kk ≤ k + 104 * i := by
  have := off_bd (k := k) ht (n := i.toNat) (by omega)
  rw [h.off]; omega
theorem PM.ln (h : PM ps us k kk i) (ht : ∀ j : Nat, j < ps.length → (ps.getD j default).ts.length ≤ 100) (h0 : 0 ≤ i ∧ i < ps.length) : (us.getD i.toNat default).ts.length ≤ 100 := by
  rw [h.todo i.toNat (by omega)]; exact ht _ (by omega)
end
set_option maxRecDepth 100000 in
set_option maxHeartbeats 4000000 in
theorem markPlotS_gc {ps : List Pl} {k : Int} (hl : ps.length ≤ 40) (ht : ∀ j : Nat, j < ps.length → (ps.getD j default).ts.length ≤ 100) (hk : 0 ≤ k ∧ k ≤ 1000000) : GC Try.prog 45 [.ref 0 ps.length, vi k] (plH ps) (fun r_ hs_ => r_ = vi (offN ps k ps.length) ∧ hs_ = plH (mkP ps k)) := by
  refine GC.of_func [] Try.call45 Try.func45 rfl ⟨by kernel_rfl, by kernel_rfl⟩ (by kernel_rfl) ?_
  rw [Try.results45]
  simp -implicitDefEqProofs (maxSteps := 4000000) only [sim0, sim1, sim2, sim3, sim4, sim5, sim6, sim7, sim8, ↓reduceIte, Nat.reduceEqDiff, Nat.reduceAdd, Nat.reduceMul, Nat.reduceSub, Nat.reduceLT, Nat.reduceLeDiff, reduceCtorEq, Int.reduceToNat, Int.reduceNeg, Nat.reduceBEq, simx, ty, Sgt.row, It.row, idxS_map, loadS_map, stoS_map, ← List.map_take, ← List.map_drop, lpe3_ret, lpe3_exit, plH, plI_len, plC_len, loadS_pl, loadS_plS, stoS_pl, stoS_plS]
  repeat' (first
    | ((with_reducible refine onCode ?_); first
      | (refine onLid 2 ?_ (by rfl); refine acode_prune [0, 1, 4, 5] ?_; simp only [prn_cons, prn_nil, lk_cons, lk_emp, Nat.reduceEqDiff, ↓reduceIte]; refine acode_loopE4 2 (by rfl) (hlen := fun a ha => by (obtain ⟨i, kk, us⟩ := a; (try simp only [] at ha); simp only [List.length_cons, plI_len, plH_len]; omega)) (α := Int × Int × List Pl) (fun ⟨i, kk, us⟩ => [(5, vi i), (1, vi kk), (0, .ref 0 ps.length)]) [6, 7, 8, 9, 10, 11, 12, 13, 14, 15, 16, 17, 18, 19, 20, 21, 22, 23, 24, 25, 26, 27, 28, 29, 30, 31, 32, 33, 34, 35, 36, 37, 38, 39, 40, 41, 42, 43, 44, 45, 46, 47, 48] [] (by kernel_rfl) (List.range 64) (fun ⟨i, kk, us⟩ => plH us) (fun ⟨i, kk, us⟩ => (0 ≤ i ∧ i ≤ ps.length) ∧ us.length = ps.length ∧ PM ps us k kk i) (fun ⟨i, kk, us⟩ => (ps.length - i).toNat) ((0, k, ps)) ?_ ?_ (by (try simp only []) <;> first | (first | exact ⟨by omega, rfl, PM.start⟩ | exact ⟨by omega, trivial, PM.start⟩) | fail) ?_; (focus ((try dsimp only []); (repeat' (first | exact agr_none | exact lk_hd | refine lk_tl (by decide) ?_ | refine agr_one ?_ ?_)); done)); (focus (first | rfl | (simp; done))); rintro ⟨i, kk, us⟩ hJ; (try simp only [] at hJ); have hJ2 := hJ; simp -implicitDefEqProofs (maxSteps := 4000000) only [sim0, sim1, sim2, sim3, sim4, sim5, sim6, sim7, sim8, ↓reduceIte, Nat.reduceEqDiff, Nat.reduceAdd, Nat.reduceMul, Nat.reduceSub, Nat.reduceLT, Nat.reduceLeDiff, reduceCtorEq, Int.reduceToNat, Int.reduceNeg, Nat.reduceBEq, simx, ty, Sgt.row, It.row, idxS_map, loadS_map, stoS_map, ← List.map_take, ← List.map_drop, lpe3_ret, lpe3_exit, plH, plI_len, plC_len, loadS_pl, loadS_plS, stoS_pl, stoS_plS])
      | fail)
    | ((with_reducible refine onLps ?_); first
      | (refine lps2_end (α := Int × Int × List Pl) (mods := (fun ⟨i, kk, us⟩ => [(5, vi i), (1, vi kk), (0, .ref 0 ps.length)])) (_, _, _) (by (try dsimp only []); simp only [agr_cons, agr_nil, lk_cons, lk_emp, Nat.reduceEqDiff, ↓reduceIte, and_true]; repeat' (first | rfl | apply And.intro)) (by unfold undK; kernel_rfl) ?_ ?_ <;> ((try simp only []); (omega)))
      | fail)
    | ((with_reducible refine onFin ?_); first
      | (refine fin_wr ?_ ?_ (by first | (simp only [plnLL, pln, Value.oneCell', List.all_cons, List.all_nil, plnH, Sgt.pl, It.pl, Bool.and_true, Bool.and_self]; done) | rfl) <;> (first | (fail) | (simp_all [fins]; done) | (simp_all [-Int.not_lt, -Int.not_le, fins]; done) | (simp_all [fins]; omega)))
      | fail)
    | (((with_reducible refine onCall ?_); (have g1 := hJ2.2.2.bd ht (by omega)); (have g2 := hJ2.2.2.ln ht (by omega)); (have g3 := wr4 (kk := kk) (by omega)); (simp only [g3.1, g3.2.1, g3.2.2.1, g3.2.2.2]); refine mark_call (us := us) (by omega) rfl (by omega) (by omega) ?_ <;> try simp -implicitDefEqProofs (maxSteps := 4000000) only [sim0, sim1, sim2, sim3, sim4, sim5, sim6, sim7, sim8, ↓reduceIte, Nat.reduceEqDiff, Nat.reduceAdd, Nat.reduceMul, Nat.reduceSub, Nat.reduceLT, Nat.reduceLeDiff, reduceCtorEq, Int.reduceToNat, Int.reduceNeg, Nat.reduceBEq, simx, ty, Sgt.row, It.row, idxS_map, loadS_map, stoS_map, ← List.map_take, ← List.map_drop, lpe3_ret, lpe3_exit, plI_len, plC_len]))
    | ((refine onLpe3 ?_; (have g1 := hJ2.2.2.bd ht (by omega)); (have g2 := hJ2.2.2.ln ht (by omega)); (have g3 := wr4 (kk := kk) (by omega)); (have g4 : i.toNat < us.length := by omega); (have e1 : IntKind.i64.wrap (i + 1) = i + 1 := wrap_id (by omega) (by omega)); refine lpe3_pl (us := us.set i.toNat (mkO kk (us.getD i.toNat default).ts.length)) (by rw [List.length_set]; omega) (IntKind.i64.wrap (i + 1), kk + 4 + (us.getD i.toNat default).ts.length, us.set i.toNat (mkO kk (us.getD i.toNat default).ts.length)) rfl ?_ (by unfold undK; kernel_rfl) ?_ ?_ ?_; (focus ((try dsimp only []); simp only [agrR_cons, agrR_nil, lk_cons, lk_emp, Nat.reduceEqDiff, ↓reduceIte, and_true]; (repeat' (first | exact rn_v | (refine rn_vi ?_; omega) | rfl | apply And.intro)); done)); ((try simp only []); rw [e1]; exact ⟨by omega, by rw [List.length_set]; omega, hJ2.2.2.step (by omega) (by omega)⟩); ((try simp only []); rw [e1]; omega); exact mark_hp g4))
    | (((with_reducible refine onFin ?_); (have g1 := hJ2.2.2.fin (by omega)); refine fin_plW (us := mkP ps k) (by rw [mkP_len]) (by rw [← g1.1]; rfl) ⟨by rw [g1.2], rfl⟩))
    | (with_reducible refine ite_intro (fun hq => ?_) (fun hq => ?_))
    | (with_reducible refine And.intro (fun hq => ?_) (fun hq => ?_))
    | (with_reducible refine And.intro ?_ ?_)
    | ((fail_if_success (with_reducible refine onCode ?_)); (fail_if_success (with_reducible refine onLps ?_)); (fail_if_success (with_reducible refine onLpd ?_)); (fail_if_success (with_reducible refine onLpe ?_)); (fail_if_success (with_reducible refine onFin ?_)); (fail_if_success (with_reducible refine onCall ?_)); (fail_if_success (with_reducible refine onQcall ?_)); first | ((first | omega); done) | omega | (rw [wrap_id (by omega) (by omega)]; omega) | (fail)))

section
variable {ps us : List Pl} {k kk i z : Int} {e : Ent} {K : AV → List Ent → Prop}
theorem held_call {j len : Nat} (hj : j < us.length) (e1 : (us.getD j default).ts.length = len) (hl : len ≤ 1048576) (hz : 0 ≤ z ∧ z ≤ 1000000000) (hm : ∀ n : Nat, n < (us.getD j default).ts.length → (us.getD j default).ts.getD n default = ⟨z + 1 * n⟩) (hK : K (vi (z + 1 * len)) (e :: plI us)) :
    GC Try.prog 29 [.ref (j + 1) len, vi z] (e :: plI us) K := by
  subst e1
  exact GC.callR (rdL_cons (rd_ref (plI_at hj) rfl (plnLL_map it_pl _)) (rdL_cons rd_v rdL_nil)) (heldIntS_gc hl hz hm) rfl hK
theorem ph_at (h0 : 0 ≤ i ∧ i < ps.length) (h : kk = offN ps k i.toNat) : ((mkP ps k).getD i.toNat default).c = kk ∧ ((mkP ps k).getD i.toNat default).a = kk + 1 ∧ ((mkP ps k).getD i.toNat default).x = kk + 2 ∧ ((mkP ps k).getD i.toNat default).y = kk + 3 ∧ ((mkP ps k).getD i.toNat default).ts = mkIt (kk + 4) (ps.getD i.toNat default).ts.length := by
  rw [mkP_get (by omega), h]; exact ⟨rfl, rfl, rfl, rfl, rfl⟩
theorem ph_bd (ht : ∀ j : Nat, j < ps.length → (ps.getD j default).ts.length ≤ 100) (h0 : 0 ≤ i ∧ i ≤ ps.length) (h : kk = offN ps k i.toNat) : k ≤ kk ∧ kk ≤ k + 104 * i := by
  have := off_bd (k := k) ht (n := i.toNat) (by omega)
  rw [h]; omega
theorem off_go (h0 : 0 ≤ i) (h : kk = offN ps k i.toNat) : kk + 4 + 1 * ((ps.getD i.toNat default).ts.length : Int) = offN ps k (i + 1).toNat := by
  have e1 : (i + 1).toNat = i.toNat + 1 := by omega
  rw [e1]; simp only [offN]; rw [h]; omega
end
set_option maxRecDepth 100000 in
set_option maxHeartbeats 4000000 in
theorem heldPlotS_gc {ps : List Pl} {k : Int} (hl : ps.length ≤ 40) (ht : ∀ j : Nat, j < ps.length → (ps.getD j default).ts.length ≤ 100) (hk : 0 ≤ k ∧ k ≤ 1000000) : GC Try.prog 46 [.ref 0 ps.length, vi k] (plH (mkP ps k)) (fun r_ hs_ => r_ = vi (offN ps k ps.length) ∧ hs_ = plH (mkP ps k)) := by
  refine GC.of_func [] Try.call46 Try.func46 rfl ⟨by kernel_rfl, by kernel_rfl⟩ (by kernel_rfl) ?_
  rw [Try.results46]
  simp -implicitDefEqProofs (maxSteps := 4000000) only [sim0, sim1, sim2, sim3, sim4, sim5, sim6, sim7, sim8, ↓reduceIte, Nat.reduceEqDiff, Nat.reduceAdd, Nat.reduceMul, Nat.reduceSub, Nat.reduceLT, Nat.reduceLeDiff, reduceCtorEq, Int.reduceToNat, Int.reduceNeg, Nat.reduceBEq, simx, ty, Sgt.row, It.row, idxS_map, loadS_map, stoS_map, ← List.map_take, ← List.map_drop, plH, plI_len, plC_len, loadS_pl, mkP_len]
  repeat' (first
    | ((with_reducible refine onCode ?_); first
      | (refine onLid 2 ?_ (by rfl); refine acode_prune [0, 1, 4, 5] ?_; simp only [prn_cons, prn_nil, lk_cons, lk_emp, Nat.reduceEqDiff, ↓reduceIte]; refine acode_loopS2 2 (by rfl) (α := Int × Int) (fun ⟨i, kk⟩ => [(5, vi i), (1, vi kk)]) [4, 6, 7, 8, 9, 10, 11, 12, 13, 14, 15, 16, 17, 18, 19, 20, 21, 22, 23, 24, 25, 26, 27, 28, 29, 30, 31, 32, 33, 34, 35, 36, 37, 38, 39, 40, 41, 42, 43, 44, 45, 46, 47, 48, 49, 50, 51, 52, 53, 54, 55, 56, 57, 58] [4] (by kernel_rfl) (fun ⟨i, kk⟩ => (0 ≤ i ∧ i ≤ ps.length) ∧ kk = offN ps k i.toNat) (fun ⟨i, kk⟩ => (ps.length - i).toNat) ((0, k)) ?_ (by (try simp only []) <;> first | (exact ⟨by omega, rfl⟩) | fail) ?_; (focus ((try dsimp only []); (repeat' (first | exact agr_none | exact lk_hd | refine lk_tl (by decide) ?_ | refine agr_one ?_ ?_)); done)); rintro ⟨i, kk⟩ hJ; (try simp only [] at hJ); have hJ2 := hJ; simp -implicitDefEqProofs (maxSteps := 4000000) only [sim0, sim1, sim2, sim3, sim4, sim5, sim6, sim7, sim8, ↓reduceIte, Nat.reduceEqDiff, Nat.reduceAdd, Nat.reduceMul, Nat.reduceSub, Nat.reduceLT, Nat.reduceLeDiff, reduceCtorEq, Int.reduceToNat, Int.reduceNeg, Nat.reduceBEq, simx, ty, Sgt.row, It.row, idxS_map, loadS_map, stoS_map, ← List.map_take, ← List.map_drop, plH, plI_len, plC_len, loadS_pl, mkP_len])
      | fail)
    | ((with_reducible refine onLps ?_); first
      | (refine lps2_end (α := Int × Int) (mods := (fun ⟨i, kk⟩ => [(5, vi i), (1, vi kk)])) (_, _) (by (try dsimp only []); simp only [agr_cons, agr_nil, lk_cons, lk_emp, Nat.reduceEqDiff, ↓reduceIte, and_true]; repeat' (first | rfl | apply And.intro)) (by unfold undK; kernel_rfl) ?_ ?_ <;> ((try simp only []); ((have g1 := ph_bd ht (by omega) hJ2.2); (have g2 := ht i.toNat (by omega)); (have g3 := wr4 (kk := kk) (by omega)); (try simp only [g3.1, g3.2.1, g3.2.2.1, g3.2.2.2]); (have e1 : IntKind.i64.wrap (i + 1) = i + 1 := wrap_id (by omega) (by omega)); (try rw [e1]); first | omega | exact ⟨by omega, off_go (by omega) hJ2.2⟩)))
      | fail)
    | ((with_reducible refine onFin ?_); first
      | (refine fin_wr ?_ ?_ (by first | (simp only [plnLL, pln, Value.oneCell', List.all_cons, List.all_nil, plnH, Sgt.pl, It.pl, Bool.and_true, Bool.and_self]; done) | rfl) <;> (first | (fail) | (simp_all [fins]; done) | (simp_all [-Int.not_lt, -Int.not_le, fins]; done) | (simp_all [fins]; omega)))
      | fail)
    | (((with_reducible refine onCall ?_); (have g1 := ph_bd ht (by omega) hJ2.2); (have g2 := ht i.toNat (by omega)); (have g3 := wr4 (kk := kk) (by omega)); (have g4 := ph_at (ps := ps) (k := k) (by omega) hJ2.2); (simp only [g3.1, g3.2.1, g3.2.2.1, g3.2.2.2]); refine held_call (us := mkP ps k) (by rw [mkP_len]; omega) rfl ?_ (by omega) ?_ ?_; (rw [g4.2.2.2.2, mkIt_len]; omega); (rw [g4.2.2.2.2]; intro n h; rw [mkIt_len] at h; exact mkIt_get h); (rw [g4.2.2.2.2, mkIt_len]; (try simp -implicitDefEqProofs (maxSteps := 4000000) only [sim0, sim1, sim2, sim3, sim4, sim5, sim6, sim7, sim8, ↓reduceIte, Nat.reduceEqDiff, Nat.reduceAdd, Nat.reduceMul, Nat.reduceSub, Nat.reduceLT, Nat.reduceLeDiff, reduceCtorEq, Int.reduceToNat, Int.reduceNeg, Nat.reduceBEq, simx, ty, Sgt.row, It.row, idxS_map, loadS_map, stoS_map, ← List.map_take, ← List.map_drop, plI_len, plC_len]))))
    | (((with_reducible refine onFin ?_); refine fin_plW (us := mkP ps k) (by rw [mkP_len]) rfl ⟨?_, rfl⟩; (first | (have e9 : i.toNat = ps.length := by omega); (rw [← e9, ← hJ2.2]; done) | (exfalso; (have g1 := ph_bd ht (by omega) hJ2.2); (have g3 := wr4 (kk := kk) (by omega)); (have g4 := ph_at (ps := ps) (k := k) (by omega) hJ2.2); (try simp only [g3.1, g3.2.1, g3.2.2.1, g3.2.2.2] at hq); first | (rw [g4.1] at hq; simp at hq; done) | (rw [g4.2.1] at hq; simp at hq; done) | (rw [g4.2.2.1] at hq; simp at hq; done) | (rw [g4.2.2.2.1] at hq; simp at hq; done) | omega))))
    | (with_reducible refine ite_intro (fun hq => ?_) (fun hq => ?_))
    | (with_reducible refine And.intro (fun hq => ?_) (fun hq => ?_))
    | (with_reducible refine And.intro ?_ ?_)
    | ((fail_if_success (with_reducible refine onCode ?_)); (fail_if_success (with_reducible refine onLps ?_)); (fail_if_success (with_reducible refine onLpd ?_)); (fail_if_success (with_reducible refine onLpe ?_)); (fail_if_success (with_reducible refine onFin ?_)); (fail_if_success (with_reducible refine onCall ?_)); (fail_if_success (with_reducible refine onQcall ?_)); first | ((first | omega | (rw [mkP_len]; omega)); done) | omega | (rw [wrap_id (by omega) (by omega)]; omega) | (fail)))

section
variable {ps us : List Pl} {k kk i z : Int} {e : Ent} {K : AV → List Ent → Prop} {c : AV → Prop}
theorem eq_call {j : Nat} (hj : j < us.length) (hl : (us.getD j default).ts.length ≤ 1048576) (hK : c (vb true)) :
    qcall Try.prog 23 [.agg [vi (us.getD j default).c, vi (us.getD j default).a, vi (us.getD j default).x, vi (us.getD j default).y, .ref (j + 1) (us.getD j default).ts.length], .agg [vi (us.getD j default).c, vi (us.getD j default).a, vi (us.getD j default).x, vi (us.getD j default).y, .sl 1 ((us.getD j default).ts.map It.e)]] (e :: plI us) c :=
  qcallR (rdL_cons (rd_agg (rdL_cons rd_v (rdL_cons rd_v (rdL_cons rd_v (rdL_cons rd_v (rdL_cons (rd_ref (plI_at hj) rfl (plnLL_map it_pl _)) rdL_nil)))))) (rdL_cons (rd_agg (rdL_cons rd_v (rdL_cons rd_v (rdL_cons rd_v (rdL_cons rd_v (rdL_cons rd_sl rdL_nil)))))) rdL_nil)) (eqPlot_gc hl) rfl hK
theorem eqz_call {j : Nat} {hp : List Ent} (hl : (us.getD j default).ts.length ≤ 1048576) (hK : c (vb true)) :
    qcall Try.prog 23 [.agg [vi (us.getD j default).c, vi (us.getD j default).a, vi (us.getD j default).x, vi (us.getD j default).y, .sl 1 ((us.getD j default).ts.map It.e)], .agg [vi (us.getD j default).c, vi (us.getD j default).a, vi (us.getD j default).x, vi (us.getD j default).y, .sl 1 ((us.getD j default).ts.map It.e)]] hp c :=
  qcallR (rdL_cons (rd_agg (rdL_cons rd_v (rdL_cons rd_v (rdL_cons rd_v (rdL_cons rd_v (rdL_cons rd_sl rdL_nil)))))) (rdL_cons (rd_agg (rdL_cons rd_v (rdL_cons rd_v (rdL_cons rd_v (rdL_cons rd_v (rdL_cons rd_sl rdL_nil)))))) rdL_nil)) (eqPlot_gc hl) rfl hK
end
set_option maxRecDepth 100000 in
set_option maxHeartbeats 4000000 in
theorem eqPlotO_gc {ps : List Pl} (hl : ps.length ≤ 40) (ht : ∀ j : Nat, j < ps.length → (ps.getD j default).ts.length ≤ 100) : GC Try.prog 44 [.ref 0 ps.length, .sl 5 (ps.map Pl.e)] (plH ps) (fun r_ hs_ => r_ = vb true ∧ hs_ = plH ps) := by
  refine GC.of_func [(6, .val 0 (.val 1 (.val 2 (.val 3 (.val 4 (.val 5 (.val 6 (.val 7 (.val 8 (.val 9 (.done)))))))))))] Try.call44 Try.func44 rfl ⟨by kernel_rfl, by kernel_rfl⟩ (by kernel_rfl) ?_
  rw [Try.results44]
  simp -implicitDefEqProofs (maxSteps := 4000000) only [sim0, sim1, sim2, sim3, sim4, sim5, sim6, sim7, sim8, ↓reduceIte, Nat.reduceEqDiff, Nat.reduceAdd, Nat.reduceMul, Nat.reduceSub, Nat.reduceLT, Nat.reduceLeDiff, reduceCtorEq, Int.reduceToNat, Int.reduceNeg, Nat.reduceBEq, simx, ty, Sgt.row, It.row, idxS_map, loadS_map, stoS_map, ← List.map_take, ← List.map_drop, plH, plI_len, plC_len, loadS_pl, Pl.ee]
  repeat' (first
    | ((with_reducible refine onCode ?_); first
      | (refine onLid 4 ?_ (by rfl); refine acode_prune [0, 1, 4, 5] ?_; simp only [prn_cons, prn_nil, lk_cons, lk_emp, Nat.reduceEqDiff, ↓reduceIte]; refine acode_loopS2 4 (by rfl) (α := Int) (fun i => [(5, vi i)]) [4, 11, 12, 13, 14, 15, 16, 17, 18, 19, 20, 21, 22, 23, 24, 25, 26] [4] (by kernel_rfl) (fun i => 0 ≤ i ∧ i ≤ ps.length) (fun i => (ps.length - i).toNat) (0) ?_ (by (try simp only []) <;> first | (simp_all; done) | (simp_all; omega) | omega) ?_; (focus ((try dsimp only []); (repeat' (first | exact agr_none | exact lk_hd | refine lk_tl (by decide) ?_ | refine agr_one ?_ ?_)); done)); rintro i hJ; (try simp only [] at hJ); have hJ4 := hJ; simp -implicitDefEqProofs (maxSteps := 4000000) only [sim0, sim1, sim2, sim3, sim4, sim5, sim6, sim7, sim8, ↓reduceIte, Nat.reduceEqDiff, Nat.reduceAdd, Nat.reduceMul, Nat.reduceSub, Nat.reduceLT, Nat.reduceLeDiff, reduceCtorEq, Int.reduceToNat, Int.reduceNeg, Nat.reduceBEq, simx, ty, Sgt.row, It.row, idxS_map, loadS_map, stoS_map, ← List.map_take, ← List.map_drop, plH, plI_len, plC_len, loadS_pl, Pl.ee])
      | fail)
    | ((with_reducible refine onLps ?_); first
      | (refine lps2_end (α := Int) (mods := (fun i => [(5, vi i)])) _ (by (try dsimp only []); simp only [agr_cons, agr_nil, lk_cons, lk_emp, Nat.reduceEqDiff, ↓reduceIte, and_true]; repeat' (first | rfl | apply And.intro)) (by unfold undK; kernel_rfl) ?_ ?_ <;> ((try simp only []); ((have e1 : IntKind.i64.wrap (i + 1) = i + 1 := wrap_id (by omega) (by omega)); (try rw [e1]); omega)))
      | fail)
    | ((with_reducible refine onFin ?_); first
      | (refine fin_wr ?_ ?_ (by first | (simp only [plnLL, pln, Value.oneCell', List.all_cons, List.all_nil, plnH, Sgt.pl, It.pl, Bool.and_true, Bool.and_self]; done) | rfl) <;> (first | (fail) | (simp_all [fins]; done) | (simp_all [-Int.not_lt, -Int.not_le, fins]; done) | (simp_all [fins]; omega)))
      | fail)
    | (((with_reducible refine onQcall ?_); (have g2 := ht i.toNat (by omega)); refine eq_call (by omega) (by omega) ?_; (try simp -implicitDefEqProofs (maxSteps := 4000000) only [sim0, sim1, sim2, sim3, sim4, sim5, sim6, sim7, sim8, ↓reduceIte, Nat.reduceEqDiff, Nat.reduceAdd, Nat.reduceMul, Nat.reduceSub, Nat.reduceLT, Nat.reduceLeDiff, reduceCtorEq, Int.reduceToNat, Int.reduceNeg, Nat.reduceBEq, simx, ty, Sgt.row, It.row, idxS_map, loadS_map, stoS_map, ← List.map_take, ← List.map_drop, plI_len, plC_len])))
    | (((with_reducible refine onFin ?_); refine fin_plW (us := ps) rfl rfl ⟨?_, rfl⟩; first | rfl | (exfalso; simp at hq; done)))
    | (with_reducible refine ite_intro (fun hq => ?_) (fun hq => ?_))
    | (with_reducible refine And.intro (fun hq => ?_) (fun hq => ?_))
    | (with_reducible refine And.intro ?_ ?_)
    | ((fail_if_success (with_reducible refine onCode ?_)); (fail_if_success (with_reducible refine onLps ?_)); (fail_if_success (with_reducible refine onLpd ?_)); (fail_if_success (with_reducible refine onLpe ?_)); (fail_if_success (with_reducible refine onFin ?_)); (fail_if_success (with_reducible refine onCall ?_)); (fail_if_success (with_reducible refine onQcall ?_)); first | ((first | omega); done) | omega | (rw [wrap_id (by omega) (by omega)]; omega) | (fail)))

set_option maxRecDepth 100000 in
set_option maxHeartbeats 4000000 in
theorem eqPlotZ_gc {ps : List Pl} (hl : ps.length ≤ 40) (ht : ∀ j : Nat, j < ps.length → (ps.getD j default).ts.length ≤ 100) : GC Try.prog 44 [.sl 5 (ps.map Pl.e), .sl 5 (ps.map Pl.e)] [] (fun r_ hs_ => r_ = vb true ∧ hs_ = []) := by
  refine GC.of_func [(6, .val 0 (.val 1 (.val 2 (.val 3 (.val 4 (.val 5 (.val 6 (.val 7 (.val 8 (.val 9 (.done)))))))))))] Try.call44 Try.func44 rfl ⟨by kernel_rfl, by kernel_rfl⟩ (by kernel_rfl) ?_
  rw [Try.results44]
  simp -implicitDefEqProofs (maxSteps := 4000000) only [sim0, sim1, sim2, sim3, sim4, sim5, sim6, sim7, sim8, ↓reduceIte, Nat.reduceEqDiff, Nat.reduceAdd, Nat.reduceMul, Nat.reduceSub, Nat.reduceLT, Nat.reduceLeDiff, reduceCtorEq, Int.reduceToNat, Int.reduceNeg, Nat.reduceBEq, simx, ty, Sgt.row, It.row, idxS_map, loadS_map, stoS_map, ← List.map_take, ← List.map_drop, Pl.ee]
  repeat' (first
    | ((with_reducible refine onCode ?_); first
      | (refine onLid 4 ?_ (by rfl); refine acode_prune [0, 1, 4, 5] ?_; simp only [prn_cons, prn_nil, lk_cons, lk_emp, Nat.reduceEqDiff, ↓reduceIte]; refine acode_loopS2 4 (by rfl) (α := Int) (fun i => [(5, vi i)]) [4, 11, 12, 13, 14, 15, 16, 17, 18, 19, 20, 21, 22, 23, 24, 25, 26] [4] (by kernel_rfl) (fun i => 0 ≤ i ∧ i ≤ ps.length) (fun i => (ps.length - i).toNat) (0) ?_ (by (try simp only []) <;> first | (simp_all; done) | (simp_all; omega) | omega) ?_; (focus ((try dsimp only []); (repeat' (first | exact agr_none | exact lk_hd | refine lk_tl (by decide) ?_ | refine agr_one ?_ ?_)); done)); rintro i hJ; (try simp only [] at hJ); have hJ4 := hJ; simp -implicitDefEqProofs (maxSteps := 4000000) only [sim0, sim1, sim2, sim3, sim4, sim5, sim6, sim7, sim8, ↓reduceIte, Nat.reduceEqDiff, Nat.reduceAdd, Nat.reduceMul, Nat.reduceSub, Nat.reduceLT, Nat.reduceLeDiff, reduceCtorEq, Int.reduceToNat, Int.reduceNeg, Nat.reduceBEq, simx, ty, Sgt.row, It.row, idxS_map, loadS_map, stoS_map, ← List.map_take, ← List.map_drop, Pl.ee])
      | fail)
    | ((with_reducible refine onLps ?_); first
      | (refine lps2_end (α := Int) (mods := (fun i => [(5, vi i)])) _ (by (try dsimp only []); simp only [agr_cons, agr_nil, lk_cons, lk_emp, Nat.reduceEqDiff, ↓reduceIte, and_true]; repeat' (first | rfl | apply And.intro)) (by unfold undK; kernel_rfl) ?_ ?_ <;> ((try simp only []); ((have e1 : IntKind.i64.wrap (i + 1) = i + 1 := wrap_id (by omega) (by omega)); (try rw [e1]); omega)))
      | fail)
    | ((with_reducible refine onFin ?_); first
      | (refine fin_nil ?_; (first | (first | rfl | (exfalso; simp at hq; done)) | (simp_all [fins]; done) | (simp_all [-Int.not_lt, -Int.not_le, fins]; done) | (simp_all [fins]; omega)))
      | fail)
    | (((with_reducible refine onQcall ?_); (have g2 := ht i.toNat (by omega)); refine eqz_call (by omega) ?_; (try simp -implicitDefEqProofs (maxSteps := 4000000) only [sim0, sim1, sim2, sim3, sim4, sim5, sim6, sim7, sim8, ↓reduceIte, Nat.reduceEqDiff, Nat.reduceAdd, Nat.reduceMul, Nat.reduceSub, Nat.reduceLT, Nat.reduceLeDiff, reduceCtorEq, Int.reduceToNat, Int.reduceNeg, Nat.reduceBEq, simx, ty, Sgt.row, It.row, idxS_map, loadS_map, stoS_map, ← List.map_take, ← List.map_drop])))
    | (with_reducible refine ite_intro (fun hq => ?_) (fun hq => ?_))
    | (with_reducible refine And.intro (fun hq => ?_) (fun hq => ?_))
    | (with_reducible refine And.intro ?_ ?_)
    | ((fail_if_success (with_reducible refine onCode ?_)); (fail_if_success (with_reducible refine onLps ?_)); (fail_if_success (with_reducible refine onLpd ?_)); (fail_if_success (with_reducible refine onLpe ?_)); (fail_if_success (with_reducible refine onFin ?_)); (fail_if_success (with_reducible refine onCall ?_)); (fail_if_success (with_reducible refine onQcall ?_)); first | ((first | omega); done) | omega | (rw [wrap_id (by omega) (by omega)]; omega) | (first | rfl | (exfalso; simp at hq; done))))

end Go.Proofs.Ytgcmahhejblpkaa
