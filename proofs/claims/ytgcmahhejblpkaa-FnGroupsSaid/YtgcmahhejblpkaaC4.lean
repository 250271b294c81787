/-
Contracts of the text of a plot, over plain data, and the law FnExactPlotText.
No condition but those that the contracts name.
-/
import Derived.Test.YtgcmahhejblpkaaC3
import Derived.Test.YtgcmahhejblpkaaW3
namespace Go.Proofs.Ytgcmahhejblpkaa
open Eng
set_option linter.unusedSimpArgs false
set_option linter.unusedVariables false
theorem litSz : (⟨#[58, 32]⟩ : ByteArray).size = 2 ∧ (⟨#[32, 97, 116, 32]⟩ : ByteArray).size = 4 ∧ (⟨#[47]⟩ : ByteArray).size = 1 ∧ (⟨#[32, 98, 121, 32]⟩ : ByteArray).size = 4 := ⟨rfl, rfl, rfl, rfl⟩
def ptH (s a x y : Int) : ByteArray := numS s.toNat ++ ⟨#[58, 32]⟩ ++ numS a.toNat ++ ⟨#[32, 97, 116, 32]⟩ ++ numS x.toNat ++ ⟨#[47]⟩ ++ numS y.toNat ++ ⟨#[32, 98, 121, 32]⟩
def ptF (ts : List It) (o : ByteArray) (i : Int) : ByteArray := o ++ numS (ig ts i).toNat
def ptS (s a x y : Int) (ts : List It) : ByteArray := foldI (ptF ts) (ptH s a x y) 0 ts.length
theorem plot_bd {s a x y : Int} {ts : List It} (h : plotB s a x y ts = true) : ((0 ≤ s ∧ s ≤ 86400) ∧ (1 ≤ a ∧ a ≤ 65535) ∧ (0 ≤ x ∧ x ≤ 9899) ∧ (0 ≤ y ∧ y ≤ 9899) ∧ 1 ≤ (ts.length : Int) ∧ (ts.length : Int) ≤ 9) ∧ ∀ i : Int, 0 ≤ i → i < ts.length → 1 ≤ ig ts i ∧ ig ts i ≤ 9 := by
  simp only [plotB, placeB, Bool.and_eq_true] at h
  obtain ⟨⟨⟨⟨⟨h1, h2⟩, h3, h4⟩, h5⟩, h6⟩, h7⟩ := h
  refine ⟨⟨inB_iff.1 h1, inB_iff.1 h2, inB_iff.1 h3, inB_iff.1 h4, inB_iff.1 h5⟩, fun i h8 h9 => ?_⟩
  exact inB_iff.1 (allI_iff.1 h6 i h8 h9)
theorem ptH_size {s a x y : Int} {ts : List It} (h : plotB s a x y ts = true) : (ptH s a x y).size ≤ 200000 := by
  have b := (plot_bd h).1
  have s1 := numS_size s.toNat
  have s2 := numS_size a.toNat
  have s3 := numS_size x.toNat
  have s4 := numS_size y.toNat
  simp only [ptH, ByteArray.size_append, litSz]
  omega
set_option maxRecDepth 100000 in
set_option maxHeartbeats 4000000 in
theorem plotText_gc {s a x y : Int} {ts : List It} (h : plotB s a x y ts = true) : GC Try.prog 73 [.agg [vi s, vi a, vi x, vi y, .sl 1 (ts.map It.e)]] [] (fun r_ hs_ => r_ = vs (ptS s a x y ts) ∧ hs_ = []) := by
  refine GC.of_func [(1, .val 0 (.val 1 (.val 2 (.val 3 (.val 4 (.val 5 (.val 6 (.val 7 (.val 8 (.val 9 (.val 10 (.val 11 (.val 12 (.val 13 (.val 14 (.val 15 (.val 16 (.val 17 (.val 18 (.val 19 (.val 20 (.val 21 (.done)))))))))))))))))))))))] Try.call73 Try.func73 rfl ⟨by kernel_rfl, by kernel_rfl⟩ (by kernel_rfl) ?_
  rw [Try.results73]
  simp -implicitDefEqProofs (maxSteps := 4000000) only [sim0, sim1, sim2, sim3, sim4, sim5, sim6, sim7, sim8, ↓reduceIte, Nat.reduceEqDiff, Nat.reduceAdd, Nat.reduceMul, Nat.reduceSub, Nat.reduceLT, Nat.reduceLeDiff, reduceCtorEq, Int.reduceToNat, Int.reduceNeg, Nat.reduceBEq, simx, ty, It.row, idxS_map, loadS_map, stoS_map, ← List.map_take, ← List.map_drop]
  repeat' (first
    | ((with_reducible refine onCall ?_); first
      | (refine GC.callS (textF_gc ?_) rfl rfl ?_ <;> try simp -implicitDefEqProofs (maxSteps := 4000000) only [sim0, sim1, sim2, sim3, sim4, sim5, sim6, sim7, sim8, ↓reduceIte, Nat.reduceEqDiff, Nat.reduceAdd, Nat.reduceMul, Nat.reduceSub, Nat.reduceLT, Nat.reduceLeDiff, reduceCtorEq, Int.reduceToNat, Int.reduceNeg, Nat.reduceBEq, simx, ty, It.row, idxS_map, loadS_map, stoS_map, ← List.map_take, ← List.map_drop])
      | fail)
    | ((with_reducible refine onQcall ?_); first
      | (refine qcallS (textF_gc ?_) rfl rfl ?_ <;> try simp -implicitDefEqProofs (maxSteps := 4000000) only [sim0, sim1, sim2, sim3, sim4, sim5, sim6, sim7, sim8, ↓reduceIte, Nat.reduceEqDiff, Nat.reduceAdd, Nat.reduceMul, Nat.reduceSub, Nat.reduceLT, Nat.reduceLeDiff, reduceCtorEq, Int.reduceToNat, Int.reduceNeg, Nat.reduceBEq, simx, ty, It.row, idxS_map, loadS_map, stoS_map, ← List.map_take, ← List.map_drop])
      | fail)
    | ((with_reducible refine onCode ?_); first
      | (refine onLid 3 ?_ (by rfl); refine acode_prune [0, 1, 2, 3, 5, 28, 29, 30] ?_; simp only [prn_cons, prn_nil, lk_cons, lk_emp, Nat.reduceEqDiff, ↓reduceIte]; refine acode_loopS2 3 (by rfl) (α := Int × ByteArray) (fun ⟨i, o⟩ => [(30, vi i), (3, vs o)]) [5, 31, 32, 33, 34, 35, 36, 37, 38] [5] (by kernel_rfl) (fun ⟨i, o⟩ => (0 ≤ i ∧ i ≤ ts.length) ∧ (o.size : Int) ≤ 200000 + 10 * i ∧ ptS s a x y ts = foldI (ptF ts) o i ts.length) (fun ⟨i, o⟩ => (ts.length - i).toNat) ((0, ptH s a x y)) ?_ (by (try simp only []) <;> first | (exact ⟨by omega, by have := ptH_size h; omega, rfl⟩) | fail) ?_; (focus ((try dsimp only []); (repeat' (first | exact agr_none | exact lk_hd | refine lk_tl (by decide) ?_ | refine agr_one ?_ ?_)); done)); rintro ⟨i, o⟩ hJ; (try simp only [] at hJ); have hJ3 := hJ; simp -implicitDefEqProofs (maxSteps := 4000000) only [sim0, sim1, sim2, sim3, sim4, sim5, sim6, sim7, sim8, ↓reduceIte, Nat.reduceEqDiff, Nat.reduceAdd, Nat.reduceMul, Nat.reduceSub, Nat.reduceLT, Nat.reduceLeDiff, reduceCtorEq, Int.reduceToNat, Int.reduceNeg, Nat.reduceBEq, simx, ty, It.row, idxS_map, loadS_map, stoS_map, ← List.map_take, ← List.map_drop])
      | fail)
    | ((with_reducible refine onLps ?_); first
      | (refine lps2_end (α := Int × ByteArray) (mods := (fun ⟨i, o⟩ => [(30, vi i), (3, vs o)])) (_, _) (by (try dsimp only []); simp only [agr_cons, agr_nil, lk_cons, lk_emp, Nat.reduceEqDiff, ↓reduceIte, and_true]; repeat' (first | rfl | apply And.intro)) (by unfold undK; kernel_rfl) ?_ ?_ <;> ((try simp only []); ((have b := (plot_bd h).1; have c := (plot_bd h).2 i hJ3.1.1 (by assumption); simp only [ig] at c; have s5 := numS_size (ts.getD i.toNat default).n.toNat; have e_ : IntKind.i64.wrap (i + 1) = i + 1 := wrap_id (by omega) (by omega); (try simp only [e_] at hq ⊢); first | omega | exact ⟨by omega, by rw [ByteArray.size_append]; omega, foldI_go rfl (by omega) rfl hJ3.2.2⟩))))
      | fail)
    | ((with_reducible refine onFin ?_); first
      | (refine fin_nil ?_; (first | ((have e := foldI_fin (by omega) hJ3.2.2; rw [e]; rfl)) | (simp_all [fins]; done) | (simp_all [-Int.not_lt, -Int.not_le, fins]; done) | (simp_all [fins]; omega)))
      | fail)
    | (with_reducible refine ite_intro (fun hq => ?_) (fun hq => ?_))
    | (with_reducible refine And.intro (fun hq => ?_) (fun hq => ?_))
    | (with_reducible refine And.intro ?_ ?_)
    | ((fail_if_success (with_reducible refine onCode ?_)); (fail_if_success (with_reducible refine onLps ?_)); (fail_if_success (with_reducible refine onLpd ?_)); (fail_if_success (with_reducible refine onLpe ?_)); (fail_if_success (with_reducible refine onFin ?_)); (fail_if_success (with_reducible refine onCall ?_)); (fail_if_success (with_reducible refine onQcall ?_)); first | (((have b := (plot_bd h).1; first | omega | ((try simp only [ByteArray.size_append, litSz, mx64]); have s1 := numS_size s.toNat; have s2 := numS_size a.toNat; have s3 := numS_size x.toNat; have s4 := numS_size y.toNat; omega) | (have c := (plot_bd h).2 i hJ3.1.1 (by omega); simp only [ig] at c; (try simp only [ByteArray.size_append, litSz, mx64]); have s5 := numS_size (ts.getD i.toNat default).n.toNat; omega))); done) | omega | (rw [wrap_id (by omega) (by omega)]; omega) | ((have e := foldI_fin (by omega) hJ3.2.2; rw [e]; rfl))))

set_option maxRecDepth 100000 in
set_option maxHeartbeats 4000000 in
theorem l13Text_gc {s a x y : Int} {ts : List It} (h : plotB s a x y ts = true) : GC Try.prog 72 [.agg [vi s, vi a, vi x, vi y, .sl 1 (ts.map It.e)]] [] (fun r_ hs_ => r_ = vs (ptS s a x y ts) ∧ hs_ = []) := by
  refine GC.of_func [(1, .val 0 (.val 1 (.val 2 (.val 3 (.val 4 (.val 5 (.val 6 (.val 7 (.val 8 (.val 9 (.val 10 (.val 11 (.val 12 (.val 13 (.val 14 (.val 15 (.val 16 (.val 17 (.val 18 (.val 19 (.val 20 (.val 21 (.done)))))))))))))))))))))))] Try.call72 Try.func72 rfl ⟨by kernel_rfl, by kernel_rfl⟩ (by kernel_rfl) ?_
  rw [Try.results72]
  simp -implicitDefEqProofs (maxSteps := 4000000) only [sim0, sim1, sim2, sim3, sim4, sim5, sim6, sim7, sim8, ↓reduceIte, Nat.reduceEqDiff, Nat.reduceAdd, Nat.reduceMul, Nat.reduceSub, Nat.reduceLT, Nat.reduceLeDiff, reduceCtorEq, Int.reduceToNat, Int.reduceNeg, Nat.reduceBEq, simx, ty, It.row, idxS_map, loadS_map, stoS_map, ← List.map_take, ← List.map_drop]
  repeat' (first
    | ((with_reducible refine onCall ?_); first
      | (refine GC.callS (l1Num_gc ?_) rfl rfl ?_ <;> try simp -implicitDefEqProofs (maxSteps := 4000000) only [sim0, sim1, sim2, sim3, sim4, sim5, sim6, sim7, sim8, ↓reduceIte, Nat.reduceEqDiff, Nat.reduceAdd, Nat.reduceMul, Nat.reduceSub, Nat.reduceLT, Nat.reduceLeDiff, reduceCtorEq, Int.reduceToNat, Int.reduceNeg, Nat.reduceBEq, simx, ty, It.row, idxS_map, loadS_map, stoS_map, ← List.map_take, ← List.map_drop])
      | fail)
    | ((with_reducible refine onQcall ?_); first
      | (refine qcallS (l1Num_gc ?_) rfl rfl ?_ <;> try simp -implicitDefEqProofs (maxSteps := 4000000) only [sim0, sim1, sim2, sim3, sim4, sim5, sim6, sim7, sim8, ↓reduceIte, Nat.reduceEqDiff, Nat.reduceAdd, Nat.reduceMul, Nat.reduceSub, Nat.reduceLT, Nat.reduceLeDiff, reduceCtorEq, Int.reduceToNat, Int.reduceNeg, Nat.reduceBEq, simx, ty, It.row, idxS_map, loadS_map, stoS_map, ← List.map_take, ← List.map_drop])
      | fail)
    | ((with_reducible refine onCode ?_); first
      | (refine onLid 3 ?_ (by rfl); refine acode_prune [0, 1, 2, 3, 4] ?_; simp only [prn_cons, prn_nil, lk_cons, lk_emp, Nat.reduceEqDiff, ↓reduceIte]; refine acode_loopS2 3 (by rfl) (α := Int × ByteArray) (fun ⟨i, o⟩ => [(4, vi i), (3, vs o)]) [26, 27, 28, 29, 30, 31, 32, 33, 34, 35, 36, 37, 38, 39, 40] [] (by kernel_rfl) (fun ⟨i, o⟩ => (0 ≤ i ∧ i ≤ ts.length) ∧ (o.size : Int) ≤ 200000 + 10 * i ∧ ptS s a x y ts = foldI (ptF ts) o i ts.length) (fun ⟨i, o⟩ => (ts.length - i).toNat) ((0, ptH s a x y)) ?_ (by (try simp only []) <;> first | (exact ⟨by omega, by have := ptH_size h; omega, rfl⟩) | fail) ?_; (focus ((try dsimp only []); (repeat' (first | exact agr_none | exact lk_hd | refine lk_tl (by decide) ?_ | refine agr_one ?_ ?_)); done)); rintro ⟨i, o⟩ hJ; (try simp only [] at hJ); have hJ3 := hJ; simp -implicitDefEqProofs (maxSteps := 4000000) only [sim0, sim1, sim2, sim3, sim4, sim5, sim6, sim7, sim8, ↓reduceIte, Nat.reduceEqDiff, Nat.reduceAdd, Nat.reduceMul, Nat.reduceSub, Nat.reduceLT, Nat.reduceLeDiff, reduceCtorEq, Int.reduceToNat, Int.reduceNeg, Nat.reduceBEq, simx, ty, It.row, idxS_map, loadS_map, stoS_map, ← List.map_take, ← List.map_drop])
      | fail)
    | ((with_reducible refine onLps ?_); first
      | (refine lps2_end (α := Int × ByteArray) (mods := (fun ⟨i, o⟩ => [(4, vi i), (3, vs o)])) (_, _) (by (try dsimp only []); simp only [agr_cons, agr_nil, lk_cons, lk_emp, Nat.reduceEqDiff, ↓reduceIte, and_true]; repeat' (first | rfl | apply And.intro)) (by unfold undK; kernel_rfl) ?_ ?_ <;> ((try simp only []); ((have b := (plot_bd h).1; have c := (plot_bd h).2 i hJ3.1.1 (by assumption); simp only [ig] at c; have s5 := numS_size (ts.getD i.toNat default).n.toNat; have e_ : IntKind.i64.wrap (i + 1) = i + 1 := wrap_id (by omega) (by omega); (try simp only [e_] at hq ⊢); first | omega | exact ⟨by omega, by rw [ByteArray.size_append]; omega, foldI_go rfl (by omega) rfl hJ3.2.2⟩))))
      | fail)
    | ((with_reducible refine onFin ?_); first
      | (refine fin_nil ?_; (first | ((have e := foldI_fin (by omega) hJ3.2.2; rw [e]; rfl)) | (simp_all [fins]; done) | (simp_all [-Int.not_lt, -Int.not_le, fins]; done) | (simp_all [fins]; omega)))
      | fail)
    | (with_reducible refine ite_intro (fun hq => ?_) (fun hq => ?_))
    | (with_reducible refine And.intro (fun hq => ?_) (fun hq => ?_))
    | (with_reducible refine And.intro ?_ ?_)
    | ((fail_if_success (with_reducible refine onCode ?_)); (fail_if_success (with_reducible refine onLps ?_)); (fail_if_success (with_reducible refine onLpd ?_)); (fail_if_success (with_reducible refine onLpe ?_)); (fail_if_success (with_reducible refine onFin ?_)); (fail_if_success (with_reducible refine onCall ?_)); (fail_if_success (with_reducible refine onQcall ?_)); first | (((have b := (plot_bd h).1; first | omega | ((try simp only [ByteArray.size_append, litSz, mx64]); have s1 := numS_size s.toNat; have s2 := numS_size a.toNat; have s3 := numS_size x.toNat; have s4 := numS_size y.toNat; omega) | (have c := (plot_bd h).2 i hJ3.1.1 (by omega); simp only [ig] at c; (try simp only [ByteArray.size_append, litSz, mx64]); have s5 := numS_size (ts.getD i.toNat default).n.toNat; omega))); done) | omega | (rw [wrap_id (by omega) (by omega)]; omega) | ((have e := foldI_fin (by omega) hJ3.2.2; rw [e]; rfl))))

def ptV (s a x y : Int) (ts : List It) : ByteArray := if plotB s a x y ts = true then ptS s a x y ts else ⟨#[]⟩
set_option maxRecDepth 100000 in
set_option maxHeartbeats 4000000 in
theorem impPlotText_gc {s a x y : Int} {ts : List It} (hl : ts.length ≤ 1048576) : GC Try.prog 31 [.agg [vi s, vi a, vi x, vi y, .sl 1 (ts.map It.e)]] [] (fun r_ hs_ => r_ = .tup [vs (ptV s a x y ts), vb (plotB s a x y ts)] ∧ hs_ = []) := by
  refine GC.of_func [] Try.call31 Try.func31 rfl ⟨by kernel_rfl, by kernel_rfl⟩ (by kernel_rfl) ?_
  rw [Try.results31]
  simp -implicitDefEqProofs (maxSteps := 4000000) only [sim0, sim1, sim2, sim3, sim4, sim5, sim6, sim7, sim8, ↓reduceIte, Nat.reduceEqDiff, Nat.reduceAdd, Nat.reduceMul, Nat.reduceSub, Nat.reduceLT, Nat.reduceLeDiff, reduceCtorEq, Int.reduceToNat, Int.reduceNeg, Nat.reduceBEq, simx, ty, It.row, idxS_map, loadS_map, stoS_map, ← List.map_take, ← List.map_drop]
  repeat' (first
    | ((with_reducible refine onCall ?_); first
      | (refine GC.callR (by repeat' (first | exact rdL_nil | refine rdL_cons ?_ ?_ | exact rd_v | exact rd_sl | exact rd_nil | refine rd_ref rfl (by simp) (plnLL_map (fun _ => rfl) _) | refine rd_rs rfl (by simp; omega) (plnLL_map (fun _ => rfl) _) | refine rd_agg ?_)) (isValidPlot_gc ?_) rfl ?_ <;> try simp -implicitDefEqProofs (maxSteps := 4000000) only [sim0, sim1, sim2, sim3, sim4, sim5, sim6, sim7, sim8, ↓reduceIte, Nat.reduceEqDiff, Nat.reduceAdd, Nat.reduceMul, Nat.reduceSub, Nat.reduceLT, Nat.reduceLeDiff, reduceCtorEq, Int.reduceToNat, Int.reduceNeg, Nat.reduceBEq, simx, ty, It.row, idxS_map, loadS_map, stoS_map, ← List.map_take, ← List.map_drop])
      | (refine GC.callR (by repeat' (first | exact rdL_nil | refine rdL_cons ?_ ?_ | exact rd_v | exact rd_sl | exact rd_nil | refine rd_ref rfl (by simp) (plnLL_map (fun _ => rfl) _) | refine rd_rs rfl (by simp; omega) (plnLL_map (fun _ => rfl) _) | refine rd_agg ?_)) (plotText_gc ?_) rfl ?_ <;> try simp -implicitDefEqProofs (maxSteps := 4000000) only [sim0, sim1, sim2, sim3, sim4, sim5, sim6, sim7, sim8, ↓reduceIte, Nat.reduceEqDiff, Nat.reduceAdd, Nat.reduceMul, Nat.reduceSub, Nat.reduceLT, Nat.reduceLeDiff, reduceCtorEq, Int.reduceToNat, Int.reduceNeg, Nat.reduceBEq, simx, ty, It.row, idxS_map, loadS_map, stoS_map, ← List.map_take, ← List.map_drop])
      | fail)
    | ((with_reducible refine onFin ?_); first
      | (refine fin_nil ?_; (first | (first | (have e : plotB s a x y ts = true := (by simpa using hq); simp [fins, ptV, e]; done) | (simp [fins, ptV, hq]; done)) | (simp_all [fins]; done) | (simp_all [-Int.not_lt, -Int.not_le, fins]; done) | (simp_all [fins]; omega)))
      | fail)
    | (with_reducible refine ite_intro (fun hq => ?_) (fun hq => ?_))
    | (with_reducible refine And.intro (fun hq => ?_) (fun hq => ?_))
    | (with_reducible refine And.intro ?_ ?_)
    | ((fail_if_success (with_reducible refine onCode ?_)); (fail_if_success (with_reducible refine onLps ?_)); (fail_if_success (with_reducible refine onLpd ?_)); (fail_if_success (with_reducible refine onLpe ?_)); (fail_if_success (with_reducible refine onFin ?_)); (fail_if_success (with_reducible refine onCall ?_)); (fail_if_success (with_reducible refine onQcall ?_)); first | ((first | exact hl | (simpa using hq)); done) | omega | (rw [wrap_id (by omega) (by omega)]; omega) | (first | (have e : plotB s a x y ts = true := (by simpa using hq); simp [fins, ptV, e]; done) | (simp [fins, ptV, hq]; done))))

set_option maxRecDepth 100000 in
set_option maxHeartbeats 4000000 in
theorem sPlotText_gc {s a x y : Int} {ts : List It} (hl : ts.length ≤ 1048576) : GC Try.prog 30 [.agg [vi s, vi a, vi x, vi y, .sl 1 (ts.map It.e)]] [] (fun r_ hs_ => r_ = .tup [vs (ptV s a x y ts), vb (plotB s a x y ts)] ∧ hs_ = []) := by
  refine GC.of_func [] Try.call30 Try.func30 rfl ⟨by kernel_rfl, by kernel_rfl⟩ (by kernel_rfl) ?_
  rw [Try.results30]
  simp -implicitDefEqProofs (maxSteps := 4000000) only [sim0, sim1, sim2, sim3, sim4, sim5, sim6, sim7, sim8, ↓reduceIte, Nat.reduceEqDiff, Nat.reduceAdd, Nat.reduceMul, Nat.reduceSub, Nat.reduceLT, Nat.reduceLeDiff, reduceCtorEq, Int.reduceToNat, Int.reduceNeg, Nat.reduceBEq, simx, ty, It.row, idxS_map, loadS_map, stoS_map, ← List.map_take, ← List.map_drop]
  repeat' (first
    | ((with_reducible refine onCall ?_); first
      | (refine GC.callR (by repeat' (first | exact rdL_nil | refine rdL_cons ?_ ?_ | exact rd_v | exact rd_sl | exact rd_nil | refine rd_ref rfl (by simp) (plnLL_map (fun _ => rfl) _) | refine rd_rs rfl (by simp; omega) (plnLL_map (fun _ => rfl) _) | refine rd_agg ?_)) (l13Plot_gc ?_) rfl ?_ <;> try simp -implicitDefEqProofs (maxSteps := 4000000) only [sim0, sim1, sim2, sim3, sim4, sim5, sim6, sim7, sim8, ↓reduceIte, Nat.reduceEqDiff, Nat.reduceAdd, Nat.reduceMul, Nat.reduceSub, Nat.reduceLT, Nat.reduceLeDiff, reduceCtorEq, Int.reduceToNat, Int.reduceNeg, Nat.reduceBEq, simx, ty, It.row, idxS_map, loadS_map, stoS_map, ← List.map_take, ← List.map_drop])
      | (refine GC.callR (by repeat' (first | exact rdL_nil | refine rdL_cons ?_ ?_ | exact rd_v | exact rd_sl | exact rd_nil | refine rd_ref rfl (by simp) (plnLL_map (fun _ => rfl) _) | refine rd_rs rfl (by simp; omega) (plnLL_map (fun _ => rfl) _) | refine rd_agg ?_)) (l13Text_gc ?_) rfl ?_ <;> try simp -implicitDefEqProofs (maxSteps := 4000000) only [sim0, sim1, sim2, sim3, sim4, sim5, sim6, sim7, sim8, ↓reduceIte, Nat.reduceEqDiff, Nat.reduceAdd, Nat.reduceMul, Nat.reduceSub, Nat.reduceLT, Nat.reduceLeDiff, reduceCtorEq, Int.reduceToNat, Int.reduceNeg, Nat.reduceBEq, simx, ty, It.row, idxS_map, loadS_map, stoS_map, ← List.map_take, ← List.map_drop])
      | fail)
    | ((with_reducible refine onFin ?_); first
      | (refine fin_nil ?_; (first | (first | (have e : plotB s a x y ts = true := (by simpa using hq); simp [fins, ptV, e]; done) | (simp [fins, ptV, hq]; done)) | (simp_all [fins]; done) | (simp_all [-Int.not_lt, -Int.not_le, fins]; done) | (simp_all [fins]; omega)))
      | fail)
    | (with_reducible refine ite_intro (fun hq => ?_) (fun hq => ?_))
    | (with_reducible refine And.intro (fun hq => ?_) (fun hq => ?_))
    | (with_reducible refine And.intro ?_ ?_)
    | ((fail_if_success (with_reducible refine onCode ?_)); (fail_if_success (with_reducible refine onLps ?_)); (fail_if_success (with_reducible refine onLpd ?_)); (fail_if_success (with_reducible refine onLpe ?_)); (fail_if_success (with_reducible refine onFin ?_)); (fail_if_success (with_reducible refine onCall ?_)); (fail_if_success (with_reducible refine onQcall ?_)); first | ((first | exact hl | (simpa using hq)); done) | omega | (rw [wrap_id (by omega) (by omega)]; omega) | (first | (have e : plotB s a x y ts = true := (by simpa using hq); simp [fins, ptV, e]; done) | (simp [fins, ptV, hq]; done))))

set_option maxRecDepth 100000 in
set_option maxHeartbeats 4000000 in
theorem markPlot_gc {s a x y k : Int} {ts : List It} (hl : ts.length ≤ 1048576) (hk : 0 ≤ k ∧ k ≤ 1000000000) : GC Try.prog 40 [.agg [vi s, vi a, vi x, vi y, .ref 0 ts.length], vi k] [.arr 1 (ts.map It.e)] (fun r_ hs_ => r_ = vi (k + ts.length) ∧ hs_ = [.arr 1 ((mkIt k ts.length).map It.e)]) := by
  refine GC.of_func [] Try.call40 Try.func40 rfl ⟨by kernel_rfl, by kernel_rfl⟩ (by kernel_rfl) ?_
  rw [Try.results40]
  simp -implicitDefEqProofs (maxSteps := 4000000) only [sim0, sim1, sim2, sim3, sim4, sim5, sim6, sim7, sim8, ↓reduceIte, Nat.reduceEqDiff, Nat.reduceAdd, Nat.reduceMul, Nat.reduceSub, Nat.reduceLT, Nat.reduceLeDiff, reduceCtorEq, Int.reduceToNat, Int.reduceNeg, Nat.reduceBEq, simx, ty, It.row, idxS_map, loadS_map, stoS_map, ← List.map_take, ← List.map_drop]
  repeat' (first
    | ((with_reducible refine onCall ?_); first
      | (apply GC.use false [0] (markIntS_gc ?_ ?_) rfl ?he ?ha (.inl rfl) ?_; (case he => (refine ⟨rfl, ?_, trivial⟩; (first | rw [It.up]); exact rfl)); (case ha => (repeat' (first | exact arL_nil | refine arL_cons ?_ ?_ | exact ar_v | exact ar_own rfl | refine ar_agg ?_))); (all_goals (try simp -implicitDefEqProofs (maxSteps := 4000000) only [sim0, sim1, sim2, sim3, sim4, sim5, sim6, sim7, sim8, ↓reduceIte, Nat.reduceEqDiff, Nat.reduceAdd, Nat.reduceMul, Nat.reduceSub, Nat.reduceLT, Nat.reduceLeDiff, reduceCtorEq, Int.reduceToNat, Int.reduceNeg, Nat.reduceBEq, simx, ty, It.row, idxS_map, loadS_map, stoS_map, ← List.map_take, ← List.map_drop])))
      | (apply GC.use false [1] (markIntS_gc ?_ ?_) rfl ?he ?ha (.inl rfl) ?_; (case he => (refine ⟨rfl, ?_, trivial⟩; (first | rw [It.up]); exact rfl)); (case ha => (repeat' (first | exact arL_nil | refine arL_cons ?_ ?_ | exact ar_v | exact ar_own rfl | refine ar_agg ?_))); (all_goals (try simp -implicitDefEqProofs (maxSteps := 4000000) only [sim0, sim1, sim2, sim3, sim4, sim5, sim6, sim7, sim8, ↓reduceIte, Nat.reduceEqDiff, Nat.reduceAdd, Nat.reduceMul, Nat.reduceSub, Nat.reduceLT, Nat.reduceLeDiff, reduceCtorEq, Int.reduceToNat, Int.reduceNeg, Nat.reduceBEq, simx, ty, It.row, idxS_map, loadS_map, stoS_map, ← List.map_take, ← List.map_drop])))
      | (apply GC.use false [2] (markIntS_gc ?_ ?_) rfl ?he ?ha (.inl rfl) ?_; (case he => (refine ⟨rfl, ?_, trivial⟩; (first | rw [It.up]); exact rfl)); (case ha => (repeat' (first | exact arL_nil | refine arL_cons ?_ ?_ | exact ar_v | exact ar_own rfl | refine ar_agg ?_))); (all_goals (try simp -implicitDefEqProofs (maxSteps := 4000000) only [sim0, sim1, sim2, sim3, sim4, sim5, sim6, sim7, sim8, ↓reduceIte, Nat.reduceEqDiff, Nat.reduceAdd, Nat.reduceMul, Nat.reduceSub, Nat.reduceLT, Nat.reduceLeDiff, reduceCtorEq, Int.reduceToNat, Int.reduceNeg, Nat.reduceBEq, simx, ty, It.row, idxS_map, loadS_map, stoS_map, ← List.map_take, ← List.map_drop])))
      | (apply GC.use false [3] (markIntS_gc ?_ ?_) rfl ?he ?ha (.inl rfl) ?_; (case he => (refine ⟨rfl, ?_, trivial⟩; (first | rw [It.up]); exact rfl)); (case ha => (repeat' (first | exact arL_nil | refine arL_cons ?_ ?_ | exact ar_v | exact ar_own rfl | refine ar_agg ?_))); (all_goals (try simp -implicitDefEqProofs (maxSteps := 4000000) only [sim0, sim1, sim2, sim3, sim4, sim5, sim6, sim7, sim8, ↓reduceIte, Nat.reduceEqDiff, Nat.reduceAdd, Nat.reduceMul, Nat.reduceSub, Nat.reduceLT, Nat.reduceLeDiff, reduceCtorEq, Int.reduceToNat, Int.reduceNeg, Nat.reduceBEq, simx, ty, It.row, idxS_map, loadS_map, stoS_map, ← List.map_take, ← List.map_drop])))
      | (apply GC.use false [4] (markIntS_gc ?_ ?_) rfl ?he ?ha (.inl rfl) ?_; (case he => (refine ⟨rfl, ?_, trivial⟩; (first | rw [It.up]); exact rfl)); (case ha => (repeat' (first | exact arL_nil | refine arL_cons ?_ ?_ | exact ar_v | exact ar_own rfl | refine ar_agg ?_))); (all_goals (try simp -implicitDefEqProofs (maxSteps := 4000000) only [sim0, sim1, sim2, sim3, sim4, sim5, sim6, sim7, sim8, ↓reduceIte, Nat.reduceEqDiff, Nat.reduceAdd, Nat.reduceMul, Nat.reduceSub, Nat.reduceLT, Nat.reduceLeDiff, reduceCtorEq, Int.reduceToNat, Int.reduceNeg, Nat.reduceBEq, simx, ty, It.row, idxS_map, loadS_map, stoS_map, ← List.map_take, ← List.map_drop])))
      | (apply GC.use false [5] (markIntS_gc ?_ ?_) rfl ?he ?ha (.inl rfl) ?_; (case he => (refine ⟨rfl, ?_, trivial⟩; (first | rw [It.up]); exact rfl)); (case ha => (repeat' (first | exact arL_nil | refine arL_cons ?_ ?_ | exact ar_v | exact ar_own rfl | refine ar_agg ?_))); (all_goals (try simp -implicitDefEqProofs (maxSteps := 4000000) only [sim0, sim1, sim2, sim3, sim4, sim5, sim6, sim7, sim8, ↓reduceIte, Nat.reduceEqDiff, Nat.reduceAdd, Nat.reduceMul, Nat.reduceSub, Nat.reduceLT, Nat.reduceLeDiff, reduceCtorEq, Int.reduceToNat, Int.reduceNeg, Nat.reduceBEq, simx, ty, It.row, idxS_map, loadS_map, stoS_map, ← List.map_take, ← List.map_drop])))
      | (apply GC.use false [6] (markIntS_gc ?_ ?_) rfl ?he ?ha (.inl rfl) ?_; (case he => (refine ⟨rfl, ?_, trivial⟩; (first | rw [It.up]); exact rfl)); (case ha => (repeat' (first | exact arL_nil | refine arL_cons ?_ ?_ | exact ar_v | exact ar_own rfl | refine ar_agg ?_))); (all_goals (try simp -implicitDefEqProofs (maxSteps := 4000000) only [sim0, sim1, sim2, sim3, sim4, sim5, sim6, sim7, sim8, ↓reduceIte, Nat.reduceEqDiff, Nat.reduceAdd, Nat.reduceMul, Nat.reduceSub, Nat.reduceLT, Nat.reduceLeDiff, reduceCtorEq, Int.reduceToNat, Int.reduceNeg, Nat.reduceBEq, simx, ty, It.row, idxS_map, loadS_map, stoS_map, ← List.map_take, ← List.map_drop])))
      | (apply GC.use false [7] (markIntS_gc ?_ ?_) rfl ?he ?ha (.inl rfl) ?_; (case he => (refine ⟨rfl, ?_, trivial⟩; (first | rw [It.up]); exact rfl)); (case ha => (repeat' (first | exact arL_nil | refine arL_cons ?_ ?_ | exact ar_v | exact ar_own rfl | refine ar_agg ?_))); (all_goals (try simp -implicitDefEqProofs (maxSteps := 4000000) only [sim0, sim1, sim2, sim3, sim4, sim5, sim6, sim7, sim8, ↓reduceIte, Nat.reduceEqDiff, Nat.reduceAdd, Nat.reduceMul, Nat.reduceSub, Nat.reduceLT, Nat.reduceLeDiff, reduceCtorEq, Int.reduceToNat, Int.reduceNeg, Nat.reduceBEq, simx, ty, It.row, idxS_map, loadS_map, stoS_map, ← List.map_take, ← List.map_drop])))
      | (apply GC.use false [8] (markIntS_gc ?_ ?_) rfl ?he ?ha (.inl rfl) ?_; (case he => (refine ⟨rfl, ?_, trivial⟩; (first | rw [It.up]); exact rfl)); (case ha => (repeat' (first | exact arL_nil | refine arL_cons ?_ ?_ | exact ar_v | exact ar_own rfl | refine ar_agg ?_))); (all_goals (try simp -implicitDefEqProofs (maxSteps := 4000000) only [sim0, sim1, sim2, sim3, sim4, sim5, sim6, sim7, sim8, ↓reduceIte, Nat.reduceEqDiff, Nat.reduceAdd, Nat.reduceMul, Nat.reduceSub, Nat.reduceLT, Nat.reduceLeDiff, reduceCtorEq, Int.reduceToNat, Int.reduceNeg, Nat.reduceBEq, simx, ty, It.row, idxS_map, loadS_map, stoS_map, ← List.map_take, ← List.map_drop])))
      | (apply GC.use false [9] (markIntS_gc ?_ ?_) rfl ?he ?ha (.inl rfl) ?_; (case he => (refine ⟨rfl, ?_, trivial⟩; (first | rw [It.up]); exact rfl)); (case ha => (repeat' (first | exact arL_nil | refine arL_cons ?_ ?_ | exact ar_v | exact ar_own rfl | refine ar_agg ?_))); (all_goals (try simp -implicitDefEqProofs (maxSteps := 4000000) only [sim0, sim1, sim2, sim3, sim4, sim5, sim6, sim7, sim8, ↓reduceIte, Nat.reduceEqDiff, Nat.reduceAdd, Nat.reduceMul, Nat.reduceSub, Nat.reduceLT, Nat.reduceLeDiff, reduceCtorEq, Int.reduceToNat, Int.reduceNeg, Nat.reduceBEq, simx, ty, It.row, idxS_map, loadS_map, stoS_map, ← List.map_take, ← List.map_drop])))
      | (apply GC.use false [10] (markIntS_gc ?_ ?_) rfl ?he ?ha (.inl rfl) ?_; (case he => (refine ⟨rfl, ?_, trivial⟩; (first | rw [It.up]); exact rfl)); (case ha => (repeat' (first | exact arL_nil | refine arL_cons ?_ ?_ | exact ar_v | exact ar_own rfl | refine ar_agg ?_))); (all_goals (try simp -implicitDefEqProofs (maxSteps := 4000000) only [sim0, sim1, sim2, sim3, sim4, sim5, sim6, sim7, sim8, ↓reduceIte, Nat.reduceEqDiff, Nat.reduceAdd, Nat.reduceMul, Nat.reduceSub, Nat.reduceLT, Nat.reduceLeDiff, reduceCtorEq, Int.reduceToNat, Int.reduceNeg, Nat.reduceBEq, simx, ty, It.row, idxS_map, loadS_map, stoS_map, ← List.map_take, ← List.map_drop])))
      | (apply GC.use false [11] (markIntS_gc ?_ ?_) rfl ?he ?ha (.inl rfl) ?_; (case he => (refine ⟨rfl, ?_, trivial⟩; (first | rw [It.up]); exact rfl)); (case ha => (repeat' (first | exact arL_nil | refine arL_cons ?_ ?_ | exact ar_v | exact ar_own rfl | refine ar_agg ?_))); (all_goals (try simp -implicitDefEqProofs (maxSteps := 4000000) only [sim0, sim1, sim2, sim3, sim4, sim5, sim6, sim7, sim8, ↓reduceIte, Nat.reduceEqDiff, Nat.reduceAdd, Nat.reduceMul, Nat.reduceSub, Nat.reduceLT, Nat.reduceLeDiff, reduceCtorEq, Int.reduceToNat, Int.reduceNeg, Nat.reduceBEq, simx, ty, It.row, idxS_map, loadS_map, stoS_map, ← List.map_take, ← List.map_drop])))
      | fail)
    | ((with_reducible refine onFin ?_); first
      | (refine fin_wr ?_ ?_ (by first | (simp only [plnLL, pln, Value.oneCell', List.all_cons, List.all_nil, plnH, It.pl, Bool.and_true, Bool.and_self]; done) | rfl) <;> (first | (simp_all [fins]; done) | (simp_all [-Int.not_lt, -Int.not_le, fins]; done) | (simp_all [fins]; omega)))
      | fail)
    | (with_reducible refine ite_intro (fun hq => ?_) (fun hq => ?_))
    | (with_reducible refine And.intro (fun hq => ?_) (fun hq => ?_))
    | (with_reducible refine And.intro ?_ ?_)
    | ((fail_if_success (with_reducible refine onCode ?_)); (fail_if_success (with_reducible refine onLps ?_)); (fail_if_success (with_reducible refine onLpd ?_)); (fail_if_success (with_reducible refine onLpe ?_)); (fail_if_success (with_reducible refine onFin ?_)); (fail_if_success (with_reducible refine onCall ?_)); (fail_if_success (with_reducible refine onQcall ?_)); first | ((first | exact hl | exact hk); done) | omega | (rw [wrap_id (by omega) (by omega)]; omega) | (simp_all; done)))

set_option maxRecDepth 100000 in
set_option maxHeartbeats 4000000 in
theorem FnExactPlotText_g0 {s a x y : Int} {ts : List It} (hl : ts.length ≤ maxLen) : GC Try.prog 6 [.agg [vi s, vi a, vi x, vi y, .sl 1 (ts.map It.e)]] [] (fun r _ => r = vb true) := by
  refine GC.of_func [(10, .val 0 (.val 1 (.eff [(2, [0], .val 3 (.val 4 (.done)))])))] Try.call6 Try.func6 rfl ⟨by kernel_rfl, by kernel_rfl⟩ (by kernel_rfl) ?_
  rw [Try.results6]
  simp -implicitDefEqProofs (maxSteps := 4000000) only [sim0, sim1, sim2, sim3, sim4, sim5, sim6, sim7, sim8, ↓reduceIte, Nat.reduceEqDiff, Nat.reduceAdd, Nat.reduceMul, Nat.reduceSub, Nat.reduceLT, Nat.reduceLeDiff, reduceCtorEq, Int.reduceToNat, Int.reduceNeg, Nat.reduceBEq, simx, ty, It.row, idxS_map, loadS_map, stoS_map, ← List.map_take, ← List.map_drop, sz_neg, mkIt_len]
  repeat' (first
    | ((with_reducible refine onCall ?_); first
      | (refine GC.callR (by repeat' (first | exact rdL_nil | refine rdL_cons ?_ ?_ | exact rd_v | exact rd_sl | exact rd_nil | refine rd_ref rfl (by simp [mkIt_len]) (plnLL_map (fun _ => rfl) _) | refine rd_rs rfl (by simp; omega) (plnLL_map (fun _ => rfl) _) | refine rd_agg ?_)) (szPlot_gc ?_ ?_) rfl ?_ <;> try simp -implicitDefEqProofs (maxSteps := 4000000) only [sim0, sim1, sim2, sim3, sim4, sim5, sim6, sim7, sim8, ↓reduceIte, Nat.reduceEqDiff, Nat.reduceAdd, Nat.reduceMul, Nat.reduceSub, Nat.reduceLT, Nat.reduceLeDiff, reduceCtorEq, Int.reduceToNat, Int.reduceNeg, Nat.reduceBEq, simx, ty, It.row, idxS_map, loadS_map, stoS_map, ← List.map_take, ← List.map_drop, sz_neg, mkIt_len])
      | (refine GC.use true [] (toPlot_gc ?_) rfl trivial (by repeat' (first | exact arL_nil | refine arL_cons ?_ ?_ | exact ar_v | exact ar_sl | exact ar_nil | refine ar_ref rfl rfl (by simp [mkIt_len]) (plnLL_map (fun _ => rfl) _) | refine ar_rs rfl rfl (by simp; omega) (plnLL_map (fun _ => rfl) _) | refine ar_agg ?_)) (.inr ⟨rfl, by first | rfl | simp [It.ns]⟩) ?_ <;> try simp -implicitDefEqProofs (maxSteps := 4000000) only [sim0, sim1, sim2, sim3, sim4, sim5, sim6, sim7, sim8, ↓reduceIte, Nat.reduceEqDiff, Nat.reduceAdd, Nat.reduceMul, Nat.reduceSub, Nat.reduceLT, Nat.reduceLeDiff, reduceCtorEq, Int.reduceToNat, Int.reduceNeg, Nat.reduceBEq, simx, ty, It.row, idxS_map, loadS_map, stoS_map, ← List.map_take, ← List.map_drop, sz_neg, mkIt_len])
      | (refine GC.callR (by repeat' (first | exact rdL_nil | refine rdL_cons ?_ ?_ | exact rd_v | exact rd_sl | exact rd_nil | refine rd_ref rfl (by simp [mkIt_len]) (plnLL_map (fun _ => rfl) _) | refine rd_rs rfl (by simp; omega) (plnLL_map (fun _ => rfl) _) | refine rd_agg ?_)) (sPlotText_gc ?_) rfl ?_ <;> try simp -implicitDefEqProofs (maxSteps := 4000000) only [sim0, sim1, sim2, sim3, sim4, sim5, sim6, sim7, sim8, ↓reduceIte, Nat.reduceEqDiff, Nat.reduceAdd, Nat.reduceMul, Nat.reduceSub, Nat.reduceLT, Nat.reduceLeDiff, reduceCtorEq, Int.reduceToNat, Int.reduceNeg, Nat.reduceBEq, simx, ty, It.row, idxS_map, loadS_map, stoS_map, ← List.map_take, ← List.map_drop, sz_neg, mkIt_len])
      | (refine GC.callR (by repeat' (first | exact rdL_nil | refine rdL_cons ?_ ?_ | exact rd_v | exact rd_sl | exact rd_nil | refine rd_ref rfl (by simp [mkIt_len]) (plnLL_map (fun _ => rfl) _) | refine rd_rs rfl (by simp; omega) (plnLL_map (fun _ => rfl) _) | refine rd_agg ?_)) (impPlotText_gc ?_) rfl ?_ <;> try simp -implicitDefEqProofs (maxSteps := 4000000) only [sim0, sim1, sim2, sim3, sim4, sim5, sim6, sim7, sim8, ↓reduceIte, Nat.reduceEqDiff, Nat.reduceAdd, Nat.reduceMul, Nat.reduceSub, Nat.reduceLT, Nat.reduceLeDiff, reduceCtorEq, Int.reduceToNat, Int.reduceNeg, Nat.reduceBEq, simx, ty, It.row, idxS_map, loadS_map, stoS_map, ← List.map_take, ← List.map_drop, sz_neg, mkIt_len])
      | fail)
    | ((with_reducible refine onQcall ?_); first
      | (refine qcallR (by repeat' (first | exact rdL_nil | refine rdL_cons ?_ ?_ | exact rd_v | exact rd_sl | exact rd_nil | refine rd_ref rfl (by simp [mkIt_len]) (plnLL_map (fun _ => rfl) _) | refine rd_rs rfl (by simp; omega) (plnLL_map (fun _ => rfl) _) | refine rd_agg ?_)) (eqPlot_gc ?_) rfl ?_ <;> try simp -implicitDefEqProofs (maxSteps := 4000000) only [sim0, sim1, sim2, sim3, sim4, sim5, sim6, sim7, sim8, ↓reduceIte, Nat.reduceEqDiff, Nat.reduceAdd, Nat.reduceMul, Nat.reduceSub, Nat.reduceLT, Nat.reduceLeDiff, reduceCtorEq, Int.reduceToNat, Int.reduceNeg, Nat.reduceBEq, simx, ty, It.row, idxS_map, loadS_map, stoS_map, ← List.map_take, ← List.map_drop, sz_neg, mkIt_len])
      | fail)
    | ((with_reducible refine onFin ?_); first
      | (refine fin_law ?_; (first | (simp_all [fins]; done) | (simp_all [-Int.not_lt, -Int.not_le, fins]; done) | (simp_all [fins]; omega)))
      | fail)
    | (with_reducible refine ite_intro (fun hq => ?_) (fun hq => ?_))
    | (with_reducible refine And.intro (fun hq => ?_) (fun hq => ?_))
    | (with_reducible refine And.intro ?_ ?_)
    | ((fail_if_success (with_reducible refine onCode ?_)); (fail_if_success (with_reducible refine onLps ?_)); (fail_if_success (with_reducible refine onLpd ?_)); (fail_if_success (with_reducible refine onLpe ?_)); (fail_if_success (with_reducible refine onFin ?_)); (fail_if_success (with_reducible refine onCall ?_)); (fail_if_success (with_reducible refine onQcall ?_)); first | ((first | omega | exact fun n h => mkIt_get h); done) | omega | (rw [wrap_id (by omega) (by omega)]; omega) | (simp_all; done)))

theorem FnExactPlotText_gc (s : Int) (h1 : I64 s) (a : Int) (h2 : I64 a) (x : Int) (h3 : I64 x) (y : Int) (h4 : I64 y) (xs : List (List Int)) (w : ∀ e ∈ xs, e.length = 1 ∧ ∀ z ∈ e, (Lit.int .i64 z).wf = true) (m : xs.length ≤ maxLen) : GC Try.prog 6 [.agg [vi s, vi a, vi x, vi y, .sl 1 (els .i64 xs)]] [] (fun r _ => r = vb true) := by
  obtain ⟨ts, h1, h2, h3⟩ := It.of w
  rw [h1]; exact FnExactPlotText_g0 (by omega)
end Go.Proofs.Ytgcmahhejblpkaa
