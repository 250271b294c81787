/-
Contracts of CourseLine, and plain laws on paths, sides and heights.
No condition but those that the contracts name.
-/
import Derived.Test.YtboedpdpfomjgaaM11
import Derived.Test.YtboedpdpfomjgaaM2
import Derived.Test.YtboedpdpfomjgaaM6
namespace Go.Proofs.Ytboedpdpfomjgaa
open Eng
set_option linter.unusedSimpArgs false
set_option linter.unusedVariables false
def clX (x y vx vy px py : Int) : Int := IntKind.i64.wrap (IntKind.i64.wrap (vx * IntKind.i64.wrap (py - y)) - IntKind.i64.wrap (vy * IntKind.i64.wrap (px - x)))
def clOk (x y vx vy h c px py : Int) : Bool := motionB x y vx vy h c && placeB px py && !(vx == 0 && vy == 0)
def clV (b : Bool) (x y vx vy px py : Int) : Int := if b = true then (if clX x y vx vy px py < 0 then 1 else if 0 < clX x y vx vy px py then 2 else 0) else 0
set_option maxRecDepth 100000 in
set_option maxHeartbeats 4000000 in
theorem standsF_gc {x y : Int} : GC Try.prog 62 [.agg [vi x, vi y]] [] (fun r_ hs_ => r_ = vb (x == 0 && y == 0) ∧ hs_ = []) := by
  refine GC.of_func [] Try.call62 Try.func62 rfl ⟨by kernel_rfl, by kernel_rfl⟩ (by kernel_rfl) ?_
  rw [Try.results62]
  simp -implicitDefEqProofs (maxSteps := 4000000) only [sim0, sim1, sim2, sim3, sim4, sim5, sim6, sim7, sim8, ↓reduceIte, Nat.reduceEqDiff, Nat.reduceAdd, Nat.reduceMul, Nat.reduceSub, Nat.reduceLT, Nat.reduceLeDiff, reduceCtorEq, Int.reduceToNat, Int.reduceNeg, Nat.reduceBEq, simx, ty]
  repeat' (first
    | ((with_reducible refine onFin ?_); first
      | (refine fin_nil ?_; (first | (simp_all [fins]; done) | (simp_all [-Int.not_lt, -Int.not_le, fins]; done) | (simp_all [fins]; omega)))
      | fail)
    | (with_reducible refine ite_intro (fun hq => ?_) (fun hq => ?_))
    | (with_reducible refine And.intro (fun hq => ?_) (fun hq => ?_))
    | (with_reducible refine And.intro ?_ ?_)
    | ((fail_if_success (with_reducible refine onCode ?_)); (fail_if_success (with_reducible refine onLps ?_)); (fail_if_success (with_reducible refine onLpd ?_)); (fail_if_success (with_reducible refine onLpe ?_)); (fail_if_success (with_reducible refine onFin ?_)); (fail_if_success (with_reducible refine onCall ?_)); (fail_if_success (with_reducible refine onQcall ?_)); first | omega | (rw [wrap_id (by omega) (by omega)]; omega) | (simp_all; done)))

set_option maxRecDepth 100000 in
set_option maxHeartbeats 4000000 in
theorem l8SquareF_gc {x y : Int} : GC Try.prog 63 [.agg [vi x, vi y]] [] (fun r_ hs_ => r_ = vi (sqV x y) ∧ hs_ = []) := by
  refine GC.of_func [] Try.call63 Try.func63 rfl ⟨by kernel_rfl, by kernel_rfl⟩ (by kernel_rfl) ?_
  rw [Try.results63]
  simp -implicitDefEqProofs (maxSteps := 4000000) only [sim0, sim1, sim2, sim3, sim4, sim5, sim6, sim7, sim8, ↓reduceIte, Nat.reduceEqDiff, Nat.reduceAdd, Nat.reduceMul, Nat.reduceSub, Nat.reduceLT, Nat.reduceLeDiff, reduceCtorEq, Int.reduceToNat, Int.reduceNeg, Nat.reduceBEq, simx, ty]
  repeat' (first
    | ((with_reducible refine onFin ?_); first
      | (refine fin_nil ?_; (first | (simp_all [fins, sqV]; done) | (simp_all [-Int.not_lt, -Int.not_le, fins, sqV]; done) | (simp_all [fins, sqV]; omega)))
      | fail)
    | (with_reducible refine ite_intro (fun hq => ?_) (fun hq => ?_))
    | (with_reducible refine And.intro (fun hq => ?_) (fun hq => ?_))
    | (with_reducible refine And.intro ?_ ?_)
    | ((fail_if_success (with_reducible refine onCode ?_)); (fail_if_success (with_reducible refine onLps ?_)); (fail_if_success (with_reducible refine onLpd ?_)); (fail_if_success (with_reducible refine onLpe ?_)); (fail_if_success (with_reducible refine onFin ?_)); (fail_if_success (with_reducible refine onCall ?_)); (fail_if_success (with_reducible refine onQcall ?_)); first | omega | (rw [wrap_id (by omega) (by omega)]; omega) | (simp_all; done)))

theorem velB_iff {x y : Int} : velB x y = true ↔ (-200 ≤ x ∧ x ≤ 200) ∧ (-200 ≤ y ∧ y ≤ 200) := by
  simp only [velB, Bool.and_eq_true, inB_iff]
theorem sq_nn (z : Int) (hz : -200 ≤ z ∧ z ≤ 200) : 0 ≤ z * z ∧ z * z ≤ 40000 ∧ (z * z = 0 ↔ z = 0) := by
  have e : z * z = z.natAbs * z.natAbs := (Int.natAbs_mul_self' z).symm
  have h : z.natAbs ≤ 200 := by omega
  have h2 : z.natAbs * z.natAbs ≤ 200 * 200 := Nat.mul_le_mul h h
  refine ⟨?_, ?_, ?_⟩
  · rw [e]; exact Int.mul_nonneg (by omega) (by omega)
  · have : ((z.natAbs * z.natAbs : Nat) : Int) ≤ 40000 := by omega
    rw [e]; rwa [Int.natCast_mul] at this
  · constructor
    · intro h; rcases Int.mul_eq_zero.1 h with h | h <;> exact h
    · intro h; rw [h]; rfl
theorem sqV_zero {x y vx vy h c : Int} (hm : motionB x y vx vy h c = true) : (sqV vx vy == 0) = (vx == 0 && vy == 0) := by
  have hv := (motionB_iff.1 hm).2.1
  have h1 := sq_nn vx hv.1
  have h2 := sq_nn vy hv.2
  unfold sqV
  rw [wrap_id (n := vx * vx) (by omega) (by omega), wrap_id (n := vy * vy) (by omega) (by omega), wrap_id (by omega) (by omega)]
  rw [Bool.eq_iff_iff, beq_iff_eq, Bool.and_eq_true, beq_iff_eq, beq_iff_eq]
  omega
theorem cl_y {x y vx vy h c px py : Int} (h1 : ¬ motionB x y vx vy h c = false) (h2 : ¬ placeB px py = false) (h3 : ¬ (sqV vx vy == 0) = true) : clOk x y vx vy h c px py = true := by
  have h1 := eq_true_of_ne_false h1
  rw [sqV_zero h1] at h3
  unfold clOk; rw [h1, eq_true_of_ne_false h2, eq_false_of_ne_true h3]; rfl
theorem cl_n {x y vx vy h c px py : Int} (h1 : ¬ motionB x y vx vy h c = false) (h2 : ¬ placeB px py = false) (h3 : (sqV vx vy == 0) = true) : clOk x y vx vy h c px py = false := by
  have h1 := eq_true_of_ne_false h1
  rw [sqV_zero h1] at h3
  unfold clOk; rw [h1, h3]; simp
set_option maxRecDepth 100000 in
set_option maxHeartbeats 4000000 in
theorem courseLine_gc {x y vx vy h c px py : Int} : GC Try.prog 33 [.agg [vi x, vi y, vi vx, vi vy, vi h, vi c], .agg [vi px, vi py]] [] (fun r_ hs_ => r_ = .tup [vi (clV (clOk x y vx vy h c px py) x y vx vy px py), vb (clOk x y vx vy h c px py)] ∧ hs_ = []) := by
  refine GC.of_func [] Try.call33 Try.func33 rfl ⟨by kernel_rfl, by kernel_rfl⟩ (by kernel_rfl) ?_
  rw [Try.results33]
  simp -implicitDefEqProofs (maxSteps := 4000000) only [sim0, sim1, sim2, sim3, sim4, sim5, sim6, sim7, sim8, ↓reduceIte, Nat.reduceEqDiff, Nat.reduceAdd, Nat.reduceMul, Nat.reduceSub, Nat.reduceLT, Nat.reduceLeDiff, reduceCtorEq, Int.reduceToNat, Int.reduceNeg, Nat.reduceBEq, simx, ty]
  repeat' (first
    | ((with_reducible refine onCall ?_); first
      | (refine GC.callS isValidMotion_gc rfl rfl ?_ <;> try simp -implicitDefEqProofs (maxSteps := 4000000) only [sim0, sim1, sim2, sim3, sim4, sim5, sim6, sim7, sim8, ↓reduceIte, Nat.reduceEqDiff, Nat.reduceAdd, Nat.reduceMul, Nat.reduceSub, Nat.reduceLT, Nat.reduceLeDiff, reduceCtorEq, Int.reduceToNat, Int.reduceNeg, Nat.reduceBEq, simx, ty])
      | (refine GC.callS isValidPlace_gc rfl rfl ?_ <;> try simp -implicitDefEqProofs (maxSteps := 4000000) only [sim0, sim1, sim2, sim3, sim4, sim5, sim6, sim7, sim8, ↓reduceIte, Nat.reduceEqDiff, Nat.reduceAdd, Nat.reduceMul, Nat.reduceSub, Nat.reduceLT, Nat.reduceLeDiff, reduceCtorEq, Int.reduceToNat, Int.reduceNeg, Nat.reduceBEq, simx, ty])
      | (refine GC.callS standsF_gc rfl rfl ?_ <;> try simp -implicitDefEqProofs (maxSteps := 4000000) only [sim0, sim1, sim2, sim3, sim4, sim5, sim6, sim7, sim8, ↓reduceIte, Nat.reduceEqDiff, Nat.reduceAdd, Nat.reduceMul, Nat.reduceSub, Nat.reduceLT, Nat.reduceLeDiff, reduceCtorEq, Int.reduceToNat, Int.reduceNeg, Nat.reduceBEq, simx, ty])
      | fail)
    | ((with_reducible refine onFin ?_); first
      | (refine fin_nil ?_; (first | (simp_all [fins, clV, clOk, clX]; done) | (simp_all [-Int.not_lt, -Int.not_le, fins, clV, clOk, clX]; done) | (simp_all [fins, clV, clOk, clX]; omega)))
      | fail)
    | (with_reducible refine ite_intro (fun hq => ?_) (fun hq => ?_))
    | (with_reducible refine And.intro (fun hq => ?_) (fun hq => ?_))
    | (with_reducible refine And.intro ?_ ?_)
    | ((fail_if_success (with_reducible refine onCode ?_)); (fail_if_success (with_reducible refine onLps ?_)); (fail_if_success (with_reducible refine onLpd ?_)); (fail_if_success (with_reducible refine onLpe ?_)); (fail_if_success (with_reducible refine onFin ?_)); (fail_if_success (with_reducible refine onCall ?_)); (fail_if_success (with_reducible refine onQcall ?_)); first | omega | (rw [wrap_id (by omega) (by omega)]; omega) | (simp_all; done)))

set_option maxRecDepth 100000 in
set_option maxHeartbeats 4000000 in
theorem sCourseLine_gc {x y vx vy h c px py : Int} : GC Try.prog 34 [.agg [vi x, vi y, vi vx, vi vy, vi h, vi c], .agg [vi px, vi py]] [] (fun r_ hs_ => r_ = .tup [vi (clV (clOk x y vx vy h c px py) x y vx vy px py), vb (clOk x y vx vy h c px py)] ∧ hs_ = []) := by
  refine GC.of_func [] Try.call34 Try.func34 rfl ⟨by kernel_rfl, by kernel_rfl⟩ (by kernel_rfl) ?_
  rw [Try.results34]
  simp -implicitDefEqProofs (maxSteps := 4000000) only [sim0, sim1, sim2, sim3, sim4, sim5, sim6, sim7, sim8, ↓reduceIte, Nat.reduceEqDiff, Nat.reduceAdd, Nat.reduceMul, Nat.reduceSub, Nat.reduceLT, Nat.reduceLeDiff, reduceCtorEq, Int.reduceToNat, Int.reduceNeg, Nat.reduceBEq, simx, ty]
  repeat' (first
    | ((with_reducible refine onCall ?_); first
      | (refine GC.callS l16Good_gc rfl rfl ?_ <;> try simp -implicitDefEqProofs (maxSteps := 4000000) only [sim0, sim1, sim2, sim3, sim4, sim5, sim6, sim7, sim8, ↓reduceIte, Nat.reduceEqDiff, Nat.reduceAdd, Nat.reduceMul, Nat.reduceSub, Nat.reduceLT, Nat.reduceLeDiff, reduceCtorEq, Int.reduceToNat, Int.reduceNeg, Nat.reduceBEq, simx, ty])
      | (refine GC.callS l7Good_gc rfl rfl ?_ <;> try simp -implicitDefEqProofs (maxSteps := 4000000) only [sim0, sim1, sim2, sim3, sim4, sim5, sim6, sim7, sim8, ↓reduceIte, Nat.reduceEqDiff, Nat.reduceAdd, Nat.reduceMul, Nat.reduceSub, Nat.reduceLT, Nat.reduceLeDiff, reduceCtorEq, Int.reduceToNat, Int.reduceNeg, Nat.reduceBEq, simx, ty])
      | (refine GC.callS l8SquareF_gc rfl rfl ?_ <;> try simp -implicitDefEqProofs (maxSteps := 4000000) only [sim0, sim1, sim2, sim3, sim4, sim5, sim6, sim7, sim8, ↓reduceIte, Nat.reduceEqDiff, Nat.reduceAdd, Nat.reduceMul, Nat.reduceSub, Nat.reduceLT, Nat.reduceLeDiff, reduceCtorEq, Int.reduceToNat, Int.reduceNeg, Nat.reduceBEq, simx, ty])
      | fail)
    | ((with_reducible refine onFin ?_); first
      | (refine fin_nil ?_; (first | (first | (rename_i h1 h2 h3 h4; have g := cl_y h1 h2 h3; have gv : clV true x y vx vy px py = 0 := (by unfold clV clX; rw [if_pos rfl, if_neg h4, if_neg hq]); simp [fins, g, gv]; done) | (rename_i h1 h2 h3; have g := cl_y h1 h2 h3; simp_all [fins, clV, clX]; done) | (rename_i h1 h2 h3 h4; have g := cl_y h1 h2 h3; simp_all [fins, clV, clX]; done) | (rename_i h1 h2; have g := cl_n h1 h2 hq; simp [fins, g, clV]; done)) | (simp_all [fins, clV, clOk, clX]; done) | (simp_all [-Int.not_lt, -Int.not_le, fins, clV, clOk, clX]; done) | (simp_all [fins, clV, clOk, clX]; omega)))
      | fail)
    | (with_reducible refine ite_intro (fun hq => ?_) (fun hq => ?_))
    | (with_reducible refine And.intro (fun hq => ?_) (fun hq => ?_))
    | (with_reducible refine And.intro ?_ ?_)
    | ((fail_if_success (with_reducible refine onCode ?_)); (fail_if_success (with_reducible refine onLps ?_)); (fail_if_success (with_reducible refine onLpd ?_)); (fail_if_success (with_reducible refine onLpe ?_)); (fail_if_success (with_reducible refine onFin ?_)); (fail_if_success (with_reducible refine onCall ?_)); (fail_if_success (with_reducible refine onQcall ?_)); first | omega | (rw [wrap_id (by omega) (by omega)]; omega) | (first | (rename_i h1 h2 h3 h4; have g := cl_y h1 h2 h3; have gv : clV true x y vx vy px py = 0 := (by unfold clV clX; rw [if_pos rfl, if_neg h4, if_neg hq]); simp [fins, g, gv]; done) | (rename_i h1 h2 h3; have g := cl_y h1 h2 h3; simp_all [fins, clV, clX]; done) | (rename_i h1 h2 h3 h4; have g := cl_y h1 h2 h3; simp_all [fins, clV, clX]; done) | (rename_i h1 h2; have g := cl_n h1 h2 hq; simp [fins, g, clV]; done))))

set_option maxRecDepth 100000 in
set_option maxHeartbeats 4000000 in
theorem rPlaces_gc {ts : List Plc} (hl : ts.length ≤ 1048576) : GC Try.prog 29 [.sl 2 (ts.map Plc.e), .sl 2 (ts.map Plc.e)] [] (fun r_ hs_ => r_ = vb true ∧ hs_ = []) := by
  refine GC.of_func [(6, .val 0 (.val 1 (.val 2 (.val 3 (.val 4 (.val 5 (.val 6 (.val 7 (.val 8 (.done))))))))))] Try.call29 Try.func29 rfl ⟨by kernel_rfl, by kernel_rfl⟩ (by kernel_rfl) ?_
  rw [Try.results29]
  simp -implicitDefEqProofs (maxSteps := 4000000) only [sim0, sim1, sim2, sim3, sim4, sim5, sim6, sim7, sim8, ↓reduceIte, Nat.reduceEqDiff, Nat.reduceAdd, Nat.reduceMul, Nat.reduceSub, Nat.reduceLT, Nat.reduceLeDiff, reduceCtorEq, Int.reduceToNat, Int.reduceNeg, Nat.reduceBEq, simx, ty, By.row, Ch.row, Plc.row, idxS_map, loadS_map, stoS_map, ← List.map_take, ← List.map_drop]
  repeat' (first
    | ((with_reducible refine onCode ?_); first
      | (refine onLid 4 ?_ (by rfl); refine acode_prune [0, 1, 4, 5] ?_; simp only [prn_cons, prn_nil, lk_cons, lk_emp, Nat.reduceEqDiff, ↓reduceIte]; refine acode_loopS2 4 (by rfl) (α := Int) (fun i => [(5, vi i)]) [4, 11, 12, 13, 14, 15, 16, 17, 18, 19, 20, 21, 22, 23, 24, 25] [4] (by kernel_rfl) (fun i => 0 ≤ i ∧ i ≤ ts.length) (fun i => (ts.length - i).toNat) (0) ?_ (by (try simp only []) <;> first | (simp_all; done) | (simp_all; omega) | omega) ?_; (focus ((try dsimp only []); (repeat' (first | exact agr_none | exact lk_hd | refine lk_tl (by decide) ?_ | refine agr_one ?_ ?_)); done)); rintro i hJ; (try simp only [] at hJ); have hJ4 := hJ; simp -implicitDefEqProofs (maxSteps := 4000000) only [sim0, sim1, sim2, sim3, sim4, sim5, sim6, sim7, sim8, ↓reduceIte, Nat.reduceEqDiff, Nat.reduceAdd, Nat.reduceMul, Nat.reduceSub, Nat.reduceLT, Nat.reduceLeDiff, reduceCtorEq, Int.reduceToNat, Int.reduceNeg, Nat.reduceBEq, simx, ty, By.row, Ch.row, Plc.row, idxS_map, loadS_map, stoS_map, ← List.map_take, ← List.map_drop])
      | fail)
    | ((with_reducible refine onLps ?_); first
      | (refine lps2_end (α := Int) (mods := (fun i => [(5, vi i)])) _ (by (try dsimp only []); simp only [agr_cons, agr_nil, lk_cons, lk_emp, Nat.reduceEqDiff, ↓reduceIte, and_true]; repeat' (first | rfl | apply And.intro)) (by unfold undK; kernel_rfl) ?_ ?_ <;> ((try simp only []); (have e : IntKind.i64.wrap (i + 1) = i + 1 := wrap_id (by omega) (by omega); rw [e]; omega)))
      | fail)
    | ((with_reducible refine onFin ?_); first
      | (refine fin_nil ?_; (first | (simp_all [fins]; done) | (simp_all [-Int.not_lt, -Int.not_le, fins]; done) | (simp_all [fins]; omega)))
      | fail)
    | (with_reducible refine ite_intro (fun hq => ?_) (fun hq => ?_))
    | (with_reducible refine And.intro (fun hq => ?_) (fun hq => ?_))
    | (with_reducible refine And.intro ?_ ?_)
    | ((fail_if_success (with_reducible refine onCode ?_)); (fail_if_success (with_reducible refine onLps ?_)); (fail_if_success (with_reducible refine onLpd ?_)); (fail_if_success (with_reducible refine onLpe ?_)); (fail_if_success (with_reducible refine onFin ?_)); (fail_if_success (with_reducible refine onCall ?_)); (fail_if_success (with_reducible refine onQcall ?_)); first | omega | (rw [wrap_id (by omega) (by omega)]; omega) | (simp_all; done)))

set_option maxRecDepth 100000 in
set_option maxHeartbeats 4000000 in
theorem drawHeightAt_gc {cs : List By} (hb : byOk cs) (hl : cs.length ≤ 1048576) : GC Try.prog 35 [.sl 1 (cs.map By.e)] [] (fun r_ hs_ => ∃ (x y vx vy h c num den : Int), (True) ∧ r_ = .tup [.agg [vi x, vi y, vi vx, vi vy, vi h, vi c], vi num, vi den] ∧ hs_ = []) := by
  refine GC.of_func [] Try.call35 Try.func35 rfl ⟨by kernel_rfl, by kernel_rfl⟩ (by kernel_rfl) ?_
  rw [Try.results35]
  simp -implicitDefEqProofs (maxSteps := 4000000) only [sim0, sim1, sim2, sim3, sim4, sim5, sim6, sim7, sim8, ↓reduceIte, Nat.reduceEqDiff, Nat.reduceAdd, Nat.reduceMul, Nat.reduceSub, Nat.reduceLT, Nat.reduceLeDiff, reduceCtorEq, Int.reduceToNat, Int.reduceNeg, Nat.reduceBEq, simx, ty, By.row, Ch.row, Plc.row, idxS_map, loadS_map, stoS_map, ← List.map_take, ← List.map_drop]
  repeat' (first
    | ((with_reducible refine onCall ?_); first
      | (apply GC.useP false [] (drawPlaceAt_gc ?_ ?_) rfl ?he ?ha (fun h_ => Bool.noConfusion h_) ?_; (case he => (trivial)); (case ha => (repeat' (first | exact arL_nil | refine arL_cons ?_ ?_ | exact ar_v | exact ar_sl | exact ar_ptr rfl | exact ar_own rfl | refine ar_agg ?_))); (all_goals (try (intro r_ hs_ hk_; obtain ⟨x, y, vx, vy, h, c, num, den, hc_, rfl, rfl⟩ := hk_; (try simp -implicitDefEqProofs (maxSteps := 4000000) only [sim0, sim1, sim2, sim3, sim4, sim5, sim6, sim7, sim8, ↓reduceIte, Nat.reduceEqDiff, Nat.reduceAdd, Nat.reduceMul, Nat.reduceSub, Nat.reduceLT, Nat.reduceLeDiff, reduceCtorEq, Int.reduceToNat, Int.reduceNeg, Nat.reduceBEq, simx, ty, By.row, Ch.row, Plc.row, idxS_map, loadS_map, stoS_map, ← List.map_take, ← List.map_drop])))))
      | fail)
    | ((with_reducible refine onFin ?_); first
      | (refine fin_K (by (try simp only [fins, funs, idn, ids, List.take_zero, List.nil_append, List.filter_nil, List.filter_cons, List.map_nil]); first | (simp only [plnLL, pln, Value.oneCell', List.all_cons, List.all_nil, plnH, By.pl, Ch.pl, Plc.pl, Bool.and_true, Bool.and_self]; done) | rfl) (by rfl) ?_; simp -implicitDefEqProofs (maxSteps := 4000000) only [sim0, sim1, sim2, sim3, sim4, sim5, sim6, sim7, sim8, ↓reduceIte, Nat.reduceEqDiff, Nat.reduceAdd, Nat.reduceMul, Nat.reduceSub, Nat.reduceLT, Nat.reduceLeDiff, reduceCtorEq, Int.reduceToNat, Int.reduceNeg, Nat.reduceBEq, simx, ty, fins, funs, idn, ids, List.filter_nil, List.filter_cons, List.map_nil, By.row, Ch.row, Plc.row, idxS_map, loadS_map, stoS_map, ← List.map_take, ← List.map_drop]; (first | exact ⟨_, _, _, _, _, _, _, _, rfl⟩ | exact ⟨_, _, _, _, _, _, _, _, trivial, rfl, rfl⟩ | fail))
      | fail)
    | (with_reducible refine ite_intro (fun hq => ?_) (fun hq => ?_))
    | (with_reducible refine And.intro (fun hq => ?_) (fun hq => ?_))
    | (with_reducible refine And.intro ?_ ?_)
    | ((fail_if_success (with_reducible refine onCode ?_)); (fail_if_success (with_reducible refine onLps ?_)); (fail_if_success (with_reducible refine onLpd ?_)); (fail_if_success (with_reducible refine onLpe ?_)); (fail_if_success (with_reducible refine onFin ?_)); (fail_if_success (with_reducible refine onCall ?_)); (fail_if_success (with_reducible refine onQcall ?_)); first | ((first | exact hb | omega); done) | omega | (rw [wrap_id (by omega) (by omega)]; omega) | (first | exact ⟨_, _, _, _, _, _, _, _, rfl⟩ | exact ⟨_, _, _, _, _, _, _, _, trivial, rfl, rfl⟩ | fail)))

/-- a place on the course is on no side of it -/
theorem cl_own {x y vx vy h c px py : Int} (ok : clOk x y vx vy h c px py = true) : clOk x y vx vy h c x y = true ∧ clV true x y vx vy x y = 0 := by
  simp only [clOk, Bool.and_eq_true] at ok ⊢
  refine ⟨⟨⟨ok.1.1, ?_⟩, ok.2⟩, ?_⟩
  · have := motionB_iff.1 ok.1.1
    simp only [placeB, Bool.and_eq_true, inB_iff]; exact this.1
  · have w0 : IntKind.i64.wrap 0 = 0 := rfl
    simp [clV, clX, w0]
theorem absV_dvd {g n : Int} (hn : -9223372036854775808 < n ∧ n ≤ 9223372036854775807) (h : g ∣ absV n) : g ∣ n := by
  unfold absV at h
  split at h
  · rw [wrap_id (by omega) (by omega)] at h
    have h2 := (Int.dvd_neg (a := g) (b := 0 - n)).2 h
    have e : -(0 - n) = n := by omega
    rwa [e] at h2
  · exact h
theorem tdiv_abs_le (a g : Int) : -(a.natAbs : Int) ≤ a.tdiv g ∧ a.tdiv g ≤ a.natAbs := by
  have h := Int.natAbs_tdiv_le_natAbs a g
  omega
/-- a height at a time is the fraction that it comes from -/
theorem ha_law {x y vx vy h c num den : Int} (ok : haOk x y vx vy h c num den = true) :
    (IntKind.i64.wrap (ha0 true h c num den * den) == IntKind.i64.wrap (ha1 true h c num den * IntKind.i64.wrap (IntKind.i64.wrap (h * den) + IntKind.i64.wrap (c * num)))) = true := by
  simp only [haOk, Bool.and_eq_true] at ok
  obtain ⟨hm, ht⟩ := ok
  have hm := motionB_iff.1 hm
  simp only [timeB, Bool.and_eq_true, inB_iff] at ht
  rw [wrap_id (n := 60 * den) (by omega) (by omega)] at ht
  have b1 : -2000 * den ≤ h * den ∧ h * den ≤ 130000 * den := ⟨Int.mul_le_mul_of_nonneg_right (by omega) (by omega), Int.mul_le_mul_of_nonneg_right (by omega) (by omega)⟩
  have b2 : -6000 * num ≤ c * num ∧ c * num ≤ 6000 * num := ⟨Int.mul_le_mul_of_nonneg_right (by omega) (by omega), Int.mul_le_mul_of_nonneg_right (by omega) (by omega)⟩
  have hN : -1000000000 ≤ haN h c num den ∧ haN h c num den ≤ 1000000000 := by
    unfold haN
    rw [wrap_id (n := h * den) (by omega) (by omega), wrap_id (n := c * num) (by omega) (by omega), wrap_id (by omega) (by omega)]
    omega
  have hg := gcdI_dvd _ (absV (haN h c num den)) den (Nat.le_refl _)
  have hd : fr (haN h c num den) den = gcdI (absV (haN h c num den)) den := rfl
  show (IntKind.i64.wrap (ha0 true h c num den * den) == IntKind.i64.wrap (ha1 true h c num den * haN h c num den)) = true
  simp only [ha0, ha1, if_true]
  generalize haN h c num den = N at *
  rw [hd]
  generalize gcdI (absV N) den = g at *
  have g1 := absV_dvd (by omega) hg.1
  have t1 := tdiv_abs_le N g
  have t2 := tdiv_abs_le den g
  rw [wrap_id (n := N.tdiv g) (by omega) (by omega), wrap_id (n := den.tdiv g) (by omega) (by omega)]
  rw [beq_iff_eq]; congr 1
  have e1 := Int.mul_tdiv_cancel' g1
  have e2 := Int.mul_tdiv_cancel' hg.2
  generalize N.tdiv g = A at *
  generalize den.tdiv g = B at *
  rw [← e1, ← e2]
  grind
/-- when a motion leaves: there it is outside -/
theorem lvGo_out : ∀ (n : Nat) {x y vx vy t : Int}, (61 - t).toNat ≤ n → (lvGo x y vx vy t).2 = true → t ≤ (lvGo x y vx vy t).1 ∧ placeB (atV x vx (lvGo x y vx vy t).1) (atV y vy (lvGo x y vx vy t).1) = false
  | n, x, y, vx, vy, t, hn, h => by
    rw [lvGo.eq_1] at h ⊢
    by_cases h1 : 60 < t
    · rw [if_pos h1] at h; cases h
    · rw [if_neg h1] at h ⊢
      cases hp : placeB (atV x vx t) (atV y vy t) with
      | true =>
        rw [hp, if_pos rfl] at h
        rw [if_pos rfl]
        cases n with
        | zero => omega
        | succ n =>
          have ih := lvGo_out n (t := t + 1) (by omega) h
          exact ⟨by omega, ih.2⟩
      | false => rw [if_neg (by decide)]; exact ⟨Int.le_refl _, hp⟩
theorem lv_law {x y vx vy h c n z : Int} (ok : pcO x y vx vy h c n z = true) (hl : (lv x y vx vy h c).2 = true) (ht : (lv x y vx vy h c).1 ≤ n) : False := by
  unfold lv at hl ht
  split at hl
  · rename_i hm
    rw [if_pos hm] at ht
    have g := lvGo_out 61 (by omega) hl
    simp only [pcO, Bool.and_eq_true] at ok
    have := allI_iff.1 ok.2 _ g.1 (by omega)
    unfold pcP at this
    rw [g.2] at this; cases this
  · cases hl
theorem pcF_pos {x y vx vy z : Int} {us : List Plc} {t : Int} : 1 ≤ (pcF x y vx vy z us t).length := by
  unfold pcF
  split
  · simp
  · rename_i h
    unfold pcN at h
    simp only [Bool.or_eq_true, not_or] at h
    have := h.1
    simp only [beq_iff_eq] at this
    omega
/-- neighbours differ -/
def difN (us : List Plc) : Prop := ∀ i : Nat, i + 1 < us.length → ¬ ((us.getD (i + 1) default).x = (us.getD i default).x ∧ (us.getD (i + 1) default).y = (us.getD i default).y)
theorem pcF_dif {x y vx vy z : Int} {us : List Plc} {t : Int} (h : difN us) : difN (pcF x y vx vy z us t) := by
  unfold pcF
  split
  · rename_i hq
    intro i hi
    simp only [List.length_append, List.length_cons, List.length_nil] at hi
    by_cases e : i + 1 < us.length
    · have e1 : (us ++ [pcC x y vx vy z t]).getD (i + 1) default = us.getD (i + 1) default := by simp [List.getD, List.getElem?_append_left e]
      have e2 : (us ++ [pcC x y vx vy z t]).getD i default = us.getD i default := by simp [List.getD, List.getElem?_append_left (show i < us.length by omega)]
      rw [e1, e2]; exact h i e
    · have e0 : i + 1 = us.length := by omega
      have e1 : (us ++ [pcC x y vx vy z t]).getD (i + 1) default = pcC x y vx vy z t := by simp [List.getD, e0]
      have e2 : (us ++ [pcC x y vx vy z t]).getD i default = us.getD (us.length - 1) default := by
        have : us.length - 1 = i := by omega
        rw [this]; simp [List.getD, List.getElem?_append_left (show i < us.length by omega)]
      rw [e1, e2]
      intro hc
      unfold pcN at hq
      rw [hc.1, hc.2] at hq
      simp only [beq_self_eq_true, Bool.and_self, Bool.not_true, Bool.or_false, beq_iff_eq] at hq
      omega
  · exact h
theorem pc_law {x y vx vy h c n z : Int} (ok : pcO x y vx vy h c n z = true) : 1 ≤ (pcV x y vx vy h c n z).length ∧ ((pcV x y vx vy h c n z).length : Int) ≤ n + 1 ∧ (0 ≤ n ∧ n ≤ 60) := by
  have ok' := ok
  simp only [pcO, Bool.and_eq_true] at ok
  have hb := pcK_bd ok.1
  unfold pcV; rw [if_pos ok']
  have h := foldI_ind (f := pcF x y vx vy z) (n := n + 1) (fun (us : List Plc) i => (us.length : Int) ≤ i ∧ (0 < i → 1 ≤ us.length)) (a := []) (i := 0) (by omega) (by simp) (fun a j h1 h2 h => by
    (try simp only [] at h ⊢)
    have := pcF_len (x := x) (y := y) (vx := vx) (vy := vy) (z := z) (us := a) (t := j)
    have := pcF_pos (x := x) (y := y) (vx := vx) (vy := vy) (z := z) (us := a) (t := j)
    omega)
  (try simp only [] at h)
  unfold pcR; omega
theorem pcV_dif {x y vx vy h c n z : Int} : difN (pcV x y vx vy h c n z) := by
  unfold pcV; split
  · rename_i ok
    simp only [pcO, Bool.and_eq_true] at ok
    have hb := pcK_bd ok.1
    exact foldI_ind (f := pcF x y vx vy z) (n := n + 1) (fun (us : List Plc) i => difN us) (a := []) (i := 0) (by omega) (fun i hi => by simp at hi) (fun a j h1 h2 h => pcF_dif h)
  · intro i hi; simp at hi
theorem pc_dif {x y vx vy h c n z i : Int} (h0 : 1 ≤ i) (h1 : i < (pcV x y vx vy h c n z).length)
    (hq : (((pcV x y vx vy h c n z).getD i.toNat default).x == ((pcV x y vx vy h c n z).getD (IntKind.i64.wrap (i - 1)).toNat default).x && ((pcV x y vx vy h c n z).getD i.toNat default).y == ((pcV x y vx vy h c n z).getD (IntKind.i64.wrap (i - 1)).toNat default).y) = true) : False := by
  have hl := pcV_len (x := x) (y := y) (vx := vx) (vy := vy) (h := h) (c := c) (n := n) (z := z)
  rw [wrap_id (n := i - 1) (by omega) (by omega)] at hq
  simp only [Bool.and_eq_true, beq_iff_eq] at hq
  have := pcV_dif (x := x) (y := y) (vx := vx) (vy := vy) (h := h) (c := c) (n := n) (z := z) (i.toNat - 1) (by omega)
  have e1 : i.toNat - 1 + 1 = i.toNat := by omega
  have e2 : (i - 1).toNat = i.toNat - 1 := by omega
  rw [e1] at this; rw [e2] at hq
  exact this hq
end Go.Proofs.Ytboedpdpfomjgaa
