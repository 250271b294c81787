/-
Contracts of SharedTime, over plain data (as XB3, with the rows of XB5).
No condition but those that the contracts name.
-/
import Derived.Test.YtpcaijpolkcipaaB5
namespace Go.Proofs.Ytpcaijpolkcipaa
open Eng
set_option linter.unusedSimpArgs false
set_option linter.unusedVariables false
def awGo (ts : List It) (lo hi : Int) (i : Int) : Bool := if i < ts.length then (if inB (ts.getD i.toNat default).n lo hi = true then awGo ts lo hi (i + 1) else false) else true
termination_by (ts.length - i).toNat
set_option maxRecDepth 100000 in
set_option maxHeartbeats 4000000 in
theorem allWithin_gc {ts : List It} {lo hi : Int} (hl : ts.length ≤ 1048576) : GC Try.prog 54 [.sl 1 (ts.map It.e), vi lo, vi hi] [] (fun r_ hs_ => r_ = vb (awGo ts lo hi 0) ∧ hs_ = []) := by
  refine GC.of_func [] Try.call54 Try.func54 rfl ⟨by kernel_rfl, by kernel_rfl⟩ (by kernel_rfl) ?_
  rw [Try.results54]
  simp -implicitDefEqProofs (maxSteps := 4000000) only [sim0, sim1, sim2, sim3, sim4, sim5, sim6, sim7, sim8, ↓reduceIte, Nat.reduceEqDiff, Nat.reduceAdd, Nat.reduceMul, Nat.reduceSub, Nat.reduceLT, Nat.reduceLeDiff, reduceCtorEq, Int.reduceToNat, Int.reduceNeg, Nat.reduceBEq, simx, ty, It.row, idxS_map, loadS_map, stoS_map, ← List.map_take, ← List.map_drop]
  repeat' (first
    | ((with_reducible refine onCall ?_); first
      | (refine GC.callS within_gc rfl rfl ?_ <;> try simp -implicitDefEqProofs (maxSteps := 4000000) only [sim0, sim1, sim2, sim3, sim4, sim5, sim6, sim7, sim8, ↓reduceIte, Nat.reduceEqDiff, Nat.reduceAdd, Nat.reduceMul, Nat.reduceSub, Nat.reduceLT, Nat.reduceLeDiff, reduceCtorEq, Int.reduceToNat, Int.reduceNeg, Nat.reduceBEq, simx, ty, It.row, idxS_map, loadS_map, stoS_map, ← List.map_take, ← List.map_drop])
      | fail)
    | ((with_reducible refine onCode ?_); first
      | (refine onLid 2 ?_ (by rfl); refine acode_prune [0, 1, 2, 6, 8, 9, 10, 11] ?_; simp only [prn_cons, prn_nil, lk_cons, lk_emp, Nat.reduceEqDiff, ↓reduceIte]; refine acode_loopS2 2 (by rfl) (α := Int) (fun i => [(11, vi i)]) [6, 8, 12, 13, 14, 15, 16, 17, 18, 19, 20] [6, 8] (by kernel_rfl) (fun i => (0 ≤ i ∧ i ≤ ts.length) ∧ awGo ts lo hi 0 = awGo ts lo hi i) (fun i => (ts.length - i).toNat) (0) ?_ (by (try simp only []) <;> first | (simp_all; done) | (simp_all; omega) | omega) ?_; (focus ((try dsimp only []); (repeat' (first | exact agr_none | exact lk_hd | refine lk_tl (by decide) ?_ | refine agr_one ?_ ?_)); done)); rintro i hJ; (try simp only [] at hJ); have hJ2 := hJ; simp -implicitDefEqProofs (maxSteps := 4000000) only [sim0, sim1, sim2, sim3, sim4, sim5, sim6, sim7, sim8, ↓reduceIte, Nat.reduceEqDiff, Nat.reduceAdd, Nat.reduceMul, Nat.reduceSub, Nat.reduceLT, Nat.reduceLeDiff, reduceCtorEq, Int.reduceToNat, Int.reduceNeg, Nat.reduceBEq, simx, ty, It.row, idxS_map, loadS_map, stoS_map, ← List.map_take, ← List.map_drop])
      | fail)
    | ((with_reducible refine onLps ?_); first
      | (refine lps2_end (α := Int) (mods := (fun i => [(11, vi i)])) _ (by (try dsimp only []); simp only [agr_cons, agr_nil, lk_cons, lk_emp, Nat.reduceEqDiff, ↓reduceIte, and_true]; repeat' (first | rfl | apply And.intro)) (by unfold undK; kernel_rfl) ?_ ?_ <;> ((try simp only []); (obtain ⟨hb, hg⟩ := hJ; have e : IntKind.i64.wrap (i + 1) = i + 1 := wrap_id (by omega) (by omega); rw [e]; first | omega | (refine ⟨by omega, ?_⟩; rw [hg, awGo.eq_1 ts lo hi i, if_pos (by omega)]; simp_all; done))))
      | fail)
    | ((with_reducible refine onFin ?_); first
      | (refine fin_nil ?_; (first | (obtain ⟨hb, hg⟩ := hJ; rw [awGo.eq_1 ts lo hi i] at hg; (first | rw [if_pos (by omega)] at hg | rw [if_neg (by omega)] at hg); simp_all [fins]; done) | (simp_all [fins]; done) | (simp_all [-Int.not_lt, -Int.not_le, fins]; done) | (simp_all [fins]; omega)))
      | fail)
    | (with_reducible refine ite_intro (fun hq => ?_) (fun hq => ?_))
    | (with_reducible refine And.intro (fun hq => ?_) (fun hq => ?_))
    | (with_reducible refine And.intro ?_ ?_)
    | ((fail_if_success (with_reducible refine onCode ?_)); (fail_if_success (with_reducible refine onLps ?_)); (fail_if_success (with_reducible refine onLpd ?_)); (fail_if_success (with_reducible refine onLpe ?_)); (fail_if_success (with_reducible refine onFin ?_)); (fail_if_success (with_reducible refine onCall ?_)); (fail_if_success (with_reducible refine onQcall ?_)); first | omega | (rw [wrap_id (by omega) (by omega)]; omega) | (obtain ⟨hb, hg⟩ := hJ; rw [awGo.eq_1 ts lo hi i] at hg; (first | rw [if_pos (by omega)] at hg | rw [if_neg (by omega)] at hg); simp_all [fins]; done)))

def fdV (a b : Int) : Int := if a.tmod b < 0 then IntKind.i64.wrap (IntKind.i64.wrap (a.tdiv b) - 1) else IntKind.i64.wrap (a.tdiv b)
set_option maxRecDepth 100000 in
set_option maxHeartbeats 4000000 in
theorem floorDiv_gc {a b : Int} (hb : b ≠ 0) : GC Try.prog 55 [vi a, vi b] [] (fun r_ hs_ => r_ = vi (fdV a b) ∧ hs_ = []) := by
  refine GC.of_func [] Try.call55 Try.func55 rfl ⟨by kernel_rfl, by kernel_rfl⟩ (by kernel_rfl) ?_
  rw [Try.results55]
  simp -implicitDefEqProofs (maxSteps := 4000000) only [sim0, sim1, sim2, sim3, sim4, sim5, sim6, sim7, sim8, ↓reduceIte, Nat.reduceEqDiff, Nat.reduceAdd, Nat.reduceMul, Nat.reduceSub, Nat.reduceLT, Nat.reduceLeDiff, reduceCtorEq, Int.reduceToNat, Int.reduceNeg, Nat.reduceBEq, simx, ty]
  repeat' (first
    | ((with_reducible refine onFin ?_); first
      | (refine fin_nil ?_; (first | (simp_all [fins, fdV]; done) | (simp_all [-Int.not_lt, -Int.not_le, fins, fdV]; done) | (simp_all [fins, fdV]; omega)))
      | fail)
    | (with_reducible refine ite_intro (fun hq => ?_) (fun hq => ?_))
    | (with_reducible refine And.intro (fun hq => ?_) (fun hq => ?_))
    | (with_reducible refine And.intro ?_ ?_)
    | ((fail_if_success (with_reducible refine onCode ?_)); (fail_if_success (with_reducible refine onLps ?_)); (fail_if_success (with_reducible refine onLpd ?_)); (fail_if_success (with_reducible refine onLpe ?_)); (fail_if_success (with_reducible refine onFin ?_)); (fail_if_success (with_reducible refine onCall ?_)); (fail_if_success (with_reducible refine onQcall ?_)); first | ((exact hb); done) | omega | (rw [wrap_id (by omega) (by omega)]; omega) | (simp_all; done)))

theorem w5 {p q r : Int} : IntKind.i64.wrap (IntKind.i64.wrap (p + q) - r) = IntKind.i64.wrap (p + q - r) := by
  simp only [IntKind.wrap_i64]; omega
theorem w6 {p q r : Int} : IntKind.i64.wrap (p + IntKind.i64.wrap (q - r)) = IntKind.i64.wrap (p + q - r) := by
  simp only [IntKind.wrap_i64]; omega
def stGo (os ts : List It) (i s c : Int) : Int × Int :=
  if i < ts.length then (if 0 ≤ (ts.getD i.toNat default).n then stGo os ts (i + 1) (IntKind.i64.wrap (s + (ts.getD i.toNat default).n - (os.getD i.toNat default).n)) (IntKind.i64.wrap (c + 1)) else stGo os ts (i + 1) s c) else (s, c)
termination_by (ts.length - i).toNat
def stP (os ts : List It) : Bool := inB os.length 1 6 && (ts.length : Int) == os.length && awGo os (-1000000) 1000000 0 && awGo ts (-1) 1000000 0
def stOk (os ts : List It) : Bool := stP os ts && !((stGo os ts 0 0 0).2 == 0)
def stV (os ts : List It) : Int := if stOk os ts = true then fdV (stGo os ts 0 0 0).1 (stGo os ts 0 0 0).2 else 0
set_option maxRecDepth 100000 in
set_option maxHeartbeats 4000000 in
theorem sharedTime_gc {os ts : List It} (hl : os.length ≤ 1048576 ∧ ts.length ≤ 1048576) : GC Try.prog 15 [.sl 1 (os.map It.e), .sl 1 (ts.map It.e)] [] (fun r_ hs_ => r_ = .tup [vi (stV os ts), vb (stOk os ts)] ∧ hs_ = []) := by
  refine GC.of_func [] Try.call15 Try.func15 rfl ⟨by kernel_rfl, by kernel_rfl⟩ (by kernel_rfl) ?_
  rw [Try.results15]
  simp -implicitDefEqProofs (maxSteps := 4000000) only [sim0, sim1, sim2, sim3, sim4, sim5, sim6, sim7, sim8, ↓reduceIte, Nat.reduceEqDiff, Nat.reduceAdd, Nat.reduceMul, Nat.reduceSub, Nat.reduceLT, Nat.reduceLeDiff, reduceCtorEq, Int.reduceToNat, Int.reduceNeg, Nat.reduceBEq, simx, ty, It.row, idxS_map, loadS_map, stoS_map, ← List.map_take, ← List.map_drop]
  repeat' (first
    | ((with_reducible refine onCall ?_); first
      | (refine GC.callS within_gc rfl rfl ?_ <;> try simp -implicitDefEqProofs (maxSteps := 4000000) only [sim0, sim1, sim2, sim3, sim4, sim5, sim6, sim7, sim8, ↓reduceIte, Nat.reduceEqDiff, Nat.reduceAdd, Nat.reduceMul, Nat.reduceSub, Nat.reduceLT, Nat.reduceLeDiff, reduceCtorEq, Int.reduceToNat, Int.reduceNeg, Nat.reduceBEq, simx, ty, It.row, idxS_map, loadS_map, stoS_map, ← List.map_take, ← List.map_drop])
      | (refine GC.callR (by repeat' (first | exact rdL_nil | refine rdL_cons ?_ ?_ | exact rd_v | exact rd_sl | exact rd_nil | refine rd_ref rfl (by simp) (plnLL_map (fun _ => rfl) _) | refine rd_rs rfl (by simp; omega) (plnLL_map (fun _ => rfl) _) | refine rd_agg ?_)) (allWithin_gc ?_) rfl ?_ <;> try simp -implicitDefEqProofs (maxSteps := 4000000) only [sim0, sim1, sim2, sim3, sim4, sim5, sim6, sim7, sim8, ↓reduceIte, Nat.reduceEqDiff, Nat.reduceAdd, Nat.reduceMul, Nat.reduceSub, Nat.reduceLT, Nat.reduceLeDiff, reduceCtorEq, Int.reduceToNat, Int.reduceNeg, Nat.reduceBEq, simx, ty, It.row, idxS_map, loadS_map, stoS_map, ← List.map_take, ← List.map_drop])
      | (refine GC.callS (floorDiv_gc ?_) rfl rfl ?_ <;> try simp -implicitDefEqProofs (maxSteps := 4000000) only [sim0, sim1, sim2, sim3, sim4, sim5, sim6, sim7, sim8, ↓reduceIte, Nat.reduceEqDiff, Nat.reduceAdd, Nat.reduceMul, Nat.reduceSub, Nat.reduceLT, Nat.reduceLeDiff, reduceCtorEq, Int.reduceToNat, Int.reduceNeg, Nat.reduceBEq, simx, ty, It.row, idxS_map, loadS_map, stoS_map, ← List.map_take, ← List.map_drop])
      | fail)
    | ((with_reducible refine onCode ?_); first
      | (refine onLid 5 ?_ (by rfl); refine acode_prune [0, 1, 4, 5, 6, 7, 8, 9, 31, 32, 33] ?_; simp only [prn_cons, prn_nil, lk_cons, lk_emp, Nat.reduceEqDiff, ↓reduceIte]; refine acode_loopS2 5 (by rfl) (α := Int × Int × Int) (fun ⟨i, s, c⟩ => [(33, vi i), (6, vi s), (7, vi c)]) [8, 9, 34, 35, 36, 37, 38, 39, 40, 41, 42, 43, 44, 45, 46, 47, 48, 49, 50] [8, 9] (by kernel_rfl) (fun ⟨i, s, c⟩ => (0 ≤ i ∧ i ≤ ts.length) ∧ (stP os ts = true ∧ (ts.length : Int) = os.length) ∧ stGo os ts 0 0 0 = stGo os ts i s c) (fun ⟨i, s, c⟩ => (ts.length - i).toNat) ((0, 0, 0)) ?_ (by (try simp only []) <;> first | (simp_all [stOk, stV, stP]; done) | (simp_all [stOk, stV, stP]; omega) | omega) ?_; (focus ((try dsimp only []); (repeat' (first | exact agr_none | exact lk_hd | refine lk_tl (by decide) ?_ | refine agr_one ?_ ?_)); done)); rintro ⟨i, s, c⟩ hJ; (try simp only [] at hJ); have hJ5 := hJ; simp -implicitDefEqProofs (maxSteps := 4000000) only [sim0, sim1, sim2, sim3, sim4, sim5, sim6, sim7, sim8, ↓reduceIte, Nat.reduceEqDiff, Nat.reduceAdd, Nat.reduceMul, Nat.reduceSub, Nat.reduceLT, Nat.reduceLeDiff, reduceCtorEq, Int.reduceToNat, Int.reduceNeg, Nat.reduceBEq, simx, ty, It.row, idxS_map, loadS_map, stoS_map, ← List.map_take, ← List.map_drop])
      | fail)
    | ((with_reducible refine onLps ?_); first
      | (refine lps2_end (α := Int × Int × Int) (mods := (fun ⟨i, s, c⟩ => [(33, vi i), (6, vi s), (7, vi c)])) (_, _, _) (by (try dsimp only []); simp only [agr_cons, agr_nil, lk_cons, lk_emp, Nat.reduceEqDiff, ↓reduceIte, and_true]; repeat' (first | rfl | apply And.intro)) (by unfold undK; kernel_rfl) ?_ ?_ <;> ((try simp only []); (obtain ⟨hb, hm, hg⟩ := hJ; have e : IntKind.i64.wrap (i + 1) = i + 1 := wrap_id (by omega) (by omega); rw [e]; first | omega | (refine ⟨by omega, hm, ?_⟩; rw [hg, stGo.eq_1 os ts i s c, if_pos (by omega)]; first | (rw [if_pos (by assumption)]; simp [w6]; done) | (rw [if_neg (by assumption)]; done)))))
      | fail)
    | ((with_reducible refine onFin ?_); first
      | (refine fin_nil ?_; (first | (obtain ⟨hb, hm, hg⟩ := hJ; rw [stGo.eq_1 os ts i s c, if_neg (by omega)] at hg; first | (have h0 : (c == 0) = false := eq_false_of_ne_true hq; have hk : stOk os ts = true := (by simp only [stOk, hm.1, hg, h0, Bool.not_false, Bool.and_self]); have hv : stV os ts = fdV s c := (by simp only [stV, hk, hg, ↓reduceIte]); rw [hk, hv]; rfl) | (simp_all [stOk, stV, fins]; done)) | (simp_all [fins, stOk, stV, stP]; done) | (simp_all [-Int.not_lt, -Int.not_le, fins, stOk, stV, stP]; done) | (simp_all [fins, stOk, stV, stP]; omega)))
      | fail)
    | (with_reducible refine ite_intro (fun hq => ?_) (fun hq => ?_))
    | (with_reducible refine And.intro (fun hq => ?_) (fun hq => ?_))
    | (with_reducible refine And.intro ?_ ?_)
    | ((fail_if_success (with_reducible refine onCode ?_)); (fail_if_success (with_reducible refine onLps ?_)); (fail_if_success (with_reducible refine onLpd ?_)); (fail_if_success (with_reducible refine onLpe ?_)); (fail_if_success (with_reducible refine onFin ?_)); (fail_if_success (with_reducible refine onCall ?_)); (fail_if_success (with_reducible refine onQcall ?_)); first | ((first | omega | (simp_all; done)); done) | omega | (rw [wrap_id (by omega) (by omega)]; omega) | (obtain ⟨hb, hm, hg⟩ := hJ; rw [stGo.eq_1 os ts i s c, if_neg (by omega)] at hg; first | (have h0 : (c == 0) = false := eq_false_of_ne_true hq; have hk : stOk os ts = true := (by simp only [stOk, hm.1, hg, h0, Bool.not_false, Bool.and_self]); have hv : stV os ts = fdV s c := (by simp only [stV, hk, hg, ↓reduceIte]); rw [hk, hv]; rfl) | (simp_all [stOk, stV, fins]; done))))

theorem fd_eq {a b : Int} (h1 : -100000000 ≤ a) (h2 : a ≤ 100000000) (h3 : 0 < b) (h4 : b ≤ 6) : (IntKind.i64.wrap (a.tdiv b) = a.tdiv b) ∧ (IntKind.i64.wrap (a.tdiv b * b) = a.tdiv b * b) ∧ ((a < a.tdiv b * b) ↔ a.tmod b < 0) := by
  have e := Int.tmod_def a b
  have e1 : (a.tdiv b).natAbs ≤ a.natAbs := by rw [Int.natAbs_tdiv]; exact Nat.div_le_self _ _
  have e2 : (a.tmod b).natAbs < b.natAbs := by rw [Int.natAbs_tmod]; exact Nat.mod_lt _ (by omega)
  rw [Int.mul_comm b] at e
  generalize a.tdiv b * b = p at *
  refine ⟨wrap_id (by omega) (by omega), wrap_id (by omega) (by omega), by omega⟩
theorem inB_nf {n lo hi : Int} (h : ¬ inB n lo hi = false) : lo ≤ n ∧ n ≤ hi := inB_iff.1 (by simpa using h)
theorem aw_step {ts : List It} {lo hi i : Int} (h : i < ts.length) (h1 : ¬ inB (ts.getD i.toNat default).n lo hi = false) : awGo ts lo hi i = awGo ts lo hi (i + 1) := by
  rw [awGo.eq_1, if_pos h, if_pos (by simpa using h1)]
theorem aw_bad {ts : List It} {lo hi i : Int} (h : i < ts.length) (h1 : inB (ts.getD i.toNat default).n lo hi = false) : awGo ts lo hi i = false := by
  rw [awGo.eq_1, if_pos h, if_neg (by rw [h1]; decide)]
theorem aw_end {ts : List It} {lo hi i : Int} (h : ¬ i < ts.length) : awGo ts lo hi i = true := by
  rw [awGo.eq_1, if_neg h]
theorem stP_not {os ts : List It} (h : awGo os (-1000000) 1000000 0 = false ∨ awGo ts (-1) 1000000 0 = false) : stP os ts = false := by
  rcases h with h | h <;> simp [stP, h]
theorem stP_yes {os ts : List It} (h0 : inB os.length 1 6 = true) (h1 : (ts.length : Int) = os.length) (h2 : awGo os (-1000000) 1000000 0 = true) (h3 : awGo ts (-1) 1000000 0 = true) : stP os ts = true := by
  simp [stP, h0, h1, h2, h3]
theorem st_fin {s c : Int} (h1 : -100000000 ≤ s) (h2 : s ≤ 100000000) (h3 : 0 < c) (h4 : c ≤ 6) : fdV s c = if s < IntKind.i64.wrap (IntKind.i64.wrap (s.tdiv c) * c) then IntKind.i64.wrap (IntKind.i64.wrap (s.tdiv c) - 1) else IntKind.i64.wrap (s.tdiv c) := by
  obtain ⟨e1, e2, e3⟩ := fd_eq h1 h2 h3 h4
  rw [e1, e2]
  unfold fdV
  rw [e1]
  by_cases h : s < s.tdiv c * c
  · rw [if_pos h, if_pos (e3.1 h)]
  · rw [if_neg h, if_neg (fun h' => h (e3.2 h'))]
set_option maxRecDepth 100000 in
set_option maxHeartbeats 4000000 in
theorem sSharedTime_gc {os ts : List It} (hl : os.length ≤ 1048576 ∧ ts.length ≤ 1048576) : GC Try.prog 13 [.sl 1 (os.map It.e), .sl 1 (ts.map It.e)] [] (fun r_ hs_ => r_ = .tup [vi (stV os ts), vb (stOk os ts)] ∧ hs_ = []) := by
  refine GC.of_func [(10, .val 0 (.val 1 (.val 2 (.val 3 (.val 4 (.val 5 (.val 6 (.val 7 (.val 8 (.val 9 (.val 10 (.val 11 (.done)))))))))))))] Try.call13 Try.func13 rfl ⟨by kernel_rfl, by kernel_rfl⟩ (by kernel_rfl) ?_
  rw [Try.results13]
  simp -implicitDefEqProofs (maxSteps := 4000000) only [sim0, sim1, sim2, sim3, sim4, sim5, sim6, sim7, sim8, ↓reduceIte, Nat.reduceEqDiff, Nat.reduceAdd, Nat.reduceMul, Nat.reduceSub, Nat.reduceLT, Nat.reduceLeDiff, reduceCtorEq, Int.reduceToNat, Int.reduceNeg, Nat.reduceBEq, simx, ty, It.row, idxS_map, loadS_map, stoS_map, ← List.map_take, ← List.map_drop]
  repeat' (first
    | ((with_reducible refine onCall ?_); first
      | (refine GC.callS l1In_gc rfl rfl ?_ <;> try simp -implicitDefEqProofs (maxSteps := 4000000) only [sim0, sim1, sim2, sim3, sim4, sim5, sim6, sim7, sim8, ↓reduceIte, Nat.reduceEqDiff, Nat.reduceAdd, Nat.reduceMul, Nat.reduceSub, Nat.reduceLT, Nat.reduceLeDiff, reduceCtorEq, Int.reduceToNat, Int.reduceNeg, Nat.reduceBEq, simx, ty, It.row, idxS_map, loadS_map, stoS_map, ← List.map_take, ← List.map_drop])
      | fail)
    | ((with_reducible refine onCode ?_); first
      | (refine onLid 5 ?_ (by rfl); refine acode_prune [0, 1, 4, 5, 6, 7, 8, 9] ?_; simp only [prn_cons, prn_nil, lk_cons, lk_emp, Nat.reduceEqDiff, ↓reduceIte]; refine acode_loopS2 5 (by rfl) (α := Int × Int × Int) (fun ⟨i, s, c⟩ => [(8, vi i), (6, vi s), (7, vi c)]) [4, 5, 21, 22, 23, 24, 25, 26, 27, 28, 29, 30, 31, 32, 33, 34, 35, 36, 37, 38, 39, 40, 41, 42, 43, 44, 45, 46, 47, 48, 49, 50, 51, 52, 53, 54, 55, 56, 57, 58] [4, 5] (by kernel_rfl) (fun ⟨i, s, c⟩ => (0 ≤ i ∧ i ≤ ts.length) ∧ (inB os.length 1 6 = true ∧ (ts.length : Int) = os.length) ∧ (-(1000000 * i) ≤ s ∧ s ≤ 2000000 * i ∧ 0 ≤ c ∧ c ≤ i) ∧ (awGo os (-1000000) 1000000 0 = awGo os (-1000000) 1000000 i ∧ awGo ts (-1) 1000000 0 = awGo ts (-1) 1000000 i) ∧ stGo os ts 0 0 0 = stGo os ts i s c) (fun ⟨i, s, c⟩ => (ts.length - i).toNat) ((0, 0, 0)) ?_ (by (try simp only []) <;> first | (simp_all [stOk, stV, stP]; done) | (simp_all [stOk, stV, stP]; omega) | omega) ?_; (focus ((try dsimp only []); (repeat' (first | exact agr_none | exact lk_hd | refine lk_tl (by decide) ?_ | refine agr_one ?_ ?_)); done)); rintro ⟨i, s, c⟩ hJ; (try simp only [] at hJ); have hJ5 := hJ; simp -implicitDefEqProofs (maxSteps := 4000000) only [sim0, sim1, sim2, sim3, sim4, sim5, sim6, sim7, sim8, ↓reduceIte, Nat.reduceEqDiff, Nat.reduceAdd, Nat.reduceMul, Nat.reduceSub, Nat.reduceLT, Nat.reduceLeDiff, reduceCtorEq, Int.reduceToNat, Int.reduceNeg, Nat.reduceBEq, simx, ty, It.row, idxS_map, loadS_map, stoS_map, ← List.map_take, ← List.map_drop])
      | fail)
    | ((with_reducible refine onLps ?_); first
      | (refine lps2_end (α := Int × Int × Int) (mods := (fun ⟨i, s, c⟩ => [(8, vi i), (6, vi s), (7, vi c)])) (_, _, _) (by (try dsimp only []); simp only [agr_cons, agr_nil, lk_cons, lk_emp, Nat.reduceEqDiff, ↓reduceIte, and_true]; repeat' (first | rfl | apply And.intro)) (by unfold undK; kernel_rfl) ?_ ?_ <;> ((try simp only []); (obtain ⟨hb, hm, hc, ha, hg⟩ := hJ; have hm2 := inB_iff.1 hm.1; have q1 := inB_nf (n := (os.getD i.toNat default).n) (lo := -1000000) (hi := 1000000) (by assumption); have q2 := inB_nf (n := (ts.getD i.toNat default).n) (lo := -1) (hi := 1000000) (by assumption); have e : IntKind.i64.wrap (i + 1) = i + 1 := wrap_id (by omega) (by omega); have e4 : IntKind.i64.wrap (c + 1) = c + 1 := wrap_id (by omega) (by omega); have e3 : IntKind.i64.wrap (s + (ts.getD i.toNat default).n - (os.getD i.toNat default).n) = s + (ts.getD i.toNat default).n - (os.getD i.toNat default).n := wrap_id (by omega) (by omega); rw [e]; first | omega | (have a1 := ha.1.trans (aw_step (by omega) (by assumption)); have a2 := ha.2.trans (aw_step (by omega) (by assumption)); rw [stGo.eq_1 os ts i s c, if_pos (by omega)] at hg; first | (rw [if_pos (by assumption), e3, e4] at hg; rw [w5, e3, e4]; exact ⟨by omega, hm, by omega, ⟨a1, a2⟩, hg⟩) | (rw [if_neg (by assumption)] at hg; exact ⟨by omega, hm, by omega, ⟨a1, a2⟩, hg⟩)))))
      | fail)
    | ((with_reducible refine onFin ?_); first
      | (refine fin_nil ?_; (first | (obtain ⟨hb, hm, hc, ha, hg⟩ := hJ; have hm2 := inB_iff.1 hm.1; by_cases hi : i < ts.length; (case pos => (first | (exfalso; omega; done) | (have hP : stP os ts = false := stP_not (by first | exact .inl (ha.1.trans (aw_bad (by omega) (by assumption))) | exact .inr (ha.2.trans (aw_bad (by omega) (by assumption)))); simp [stOk, stV, hP, fins]; done))); (case neg => (first | (exfalso; omega; done) | (have hP := stP_yes hm.1 hm.2 (ha.1.trans (aw_end (by omega))) (ha.2.trans (aw_end (by omega))); rw [stGo.eq_1 os ts i s c, if_neg hi] at hg; by_cases h0 : c = 0; (case pos => (subst h0; first | (exfalso; simp_all; done) | (simp [stOk, stV, hP, hg, fins]; done))); (case neg => (first | (exfalso; exact h0 (by simpa using hq)) | (have hf := st_fin (s := s) (c := c) (by omega) (by omega) (by omega) (by omega); have hk : stOk os ts = true := (by simp [stOk, hP, hg, h0]); have hv : stV os ts = fdV s c := (by simp [stV, hk, hg]); rw [hk, hv, hf]; first | (rw [if_pos (by assumption)]; rfl) | (rw [if_neg (by assumption)]; rfl)))))))) | (simp_all [fins, stOk, stV, stP]; done) | (simp_all [-Int.not_lt, -Int.not_le, fins, stOk, stV, stP]; done) | (simp_all [fins, stOk, stV, stP]; omega)))
      | fail)
    | (with_reducible refine ite_intro (fun hq => ?_) (fun hq => ?_))
    | (with_reducible refine And.intro (fun hq => ?_) (fun hq => ?_))
    | (with_reducible refine And.intro ?_ ?_)
    | ((fail_if_success (with_reducible refine onCode ?_)); (fail_if_success (with_reducible refine onLps ?_)); (fail_if_success (with_reducible refine onLpd ?_)); (fail_if_success (with_reducible refine onLpe ?_)); (fail_if_success (with_reducible refine onFin ?_)); (fail_if_success (with_reducible refine onCall ?_)); (fail_if_success (with_reducible refine onQcall ?_)); first | ((first | omega | (simp_all; done)); done) | omega | (rw [wrap_id (by omega) (by omega)]; omega) | (obtain ⟨hb, hm, hc, ha, hg⟩ := hJ; have hm2 := inB_iff.1 hm.1; by_cases hi : i < ts.length; (case pos => (first | (exfalso; omega; done) | (have hP : stP os ts = false := stP_not (by first | exact .inl (ha.1.trans (aw_bad (by omega) (by assumption))) | exact .inr (ha.2.trans (aw_bad (by omega) (by assumption)))); simp [stOk, stV, hP, fins]; done))); (case neg => (first | (exfalso; omega; done) | (have hP := stP_yes hm.1 hm.2 (ha.1.trans (aw_end (by omega))) (ha.2.trans (aw_end (by omega))); rw [stGo.eq_1 os ts i s c, if_neg hi] at hg; by_cases h0 : c = 0; (case pos => (subst h0; first | (exfalso; simp_all; done) | (simp [stOk, stV, hP, hg, fins]; done))); (case neg => (first | (exfalso; exact h0 (by simpa using hq)) | (have hf := st_fin (s := s) (c := c) (by omega) (by omega) (by omega) (by omega); have hk : stOk os ts = true := (by simp [stOk, hP, hg, h0]); have hv : stV os ts = fdV s c := (by simp [stV, hk, hg]); rw [hk, hv, hf]; first | (rw [if_pos (by assumption)]; rfl) | (rw [if_neg (by assumption)]; rfl))))))))))

end Go.Proofs.Ytpcaijpolkcipaa
