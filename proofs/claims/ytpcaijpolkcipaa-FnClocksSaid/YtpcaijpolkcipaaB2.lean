/-
Contracts of DriftOf, over plain data, and the law FnExactDriftOf.
No condition but those that the contracts name.
-/
import Derived.Test.YtpcaijpolkcipaaB1
namespace Go.Proofs.Ytpcaijpolkcipaa
open Eng
set_option linter.unusedSimpArgs false
set_option linter.unusedVariables false
theorem cp_all {ts : List Pr} : ∀ (n : Nat) (i : Int), (ts.length - i).toNat = n → 0 ≤ i → cpGo ts i = true → ∀ j : Int, i ≤ j → j < ts.length →
    Pr.b' (ts.getD j.toNat default) = true ∧ (0 < j → (ts.getD (j - 1).toNat default).a < (ts.getD j.toNat default).a)
  | n, i, hn, h0, h, j, h1, h2 => by
    rw [cpGo.eq_1, if_pos (by omega)] at h
    split at h
    · rename_i hc
      by_cases hj : i = j
      · subst hj
        exact ⟨hc.1, fun hp => by have := hc.2; simp only [not_and, Int.not_le] at this; exact this hp⟩
      · cases n with
        | zero => omega
        | succ n => exact cp_all n (i + 1) (by omega) (by omega) h j (by omega) h2
    · cases h
theorem cp_inc {ts : List Pr} (h : cpGo ts 0 = true) : ∀ (n : Nat), 0 < n → n < ts.length → (ts.getD 0 default).a < (ts.getD n default).a
  | 0, h0, _ => by omega
  | n + 1, _, h2 => by
    have h1 := (cp_all (ts.length - 0 : Int).toNat 0 rfl (by omega) h (n + 1) (by omega) (by omega)).2 (by omega)
    have e1 : ((n : Int) + 1 - 1).toNat = n := by omega
    have e2 : ((n : Int) + 1).toNat = n + 1 := by omega
    rw [e1, e2] at h1
    rcases Nat.eq_zero_or_pos n with hz | hz
    · subst hz; exact h1
    · have := cp_inc h n hz (by omega); omega
def drF (ts : List Pr) : Pr := ts.getD 0 default
def drL (ts : List Pr) : Pr := ts.getD (ts.length - 1) default
def drN (ts : List Pr) : Int := IntKind.i64.wrap ((drL ts).b - (drF ts).b - (drL ts).a + (drF ts).a)
def drD (ts : List Pr) : Int := IntKind.i64.wrap ((drL ts).a - (drF ts).a)
def drOk (ts : List Pr) : Bool := cpB ts && !((ts.length : Int) == 1)
theorem dr_ne {ts : List Pr} (h : cpB ts = true) (h1 : ¬ (ts.length : Int) = 1) : drD ts ≠ 0 := by
  simp only [cpB, Bool.and_eq_true, inB_iff] at h
  obtain ⟨⟨h2, h3⟩, h4⟩ := h
  have h5 := cp_inc h4 (ts.length - 1) (by omega) (by omega)
  have a1 := (cp_all (ts.length - 0 : Int).toNat 0 rfl (by omega) h4 0 (by omega) (by omega)).1
  have a2 := (cp_all (ts.length - 0 : Int).toNat 0 rfl (by omega) h4 (ts.length - 1) (by omega) (by omega)).1
  have e2 : ((ts.length : Int) - 1).toNat = ts.length - 1 := by omega
  rw [e2] at a2
  simp only [Pr.b', Bool.and_eq_true, inB_iff] at a1 a2
  have a3 := a1.1
  have e3 : (0 : Int).toNat = 0 := rfl
  rw [e3] at a3
  unfold drD drL drF
  rw [wrap_id (by omega) (by omega)]
  omega
def dr0 (ts : List Pr) : Int := if drOk ts = true then IntKind.i64.wrap ((drN ts).tdiv (fr (drN ts) (drD ts))) else 0
def dr1 (ts : List Pr) : Int := if drOk ts = true then IntKind.i64.wrap ((drD ts).tdiv (fr (drN ts) (drD ts))) else 0
theorem w3 {p q r s : Int} : IntKind.i64.wrap (IntKind.i64.wrap (IntKind.i64.wrap (p - q) - r) + s) = IntKind.i64.wrap (p - q - r + s) := by
  simp only [IntKind.wrap_i64]; omega
theorem w4 {p q r s : Int} : IntKind.i64.wrap (IntKind.i64.wrap (p - q) - IntKind.i64.wrap (r - s)) = IntKind.i64.wrap (p - q - r + s) := by
  simp only [IntKind.wrap_i64]; omega
theorem dr_len {ts : List Pr} (h : ¬ cpB ts = false) : (IntKind.i64.wrap ((ts.length : Int) - 1)).toNat = ts.length - 1 ∧ 1 ≤ ts.length ∧ ts.length ≤ 12 ∧ IntKind.i64.wrap ((ts.length : Int) - 1) = ts.length - 1 := by
  simp only [Bool.not_eq_false, cpB, Bool.and_eq_true, inB_iff] at h
  have e : IntKind.i64.wrap ((ts.length : Int) - 1) = ts.length - 1 := wrap_id (by omega) (by omega)
  rw [e]; omega
theorem dr_ok {ts : List Pr} (h : ¬ cpB ts = false) (h1 : ¬ ((ts.length : Int) == 1) = true) : drOk ts = true := by
  simp only [Bool.not_eq_false] at h
  simp only [drOk, h, Bool.true_and]; simpa using h1
theorem dr_ne' {ts : List Pr} (h : ¬ cpB ts = false) (h1 : ¬ ((ts.length : Int) == 1) = true) : IntKind.i64.wrap ((ts.getD (IntKind.i64.wrap ((ts.length : Int) - 1)).toNat default).a - (ts.getD 0 default).a) ≠ 0 := by
  have h2 := dr_ne (by simpa using h) (by simpa using h1)
  rw [(dr_len h).1]; exact h2
set_option maxRecDepth 100000 in
set_option maxHeartbeats 4000000 in
theorem driftOf_gc {ts : List Pr} : GC Try.prog 23 [.sl 2 (ts.map Pr.e)] [] (fun r_ hs_ => r_ = .tup [vi (dr0 ts), vi (dr1 ts), vb (drOk ts)] ∧ hs_ = []) := by
  refine GC.of_func [(3, .val 0 (.val 1 (.val 2 (.val 3 (.val 4 (.val 5 (.val 6 (.val 7 (.val 8 (.eff [(9, [8, 7, 6, 5, 4, 3, 2, 1, 0], .eff [(10, [8, 7, 6, 5, 4, 3, 2, 1, 0], .eff [(11, [8, 7, 6, 5, 4, 3], .eff [(12, [], .done)])])]), (10, [8, 7, 6, 5, 4, 3, 2, 1, 0], .eff [(9, [8, 7, 6, 5, 4, 3, 2, 1, 0], .eff [(11, [8, 7, 6, 5, 4, 3], .eff [(12, [], .done)])])])]))))))))))] Try.call23 Try.func23 rfl ⟨by kernel_rfl, by kernel_rfl⟩ (by kernel_rfl) ?_
  rw [Try.results23]
  simp -implicitDefEqProofs (maxSteps := 4000000) only [sim0, sim1, sim2, sim3, sim4, sim5, sim6, sim7, sim8, ↓reduceIte, Nat.reduceEqDiff, Nat.reduceAdd, Nat.reduceMul, Nat.reduceSub, Nat.reduceLT, Nat.reduceLeDiff, reduceCtorEq, Int.reduceToNat, Int.reduceNeg, Nat.reduceBEq, simx, ty, Pr.row, idxS_map, loadS_map, stoS_map, ← List.map_take, ← List.map_drop]
  repeat' (first
    | ((with_reducible refine onCall ?_); first
      | (refine GC.callR (by repeat' (first | exact rdL_nil | refine rdL_cons ?_ ?_ | exact rd_v | exact rd_sl | exact rd_nil | refine rd_ref rfl (by simp) (plnLL_map (fun _ => rfl) _) | refine rd_rs rfl (by simp; omega) (plnLL_map (fun _ => rfl) _) | refine rd_agg ?_)) isValidPairs_gc rfl ?_ <;> try simp -implicitDefEqProofs (maxSteps := 4000000) only [sim0, sim1, sim2, sim3, sim4, sim5, sim6, sim7, sim8, ↓reduceIte, Nat.reduceEqDiff, Nat.reduceAdd, Nat.reduceMul, Nat.reduceSub, Nat.reduceLT, Nat.reduceLeDiff, reduceCtorEq, Int.reduceToNat, Int.reduceNeg, Nat.reduceBEq, simx, ty, Pr.row, idxS_map, loadS_map, stoS_map, ← List.map_take, ← List.map_drop])
      | (refine GC.callS (fraction_gc ?_) rfl rfl ?_ <;> try simp -implicitDefEqProofs (maxSteps := 4000000) only [sim0, sim1, sim2, sim3, sim4, sim5, sim6, sim7, sim8, ↓reduceIte, Nat.reduceEqDiff, Nat.reduceAdd, Nat.reduceMul, Nat.reduceSub, Nat.reduceLT, Nat.reduceLeDiff, reduceCtorEq, Int.reduceToNat, Int.reduceNeg, Nat.reduceBEq, simx, ty, Pr.row, idxS_map, loadS_map, stoS_map, ← List.map_take, ← List.map_drop])
      | fail)
    | ((with_reducible refine onFin ?_); first
      | (refine fin_nil ?_; (first | (have h := dr_len (ts := ts) (by assumption); have h2 := dr_ok (ts := ts) (by assumption) (by assumption); simp only [dr0, dr1, h2, ↓reduceIte, fins, drN, drD, drL, drF, w4, h.1]) | (simp_all [fins, dr0, dr1, drOk]; done) | (simp_all [-Int.not_lt, -Int.not_le, fins, dr0, dr1, drOk]; done) | (simp_all [fins, dr0, dr1, drOk]; omega)))
      | fail)
    | (with_reducible refine ite_intro (fun hq => ?_) (fun hq => ?_))
    | (with_reducible refine And.intro (fun hq => ?_) (fun hq => ?_))
    | (with_reducible refine And.intro ?_ ?_)
    | ((fail_if_success (with_reducible refine onCode ?_)); (fail_if_success (with_reducible refine onLps ?_)); (fail_if_success (with_reducible refine onLpd ?_)); (fail_if_success (with_reducible refine onLpe ?_)); (fail_if_success (with_reducible refine onFin ?_)); (fail_if_success (with_reducible refine onCall ?_)); (fail_if_success (with_reducible refine onQcall ?_)); first | ((first | (have h := dr_len (ts := ts) (by assumption); omega) | (exact dr_ne' (by assumption) (by assumption))); done) | omega | (rw [wrap_id (by omega) (by omega)]; omega) | (have h := dr_len (ts := ts) (by assumption); have h2 := dr_ok (ts := ts) (by assumption) (by assumption); simp only [dr0, dr1, h2, ↓reduceIte, fins, drN, drD, drL, drF, w4, h.1])))

set_option maxRecDepth 100000 in
set_option maxHeartbeats 4000000 in
theorem sDriftOf_gc {ts : List Pr} (hl : ts.length ≤ 1048576) : GC Try.prog 22 [.sl 2 (ts.map Pr.e)] [] (fun r_ hs_ => r_ = .tup [vi (dr0 ts), vi (dr1 ts), vb (drOk ts)] ∧ hs_ = []) := by
  refine GC.of_func [(3, .val 0 (.val 1 (.val 2 (.val 3 (.val 4 (.val 5 (.val 6 (.val 7 (.val 8 (.eff [(9, [8, 7, 6, 5, 4, 3, 2, 1, 0], .eff [(10, [8, 7, 6, 5, 4, 3, 2, 1, 0], .eff [(11, [8, 7, 6, 5, 4, 3], .eff [(12, [], .done)])])]), (10, [8, 7, 6, 5, 4, 3, 2, 1, 0], .eff [(9, [8, 7, 6, 5, 4, 3, 2, 1, 0], .eff [(11, [8, 7, 6, 5, 4, 3], .eff [(12, [], .done)])])])]))))))))))] Try.call22 Try.func22 rfl ⟨by kernel_rfl, by kernel_rfl⟩ (by kernel_rfl) ?_
  rw [Try.results22]
  simp -implicitDefEqProofs (maxSteps := 4000000) only [sim0, sim1, sim2, sim3, sim4, sim5, sim6, sim7, sim8, ↓reduceIte, Nat.reduceEqDiff, Nat.reduceAdd, Nat.reduceMul, Nat.reduceSub, Nat.reduceLT, Nat.reduceLeDiff, reduceCtorEq, Int.reduceToNat, Int.reduceNeg, Nat.reduceBEq, simx, ty, Pr.row, idxS_map, loadS_map, stoS_map, ← List.map_take, ← List.map_drop]
  repeat' (first
    | ((with_reducible refine onCall ?_); first
      | (refine GC.callR (by repeat' (first | exact rdL_nil | refine rdL_cons ?_ ?_ | exact rd_v | exact rd_sl | exact rd_nil | refine rd_ref rfl (by simp) (plnLL_map (fun _ => rfl) _) | refine rd_rs rfl (by simp; omega) (plnLL_map (fun _ => rfl) _) | refine rd_agg ?_)) (l12Good_gc ?_) rfl ?_ <;> try simp -implicitDefEqProofs (maxSteps := 4000000) only [sim0, sim1, sim2, sim3, sim4, sim5, sim6, sim7, sim8, ↓reduceIte, Nat.reduceEqDiff, Nat.reduceAdd, Nat.reduceMul, Nat.reduceSub, Nat.reduceLT, Nat.reduceLeDiff, reduceCtorEq, Int.reduceToNat, Int.reduceNeg, Nat.reduceBEq, simx, ty, Pr.row, idxS_map, loadS_map, stoS_map, ← List.map_take, ← List.map_drop])
      | (refine GC.callS (l6Reduce_gc ?_ ?_) rfl rfl ?_ <;> try simp -implicitDefEqProofs (maxSteps := 4000000) only [sim0, sim1, sim2, sim3, sim4, sim5, sim6, sim7, sim8, ↓reduceIte, Nat.reduceEqDiff, Nat.reduceAdd, Nat.reduceMul, Nat.reduceSub, Nat.reduceLT, Nat.reduceLeDiff, reduceCtorEq, Int.reduceToNat, Int.reduceNeg, Nat.reduceBEq, simx, ty, Pr.row, idxS_map, loadS_map, stoS_map, ← List.map_take, ← List.map_drop])
      | fail)
    | ((with_reducible refine onFin ?_); first
      | (refine fin_nil ?_; (first | (have h := dr_len (ts := ts) (by assumption); have h2 := dr_ok (ts := ts) (by assumption) (by assumption); simp only [dr0, dr1, h2, ↓reduceIte, fins, drN, drD, drL, drF, w3, h.1]) | (simp_all [fins, dr0, dr1, drOk]; done) | (simp_all [-Int.not_lt, -Int.not_le, fins, dr0, dr1, drOk]; done) | (simp_all [fins, dr0, dr1, drOk]; omega)))
      | fail)
    | (with_reducible refine ite_intro (fun hq => ?_) (fun hq => ?_))
    | (with_reducible refine And.intro (fun hq => ?_) (fun hq => ?_))
    | (with_reducible refine And.intro ?_ ?_)
    | ((fail_if_success (with_reducible refine onCode ?_)); (fail_if_success (with_reducible refine onLps ?_)); (fail_if_success (with_reducible refine onLpd ?_)); (fail_if_success (with_reducible refine onLpe ?_)); (fail_if_success (with_reducible refine onFin ?_)); (fail_if_success (with_reducible refine onCall ?_)); (fail_if_success (with_reducible refine onQcall ?_)); first | ((first | omega | exact (wrap_bd _).1 | exact (wrap_bd _).2 | (have h := dr_len (ts := ts) (by assumption); omega) | (exact dr_ne' (by assumption) (by assumption))); done) | omega | (rw [wrap_id (by omega) (by omega)]; omega) | (have h := dr_len (ts := ts) (by assumption); have h2 := dr_ok (ts := ts) (by assumption) (by assumption); simp only [dr0, dr1, h2, ↓reduceIte, fins, drN, drD, drL, drF, w3, h.1])))

set_option maxRecDepth 100000 in
set_option maxHeartbeats 4000000 in
theorem FnExactDriftOf_g0 {ts : List Pr} (hl : ts.length ≤ maxLen) : GC Try.prog 5 [.sl 2 (ts.map Pr.e)] [] (fun r _ => r = vb true) := by
  refine GC.of_func [] Try.call5 Try.func5 rfl ⟨by kernel_rfl, by kernel_rfl⟩ (by kernel_rfl) ?_
  rw [Try.results5]
  simp -implicitDefEqProofs (maxSteps := 4000000) only [sim0, sim1, sim2, sim3, sim4, sim5, sim6, sim7, sim8, ↓reduceIte, Nat.reduceEqDiff, Nat.reduceAdd, Nat.reduceMul, Nat.reduceSub, Nat.reduceLT, Nat.reduceLeDiff, reduceCtorEq, Int.reduceToNat, Int.reduceNeg, Nat.reduceBEq, simx, ty, Pr.row, idxS_map, loadS_map, stoS_map, ← List.map_take, ← List.map_drop, sz_neg]
  repeat' (first
    | ((with_reducible refine onCall ?_); first
      | (refine GC.callR (by repeat' (first | exact rdL_nil | refine rdL_cons ?_ ?_ | exact rd_v | exact rd_sl | exact rd_nil | refine rd_ref rfl (by simp) (plnLL_map (fun _ => rfl) _) | refine rd_rs rfl (by simp; omega) (plnLL_map (fun _ => rfl) _) | refine rd_agg ?_)) (szClockPairS_gc ?_ ?_) rfl ?_ <;> try simp -implicitDefEqProofs (maxSteps := 4000000) only [sim0, sim1, sim2, sim3, sim4, sim5, sim6, sim7, sim8, ↓reduceIte, Nat.reduceEqDiff, Nat.reduceAdd, Nat.reduceMul, Nat.reduceSub, Nat.reduceLT, Nat.reduceLeDiff, reduceCtorEq, Int.reduceToNat, Int.reduceNeg, Nat.reduceBEq, simx, ty, Pr.row, idxS_map, loadS_map, stoS_map, ← List.map_take, ← List.map_drop, sz_neg])
      | (refine GC.use true [] (toClockPairS_gc ?_) rfl trivial (by repeat' (first | exact arL_nil | refine arL_cons ?_ ?_ | exact ar_v | exact ar_sl | exact ar_nil | refine ar_ref rfl rfl (by simp) (plnLL_map (fun _ => rfl) _) | refine ar_rs rfl rfl (by simp; omega) (plnLL_map (fun _ => rfl) _) | refine ar_agg ?_)) (.inr ⟨rfl, by first | rfl | simp [Pr.ns]⟩) ?_ <;> try simp -implicitDefEqProofs (maxSteps := 4000000) only [sim0, sim1, sim2, sim3, sim4, sim5, sim6, sim7, sim8, ↓reduceIte, Nat.reduceEqDiff, Nat.reduceAdd, Nat.reduceMul, Nat.reduceSub, Nat.reduceLT, Nat.reduceLeDiff, reduceCtorEq, Int.reduceToNat, Int.reduceNeg, Nat.reduceBEq, simx, ty, Pr.row, idxS_map, loadS_map, stoS_map, ← List.map_take, ← List.map_drop, sz_neg])
      | (refine GC.callR (by repeat' (first | exact rdL_nil | refine rdL_cons ?_ ?_ | exact rd_v | exact rd_sl | exact rd_nil | refine rd_ref rfl (by simp) (plnLL_map (fun _ => rfl) _) | refine rd_rs rfl (by simp; omega) (plnLL_map (fun _ => rfl) _) | refine rd_agg ?_)) (sDriftOf_gc ?_) rfl ?_ <;> try simp -implicitDefEqProofs (maxSteps := 4000000) only [sim0, sim1, sim2, sim3, sim4, sim5, sim6, sim7, sim8, ↓reduceIte, Nat.reduceEqDiff, Nat.reduceAdd, Nat.reduceMul, Nat.reduceSub, Nat.reduceLT, Nat.reduceLeDiff, reduceCtorEq, Int.reduceToNat, Int.reduceNeg, Nat.reduceBEq, simx, ty, Pr.row, idxS_map, loadS_map, stoS_map, ← List.map_take, ← List.map_drop, sz_neg])
      | (refine GC.callR (by repeat' (first | exact rdL_nil | refine rdL_cons ?_ ?_ | exact rd_v | exact rd_sl | exact rd_nil | refine rd_ref rfl (by simp) (plnLL_map (fun _ => rfl) _) | refine rd_rs rfl (by simp; omega) (plnLL_map (fun _ => rfl) _) | refine rd_agg ?_)) driftOf_gc rfl ?_ <;> try simp -implicitDefEqProofs (maxSteps := 4000000) only [sim0, sim1, sim2, sim3, sim4, sim5, sim6, sim7, sim8, ↓reduceIte, Nat.reduceEqDiff, Nat.reduceAdd, Nat.reduceMul, Nat.reduceSub, Nat.reduceLT, Nat.reduceLeDiff, reduceCtorEq, Int.reduceToNat, Int.reduceNeg, Nat.reduceBEq, simx, ty, Pr.row, idxS_map, loadS_map, stoS_map, ← List.map_take, ← List.map_drop, sz_neg])
      | (refine GC.callR (by repeat' (first | exact rdL_nil | refine rdL_cons ?_ ?_ | exact rd_v | exact rd_sl | exact rd_nil | refine rd_ref rfl (by simp) (plnLL_map (fun _ => rfl) _) | refine rd_rs rfl (by simp; omega) (plnLL_map (fun _ => rfl) _) | refine rd_agg ?_)) (eqClockPairS_gc ?_) rfl ?_ <;> try simp -implicitDefEqProofs (maxSteps := 4000000) only [sim0, sim1, sim2, sim3, sim4, sim5, sim6, sim7, sim8, ↓reduceIte, Nat.reduceEqDiff, Nat.reduceAdd, Nat.reduceMul, Nat.reduceSub, Nat.reduceLT, Nat.reduceLeDiff, reduceCtorEq, Int.reduceToNat, Int.reduceNeg, Nat.reduceBEq, simx, ty, Pr.row, idxS_map, loadS_map, stoS_map, ← List.map_take, ← List.map_drop, sz_neg])
      | fail)
    | ((with_reducible refine onFin ?_); first
      | (refine fin_law ?_; (first | (simp_all [fins]; done) | (simp_all [-Int.not_lt, -Int.not_le, fins]; done) | (simp_all [fins]; omega)))
      | fail)
    | (with_reducible refine ite_intro (fun hq => ?_) (fun hq => ?_))
    | (with_reducible refine And.intro (fun hq => ?_) (fun hq => ?_))
    | (with_reducible refine And.intro ?_ ?_)
    | ((fail_if_success (with_reducible refine onCode ?_)); (fail_if_success (with_reducible refine onLps ?_)); (fail_if_success (with_reducible refine onLpd ?_)); (fail_if_success (with_reducible refine onLpe ?_)); (fail_if_success (with_reducible refine onFin ?_)); (fail_if_success (with_reducible refine onCall ?_)); (fail_if_success (with_reducible refine onQcall ?_)); first | ((omega); done) | omega | (rw [wrap_id (by omega) (by omega)]; omega) | (simp_all; done)))

theorem FnExactDriftOf_gc (xs : List (List Int)) (w : ∀ e ∈ xs, e.length = 2 ∧ ∀ z ∈ e, (Lit.int .i64 z).wf = true) (m : xs.length ≤ maxLen) : GC Try.prog 5 [.sl 2 (els .i64 xs)] [] (fun r _ => r = vb true) := by
  obtain ⟨ts, h1, h2, h3⟩ := Pr.of w
  rw [h1]; exact FnExactDriftOf_g0 (by omega)
end Go.Proofs.Ytpcaijpolkcipaa
