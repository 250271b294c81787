/-
Contracts of hits and misses of a track, of StartTrack and HitTrack, over plain data, and their laws.
No condition but those that the contracts name.
-/
import Derived.Test.YtejahpnbplcgnaaT4
namespace Go.Proofs.Ytejahpnbplcgnaa
open Eng
set_option linter.unusedSimpArgs false
set_option linter.unusedVariables false
def hitS (h : Int) : Int := if 3 ≤ w64 (h + 1) then 2 else 1
set_option maxRecDepth 100000 in
set_option maxHeartbeats 4000000 in
theorem trkHit_gc {i s x y h l px py : Int} : GC Try.prog 72 [.agg [vi i, vi s, vi x, vi y, vi h, vi l], .agg [vi px, vi py]] [] (fun r_ hs_ => r_ = .agg [vi i, vi (hitS h), vi px, vi py, vi (w64 (h + 1)), vi 0] ∧ hs_ = []) := by
  refine GC.of_func [(1, .val 0 (.val 1 (.val 2 (.val 3 (.val 4 (.eff [(5, [3, 2], .val 6 (.eff [(7, [], .val 8 (.eff [(9, [], .done)]))]))]))))))] Try.call72 Try.func72 rfl ⟨by kernel_rfl, by kernel_rfl⟩ (by kernel_rfl) ?_
  rw [Try.results72]
  simp -implicitDefEqProofs (maxSteps := 4000000) only [sim0, sim1, sim2, sim3, sim4, sim5, sim6, sim7, sim8, ↓reduceIte, Nat.reduceEqDiff, Nat.reduceAdd, Nat.reduceMul, Nat.reduceSub, Nat.reduceLT, Nat.reduceLeDiff, reduceCtorEq, Int.reduceToNat, Int.reduceNeg, Nat.reduceBEq, simx, ty]
  repeat' (first
    | ((with_reducible refine onFin ?_); first
      | (refine fin_nil ?_; (first | (simp_all [fins, hitS]; done) | (simp_all [-Int.not_lt, -Int.not_le, fins, hitS]; done) | (simp_all [fins, hitS]; omega)))
      | fail)
    | (with_reducible refine ite_intro (fun hq => ?_) (fun hq => ?_))
    | (with_reducible refine And.intro (fun hq => ?_) (fun hq => ?_))
    | (with_reducible refine And.intro ?_ ?_)
    | ((fail_if_success (with_reducible refine onCode ?_)); (fail_if_success (with_reducible refine onLps ?_)); (fail_if_success (with_reducible refine onLpd ?_)); (fail_if_success (with_reducible refine onLpe ?_)); (fail_if_success (with_reducible refine onFin ?_)); (fail_if_success (with_reducible refine onCall ?_)); (fail_if_success (with_reducible refine onQcall ?_)); first | omega | (rw [wrap_id (by omega) (by omega)]; omega) | (simp_all; done)))

set_option maxRecDepth 100000 in
set_option maxHeartbeats 4000000 in
theorem l14Hit_gc {i s x y h l px py : Int} : GC Try.prog 71 [.agg [vi i, vi s, vi x, vi y, vi h, vi l], .agg [vi px, vi py]] [] (fun r_ hs_ => r_ = .agg [vi i, vi (hitS h), vi px, vi py, vi (w64 (h + 1)), vi 0] ∧ hs_ = []) := by
  refine GC.of_func [] Try.call71 Try.func71 rfl ⟨by kernel_rfl, by kernel_rfl⟩ (by kernel_rfl) ?_
  rw [Try.results71]
  simp -implicitDefEqProofs (maxSteps := 4000000) only [sim0, sim1, sim2, sim3, sim4, sim5, sim6, sim7, sim8, ↓reduceIte, Nat.reduceEqDiff, Nat.reduceAdd, Nat.reduceMul, Nat.reduceSub, Nat.reduceLT, Nat.reduceLeDiff, reduceCtorEq, Int.reduceToNat, Int.reduceNeg, Nat.reduceBEq, simx, ty]
  repeat' (first
    | ((with_reducible refine onFin ?_); first
      | (refine fin_nil ?_; (first | (simp_all [fins, hitS]; done) | (simp_all [-Int.not_lt, -Int.not_le, fins, hitS]; done) | (simp_all [fins, hitS]; omega)))
      | fail)
    | (with_reducible refine ite_intro (fun hq => ?_) (fun hq => ?_))
    | (with_reducible refine And.intro (fun hq => ?_) (fun hq => ?_))
    | (with_reducible refine And.intro ?_ ?_)
    | ((fail_if_success (with_reducible refine onCode ?_)); (fail_if_success (with_reducible refine onLps ?_)); (fail_if_success (with_reducible refine onLpd ?_)); (fail_if_success (with_reducible refine onLpe ?_)); (fail_if_success (with_reducible refine onFin ?_)); (fail_if_success (with_reducible refine onCall ?_)); (fail_if_success (with_reducible refine onQcall ?_)); first | omega | (rw [wrap_id (by omega) (by omega)]; omega) | (simp_all; done)))

def misK (s l : Int) : Bool := !(s == 1) && decide (w64 (l + 1) ≤ 3)
set_option maxRecDepth 100000 in
set_option maxHeartbeats 4000000 in
theorem trkMiss_gc {i s x y h l : Int} : GC Try.prog 70 [.agg [vi i, vi s, vi x, vi y, vi h, vi l]] [] (fun r_ hs_ => r_ = .tup [.agg [vi i, vi 3, vi x, vi y, vi h, vi (w64 (l + 1))], vb (misK s l)] ∧ hs_ = []) := by
  refine GC.of_func [] Try.call70 Try.func70 rfl ⟨by kernel_rfl, by kernel_rfl⟩ (by kernel_rfl) ?_
  rw [Try.results70]
  simp -implicitDefEqProofs (maxSteps := 4000000) only [sim0, sim1, sim2, sim3, sim4, sim5, sim6, sim7, sim8, ↓reduceIte, Nat.reduceEqDiff, Nat.reduceAdd, Nat.reduceMul, Nat.reduceSub, Nat.reduceLT, Nat.reduceLeDiff, reduceCtorEq, Int.reduceToNat, Int.reduceNeg, Nat.reduceBEq, simx, ty]
  repeat' (first
    | ((with_reducible refine onFin ?_); first
      | (refine fin_nil ?_; (first | (simp_all [fins, misK]; done) | (simp_all [-Int.not_lt, -Int.not_le, fins, misK]; done) | (simp_all [fins, misK]; omega)))
      | fail)
    | (with_reducible refine ite_intro (fun hq => ?_) (fun hq => ?_))
    | (with_reducible refine And.intro (fun hq => ?_) (fun hq => ?_))
    | (with_reducible refine And.intro ?_ ?_)
    | ((fail_if_success (with_reducible refine onCode ?_)); (fail_if_success (with_reducible refine onLps ?_)); (fail_if_success (with_reducible refine onLpd ?_)); (fail_if_success (with_reducible refine onLpe ?_)); (fail_if_success (with_reducible refine onFin ?_)); (fail_if_success (with_reducible refine onCall ?_)); (fail_if_success (with_reducible refine onQcall ?_)); first | omega | (rw [wrap_id (by omega) (by omega)]; omega) | (simp_all; done)))

def misO (s l : Int) : Bool := !(s == 1) && !(l == 3)
set_option maxRecDepth 100000 in
set_option maxHeartbeats 4000000 in
theorem l14Miss_gc {i s x y h l : Int} : GC Try.prog 68 [.agg [vi i, vi s, vi x, vi y, vi h, vi l]] [] (fun r_ hs_ => r_ = .tup [.agg [vi (if misO s l = true then i else 0), vi (if misO s l = true then 3 else 0), vi (if misO s l = true then x else 0), vi (if misO s l = true then y else 0), vi (if misO s l = true then h else 0), vi (if misO s l = true then w64 (l + 1) else 0)], vb (misO s l)] ∧ hs_ = []) := by
  refine GC.of_func [] Try.call68 Try.func68 rfl ⟨by kernel_rfl, by kernel_rfl⟩ (by kernel_rfl) ?_
  rw [Try.results68]
  simp -implicitDefEqProofs (maxSteps := 4000000) only [sim0, sim1, sim2, sim3, sim4, sim5, sim6, sim7, sim8, ↓reduceIte, Nat.reduceEqDiff, Nat.reduceAdd, Nat.reduceMul, Nat.reduceSub, Nat.reduceLT, Nat.reduceLeDiff, reduceCtorEq, Int.reduceToNat, Int.reduceNeg, Nat.reduceBEq, simx, ty]
  repeat' (first
    | ((with_reducible refine onFin ?_); first
      | (refine fin_nil ?_; (first | (simp_all [fins, misO]; done) | (simp_all [-Int.not_lt, -Int.not_le, fins, misO]; done) | (simp_all [fins, misO]; omega)))
      | fail)
    | (with_reducible refine ite_intro (fun hq => ?_) (fun hq => ?_))
    | (with_reducible refine And.intro (fun hq => ?_) (fun hq => ?_))
    | (with_reducible refine And.intro ?_ ?_)
    | ((fail_if_success (with_reducible refine onCode ?_)); (fail_if_success (with_reducible refine onLps ?_)); (fail_if_success (with_reducible refine onLpd ?_)); (fail_if_success (with_reducible refine onLpe ?_)); (fail_if_success (with_reducible refine onFin ?_)); (fail_if_success (with_reducible refine onCall ?_)); (fail_if_success (with_reducible refine onQcall ?_)); first | omega | (rw [wrap_id (by omega) (by omega)]; omega) | (simp_all; done)))

def fdP (ts : List Trk) (id i : Int) : Bool := (tk ts i).i == id
def fdGo (ts : List Trk) (id i n : Int) : Int := if i < n then (if fdP ts id i = true then i else fdGo ts id (i + 1) n) else -1
termination_by (n - i).toNat
theorem fd_end {ts : List Trk} {id i n X : Int} (h : ¬ i < n) (g : X = fdGo ts id i n) : X = -1 := by rw [g, fdGo.eq_1, if_neg h]
theorem fd_yes {ts : List Trk} {id i n X : Int} (h : i < n) (h1 : fdP ts id i = true) (g : X = fdGo ts id i n) : X = i := by rw [g, fdGo.eq_1, if_pos h, if_pos h1]
theorem fd_go {ts : List Trk} {id i n X : Int} (h : i < n) (h1 : fdP ts id i = false) (g : X = fdGo ts id i n) : X = fdGo ts id (i + 1) n := by rw [g, fdGo.eq_1, if_pos h, if_neg (by rw [h1]; decide)]
def fdI (ts : List Trk) (id : Int) : Int := fdGo ts id 0 ts.length
theorem fdI_cases {ts : List Trk} {id : Int} : (fdI ts id = -1 ∧ ∀ j : Int, 0 ≤ j → j < ts.length → (tk ts j).i ≠ id) ∨ (0 ≤ fdI ts id ∧ fdI ts id < ts.length ∧ (tk ts (fdI ts id)).i = id) := by
  have key : ∀ (m : Nat) (i : Int), ((ts.length : Int) - i).toNat ≤ m → 0 ≤ i → (fdGo ts id i ts.length = -1 ∧ ∀ j : Int, i ≤ j → j < ts.length → (tk ts j).i ≠ id) ∨ (0 ≤ fdGo ts id i ts.length ∧ fdGo ts id i ts.length < ts.length ∧ (tk ts (fdGo ts id i ts.length)).i = id) := by
    intro m
    induction m with
    | zero => intro i h h0; rw [fdGo.eq_1, if_neg (by omega)]; exact .inl ⟨rfl, fun j h1 h2 => by omega⟩
    | succ m ih =>
      intro i h h0
      rw [fdGo.eq_1]
      by_cases hi : i < ts.length
      · rw [if_pos hi]
        cases hp : fdP ts id i with
        | true => simp only [if_true]; exact .inr ⟨h0, hi, by simpa [fdP] using hp⟩
        | false =>
          simp only [Bool.false_eq_true, if_false]
          rcases ih (i + 1) (by omega) (by omega) with h1 | h1
          · refine .inl ⟨h1.1, fun j h2 h3 => ?_⟩
            by_cases e : j = i
            · subst e; simpa [fdP] using hp
            · exact h1.2 j (by omega) h3
          · exact .inr h1
      · rw [if_neg hi]; exact .inl ⟨rfl, fun j h1 h2 => by omega⟩
  exact key _ 0 (Nat.le_refl _) (by omega)
theorem fdI_lt {ts : List Trk} {id : Int} : -1 ≤ fdI ts id ∧ (fdI ts id < ts.length ∨ fdI ts id < 0) := by
  rcases fdI_cases (ts := ts) (id := id) with h | h <;> omega
set_option maxRecDepth 100000 in
set_option maxHeartbeats 4000000 in
theorem trackAt_gc {ts : List Trk} {id : Int} (hl : ts.length ≤ 1048576) : GC Try.prog 69 [.sl 6 (ts.map Trk.e), vi id] [] (fun r_ hs_ => r_ = vi (fdI ts id) ∧ hs_ = []) := by
  refine GC.of_func [] Try.call69 Try.func69 rfl ⟨by kernel_rfl, by kernel_rfl⟩ (by kernel_rfl) ?_
  rw [Try.results69]
  simp -implicitDefEqProofs (maxSteps := 4000000) only [sim0, sim1, sim2, sim3, sim4, sim5, sim6, sim7, sim8, ↓reduceIte, Nat.reduceEqDiff, Nat.reduceAdd, Nat.reduceMul, Nat.reduceSub, Nat.reduceLT, Nat.reduceLeDiff, reduceCtorEq, Int.reduceToNat, Int.reduceNeg, Nat.reduceBEq, simx, ty, Trk.row, Plc.row, It.row, idxS_map, loadS_map, stoS_map, ← List.map_take, ← List.map_drop]
  repeat' (first
    | ((with_reducible refine onCode ?_); first
      | (refine onLid 2 ?_ (by rfl); refine acode_prune [0, 1, 4, 5, 6, 7, 8, 9] ?_; simp only [prn_cons, prn_nil, lk_cons, lk_emp, Nat.reduceEqDiff, ↓reduceIte]; refine acode_loopD2 2 (by rfl) (α := Int) (fun i => [(9, vi i)]) [4, 5, 6, 10, 11, 12, 13, 14, 15, 16, 17, 18, 19] [4, 5, 6] (by kernel_rfl) (fun i => (0 ≤ i ∧ i ≤ ts.length) ∧ fdI ts id = fdGo ts id i ts.length) (fun i => (ts.length - i).toNat) (0) ?_ (by first | (simp only [plnLL, pln, Value.oneCell', List.all_cons, List.all_nil, plnH, Trk.pl, Plc.pl, It.pl, Bool.and_true, Bool.and_self]; done) | rfl) (by simp) rfl (by (try simp only []) <;> first | (exact ⟨by omega, rfl⟩) | fail) ?_; (focus ((try dsimp only []); (repeat' (first | exact agr_none | exact lk_hd | refine lk_tl (by decide) ?_ | refine agr_one ?_ ?_)); done)); rintro i hJ; (try simp only [] at hJ); have hJ2 := hJ; simp -implicitDefEqProofs (maxSteps := 4000000) only [sim0, sim1, sim2, sim3, sim4, sim5, sim6, sim7, sim8, ↓reduceIte, Nat.reduceEqDiff, Nat.reduceAdd, Nat.reduceMul, Nat.reduceSub, Nat.reduceLT, Nat.reduceLeDiff, reduceCtorEq, Int.reduceToNat, Int.reduceNeg, Nat.reduceBEq, simx, ty, Trk.row, Plc.row, It.row, idxS_map, loadS_map, stoS_map, ← List.map_take, ← List.map_drop])
      | fail)
    | ((with_reducible refine onLpd ?_); first
      | (refine lpd2_end (α := Int) (mods := (fun i => [(9, vi i)])) _ (by (try dsimp only []); simp only [agr_cons, agr_nil, lk_cons, lk_emp, Nat.reduceEqDiff, ↓reduceIte, and_true]; repeat' (first | rfl | apply And.intro)) (by unfold undK; kernel_rfl) _ rfl rfl ?_ ?_ <;> ((try simp only []); (have e_ : IntKind.i64.wrap (i + 1) = i + 1 := wrap_id (by omega) (by omega); (try simp only [e_] at hq ⊢); first | omega | exact ⟨by omega, fd_go (by omega) (by simpa [fdP, tk] using hq) hJ2.2⟩)))
      | fail)
    | ((with_reducible refine onFin ?_); first
      | (refine fin_nil ?_; (first | (refine rn_vi ?_; first | exact fd_end (by omega) hJ2.2 | exact fd_yes (i := i) (by omega) (by simpa [fdP, tk] using hq) hJ2.2) | (simp_all [fins]; done) | (simp_all [-Int.not_lt, -Int.not_le, fins]; done) | (simp_all [fins]; omega)))
      | fail)
    | (with_reducible refine ite_intro (fun hq => ?_) (fun hq => ?_))
    | (with_reducible refine And.intro (fun hq => ?_) (fun hq => ?_))
    | (with_reducible refine And.intro ?_ ?_)
    | ((fail_if_success (with_reducible refine onCode ?_)); (fail_if_success (with_reducible refine onLps ?_)); (fail_if_success (with_reducible refine onLpd ?_)); (fail_if_success (with_reducible refine onLpe ?_)); (fail_if_success (with_reducible refine onFin ?_)); (fail_if_success (with_reducible refine onCall ?_)); (fail_if_success (with_reducible refine onQcall ?_)); first | omega | (rw [wrap_id (by omega) (by omega)]; omega) | (refine rn_vi ?_; first | exact fd_end (by omega) hJ2.2 | exact fd_yes (i := i) (by omega) (by simpa [fdP, tk] using hq) hJ2.2)))

set_option maxRecDepth 100000 in
set_option maxHeartbeats 4000000 in
theorem l14Find_gc {ts : List Trk} {id : Int} (hl : ts.length ≤ 1048576) : GC Try.prog 67 [.sl 6 (ts.map Trk.e), vi id] [] (fun r_ hs_ => r_ = vi (fdI ts id) ∧ hs_ = []) := by
  refine GC.of_func [] Try.call67 Try.func67 rfl ⟨by kernel_rfl, by kernel_rfl⟩ (by kernel_rfl) ?_
  rw [Try.results67]
  simp -implicitDefEqProofs (maxSteps := 4000000) only [sim0, sim1, sim2, sim3, sim4, sim5, sim6, sim7, sim8, ↓reduceIte, Nat.reduceEqDiff, Nat.reduceAdd, Nat.reduceMul, Nat.reduceSub, Nat.reduceLT, Nat.reduceLeDiff, reduceCtorEq, Int.reduceToNat, Int.reduceNeg, Nat.reduceBEq, simx, ty, Trk.row, Plc.row, It.row, idxS_map, loadS_map, stoS_map, ← List.map_take, ← List.map_drop]
  repeat' (first
    | ((with_reducible refine onCode ?_); first
      | (refine onLid 2 ?_ (by rfl); refine acode_prune [0, 1, 4, 5] ?_; simp only [prn_cons, prn_nil, lk_cons, lk_emp, Nat.reduceEqDiff, ↓reduceIte]; refine acode_loopS2 2 (by rfl) (α := Int) (fun i => [(5, vi i)]) [4, 6, 7, 8, 9, 10, 11, 12, 13, 14, 15, 16, 17, 18, 19] [4] (by kernel_rfl) (fun i => (0 ≤ i ∧ i ≤ ts.length) ∧ fdI ts id = fdGo ts id i ts.length) (fun i => (ts.length - i).toNat) (0) ?_ (by (try simp only []) <;> first | (exact ⟨by omega, rfl⟩) | fail) ?_; (focus ((try dsimp only []); (repeat' (first | exact agr_none | exact lk_hd | refine lk_tl (by decide) ?_ | refine agr_one ?_ ?_)); done)); rintro i hJ; (try simp only [] at hJ); have hJ2 := hJ; simp -implicitDefEqProofs (maxSteps := 4000000) only [sim0, sim1, sim2, sim3, sim4, sim5, sim6, sim7, sim8, ↓reduceIte, Nat.reduceEqDiff, Nat.reduceAdd, Nat.reduceMul, Nat.reduceSub, Nat.reduceLT, Nat.reduceLeDiff, reduceCtorEq, Int.reduceToNat, Int.reduceNeg, Nat.reduceBEq, simx, ty, Trk.row, Plc.row, It.row, idxS_map, loadS_map, stoS_map, ← List.map_take, ← List.map_drop])
      | fail)
    | ((with_reducible refine onLps ?_); first
      | (refine lps2_end (α := Int) (mods := (fun i => [(5, vi i)])) _ (by (try dsimp only []); simp only [agr_cons, agr_nil, lk_cons, lk_emp, Nat.reduceEqDiff, ↓reduceIte, and_true]; repeat' (first | rfl | apply And.intro)) (by unfold undK; kernel_rfl) ?_ ?_ <;> ((try simp only []); (have e_ : IntKind.i64.wrap (i + 1) = i + 1 := wrap_id (by omega) (by omega); (try simp only [e_] at hq ⊢); first | omega | exact ⟨by omega, fd_go (by omega) (by simpa [fdP, tk] using hq) hJ2.2⟩)))
      | fail)
    | ((with_reducible refine onFin ?_); first
      | (refine fin_nil ?_; (first | (refine rn_vi ?_; first | exact fd_end (by omega) hJ2.2 | exact fd_yes (i := i) (by omega) (by simpa [fdP, tk] using hq) hJ2.2) | (simp_all [fins]; done) | (simp_all [-Int.not_lt, -Int.not_le, fins]; done) | (simp_all [fins]; omega)))
      | fail)
    | (with_reducible refine ite_intro (fun hq => ?_) (fun hq => ?_))
    | (with_reducible refine And.intro (fun hq => ?_) (fun hq => ?_))
    | (with_reducible refine And.intro ?_ ?_)
    | ((fail_if_success (with_reducible refine onCode ?_)); (fail_if_success (with_reducible refine onLps ?_)); (fail_if_success (with_reducible refine onLpd ?_)); (fail_if_success (with_reducible refine onLpe ?_)); (fail_if_success (with_reducible refine onFin ?_)); (fail_if_success (with_reducible refine onCall ?_)); (fail_if_success (with_reducible refine onQcall ?_)); first | omega | (rw [wrap_id (by omega) (by omega)]; omega) | (refine rn_vi ?_; first | exact fd_end (by omega) hJ2.2 | exact fd_yes (i := i) (by omega) (by simpa [fdP, tk] using hq) hJ2.2)))

end Go.Proofs.Ytejahpnbplcgnaa
