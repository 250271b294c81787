/-
Contracts of lists that rise, and what a scan is, over plain data.
No condition but those that the contracts name.
-/
import Derived.Test.YtejahpnbplcgnaaT9
namespace Go.Proofs.Ytejahpnbplcgnaa
open Eng
set_option linter.unusedSimpArgs false
set_option linter.unusedVariables false
section
variable {xs : List It} {lo hi i : Int}
def rsP (xs : List It) (i : Int) : Bool := decide (ig xs (i - 1) < ig xs i)
def rsB (xs : List It) : Bool := allI (rsP xs) 1 xs.length
theorem rsP_y (h : ¬ (xs.getD i.toNat default).n ≤ (xs.getD (i - 1).toNat default).n) : rsP xs i = true := by
  exact decide_eq_true (p := ig xs (i - 1) < ig xs i) (Int.not_le.1 h)
theorem rsP_n (h : (xs.getD i.toNat default).n ≤ (xs.getD (i - 1).toNat default).n) : rsP xs i = false := by
  exact decide_eq_false (p := ig xs (i - 1) < ig xs i) (Int.not_lt.2 h)
def r1P (xs : List It) (lo hi i : Int) : Bool := inB (ig xs i) lo hi && !(decide (0 < i) && decide (ig xs i ≤ ig xs (i - 1)))
def r1B (xs : List It) (lo hi : Int) : Bool := allI (r1P xs lo hi) 0 xs.length
theorem r1P_y1 (h1 : ¬ inB (xs.getD i.toNat default).n lo hi = false) (h2 : ¬ (xs.getD i.toNat default).n ≤ (xs.getD (i - 1).toNat default).n) : r1P xs lo hi i = true := by
  have h1' : inB (ig xs i) lo hi = true := eq_true_of_ne_false h1
  have h2' : ¬ ig xs i ≤ ig xs (i - 1) := h2
  simp [r1P, h1', h2']
theorem r1P_y2 (h1 : ¬ inB (xs.getD i.toNat default).n lo hi = false) (h2 : ¬ 0 < i) : r1P xs lo hi i = true := by
  have h1' : inB (ig xs i) lo hi = true := eq_true_of_ne_false h1
  simp [r1P, h1', h2]
theorem r1P_n1 (h1 : inB (xs.getD i.toNat default).n lo hi = false) : r1P xs lo hi i = false := by
  have h1' : inB (ig xs i) lo hi = false := h1
  simp [r1P, h1']
theorem r1P_n2 (h0 : 0 < i) (h2 : (xs.getD i.toNat default).n ≤ (xs.getD (i - 1).toNat default).n) : r1P xs lo hi i = false := by
  have h2' : ig xs i ≤ ig xs (i - 1) := h2
  simp [r1P, h0, h2']
end
set_option maxRecDepth 100000 in
set_option maxHeartbeats 4000000 in
theorem isRising_gc {xs : List It} (hl : xs.length ≤ 1048576) : GC Try.prog 81 [.sl 1 (xs.map It.e)] [] (fun r_ hs_ => r_ = vb (rsB xs) ∧ hs_ = []) := by
  refine GC.of_func [(4, .val 0 (.val 1 (.val 2 (.val 3 (.val 4 (.val 5 (.val 6 (.val 7 (.val 8 (.val 9 (.done)))))))))))] Try.call81 Try.func81 rfl ⟨by kernel_rfl, by kernel_rfl⟩ (by kernel_rfl) ?_
  rw [Try.results81]
  simp -implicitDefEqProofs (maxSteps := 4000000) only [sim0, sim1, sim2, sim3, sim4, sim5, sim6, sim7, sim8, ↓reduceIte, Nat.reduceEqDiff, Nat.reduceAdd, Nat.reduceMul, Nat.reduceSub, Nat.reduceLT, Nat.reduceLeDiff, reduceCtorEq, Int.reduceToNat, Int.reduceNeg, Nat.reduceBEq, simx, ty, Trk.row, Plc.row, It.row, idxS_map, loadS_map, stoS_map, ← List.map_take, ← List.map_drop]
  repeat' (first
    | ((with_reducible refine onCode ?_); first
      | (refine onLid 2 ?_ (by rfl); refine acode_prune [0, 2, 3] ?_; simp only [prn_cons, prn_nil, lk_cons, lk_emp, Nat.reduceEqDiff, ↓reduceIte]; refine acode_loopS2 2 (by rfl) (α := Int) (fun i => [(3, vi i)]) [2, 4, 5, 6, 7, 8, 9, 10, 11, 12, 13, 14, 15, 16, 17, 18, 19] [2] (by kernel_rfl) (fun i => (1 ≤ i ∧ (i ≤ xs.length ∨ i = 1)) ∧ rsB xs = allI (rsP xs) i xs.length) (fun i => (xs.length - i).toNat) (1) ?_ (by (try simp only []) <;> first | (exact ⟨⟨by omega, by simp⟩, by rfl⟩) | fail) ?_; (focus ((try dsimp only []); (repeat' (first | exact agr_none | exact lk_hd | refine lk_tl (by decide) ?_ | refine agr_one ?_ ?_)); done)); rintro i hJ; (try simp only [] at hJ); have hJ2 := hJ; simp -implicitDefEqProofs (maxSteps := 4000000) only [sim0, sim1, sim2, sim3, sim4, sim5, sim6, sim7, sim8, ↓reduceIte, Nat.reduceEqDiff, Nat.reduceAdd, Nat.reduceMul, Nat.reduceSub, Nat.reduceLT, Nat.reduceLeDiff, reduceCtorEq, Int.reduceToNat, Int.reduceNeg, Nat.reduceBEq, simx, ty, Trk.row, Plc.row, It.row, idxS_map, loadS_map, stoS_map, ← List.map_take, ← List.map_drop])
      | fail)
    | ((with_reducible refine onLps ?_); first
      | (refine lps2_end (α := Int) (mods := (fun i => [(3, vi i)])) _ (by (try dsimp only []); simp only [agr_cons, agr_nil, lk_cons, lk_emp, Nat.reduceEqDiff, ↓reduceIte, and_true]; repeat' (first | rfl | apply And.intro)) (by unfold undK; kernel_rfl) ?_ ?_ <;> ((try simp only []); ((have e2 : IntKind.i64.wrap (i - 1) = i - 1 := wrap_id (by omega) (by omega)); (try simp only [e2] at hq); have e_ : IntKind.i64.wrap (i + 1) = i + 1 := wrap_id (by omega) (by omega); (try simp only [e_] at hq ⊢); first | omega | exact ⟨by omega, allI_go rfl (by omega) (rsP_y hq) hJ2.2⟩)))
      | fail)
    | ((with_reducible refine onFin ?_); first
      | (refine fin_nil ?_; (first | (refine rn_vb ?_; first | exact allI_fin (by omega) hJ2.2 | (have e2 : IntKind.i64.wrap (i - 1) = i - 1 := wrap_id (by omega) (by omega); simp only [e2] at hq; exact allI_bad (p := rsP xs) (i := i) (by omega) (rsP_n hq) hJ2.2)) | (simp_all [fins]; done) | (simp_all [-Int.not_lt, -Int.not_le, fins]; done) | (simp_all [fins]; omega)))
      | fail)
    | (with_reducible refine ite_intro (fun hq => ?_) (fun hq => ?_))
    | (with_reducible refine And.intro (fun hq => ?_) (fun hq => ?_))
    | (with_reducible refine And.intro ?_ ?_)
    | ((fail_if_success (with_reducible refine onCode ?_)); (fail_if_success (with_reducible refine onLps ?_)); (fail_if_success (with_reducible refine onLpd ?_)); (fail_if_success (with_reducible refine onLpe ?_)); (fail_if_success (with_reducible refine onFin ?_)); (fail_if_success (with_reducible refine onCall ?_)); (fail_if_success (with_reducible refine onQcall ?_)); first | ((first | omega | (rw [wrap_id (by omega) (by omega)]; omega)); done) | omega | (rw [wrap_id (by omega) (by omega)]; omega) | (refine rn_vb ?_; first | exact allI_fin (by omega) hJ2.2 | (have e2 : IntKind.i64.wrap (i - 1) = i - 1 := wrap_id (by omega) (by omega); simp only [e2] at hq; exact allI_bad (p := rsP xs) (i := i) (by omega) (rsP_n hq) hJ2.2))))

set_option maxRecDepth 100000 in
set_option maxHeartbeats 4000000 in
theorem l1Rising_gc {xs : List It} {lo hi : Int} (hl : xs.length ≤ 1048576) : GC Try.prog 80 [.sl 1 (xs.map It.e), vi lo, vi hi] [] (fun r_ hs_ => r_ = vb (r1B xs lo hi) ∧ hs_ = []) := by
  refine GC.of_func [(4, .val 0 (.val 1 (.val 2 (.val 3 (.val 4 (.val 5 (.val 6 (.val 7 (.val 8 (.val 9 (.val 10 (.val 11 (.val 12 (.val 13 (.val 14 (.val 15 (.val 16 (.val 17 (.val 18 (.val 19 (.val 20 (.val 21 (.val 22 (.val 23 (.done)))))))))))))))))))))))))] Try.call80 Try.func80 rfl ⟨by kernel_rfl, by kernel_rfl⟩ (by kernel_rfl) ?_
  rw [Try.results80]
  simp -implicitDefEqProofs (maxSteps := 4000000) only [sim0, sim1, sim2, sim3, sim4, sim5, sim6, sim7, sim8, ↓reduceIte, Nat.reduceEqDiff, Nat.reduceAdd, Nat.reduceMul, Nat.reduceSub, Nat.reduceLT, Nat.reduceLeDiff, reduceCtorEq, Int.reduceToNat, Int.reduceNeg, Nat.reduceBEq, simx, ty, Trk.row, Plc.row, It.row, idxS_map, loadS_map, stoS_map, ← List.map_take, ← List.map_drop]
  repeat' (first
    | ((with_reducible refine onQcall ?_); first
      | (refine qcallS l1In_gc rfl rfl ?_ <;> try simp -implicitDefEqProofs (maxSteps := 4000000) only [sim0, sim1, sim2, sim3, sim4, sim5, sim6, sim7, sim8, ↓reduceIte, Nat.reduceEqDiff, Nat.reduceAdd, Nat.reduceMul, Nat.reduceSub, Nat.reduceLT, Nat.reduceLeDiff, reduceCtorEq, Int.reduceToNat, Int.reduceNeg, Nat.reduceBEq, simx, ty, Trk.row, Plc.row, It.row, idxS_map, loadS_map, stoS_map, ← List.map_take, ← List.map_drop])
      | fail)
    | ((with_reducible refine onCode ?_); first
      | (refine onLid 2 ?_ (by rfl); refine acode_prune [0, 1, 2, 6, 7] ?_; simp only [prn_cons, prn_nil, lk_cons, lk_emp, Nat.reduceEqDiff, ↓reduceIte]; refine acode_loopS2 2 (by rfl) (α := Int) (fun i => [(7, vi i)]) [6, 8, 9, 10, 11, 12, 13, 14, 15, 16, 17, 18, 19, 20, 21, 22, 23, 24, 25, 26, 27, 28, 29, 30, 31, 32, 33, 34, 35, 36, 37] [6] (by kernel_rfl) (fun i => (0 ≤ i ∧ i ≤ xs.length) ∧ r1B xs lo hi = allI (r1P xs lo hi) i xs.length) (fun i => (xs.length - i).toNat) (0) ?_ (by (try simp only []) <;> first | (exact ⟨by omega, by rfl⟩) | fail) ?_; (focus ((try dsimp only []); (repeat' (first | exact agr_none | exact lk_hd | refine lk_tl (by decide) ?_ | refine agr_one ?_ ?_)); done)); rintro i hJ; (try simp only [] at hJ); have hJ2 := hJ; simp -implicitDefEqProofs (maxSteps := 4000000) only [sim0, sim1, sim2, sim3, sim4, sim5, sim6, sim7, sim8, ↓reduceIte, Nat.reduceEqDiff, Nat.reduceAdd, Nat.reduceMul, Nat.reduceSub, Nat.reduceLT, Nat.reduceLeDiff, reduceCtorEq, Int.reduceToNat, Int.reduceNeg, Nat.reduceBEq, simx, ty, Trk.row, Plc.row, It.row, idxS_map, loadS_map, stoS_map, ← List.map_take, ← List.map_drop])
      | fail)
    | ((with_reducible refine onLps ?_); first
      | (refine lps2_end (α := Int) (mods := (fun i => [(7, vi i)])) _ (by (try dsimp only []); simp only [agr_cons, agr_nil, lk_cons, lk_emp, Nat.reduceEqDiff, ↓reduceIte, and_true]; repeat' (first | rfl | apply And.intro)) (by unfold undK; kernel_rfl) ?_ ?_ <;> ((try simp only []); (have e_ : IntKind.i64.wrap (i + 1) = i + 1 := wrap_id (by omega) (by omega); (try simp only [e_] at hq ⊢); first | omega | (refine ⟨by omega, allI_go rfl (by omega) ?_ hJ2.2⟩; first | exact r1P_y2 (by assumption) hq | (have e2 : IntKind.i64.wrap (i - 1) = i - 1 := wrap_id (by omega) (by omega); rw [e2] at hq; exact r1P_y1 (by assumption) hq)))))
      | fail)
    | ((with_reducible refine onFin ?_); first
      | (refine fin_nil ?_; (first | (refine rn_vb ?_; first | exact allI_fin (by omega) hJ2.2 | (refine allI_bad (p := r1P xs lo hi) (i := i) (by omega) ?_ hJ2.2; first | exact r1P_n1 hq | (have e2 : IntKind.i64.wrap (i - 1) = i - 1 := wrap_id (by omega) (by omega); rw [e2] at hq; exact r1P_n2 (by assumption) hq))) | (simp_all [fins]; done) | (simp_all [-Int.not_lt, -Int.not_le, fins]; done) | (simp_all [fins]; omega)))
      | fail)
    | (with_reducible refine ite_intro (fun hq => ?_) (fun hq => ?_))
    | (with_reducible refine And.intro (fun hq => ?_) (fun hq => ?_))
    | (with_reducible refine And.intro ?_ ?_)
    | ((fail_if_success (with_reducible refine onCode ?_)); (fail_if_success (with_reducible refine onLps ?_)); (fail_if_success (with_reducible refine onLpd ?_)); (fail_if_success (with_reducible refine onLpe ?_)); (fail_if_success (with_reducible refine onFin ?_)); (fail_if_success (with_reducible refine onCall ?_)); (fail_if_success (with_reducible refine onQcall ?_)); first | ((first | omega | (rw [wrap_id (by omega) (by omega)]; omega)); done) | omega | (rw [wrap_id (by omega) (by omega)]; omega) | (refine rn_vb ?_; first | exact allI_fin (by omega) hJ2.2 | (refine allI_bad (p := r1P xs lo hi) (i := i) (by omega) ?_ hJ2.2; first | exact r1P_n1 hq | (have e2 : IntKind.i64.wrap (i - 1) = i - 1 := wrap_id (by omega) (by omega); rw [e2] at hq; exact r1P_n2 (by assumption) hq)))))

section
variable {ts : List Trk} {ps : List Plc} {xs : List It} {i k : Int}
/-- where a hit is told, or -1 -/
def hxF (xs : List It) (id q k : Int) : Int := if (ig xs k == id) = true then k else q
def hxR (xs : List It) (id k : Int) : Int := foldI (hxF xs id) (-1) 0 k
theorem foldI_snoc {α : Type} {f : α → Int → α} {a : α} {k : Int} (h : 0 ≤ k) : foldI f a 0 (k + 1) = f (foldI f a 0 k) k := by
  rw [foldI_split (m := k) (by omega) h, foldI_step (by omega), foldI_end (by omega)]
theorem hxR_go (h : 0 ≤ k) : hxR xs i (k + 1) = hxF xs i (hxR xs i k) k := foldI_snoc h
theorem hxR_rng (h : 0 ≤ k) : hxR xs i k = -1 ∨ (0 ≤ hxR xs i k ∧ hxR xs i k < k ∧ ig xs (hxR xs i k) = i) :=
  foldI_ind (f := hxF xs i) (fun q k => q = -1 ∨ (0 ≤ q ∧ q < k ∧ ig xs q = i)) h (.inl rfl) (fun q j h1 h2 hq => by
    unfold hxF
    split
    · rename_i e; exact .inr ⟨h1, by omega, by simpa using e⟩
    · rcases hq with hq | hq
      · exact .inl hq
      · exact .inr ⟨hq.1, by omega, hq.2.2⟩)
theorem rs_lt (h : rsB xs = true) {j : Int} (h0 : 0 ≤ j) (h1 : j < k) (h2 : k < xs.length) : ig xs j < ig xs k := by
  have key : ∀ (m : Nat) (k : Int), (k - j).toNat ≤ m → j < k → k < xs.length → ig xs j < ig xs k := by
    intro m
    induction m with
    | zero => intro k h1 h2 _; omega
    | succ m ih =>
      intro k h1 h2 h3
      have h4 := allI_iff.1 h k (by omega) h3
      simp only [rsP, decide_eq_true_eq] at h4
      by_cases e : j = k - 1
      · subst e; exact h4
      · have := ih (k - 1) (by omega) (by omega) (by omega); omega
  exact key _ k (Nat.le_refl _) h1 h2
/-- a second hit of the same track is not told -/
theorem hx_once (h : rsB xs = true) (h0 : 0 ≤ k) (h2 : k < xs.length) (e : ig xs k = i) : hxR xs i k = -1 := by
  rcases hxR_rng (xs := xs) (i := i) h0 with h3 | ⟨h3, h4, h5⟩
  · exact h3
  · have := rs_lt h h3 h4 h2; omega
def scT (ts : List Trk) (ps : List Plc) (xs : List It) (i k : Int) : Trk :=
  if 0 ≤ hxR xs (tk ts i).i k then hitV (tk ts i) (pl ps (hxR xs (tk ts i).i k)).x (pl ps (hxR xs (tk ts i).i k)).y else tk ts i
def scS (ts : List Trk) (xs : List It) (i k : Int) : Bool := decide (0 ≤ hxR xs (tk ts i).i k)
theorem scT_zero : scT ts ps xs i 0 = tk ts i ∧ scS ts xs i 0 = false := by
  have : hxR xs (tk ts i).i 0 = -1 := foldI_end (by omega)
  unfold scT scS
  rw [this]
  exact ⟨by simp, by simp⟩
theorem scT_id : (scT ts ps xs i k).i = (tk ts i).i := by
  unfold scT; split <;> rfl
theorem scT_same (h : 0 ≤ k) (e : ¬ ig xs k = (tk ts i).i) : scT ts ps xs i (k + 1) = scT ts ps xs i k ∧ scS ts xs i (k + 1) = scS ts xs i k := by
  have : hxR xs (tk ts i).i (k + 1) = hxR xs (tk ts i).i k := by rw [hxR_go h]; exact if_neg (by simpa using e)
  unfold scT scS
  rw [this]; exact ⟨rfl, rfl⟩
theorem scT_hit (hr : rsB xs = true) (h : 0 ≤ k) (h2 : k < xs.length) (e : ig xs k = (tk ts i).i) : scT ts ps xs i k = tk ts i ∧ scT ts ps xs i (k + 1) = hitV (tk ts i) (pl ps k).x (pl ps k).y ∧ scS ts xs i (k + 1) = true := by
  have h3 := hx_once hr h h2 e
  have : hxR xs (tk ts i).i (k + 1) = k := by rw [hxR_go h]; exact if_pos (by simpa using e)
  unfold scT scS
  rw [this, h3]
  simp [h]
/-- one track of a scan -/
def snF (ts : List Trk) (ps : List Plc) (xs : List It) (q : List Trk × Int) (i : Int) : List Trk × Int :=
  if scS ts xs i xs.length = true then (q.1 ++ [scT ts ps xs i xs.length], q.2) else if misK (tk ts i).s (tk ts i).l = true then (q.1 ++ [missV (tk ts i)], q.2) else (q.1, w64 (q.2 + 1))
def scR (ts : List Trk) (ps : List Plc) (xs : List It) : List Trk × Int := foldI (snF ts ps xs) ([], 0) 0 ts.length
def scP (ts : List Trk) (ps : List Plc) (xs : List It) (k : Int) : Bool := !decide (fdI ts (ig xs k) < 0) && placeB (pl ps k).x (pl ps k).y
structure ScH (ts : List Trk) (ps : List Plc) (xs : List It) : Prop where
  tl : tlB ts = true
  rs : rsB xs = true
  len : (xs.length : Int) = ps.length
  ok : allI (scP ts ps xs) 0 xs.length = true
def scO (ts : List Trk) (ps : List Plc) (xs : List It) : Bool := tlB ts && rsB xs && decide ((xs.length : Int) = ps.length) && allI (scP ts ps xs) 0 xs.length && tlB (scR ts ps xs).1
def scV (ts : List Trk) (ps : List Plc) (xs : List It) : List Trk := if scO ts ps xs = true then (scR ts ps xs).1 else []
def scD (ts : List Trk) (ps : List Plc) (xs : List It) : Int := if scO ts ps xs = true then (scR ts ps xs).2 else 0
theorem sc_no (h : scO ts ps xs = false) : scV ts ps xs = [] ∧ scD ts ps xs = 0 := by simp [scV, scD, h]
theorem sc_yes (h : scO ts ps xs = true) : scV ts ps xs = (scR ts ps xs).1 ∧ scD ts ps xs = (scR ts ps xs).2 := by simp [scV, scD, h]
theorem sc_n1 (h : tlB ts = false) : scO ts ps xs = false := by simp [scO, h]
theorem sc_n2 (h : rsB xs = false) : scO ts ps xs = false := by simp [scO, h]
theorem sc_n3 (h : ¬ (xs.length : Int) = ps.length) : scO ts ps xs = false := by simp [scO, h]
theorem sc_n4 (h : allI (scP ts ps xs) 0 xs.length = false) : scO ts ps xs = false := by simp [scO, h]
theorem sc_n5 (h : tlB (scR ts ps xs).1 = false) : scO ts ps xs = false := by simp [scO, h]
theorem sc_y (h : ScH ts ps xs) (h1 : tlB (scR ts ps xs).1 = true) : scO ts ps xs = true := by
  simp only [scO, Bool.and_eq_true, decide_eq_true_eq]
  exact ⟨⟨⟨⟨h.tl, h.rs⟩, h.len⟩, h.ok⟩, h1⟩
theorem scP_y (h1 : ¬ fdI ts (xs.getD k.toNat default).n < 0) (h2 : ¬ placeB (ps.getD k.toNat default).x (ps.getD k.toNat default).y = false) : scP ts ps xs k = true := by
  have h1' : ¬ fdI ts (ig xs k) < 0 := h1
  have h2' : placeB (pl ps k).x (pl ps k).y = true := eq_true_of_ne_false h2
  simp [scP, h1', h2']
theorem scP_n1 (h1 : fdI ts (xs.getD k.toNat default).n < 0) : scP ts ps xs k = false := by
  have h1' : fdI ts (ig xs k) < 0 := h1
  simp [scP, h1']
theorem scP_n2 (h2 : placeB (ps.getD k.toNat default).x (ps.getD k.toNat default).y = false) : scP ts ps xs k = false := by
  have h2' : placeB (pl ps k).x (pl ps k).y = false := h2
  simp [scP, h2']
theorem snF_hit {us : List Trk} {d : Int} (h : scS ts xs i xs.length = true) : (us ++ [scT ts ps xs i xs.length], d) = snF ts ps xs (us, d) i := (if_pos h).symm
theorem snF_own {us : List Trk} {d : Int} (h : scS ts xs i xs.length = false) (h2 : misK (tk ts i).s (tk ts i).l = true) : (us ++ [missV (tk ts i)], d) = snF ts ps xs (us, d) i := by
  unfold snF; rw [if_neg (by rw [h]; decide), if_pos h2]
theorem snF_drop {us : List Trk} {d : Int} (h : scS ts xs i xs.length = false) (h2 : misK (tk ts i).s (tk ts i).l = false) : (us, w64 (d + 1)) = snF ts ps xs (us, d) i := by
  unfold snF; rw [if_neg (by rw [h]; decide), if_neg (by rw [h2]; decide)]
theorem scT_not (h : scS ts xs i k = false) : scT ts ps xs i k = tk ts i := if_neg (by simpa [scS] using h)
theorem snF_len {q : List Trk × Int} : (snF ts ps xs q i).1.length ≤ q.1.length + 1 := by
  unfold snF
  split
  · simp
  · split <;> simp
theorem scR_len : (scR ts ps xs).1.length ≤ ts.length := by
  have h := foldI_ind (f := snF ts ps xs) (n := ts.length) (fun (q : List Trk × Int) i => (q.1.length : Int) ≤ i) (a := ([], 0)) (i := 0) (by omega) (by simp) (fun a j h1 h2 h => by
    (try simp only [] at h ⊢)
    have := snF_len (ts := ts) (ps := ps) (xs := xs) (q := a) (i := j); omega)
  (try simp only [] at h)
  unfold scR; omega
theorem scV_len : (scV ts ps xs).length ≤ 1048576 := by
  unfold scV; split
  · rename_i h
    simp only [scO, Bool.and_eq_true] at h
    have := tlB_len h.2; omega
  · simp
theorem trB_id {i s x y h l : Int} (t : trB i s x y h l = true) : 1 ≤ i ∧ i ≤ 999 := by
  simp only [trB, Bool.and_eq_true] at t
  exact inB_iff.1 t.1.1.1
/-- numbers of tracks that rise are numbers from 1 to 999 that rise -/
theorem r1_of (h1 : tlB ts = true) (h2 : rsB xs = true) (h3 : allI (scP ts ps xs) 0 xs.length = true) : r1B xs 1 999 = true := by
  refine allI_iff.2 fun j h4 h5 => ?_
  have h6 := allI_iff.1 h3 j h4 h5
  simp only [scP, Bool.and_eq_true, Bool.not_eq_true', decide_eq_false_iff_not] at h6
  have h7 : 1 ≤ ig xs j ∧ ig xs j ≤ 999 := by
    rcases fdI_cases (ts := ts) (id := ig xs j) with h | ⟨a, b, c⟩
    · omega
    · have := trB_id (tl_at' h1 a b)
      rw [c] at this; exact this
  have h8 : inB (ig xs j) 1 999 = true := inB_iff.2 h7
  simp only [r1P, h8, Bool.true_and, Bool.not_eq_true', Bool.and_eq_false_iff, decide_eq_false_iff_not]
  by_cases e : 0 < j
  · right
    have h9 := allI_iff.1 h2 j (by omega) h5
    simp only [rsP, decide_eq_true_eq] at h9; omega
  · left; exact e
theorem rs_of {lo hi : Int} (h : r1B xs lo hi = true) : rsB xs = true := by
  refine allI_iff.2 fun j h4 h5 => ?_
  have h6 := allI_iff.1 h j (by omega) h5
  simp only [r1P, Bool.and_eq_true, Bool.not_eq_true', Bool.and_eq_false_iff, decide_eq_false_iff_not] at h6
  simp only [rsP, decide_eq_true_eq]
  rcases h6.2 with h7 | h7 <;> omega
theorem sc_n2' (h : r1B xs 1 999 = false) : scO ts ps xs = false := by
  cases ho : scO ts ps xs with
  | false => rfl
  | true =>
    simp only [scO, Bool.and_eq_true, decide_eq_true_eq] at ho
    have := r1_of ho.1.1.1.1 ho.1.1.1.2 ho.1.2
    rw [h] at this; cases this
end
end Go.Proofs.Ytejahpnbplcgnaa
