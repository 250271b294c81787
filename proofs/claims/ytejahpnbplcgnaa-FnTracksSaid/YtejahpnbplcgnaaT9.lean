/-
Contracts of MissTrack, over plain data, and its law.
No condition but those that the contracts name.
-/
import Derived.Test.YtejahpnbplcgnaaT8
namespace Go.Proofs.Ytejahpnbplcgnaa
open Eng
set_option linter.unusedSimpArgs false
set_option linter.unusedVariables false
theorem foldI_split {α : Type} {f : α → Int → α} {m n : Int} (hm : m ≤ n) : ∀ {a : α} {i : Int}, i ≤ m → foldI f a i n = foldI f (foldI f a i m) m n := by
  have key : ∀ (k : Nat) (i : Int) (a : α), (m - i).toNat ≤ k → i ≤ m → foldI f a i n = foldI f (foldI f a i m) m n := by
    intro k
    induction k with
    | zero => intro i a h h1; have e : i = m := by omega
              subst e; rw [foldI_end (i := i) (n := i) (by omega)]
    | succ k ih =>
      intro i a h h1
      by_cases e : i = m
      · subst e; rw [foldI_end (i := i) (n := i) (by omega)]
      · rw [foldI_step (by omega), foldI_step (n := m) (by omega)]; exact ih (i + 1) _ (by omega) (by omega)
  exact fun {a i} h => key _ i a (Nat.le_refl _) h
theorem foldI_congr {α : Type} {f g : α → Int → α} {n : Int} {a : α} {i : Int} (h : ∀ a j, i ≤ j → j < n → f a j = g a j) : foldI f a i n = foldI g a i n :=
  foldI_rel (fun x y => x = y) rfl (fun a b j h1 h2 e => by rw [e]; exact h b j h1 h2)
theorem take_drop_snoc {α : Type} [Inhabited α] {xs : List α} {a j : Nat} (h : a ≤ j) (hj : j < xs.length) : (xs.take j).drop a ++ [xs.getD j default] = (xs.take (j + 1)).drop a := by
  rw [List.take_add_one, List.drop_append_of_le_length (by simp; omega)]
  congr 1
  simp [List.getD, List.getElem?_eq_getElem hj]
theorem fold_copy {ts us : List Trk} {a n : Int} (h0 : 0 ≤ a) (h1 : a ≤ n) (h2 : n ≤ ts.length) : foldI (fun us k => us ++ [tk ts k]) us a n = us ++ (ts.take n.toNat).drop a.toNat := by
  have := foldI_ind (f := fun us k => us ++ [tk ts k]) (n := n) (fun vs j => vs = us ++ (ts.take j.toNat).drop a.toNat) (a := us) (i := a) h1 (by simp) (fun vs j h3 h4 h => by
    (try simp only [] at h ⊢)
    rw [h, List.append_assoc]
    have e : (j + 1).toNat = j.toNat + 1 := by omega
    rw [e, ← take_drop_snoc (by omega) (by omega)]; rfl)
  exact this
def missV (t : Trk) : Trk := ⟨t.i, 3, t.x, t.y, t.h, w64 (t.l + 1)⟩
def miF (ts : List Trk) (i : Int) (us : List Trk) (k : Int) : List Trk := if (k == i) = true then (if misK (tk ts k).s (tk ts k).l = true then us ++ [missV (tk ts k)] else us) else us ++ [tk ts k]
def miR (ts : List Trk) (i : Int) : List Trk := foldI (miF ts i) [] 0 ts.length
def miO (ts : List Trk) (id : Int) : Bool := tlB ts && !decide (fdI ts id < 0)
def miV (ts : List Trk) (id : Int) : List Trk := if miO ts id = true then miR ts (fdI ts id) else []
section
variable {ts us : List Trk} {id i k : Int}
theorem mi_no (h : miO ts id = false) : miV ts id = [] := by simp [miV, h]
theorem mi_yes (h : miO ts id = true) : miV ts id = miR ts (fdI ts id) := by simp [miV, h]
theorem mi_n1 (h : tlB ts = false) : miO ts id = false := by simp [miO, h]
theorem mi_n2 (h : fdI ts id < 0) : miO ts id = false := by simp [miO, h]
theorem mi_y (h1 : ¬ tlB ts = false) (h2 : ¬ fdI ts id < 0) : miO ts id = true := by
  simp only [miO, Bool.and_eq_true, Bool.not_eq_true', decide_eq_false_iff_not]
  exact ⟨by simpa using h1, h2⟩
theorem miF_own (h : (k == i) = true) (h2 : misK (tk ts k).s (tk ts k).l = true) : us ++ [missV (tk ts k)] = miF ts i us k := by unfold miF; rw [if_pos h, if_pos h2]
theorem miF_drop (h : (k == i) = true) (h2 : misK (tk ts k).s (tk ts k).l = false) : us = miF ts i us k := by unfold miF; rw [if_pos h, if_neg (by rw [h2]; decide)]
theorem miF_else (h : ¬ (k == i) = true) : us ++ [tk ts k] = miF ts i us k := by unfold miF; rw [if_neg h]
theorem miF_len : (miF ts i us k).length ≤ us.length + 1 := by
  unfold miF; split
  · split <;> simp
  · simp
theorem miR_len : (miR ts i).length ≤ ts.length := by
  have h := foldI_ind (f := miF ts i) (n := ts.length) (fun (us : List Trk) i => (us.length : Int) ≤ i) (a := []) (i := 0) (by omega) (by simp) (fun a j h1 h2 h => by
    (try simp only [] at h ⊢)
    have := miF_len (ts := ts) (i := i) (us := a) (k := j); omega)
  (try simp only [] at h)
  unfold miR; omega
theorem miV_len : (miV ts id).length ≤ 1048576 := by
  unfold miV; split
  · rename_i h
    simp only [miO, Bool.and_eq_true] at h
    have := tlB_len h.1; have := miR_len (ts := ts) (i := fdI ts id); omega
  · simp
theorem miR_eq (h0 : 0 ≤ i) (h1 : i < ts.length) : miR ts i = ts.take i.toNat ++ (if misK (tk ts i).s (tk ts i).l = true then [missV (tk ts i)] else []) ++ ts.drop (i + 1).toNat := by
  unfold miR
  rw [foldI_split (m := i) (by omega) (by omega), foldI_step h1]
  have e1 : foldI (miF ts i) [] 0 i = ts.take i.toNat := by
    rw [foldI_congr (g := fun us k => us ++ [tk ts k]) (fun a j h2 h3 => (miF_else (by simp; omega)).symm), fold_copy (by omega) (by omega) (by omega)]
    simp
  have e2 : ∀ us, foldI (miF ts i) us (i + 1) ts.length = us ++ ts.drop (i + 1).toNat := by
    intro us
    rw [foldI_congr (g := fun us k => us ++ [tk ts k]) (fun a j h2 h3 => (miF_else (by simp; omega)).symm), fold_copy (by omega) (by omega) (by omega)]
    simp
  rw [e1, e2]
  congr 1
  unfold miF
  rw [if_pos (by simp)]
  split <;> simp
theorem tl_at' (h : tlB ts = true) (h0 : 0 ≤ i) (h1 : i < ts.length) : Trk.b (tk ts i) = true := by
  have key : ∀ (m : Nat) (i : Int), ((ts.length : Int) - i).toNat ≤ m → tlGo ts i = true → ∀ j, i ≤ j → j < ts.length → Trk.b (ts.getD j.toNat default) = true := by
    intro m
    induction m with
    | zero => intro i hm _ j h1 h2; omega
    | succ m ih =>
      intro i hm hg j h1 h2
      rw [tlGo.eq_1, if_pos (by omega)] at hg
      split at hg
      · rename_i hc
        by_cases e : j = i
        · subst e; exact hc.1
        · exact ih (i + 1) (by omega) hg j (by omega) h2
      · cases hg
  simp only [tlB, Bool.and_eq_true] at h
  exact key _ 0 (Nat.le_refl _) h.2 i h0 h1
theorem trB_lost {i s x y h l : Int} (t : trB i s x y h l = true) : 0 ≤ l ∧ l ≤ 3 := by
  simp only [trB, Bool.and_eq_true] at t
  obtain ⟨_, t⟩ := t
  split at t
  · simp at t; omega
  · split at t
    · simp at t; omega
    · split at t
      · simp only [Bool.and_eq_true] at t; have := inB_iff.1 t.2; omega
      · cases t
theorem mis_eq (h : tlB ts = true) (h0 : 0 ≤ i) (h1 : i < ts.length) : misK (tk ts i).s (tk ts i).l = misO (tk ts i).s (tk ts i).l := by
  have := trB_lost (tl_at' h h0 h1)
  unfold misK misO
  congr 1
  have e : w64 ((tk ts i).l + 1) = (tk ts i).l + 1 := wrap_id (by omega) (by omega)
  rw [e]
  by_cases h3 : (tk ts i).l = 3
  · simp [h3]
  · have : (tk ts i).l + 1 ≤ 3 := by omega
    simp [h3, this]
end
set_option maxRecDepth 100000 in
set_option maxHeartbeats 4000000 in
theorem impMissTrack_gc {ts : List Trk} {id : Int} (hl : ts.length ≤ 1048576) : GC Try.prog 35 [.sl 6 (ts.map Trk.e), vi id] [] (fun r_ hs_ => r_ = .tup [.ref 0 (miV ts id).length, vb (miO ts id)] ∧ hs_ = [.arr 6 ((miV ts id).map Trk.e)]) := by
  refine GC.nilX 6 ?_
  refine GC.of_func [] Try.call35 Try.func35 rfl ⟨by kernel_rfl, by kernel_rfl⟩ (by kernel_rfl) ?_
  rw [Try.results35]
  simp -implicitDefEqProofs (maxSteps := 4000000) only [sim0, sim1, sim2, sim3, sim4, sim5, sim6, sim7, sim8, ↓reduceIte, Nat.reduceEqDiff, Nat.reduceAdd, Nat.reduceMul, Nat.reduceSub, Nat.reduceLT, Nat.reduceLeDiff, reduceCtorEq, Int.reduceToNat, Int.reduceNeg, Nat.reduceBEq, simx, ty, Trk.row, Plc.row, It.row, idxS_map, loadS_map, stoS_map, ← List.map_take, ← List.map_drop]
  repeat' (first
    | ((with_reducible refine onCall ?_); first
      | (refine GC.callR (by repeat' (first | exact rdL_nil | refine rdL_cons ?_ ?_ | exact rd_v | exact rd_sl | exact rd_nil | refine rd_ref rfl (by simp) (plnLL_map (fun _ => rfl) _) | refine rd_rs rfl (by simp; omega) (plnLL_map (fun _ => rfl) _) | refine rd_agg ?_)) (trackAt_gc ?_) rfl ?_ <;> try simp -implicitDefEqProofs (maxSteps := 4000000) only [sim0, sim1, sim2, sim3, sim4, sim5, sim6, sim7, sim8, ↓reduceIte, Nat.reduceEqDiff, Nat.reduceAdd, Nat.reduceMul, Nat.reduceSub, Nat.reduceLT, Nat.reduceLeDiff, reduceCtorEq, Int.reduceToNat, Int.reduceNeg, Nat.reduceBEq, simx, ty, Trk.row, Plc.row, It.row, idxS_map, loadS_map, stoS_map, ← List.map_take, ← List.map_drop])
      | (refine GC.callR (by repeat' (first | exact rdL_nil | refine rdL_cons ?_ ?_ | exact rd_v | exact rd_sl | exact rd_nil | refine rd_ref rfl (by simp) (plnLL_map (fun _ => rfl) _) | refine rd_rs rfl (by simp; omega) (plnLL_map (fun _ => rfl) _) | refine rd_agg ?_)) isValidTracks_gc rfl ?_ <;> try simp -implicitDefEqProofs (maxSteps := 4000000) only [sim0, sim1, sim2, sim3, sim4, sim5, sim6, sim7, sim8, ↓reduceIte, Nat.reduceEqDiff, Nat.reduceAdd, Nat.reduceMul, Nat.reduceSub, Nat.reduceLT, Nat.reduceLeDiff, reduceCtorEq, Int.reduceToNat, Int.reduceNeg, Nat.reduceBEq, simx, ty, Trk.row, Plc.row, It.row, idxS_map, loadS_map, stoS_map, ← List.map_take, ← List.map_drop])
      | (refine GC.callS trkMiss_gc rfl rfl ?_ <;> try simp -implicitDefEqProofs (maxSteps := 4000000) only [sim0, sim1, sim2, sim3, sim4, sim5, sim6, sim7, sim8, ↓reduceIte, Nat.reduceEqDiff, Nat.reduceAdd, Nat.reduceMul, Nat.reduceSub, Nat.reduceLT, Nat.reduceLeDiff, reduceCtorEq, Int.reduceToNat, Int.reduceNeg, Nat.reduceBEq, simx, ty, Trk.row, Plc.row, It.row, idxS_map, loadS_map, stoS_map, ← List.map_take, ← List.map_drop])
      | fail)
    | ((with_reducible refine onCode ?_); first
      | (refine onLid 6 ?_ (by rfl); refine acode_loop_wk (Wk.nil 7 6 (by rfl)) ?_; try (simp -implicitDefEqProofs (maxSteps := 4000000) only [sim0, sim1, sim2, sim3, sim4, sim5, sim6, sim7, sim8, ↓reduceIte, Nat.reduceEqDiff, Nat.reduceAdd, Nat.reduceMul, Nat.reduceSub, Nat.reduceLT, Nat.reduceLeDiff, reduceCtorEq, Int.reduceToNat, Int.reduceNeg, Nat.reduceBEq, simx, ty, Trk.row, Plc.row, It.row, idxS_map, loadS_map, stoS_map, ← List.map_take, ← List.map_drop]); refine acode_prune [0, 1, 4, 5, 6, 7, 8, 9, 10, 21, 22, 23] ?_; simp only [prn_cons, prn_nil, lk_cons, lk_emp, Nat.reduceEqDiff, ↓reduceIte]; refine acode_loopE2 6 (by rfl) (α := Int × List Trk) (fun ⟨k, us⟩ => [(23, vi k), (7, .ref 0 us.length)]) [8, 9, 10, 24, 25, 26, 27, 28, 29, 30, 31, 32, 33, 34, 35, 36, 37, 38, 39, 40, 41] [8, 9, 10] (by kernel_rfl) [(7, 0)] (fun ⟨k, us⟩ => [.arr 6 (us.map Trk.e)]) (fun _ => by simp) (fun _ _ => rfl) (fun ⟨k, us⟩ => (0 ≤ k ∧ k ≤ ts.length) ∧ miO ts id = true ∧ (us.length : Int) ≤ k ∧ miR ts (fdI ts id) = foldI (miF ts (fdI ts id)) us k ts.length) (fun ⟨k, us⟩ => (ts.length - k).toNat) ((0, [])) ?_ ?_ (by (try simp only []) <;> first | ((rename_i h1; exact ⟨by omega, mi_y h1 hq, by simp, rfl⟩)) | fail) ?_; (focus ((try dsimp only []); (repeat' (first | exact agr_none | exact lk_hd | refine lk_tl (by decide) ?_ | refine agr_one ?_ ?_)); done)); (focus (first | rfl | (simp; done))); rintro ⟨k, us⟩ hJ; (try simp only [] at hJ); have hJ6 := hJ; simp -implicitDefEqProofs (maxSteps := 4000000) only [sim0, sim1, sim2, sim3, sim4, sim5, sim6, sim7, sim8, ↓reduceIte, Nat.reduceEqDiff, Nat.reduceAdd, Nat.reduceMul, Nat.reduceSub, Nat.reduceLT, Nat.reduceLeDiff, reduceCtorEq, Int.reduceToNat, Int.reduceNeg, Nat.reduceBEq, simx, ty, Trk.row, Plc.row, It.row, idxS_map, loadS_map, stoS_map, ← List.map_take, ← List.map_drop])
      | fail)
    | ((with_reducible refine onLpe ?_); first
      | (refine lpe2_end0 (α := Int × List Trk) (mods := (fun ⟨k, us⟩ => [(23, vi k), (7, .ref 0 us.length)])) _ (_, _) rfl rfl rfl (by (try dsimp only []); rfl) (by first | (simp only [plnLL, pln, Value.oneCell', List.all_cons, List.all_nil, plnH, Trk.pl, Plc.pl, It.pl, Bool.and_true, Bool.and_self]; done) | rfl) (by (try dsimp only []); simp only [agrR_cons, agrR_nil, lk_cons, lk_emp, Nat.reduceEqDiff, ↓reduceIte, and_true]; repeat' (first | exact rn_v | rfl | (simp only [List.length_append, List.length_cons, List.length_nil]; rfl) | apply And.intro)) (by unfold undK; kernel_rfl) ?_ ?_ <;> ((try simp only []); ((have e_ : IntKind.i64.wrap (k + 1) = k + 1 := wrap_id (by omega) (by omega); (try simp only [e_] at hq ⊢); first | omega | exact ⟨by omega, hJ6.2.1, by omega, foldI_go rfl (by omega) (miF_drop (by assumption) (by simpa [tk] using hq)) hJ6.2.2.2⟩ | (refine ⟨by omega, hJ6.2.1, by simp; omega, foldI_go rfl (by omega) ?_ hJ6.2.2.2⟩; first | exact miF_else hq | exact miF_own (by assumption) (by simpa [tk] using hq))))))
      | fail)
    | ((with_reducible refine onFin ?_); first
      | (refine fin_orL ?_ ?_ ?_ (by first | (simp only [plnLL, pln, Value.oneCell', List.all_cons, List.all_nil, plnH, Trk.pl, Plc.pl, It.pl, Bool.and_true, Bool.and_self, List.take_zero, List.nil_append, List.map_cons, List.map_nil]; done) | rfl) <;> (first | (first | (have h := foldI_fin (by omega) hJ6.2.2.2; simp [fins, funs, ids_tup, hJ6.2.1, h, mi_yes hJ6.2.1]; done) | (have hn := mi_n1 (id := id) hq; simp [fins, funs, ids_tup, hn, mi_no hn]; done) | (have hn := mi_n2 hq; simp [fins, funs, ids_tup, hn, mi_no hn]; done)) | (simp_all [fins, funs]; done) | (simp [fins, funs]; done) | (simp_all [-Int.not_lt, -Int.not_le, fins, funs]; done) | (simp_all [fins, funs]; omega)))
      | (refine fin_orR ?_ ?_ <;> (first | (first | (have h := foldI_fin (by omega) hJ6.2.2.2; simp [fins, funs, ids_tup, hJ6.2.1, h, mi_yes hJ6.2.1]; done) | (have hn := mi_n1 (id := id) hq; simp [fins, funs, ids_tup, hn, mi_no hn]; done) | (have hn := mi_n2 hq; simp [fins, funs, ids_tup, hn, mi_no hn]; done)) | (simp_all [fins, funs]; done) | (simp [fins, funs]; done) | (simp_all [-Int.not_lt, -Int.not_le, fins, funs]; done) | (simp_all [fins, funs]; omega)))
      | fail)
    | (with_reducible refine ite_intro (fun hq => ?_) (fun hq => ?_))
    | (with_reducible refine And.intro (fun hq => ?_) (fun hq => ?_))
    | (with_reducible refine And.intro ?_ ?_)
    | ((fail_if_success (with_reducible refine onCode ?_)); (fail_if_success (with_reducible refine onLps ?_)); (fail_if_success (with_reducible refine onLpd ?_)); (fail_if_success (with_reducible refine onLpe ?_)); (fail_if_success (with_reducible refine onFin ?_)); (fail_if_success (with_reducible refine onCall ?_)); (fail_if_success (with_reducible refine onQcall ?_)); first | ((first | exact hl | omega); done) | omega | (rw [wrap_id (by omega) (by omega)]; omega) | (first | (have h := foldI_fin (by omega) hJ6.2.2.2; simp [fins, funs, ids_tup, hJ6.2.1, h, mi_yes hJ6.2.1]; done) | (have hn := mi_n1 (id := id) hq; simp [fins, funs, ids_tup, hn, mi_no hn]; done) | (have hn := mi_n2 hq; simp [fins, funs, ids_tup, hn, mi_no hn]; done))))

theorem mi_s1 {ts : List Trk} {id : Int} (hl : ts.length ≤ 1048576) (h1 : ¬ tlB ts = false) (h2 : ¬ fdI ts id < 0) (h3 : misO (tk ts (fdI ts id)).s (tk ts (fdI ts id)).l = true) :
    miO ts id = true ∧ miV ts id = ts.take (fdI ts id).toNat ++ [missV (tk ts (fdI ts id))] ++ ts.drop (IntKind.i64.wrap (fdI ts id + 1)).toNat := by
  have h := mi_y h1 h2
  have h4 : tlB ts = true := by simpa using h1
  have h5 := fdI_lt (ts := ts) (id := id)
  have e : IntKind.i64.wrap (fdI ts id + 1) = fdI ts id + 1 := wrap_id (by omega) (by omega)
  rw [mi_yes h, miR_eq (by omega) (by omega), mis_eq h4 (by omega) (by omega), h3, e]
  exact ⟨h, rfl⟩
theorem mi_s2 {ts : List Trk} {id : Int} (hl : ts.length ≤ 1048576) (h1 : ¬ tlB ts = false) (h2 : ¬ fdI ts id < 0) (h3 : ¬ misO (tk ts (fdI ts id)).s (tk ts (fdI ts id)).l = true) :
    miO ts id = true ∧ miV ts id = ts.take (fdI ts id).toNat ++ ts.drop (IntKind.i64.wrap (fdI ts id + 1)).toNat := by
  have h := mi_y h1 h2
  have h4 : tlB ts = true := by simpa using h1
  have h5 := fdI_lt (ts := ts) (id := id)
  have e : IntKind.i64.wrap (fdI ts id + 1) = fdI ts id + 1 := wrap_id (by omega) (by omega)
  rw [mi_yes h, miR_eq (by omega) (by omega), mis_eq h4 (by omega) (by omega), if_neg h3, e, List.append_nil]
  exact ⟨h, rfl⟩
set_option maxRecDepth 100000 in
set_option maxHeartbeats 4000000 in
theorem sMissTrack_gc {ts : List Trk} {id : Int} (hl : ts.length ≤ 1048576) : GC Try.prog 34 [.sl 6 (ts.map Trk.e), vi id] [] (fun r_ hs_ => r_ = .tup [.ref 0 (miV ts id).length, vb (miO ts id)] ∧ hs_ = [.arr 6 ((miV ts id).map Trk.e)]) := by
  refine GC.nilX 6 ?_
  refine GC.of_func [] Try.call34 Try.func34 rfl ⟨by kernel_rfl, by kernel_rfl⟩ (by kernel_rfl) ?_
  rw [Try.results34]
  simp -implicitDefEqProofs (maxSteps := 4000000) only [sim0, sim1, sim2, sim3, sim4, sim5, sim6, sim7, sim8, ↓reduceIte, Nat.reduceEqDiff, Nat.reduceAdd, Nat.reduceMul, Nat.reduceSub, Nat.reduceLT, Nat.reduceLeDiff, reduceCtorEq, Int.reduceToNat, Int.reduceNeg, Nat.reduceBEq, simx, ty, Trk.row, Plc.row, It.row, idxS_map, loadS_map, stoS_map, ← List.map_take, ← List.map_drop]
  repeat' (first
    | ((with_reducible refine onCall ?_); first
      | (refine GC.callR (by repeat' (first | exact rdL_nil | refine rdL_cons ?_ ?_ | exact rd_v | exact rd_sl | exact rd_nil | refine rd_ref rfl (by simp) (plnLL_map (fun _ => rfl) _) | refine rd_rs rfl (by simp; omega) (plnLL_map (fun _ => rfl) _) | refine rd_agg ?_)) (l14Find_gc ?_) rfl ?_ <;> try simp -implicitDefEqProofs (maxSteps := 4000000) only [sim0, sim1, sim2, sim3, sim4, sim5, sim6, sim7, sim8, ↓reduceIte, Nat.reduceEqDiff, Nat.reduceAdd, Nat.reduceMul, Nat.reduceSub, Nat.reduceLT, Nat.reduceLeDiff, reduceCtorEq, Int.reduceToNat, Int.reduceNeg, Nat.reduceBEq, simx, ty, Trk.row, Plc.row, It.row, idxS_map, loadS_map, stoS_map, ← List.map_take, ← List.map_drop])
      | (refine GC.callR (by repeat' (first | exact rdL_nil | refine rdL_cons ?_ ?_ | exact rd_v | exact rd_sl | exact rd_nil | refine rd_ref rfl (by simp) (plnLL_map (fun _ => rfl) _) | refine rd_rs rfl (by simp; omega) (plnLL_map (fun _ => rfl) _) | refine rd_agg ?_)) l14List_gc rfl ?_ <;> try simp -implicitDefEqProofs (maxSteps := 4000000) only [sim0, sim1, sim2, sim3, sim4, sim5, sim6, sim7, sim8, ↓reduceIte, Nat.reduceEqDiff, Nat.reduceAdd, Nat.reduceMul, Nat.reduceSub, Nat.reduceLT, Nat.reduceLeDiff, reduceCtorEq, Int.reduceToNat, Int.reduceNeg, Nat.reduceBEq, simx, ty, Trk.row, Plc.row, It.row, idxS_map, loadS_map, stoS_map, ← List.map_take, ← List.map_drop])
      | (refine GC.callS l14Miss_gc rfl rfl ?_ <;> try simp -implicitDefEqProofs (maxSteps := 4000000) only [sim0, sim1, sim2, sim3, sim4, sim5, sim6, sim7, sim8, ↓reduceIte, Nat.reduceEqDiff, Nat.reduceAdd, Nat.reduceMul, Nat.reduceSub, Nat.reduceLT, Nat.reduceLeDiff, reduceCtorEq, Int.reduceToNat, Int.reduceNeg, Nat.reduceBEq, simx, ty, Trk.row, Plc.row, It.row, idxS_map, loadS_map, stoS_map, ← List.map_take, ← List.map_drop])
      | fail)
    | ((with_reducible refine onFin ?_); first
      | (refine fin_orL ?_ ?_ ?_ (by first | (simp only [plnLL, pln, Value.oneCell', List.all_cons, List.all_nil, plnH, Trk.pl, Plc.pl, It.pl, Bool.and_true, Bool.and_self, List.take_zero, List.nil_append, List.map_cons, List.map_nil]; done) | rfl) <;> (first | (first | (rename_i h1 h2; have g := mi_s1 hl h1 h2 hq; have hq2 := hq; simp only [List.getD_eq_getElem?_getD] at hq2; simp [fins, funs, ids_tup, g.1, g.2, missV, tk, hq2]; done) | (rename_i h1 h2; have g := mi_s1 hl h1 h2 hq; simp [fins, funs, ids_tup, g.1, g.2]; omega) | (rename_i h1 h2; have g := mi_s2 hl h1 h2 hq; simp [fins, funs, ids_tup, g.1, g.2]; done) | (have hn := mi_n1 (id := id) hq; simp [fins, funs, ids_tup, hn, mi_no hn]; done) | (have hn := mi_n2 hq; simp [fins, funs, ids_tup, hn, mi_no hn]; done)) | (simp_all [fins, funs]; done) | (simp [fins, funs]; done) | (simp_all [-Int.not_lt, -Int.not_le, fins, funs]; done) | (simp_all [fins, funs]; omega)))
      | (refine fin_orR ?_ ?_ <;> (first | (first | (rename_i h1 h2; have g := mi_s1 hl h1 h2 hq; have hq2 := hq; simp only [List.getD_eq_getElem?_getD] at hq2; simp [fins, funs, ids_tup, g.1, g.2, missV, tk, hq2]; done) | (rename_i h1 h2; have g := mi_s1 hl h1 h2 hq; simp [fins, funs, ids_tup, g.1, g.2]; omega) | (rename_i h1 h2; have g := mi_s2 hl h1 h2 hq; simp [fins, funs, ids_tup, g.1, g.2]; done) | (have hn := mi_n1 (id := id) hq; simp [fins, funs, ids_tup, hn, mi_no hn]; done) | (have hn := mi_n2 hq; simp [fins, funs, ids_tup, hn, mi_no hn]; done)) | (simp_all [fins, funs]; done) | (simp [fins, funs]; done) | (simp_all [-Int.not_lt, -Int.not_le, fins, funs]; done) | (simp_all [fins, funs]; omega)))
      | fail)
    | (with_reducible refine ite_intro (fun hq => ?_) (fun hq => ?_))
    | (with_reducible refine And.intro (fun hq => ?_) (fun hq => ?_))
    | (with_reducible refine And.intro ?_ ?_)
    | ((fail_if_success (with_reducible refine onCode ?_)); (fail_if_success (with_reducible refine onLps ?_)); (fail_if_success (with_reducible refine onLpd ?_)); (fail_if_success (with_reducible refine onLpe ?_)); (fail_if_success (with_reducible refine onFin ?_)); (fail_if_success (with_reducible refine onCall ?_)); (fail_if_success (with_reducible refine onQcall ?_)); first | ((first | exact hl | (have h9 := fdI_lt (ts := ts) (id := id); omega) | (have h9 := fdI_lt (ts := ts) (id := id); rw [wrap_id (by omega) (by omega)]; omega) | (have h9 := fdI_lt (ts := ts) (id := id); simp; omega)); done) | omega | (rw [wrap_id (by omega) (by omega)]; omega) | (first | (rename_i h1 h2; have g := mi_s1 hl h1 h2 hq; have hq2 := hq; simp only [List.getD_eq_getElem?_getD] at hq2; simp [fins, funs, ids_tup, g.1, g.2, missV, tk, hq2]; done) | (rename_i h1 h2; have g := mi_s1 hl h1 h2 hq; simp [fins, funs, ids_tup, g.1, g.2]; omega) | (rename_i h1 h2; have g := mi_s2 hl h1 h2 hq; simp [fins, funs, ids_tup, g.1, g.2]; done) | (have hn := mi_n1 (id := id) hq; simp [fins, funs, ids_tup, hn, mi_no hn]; done) | (have hn := mi_n2 hq; simp [fins, funs, ids_tup, hn, mi_no hn]; done))))

set_option maxRecDepth 100000 in
set_option maxHeartbeats 4000000 in
theorem FnExactMissTrack_g0 {ts : List Trk} {id : Int} (hl : ts.length ≤ maxLen) : GC Try.prog 8 [.sl 6 (ts.map Trk.e), vi id] [] (fun r _ => r = vb true) := by
  refine GC.of_func [] Try.call8 Try.func8 rfl ⟨by kernel_rfl, by kernel_rfl⟩ (by kernel_rfl) ?_
  rw [Try.results8]
  simp -implicitDefEqProofs (maxSteps := 4000000) only [sim0, sim1, sim2, sim3, sim4, sim5, sim6, sim7, sim8, ↓reduceIte, Nat.reduceEqDiff, Nat.reduceAdd, Nat.reduceMul, Nat.reduceSub, Nat.reduceLT, Nat.reduceLeDiff, reduceCtorEq, Int.reduceToNat, Int.reduceNeg, Nat.reduceBEq, simx, ty, Trk.row, Plc.row, It.row, idxS_map, loadS_map, stoS_map, ← List.map_take, ← List.map_drop, sz_neg, mkTrk_len, mkPlc_len, mkIt_len]
  repeat' (first
    | ((with_reducible refine onCall ?_); first
      | (refine GC.callR (by repeat' (first | exact rdL_nil | refine rdL_cons ?_ ?_ | exact rd_v | exact rd_sl | exact rd_nil | refine rd_ref rfl (by simp [mkTrk_len, mkPlc_len, mkIt_len]) (plnLL_map (fun _ => rfl) _) | refine rd_rs rfl (by simp; omega) (plnLL_map (fun _ => rfl) _) | refine rd_agg ?_)) (szTrackS_gc ?_ ?_) rfl ?_ <;> try simp -implicitDefEqProofs (maxSteps := 4000000) only [sim0, sim1, sim2, sim3, sim4, sim5, sim6, sim7, sim8, ↓reduceIte, Nat.reduceEqDiff, Nat.reduceAdd, Nat.reduceMul, Nat.reduceSub, Nat.reduceLT, Nat.reduceLeDiff, reduceCtorEq, Int.reduceToNat, Int.reduceNeg, Nat.reduceBEq, simx, ty, Trk.row, Plc.row, It.row, idxS_map, loadS_map, stoS_map, ← List.map_take, ← List.map_drop, sz_neg, mkTrk_len, mkPlc_len, mkIt_len])
      | (refine GC.use true [] (toTrackS_gc ?_) rfl trivial (by repeat' (first | exact arL_nil | refine arL_cons ?_ ?_ | exact ar_v | exact ar_sl | exact ar_nil | refine ar_ref rfl rfl (by simp [mkTrk_len, mkPlc_len, mkIt_len]) (plnLL_map (fun _ => rfl) _) | refine ar_rs rfl rfl (by simp; omega) (plnLL_map (fun _ => rfl) _) | refine ar_agg ?_)) (.inr ⟨rfl, by first | rfl | simp [Trk.ns, Plc.ns, It.ns]⟩) ?_ <;> try simp -implicitDefEqProofs (maxSteps := 4000000) only [sim0, sim1, sim2, sim3, sim4, sim5, sim6, sim7, sim8, ↓reduceIte, Nat.reduceEqDiff, Nat.reduceAdd, Nat.reduceMul, Nat.reduceSub, Nat.reduceLT, Nat.reduceLeDiff, reduceCtorEq, Int.reduceToNat, Int.reduceNeg, Nat.reduceBEq, simx, ty, Trk.row, Plc.row, It.row, idxS_map, loadS_map, stoS_map, ← List.map_take, ← List.map_drop, sz_neg, mkTrk_len, mkPlc_len, mkIt_len])
      | (refine GC.use true [] (sMissTrack_gc ?_) rfl trivial (by repeat' (first | exact arL_nil | refine arL_cons ?_ ?_ | exact ar_v | exact ar_sl | exact ar_nil | refine ar_ref rfl rfl (by simp [mkTrk_len, mkPlc_len, mkIt_len]) (plnLL_map (fun _ => rfl) _) | refine ar_rs rfl rfl (by simp; omega) (plnLL_map (fun _ => rfl) _) | refine ar_agg ?_)) (.inr ⟨rfl, by first | rfl | simp [Trk.ns, Plc.ns, It.ns]⟩) ?_ <;> try simp -implicitDefEqProofs (maxSteps := 4000000) only [sim0, sim1, sim2, sim3, sim4, sim5, sim6, sim7, sim8, ↓reduceIte, Nat.reduceEqDiff, Nat.reduceAdd, Nat.reduceMul, Nat.reduceSub, Nat.reduceLT, Nat.reduceLeDiff, reduceCtorEq, Int.reduceToNat, Int.reduceNeg, Nat.reduceBEq, simx, ty, Trk.row, Plc.row, It.row, idxS_map, loadS_map, stoS_map, ← List.map_take, ← List.map_drop, sz_neg, mkTrk_len, mkPlc_len, mkIt_len])
      | (refine GC.use true [] (impMissTrack_gc ?_) rfl trivial (by repeat' (first | exact arL_nil | refine arL_cons ?_ ?_ | exact ar_v | exact ar_sl | exact ar_nil | refine ar_ref rfl rfl (by simp [mkTrk_len, mkPlc_len, mkIt_len]) (plnLL_map (fun _ => rfl) _) | refine ar_rs rfl rfl (by simp; omega) (plnLL_map (fun _ => rfl) _) | refine ar_agg ?_)) (.inr ⟨rfl, by first | rfl | simp [Trk.ns, Plc.ns, It.ns]⟩) ?_ <;> try simp -implicitDefEqProofs (maxSteps := 4000000) only [sim0, sim1, sim2, sim3, sim4, sim5, sim6, sim7, sim8, ↓reduceIte, Nat.reduceEqDiff, Nat.reduceAdd, Nat.reduceMul, Nat.reduceSub, Nat.reduceLT, Nat.reduceLeDiff, reduceCtorEq, Int.reduceToNat, Int.reduceNeg, Nat.reduceBEq, simx, ty, Trk.row, Plc.row, It.row, idxS_map, loadS_map, stoS_map, ← List.map_take, ← List.map_drop, sz_neg, mkTrk_len, mkPlc_len, mkIt_len])
      | (refine GC.callR (by repeat' (first | exact rdL_nil | refine rdL_cons ?_ ?_ | exact rd_v | exact rd_sl | exact rd_nil | refine rd_ref rfl (by simp [mkTrk_len, mkPlc_len, mkIt_len]) (plnLL_map (fun _ => rfl) _) | refine rd_rs rfl (by simp; omega) (plnLL_map (fun _ => rfl) _) | refine rd_agg ?_)) (eqTrackS_gc ?_) rfl ?_ <;> try simp -implicitDefEqProofs (maxSteps := 4000000) only [sim0, sim1, sim2, sim3, sim4, sim5, sim6, sim7, sim8, ↓reduceIte, Nat.reduceEqDiff, Nat.reduceAdd, Nat.reduceMul, Nat.reduceSub, Nat.reduceLT, Nat.reduceLeDiff, reduceCtorEq, Int.reduceToNat, Int.reduceNeg, Nat.reduceBEq, simx, ty, Trk.row, Plc.row, It.row, idxS_map, loadS_map, stoS_map, ← List.map_take, ← List.map_drop, sz_neg, mkTrk_len, mkPlc_len, mkIt_len])
      | (apply GC.use false [0] (markTrackS_gc ?_ ?_) rfl ?he ?ha (.inl rfl) ?_; (case he => (refine ⟨rfl, ?_, trivial⟩; (first | rw [Trk.up] | rw [Plc.up] | rw [It.up]); exact rfl)); (case ha => (repeat' (first | exact arL_nil | refine arL_cons ?_ ?_ | exact ar_v | exact ar_own rfl | refine ar_agg ?_))); (all_goals (try simp -implicitDefEqProofs (maxSteps := 4000000) only [sim0, sim1, sim2, sim3, sim4, sim5, sim6, sim7, sim8, ↓reduceIte, Nat.reduceEqDiff, Nat.reduceAdd, Nat.reduceMul, Nat.reduceSub, Nat.reduceLT, Nat.reduceLeDiff, reduceCtorEq, Int.reduceToNat, Int.reduceNeg, Nat.reduceBEq, simx, ty, Trk.row, Plc.row, It.row, idxS_map, loadS_map, stoS_map, ← List.map_take, ← List.map_drop, sz_neg, mkTrk_len, mkPlc_len, mkIt_len])))
      | (apply GC.use false [1] (markTrackS_gc ?_ ?_) rfl ?he ?ha (.inl rfl) ?_; (case he => (refine ⟨rfl, ?_, trivial⟩; (first | rw [Trk.up] | rw [Plc.up] | rw [It.up]); exact rfl)); (case ha => (repeat' (first | exact arL_nil | refine arL_cons ?_ ?_ | exact ar_v | exact ar_own rfl | refine ar_agg ?_))); (all_goals (try simp -implicitDefEqProofs (maxSteps := 4000000) only [sim0, sim1, sim2, sim3, sim4, sim5, sim6, sim7, sim8, ↓reduceIte, Nat.reduceEqDiff, Nat.reduceAdd, Nat.reduceMul, Nat.reduceSub, Nat.reduceLT, Nat.reduceLeDiff, reduceCtorEq, Int.reduceToNat, Int.reduceNeg, Nat.reduceBEq, simx, ty, Trk.row, Plc.row, It.row, idxS_map, loadS_map, stoS_map, ← List.map_take, ← List.map_drop, sz_neg, mkTrk_len, mkPlc_len, mkIt_len])))
      | (apply GC.use false [2] (markTrackS_gc ?_ ?_) rfl ?he ?ha (.inl rfl) ?_; (case he => (refine ⟨rfl, ?_, trivial⟩; (first | rw [Trk.up] | rw [Plc.up] | rw [It.up]); exact rfl)); (case ha => (repeat' (first | exact arL_nil | refine arL_cons ?_ ?_ | exact ar_v | exact ar_own rfl | refine ar_agg ?_))); (all_goals (try simp -implicitDefEqProofs (maxSteps := 4000000) only [sim0, sim1, sim2, sim3, sim4, sim5, sim6, sim7, sim8, ↓reduceIte, Nat.reduceEqDiff, Nat.reduceAdd, Nat.reduceMul, Nat.reduceSub, Nat.reduceLT, Nat.reduceLeDiff, reduceCtorEq, Int.reduceToNat, Int.reduceNeg, Nat.reduceBEq, simx, ty, Trk.row, Plc.row, It.row, idxS_map, loadS_map, stoS_map, ← List.map_take, ← List.map_drop, sz_neg, mkTrk_len, mkPlc_len, mkIt_len])))
      | (apply GC.use false [3] (markTrackS_gc ?_ ?_) rfl ?he ?ha (.inl rfl) ?_; (case he => (refine ⟨rfl, ?_, trivial⟩; (first | rw [Trk.up] | rw [Plc.up] | rw [It.up]); exact rfl)); (case ha => (repeat' (first | exact arL_nil | refine arL_cons ?_ ?_ | exact ar_v | exact ar_own rfl | refine ar_agg ?_))); (all_goals (try simp -implicitDefEqProofs (maxSteps := 4000000) only [sim0, sim1, sim2, sim3, sim4, sim5, sim6, sim7, sim8, ↓reduceIte, Nat.reduceEqDiff, Nat.reduceAdd, Nat.reduceMul, Nat.reduceSub, Nat.reduceLT, Nat.reduceLeDiff, reduceCtorEq, Int.reduceToNat, Int.reduceNeg, Nat.reduceBEq, simx, ty, Trk.row, Plc.row, It.row, idxS_map, loadS_map, stoS_map, ← List.map_take, ← List.map_drop, sz_neg, mkTrk_len, mkPlc_len, mkIt_len])))
      | (apply GC.use false [4] (markTrackS_gc ?_ ?_) rfl ?he ?ha (.inl rfl) ?_; (case he => (refine ⟨rfl, ?_, trivial⟩; (first | rw [Trk.up] | rw [Plc.up] | rw [It.up]); exact rfl)); (case ha => (repeat' (first | exact arL_nil | refine arL_cons ?_ ?_ | exact ar_v | exact ar_own rfl | refine ar_agg ?_))); (all_goals (try simp -implicitDefEqProofs (maxSteps := 4000000) only [sim0, sim1, sim2, sim3, sim4, sim5, sim6, sim7, sim8, ↓reduceIte, Nat.reduceEqDiff, Nat.reduceAdd, Nat.reduceMul, Nat.reduceSub, Nat.reduceLT, Nat.reduceLeDiff, reduceCtorEq, Int.reduceToNat, Int.reduceNeg, Nat.reduceBEq, simx, ty, Trk.row, Plc.row, It.row, idxS_map, loadS_map, stoS_map, ← List.map_take, ← List.map_drop, sz_neg, mkTrk_len, mkPlc_len, mkIt_len])))
      | (apply GC.use false [5] (markTrackS_gc ?_ ?_) rfl ?he ?ha (.inl rfl) ?_; (case he => (refine ⟨rfl, ?_, trivial⟩; (first | rw [Trk.up] | rw [Plc.up] | rw [It.up]); exact rfl)); (case ha => (repeat' (first | exact arL_nil | refine arL_cons ?_ ?_ | exact ar_v | exact ar_own rfl | refine ar_agg ?_))); (all_goals (try simp -implicitDefEqProofs (maxSteps := 4000000) only [sim0, sim1, sim2, sim3, sim4, sim5, sim6, sim7, sim8, ↓reduceIte, Nat.reduceEqDiff, Nat.reduceAdd, Nat.reduceMul, Nat.reduceSub, Nat.reduceLT, Nat.reduceLeDiff, reduceCtorEq, Int.reduceToNat, Int.reduceNeg, Nat.reduceBEq, simx, ty, Trk.row, Plc.row, It.row, idxS_map, loadS_map, stoS_map, ← List.map_take, ← List.map_drop, sz_neg, mkTrk_len, mkPlc_len, mkIt_len])))
      | (apply GC.use false [6] (markTrackS_gc ?_ ?_) rfl ?he ?ha (.inl rfl) ?_; (case he => (refine ⟨rfl, ?_, trivial⟩; (first | rw [Trk.up] | rw [Plc.up] | rw [It.up]); exact rfl)); (case ha => (repeat' (first | exact arL_nil | refine arL_cons ?_ ?_ | exact ar_v | exact ar_own rfl | refine ar_agg ?_))); (all_goals (try simp -implicitDefEqProofs (maxSteps := 4000000) only [sim0, sim1, sim2, sim3, sim4, sim5, sim6, sim7, sim8, ↓reduceIte, Nat.reduceEqDiff, Nat.reduceAdd, Nat.reduceMul, Nat.reduceSub, Nat.reduceLT, Nat.reduceLeDiff, reduceCtorEq, Int.reduceToNat, Int.reduceNeg, Nat.reduceBEq, simx, ty, Trk.row, Plc.row, It.row, idxS_map, loadS_map, stoS_map, ← List.map_take, ← List.map_drop, sz_neg, mkTrk_len, mkPlc_len, mkIt_len])))
      | (apply GC.use false [7] (markTrackS_gc ?_ ?_) rfl ?he ?ha (.inl rfl) ?_; (case he => (refine ⟨rfl, ?_, trivial⟩; (first | rw [Trk.up] | rw [Plc.up] | rw [It.up]); exact rfl)); (case ha => (repeat' (first | exact arL_nil | refine arL_cons ?_ ?_ | exact ar_v | exact ar_own rfl | refine ar_agg ?_))); (all_goals (try simp -implicitDefEqProofs (maxSteps := 4000000) only [sim0, sim1, sim2, sim3, sim4, sim5, sim6, sim7, sim8, ↓reduceIte, Nat.reduceEqDiff, Nat.reduceAdd, Nat.reduceMul, Nat.reduceSub, Nat.reduceLT, Nat.reduceLeDiff, reduceCtorEq, Int.reduceToNat, Int.reduceNeg, Nat.reduceBEq, simx, ty, Trk.row, Plc.row, It.row, idxS_map, loadS_map, stoS_map, ← List.map_take, ← List.map_drop, sz_neg, mkTrk_len, mkPlc_len, mkIt_len])))
      | (apply GC.use false [8] (markTrackS_gc ?_ ?_) rfl ?he ?ha (.inl rfl) ?_; (case he => (refine ⟨rfl, ?_, trivial⟩; (first | rw [Trk.up] | rw [Plc.up] | rw [It.up]); exact rfl)); (case ha => (repeat' (first | exact arL_nil | refine arL_cons ?_ ?_ | exact ar_v | exact ar_own rfl | refine ar_agg ?_))); (all_goals (try simp -implicitDefEqProofs (maxSteps := 4000000) only [sim0, sim1, sim2, sim3, sim4, sim5, sim6, sim7, sim8, ↓reduceIte, Nat.reduceEqDiff, Nat.reduceAdd, Nat.reduceMul, Nat.reduceSub, Nat.reduceLT, Nat.reduceLeDiff, reduceCtorEq, Int.reduceToNat, Int.reduceNeg, Nat.reduceBEq, simx, ty, Trk.row, Plc.row, It.row, idxS_map, loadS_map, stoS_map, ← List.map_take, ← List.map_drop, sz_neg, mkTrk_len, mkPlc_len, mkIt_len])))
      | (apply GC.use false [9] (markTrackS_gc ?_ ?_) rfl ?he ?ha (.inl rfl) ?_; (case he => (refine ⟨rfl, ?_, trivial⟩; (first | rw [Trk.up] | rw [Plc.up] | rw [It.up]); exact rfl)); (case ha => (repeat' (first | exact arL_nil | refine arL_cons ?_ ?_ | exact ar_v | exact ar_own rfl | refine ar_agg ?_))); (all_goals (try simp -implicitDefEqProofs (maxSteps := 4000000) only [sim0, sim1, sim2, sim3, sim4, sim5, sim6, sim7, sim8, ↓reduceIte, Nat.reduceEqDiff, Nat.reduceAdd, Nat.reduceMul, Nat.reduceSub, Nat.reduceLT, Nat.reduceLeDiff, reduceCtorEq, Int.reduceToNat, Int.reduceNeg, Nat.reduceBEq, simx, ty, Trk.row, Plc.row, It.row, idxS_map, loadS_map, stoS_map, ← List.map_take, ← List.map_drop, sz_neg, mkTrk_len, mkPlc_len, mkIt_len])))
      | (apply GC.use false [10] (markTrackS_gc ?_ ?_) rfl ?he ?ha (.inl rfl) ?_; (case he => (refine ⟨rfl, ?_, trivial⟩; (first | rw [Trk.up] | rw [Plc.up] | rw [It.up]); exact rfl)); (case ha => (repeat' (first | exact arL_nil | refine arL_cons ?_ ?_ | exact ar_v | exact ar_own rfl | refine ar_agg ?_))); (all_goals (try simp -implicitDefEqProofs (maxSteps := 4000000) only [sim0, sim1, sim2, sim3, sim4, sim5, sim6, sim7, sim8, ↓reduceIte, Nat.reduceEqDiff, Nat.reduceAdd, Nat.reduceMul, Nat.reduceSub, Nat.reduceLT, Nat.reduceLeDiff, reduceCtorEq, Int.reduceToNat, Int.reduceNeg, Nat.reduceBEq, simx, ty, Trk.row, Plc.row, It.row, idxS_map, loadS_map, stoS_map, ← List.map_take, ← List.map_drop, sz_neg, mkTrk_len, mkPlc_len, mkIt_len])))
      | (apply GC.use false [11] (markTrackS_gc ?_ ?_) rfl ?he ?ha (.inl rfl) ?_; (case he => (refine ⟨rfl, ?_, trivial⟩; (first | rw [Trk.up] | rw [Plc.up] | rw [It.up]); exact rfl)); (case ha => (repeat' (first | exact arL_nil | refine arL_cons ?_ ?_ | exact ar_v | exact ar_own rfl | refine ar_agg ?_))); (all_goals (try simp -implicitDefEqProofs (maxSteps := 4000000) only [sim0, sim1, sim2, sim3, sim4, sim5, sim6, sim7, sim8, ↓reduceIte, Nat.reduceEqDiff, Nat.reduceAdd, Nat.reduceMul, Nat.reduceSub, Nat.reduceLT, Nat.reduceLeDiff, reduceCtorEq, Int.reduceToNat, Int.reduceNeg, Nat.reduceBEq, simx, ty, Trk.row, Plc.row, It.row, idxS_map, loadS_map, stoS_map, ← List.map_take, ← List.map_drop, sz_neg, mkTrk_len, mkPlc_len, mkIt_len])))
      | (refine GC.callR (by repeat' (first | exact rdL_nil | refine rdL_cons ?_ ?_ | exact rd_v | exact rd_sl | exact rd_nil | refine rd_ref rfl (by simp [mkTrk_len, mkPlc_len, mkIt_len]) (plnLL_map (fun _ => rfl) _) | refine rd_rs rfl (by simp; omega) (plnLL_map (fun _ => rfl) _) | refine rd_agg ?_)) (heldTrackS_gc ?_ ?_ ?_) rfl ?_ <;> try simp -implicitDefEqProofs (maxSteps := 4000000) only [sim0, sim1, sim2, sim3, sim4, sim5, sim6, sim7, sim8, ↓reduceIte, Nat.reduceEqDiff, Nat.reduceAdd, Nat.reduceMul, Nat.reduceSub, Nat.reduceLT, Nat.reduceLeDiff, reduceCtorEq, Int.reduceToNat, Int.reduceNeg, Nat.reduceBEq, simx, ty, Trk.row, Plc.row, It.row, idxS_map, loadS_map, stoS_map, ← List.map_take, ← List.map_drop, sz_neg, mkTrk_len, mkPlc_len, mkIt_len])
      | fail)
    | ((with_reducible refine onFin ?_); first
      | (refine fin_law ?_; (first | (first | rfl | (simp at hq; done) | (have h9 := miV_len (ts := ts) (id := id); exfalso; omega)) | (simp_all [fins]; done) | (simp_all [-Int.not_lt, -Int.not_le, fins]; done) | (simp_all [fins]; omega)))
      | fail)
    | (with_reducible refine ite_intro (fun hq => ?_) (fun hq => ?_))
    | (with_reducible refine And.intro (fun hq => ?_) (fun hq => ?_))
    | (with_reducible refine And.intro ?_ ?_)
    | ((fail_if_success (with_reducible refine onCode ?_)); (fail_if_success (with_reducible refine onLps ?_)); (fail_if_success (with_reducible refine onLpd ?_)); (fail_if_success (with_reducible refine onLpe ?_)); (fail_if_success (with_reducible refine onFin ?_)); (fail_if_success (with_reducible refine onCall ?_)); (fail_if_success (with_reducible refine onQcall ?_)); first | ((first | omega | (exact miV_len) | (have h9 := miV_len (ts := ts) (id := id); omega) | exact fun n h => mkTrk_get h); done) | omega | (rw [wrap_id (by omega) (by omega)]; omega) | (first | rfl | (simp at hq; done) | (have h9 := miV_len (ts := ts) (id := id); exfalso; omega))))

theorem FnExactMissTrack_gc (xs : List (List Int)) (w : ∀ e ∈ xs, e.length = 6 ∧ ∀ z ∈ e, (Lit.int .i64 z).wf = true) (m : xs.length ≤ maxLen) (id : Int) (hid : I64 id) : GC Try.prog 8 [.sl 6 (els .i64 xs), vi id] [] (fun r _ => r = vb true) := by
  obtain ⟨ts, h1, h2, h3⟩ := Trk.of w
  rw [h1]; exact FnExactMissTrack_g0 (by omega)
end Go.Proofs.Ytejahpnbplcgnaa
