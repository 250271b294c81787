/-
Plain laws on scans: a scan without hits is a miss of every track, and confirmed tracks are those that are not new.
No condition but those that the statements name.
-/
import Derived.Test.YtejahpnbplcgnaaT16
namespace Go.Proofs.Ytejahpnbplcgnaa
open Eng
set_option linter.unusedSimpArgs false
set_option linter.unusedVariables false
section
variable {ts us : List Trk} {ps : List Plc} {xs : List It} {i j k : Int} {t : Trk}
theorem tlGo_iff : ∀ (m : Nat) (i : Int), 0 ≤ i → ((ts.length : Int) - i).toNat ≤ m → (tlGo ts i = true ↔ ∀ j, i ≤ j → j < ts.length → Trk.b (tk ts j) = true ∧ (0 < j → (tk ts (j - 1)).i < (tk ts j).i)) := by
  intro m
  induction m with
  | zero =>
    intro i h0 h
    rw [tlGo.eq_1, if_neg (by omega)]
    exact ⟨fun _ j h1 h2 => by omega, fun _ => rfl⟩
  | succ m ih =>
    intro i h0 h
    rw [tlGo.eq_1]
    by_cases hi : i < ts.length
    · rw [if_pos hi]
      split
      · rename_i hc
        rw [ih (i + 1) (by omega) (by omega)]
        constructor
        · intro g j h1 h2
          by_cases e : j = i
          · subst e
            refine ⟨hc.1, fun h3 => ?_⟩
            have := hc.2
            unfold tk; omega
          · exact g j (by omega) h2
        · intro g j h1 h2
          exact g j (by omega) h2
      · rename_i hc
        constructor
        · intro g; cases g
        · intro g
          exfalso
          refine hc ⟨(g i (by omega) hi).1, fun h3 => ?_⟩
          have := (g i (by omega) hi).2 h3.1
          unfold tk at this; omega
    · rw [if_neg hi]
      exact ⟨fun _ j h1 h2 => by omega, fun _ => rfl⟩
theorem pw_of (h : ∀ i j : Int, 0 ≤ i → i < j → j < ts.length → (tk ts i).i < (tk ts j).i) : ts.Pairwise (fun a b => a.i < b.i) := by
  rw [List.pairwise_iff_getElem]
  intro a b ha hb hab
  have := h a b (by omega) (by omega) (by omega)
  unfold tk at this
  simp only [Int.toNat_natCast, List.getD, List.getElem?_eq_getElem ha, List.getElem?_eq_getElem hb, Option.getD_some] at this
  exact this
theorem tl_iff : tlB ts = true ↔ ts.length ≤ 6 ∧ (∀ t ∈ ts, Trk.b t = true) ∧ ts.Pairwise (fun a b => a.i < b.i) := by
  constructor
  · intro h
    refine ⟨?_, ?_, pw_of fun i j h0 h1 h2 => tl_rise h h0 h1 h2⟩
    · have := tlB_len h; omega
    · intro t ht
      obtain ⟨i, h0, h1, e⟩ := mem_tk ht
      rw [← e]; exact tl_at' h h0 h1
  · rintro ⟨h1, h2, h3⟩
    simp only [tlB, Bool.and_eq_true, decide_eq_true_eq]
    refine ⟨h1, (tlGo_iff _ 0 (by omega) (Nat.le_refl _)).2 fun j h4 h5 => ⟨h2 _ (tk_mem h4 h5), fun h6 => ?_⟩⟩
    rw [List.pairwise_iff_getElem] at h3
    have := h3 (j - 1).toNat j.toNat (by omega) (by omega) (by omega)
    unfold tk
    simp only [List.getD, List.getElem?_eq_getElem (show (j - 1).toNat < ts.length by omega), List.getElem?_eq_getElem (show j.toNat < ts.length by omega), Option.getD_some]
    exact this
/-- a track after a miss, if it remains -/
def msL (t : Trk) : List Trk := if misK t.s t.l = true then [missV t] else []
theorem trB_parts {i s x y h l : Int} (t : trB i s x y h l = true) : (inB i 1 999 = true ∧ placeB x y = true ∧ inB h 1 9999 = true) ∧ ((s = 1 ∧ h ≤ 2 ∧ l = 0) ∨ (s = 2 ∧ 3 ≤ h ∧ l = 0) ∨ (s = 3 ∧ 3 ≤ h ∧ 1 ≤ l ∧ l ≤ 3)) := by
  simp only [trB, Bool.and_eq_true] at t
  obtain ⟨⟨⟨h1, h2⟩, h3⟩, h4⟩ := t
  refine ⟨⟨h1, h2, h3⟩, ?_⟩
  split at h4
  · simp only [Bool.and_eq_true, decide_eq_true_eq, beq_iff_eq] at h4; exact .inl ⟨by assumption, h4⟩
  · split at h4
    · simp only [Bool.and_eq_true, decide_eq_true_eq, beq_iff_eq] at h4; exact .inr (.inl ⟨by assumption, h4⟩)
    · split at h4
      · simp only [Bool.and_eq_true, decide_eq_true_eq] at h4
        have := inB_iff.1 h4.2
        exact .inr (.inr ⟨by assumption, h4.1, this⟩)
      · cases h4
theorem msL_ok (h : Trk.b t = true) : ∀ u ∈ msL t, Trk.b u = true ∧ u.i = t.i := by
  intro u hu
  unfold msL at hu
  split at hu
  · rename_i hm
    simp only [List.mem_singleton] at hu
    subst hu
    refine ⟨?_, rfl⟩
    obtain ⟨⟨h1, h2, h3⟩, h4⟩ := trB_parts h
    simp only [misK, Bool.and_eq_true, Bool.not_eq_true', beq_eq_false_iff_ne, decide_eq_true_eq] at hm
    have e : w64 (t.l + 1) = t.l + 1 := wrap_id (by omega) (by omega)
    rw [e] at hm
    have e2 : missV t = ⟨t.i, 3, t.x, t.y, t.h, t.l + 1⟩ := by simp [missV, e]
    rw [e2]
    have q1 : decide (3 ≤ t.h) = true := decide_eq_true (by omega)
    have q2 : inB (t.l + 1) 1 3 = true := inB_iff.2 (by omega)
    have q3 : ¬ (3 : Int) = 1 := by omega
    have q4 : ¬ (3 : Int) = 2 := by omega
    show trB t.i 3 t.x t.y t.h (t.l + 1) = true
    unfold trB
    rw [h1, h2, h3, if_neg q3, if_neg q4, if_pos rfl, q1, q2]; rfl
  · cases hu
/-- the list between two misses: those that were missed, and those that were not yet -/
def nwL (ts : List Trk) (i : Int) : List Trk := (ts.take i.toNat).flatMap msL ++ ts.drop i.toNat
theorem nw_split (h0 : 0 ≤ i) (h1 : i < ts.length) : nwL ts i = (ts.take i.toNat).flatMap msL ++ (tk ts i :: ts.drop (i + 1).toNat) ∧ nwL ts (i + 1) = (ts.take i.toNat).flatMap msL ++ (msL (tk ts i) ++ ts.drop (i + 1).toNat) := by
  have e : (i + 1).toNat = i.toNat + 1 := by omega
  have hi : i.toNat < ts.length := by omega
  have e2 : tk ts i = ts[i.toNat] := by unfold tk; simp [List.getD, List.getElem?_eq_getElem hi]
  constructor
  · unfold nwL
    rw [e, List.drop_eq_getElem_cons hi, e2]
  · unfold nwL
    rw [e, List.take_add_one, List.getElem?_eq_getElem hi, e2, List.flatMap_append]
    simp [List.append_assoc]
theorem nw_tl (h : tlB ts = true) : tlB (nwL ts i) = true := by
  obtain ⟨h1, h2, h3⟩ := tl_iff.1 h
  have hs : ∀ (qs : List Trk), (∀ t ∈ qs, Trk.b t = true) → (qs.flatMap msL).length ≤ qs.length ∧ (∀ u ∈ qs.flatMap msL, Trk.b u = true ∧ ∃ t ∈ qs, u.i = t.i) := by
    intro qs
    induction qs with
    | nil => intro _; simp
    | cons a qs ih =>
      intro hg
      obtain ⟨q1, q2⟩ := ih fun t ht => hg t (by simp [ht])
      constructor
      · simp only [List.flatMap_cons, List.length_append, List.length_cons]
        have : (msL a).length ≤ 1 := by unfold msL; split <;> simp
        omega
      · intro u hu
        rw [List.flatMap_cons] at hu
        rcases List.mem_append.1 hu with hu | hu
        · have := msL_ok (hg a (by simp)) u hu
          exact ⟨this.1, a, by simp, this.2⟩
        · obtain ⟨g1, t, g2, g3⟩ := q2 u hu
          exact ⟨g1, t, by simp [g2], g3⟩
  have hp : ∀ (qs : List Trk), (∀ t ∈ qs, Trk.b t = true) → qs.Pairwise (fun a b => a.i < b.i) → (qs.flatMap msL).Pairwise (fun a b => a.i < b.i) := by
    intro qs
    induction qs with
    | nil => intro _ _; simp
    | cons a qs ih =>
      intro hg hpw
      rw [List.pairwise_cons] at hpw
      simp only [List.flatMap_cons]
      rw [List.pairwise_append]
      refine ⟨?_, ih (fun t ht => hg t (by simp [ht])) hpw.2, ?_⟩
      · unfold msL; split <;> simp
      · intro u hu v hv
        have e1 := (msL_ok (hg a (by simp)) u hu).2
        obtain ⟨_, t, g2, g3⟩ := (hs qs (fun t ht => hg t (by simp [ht]))).2 v hv
        rw [e1, g3]; exact hpw.1 t g2
  have e : ts = ts.take i.toNat ++ ts.drop i.toNat := (List.take_append_drop _ _).symm
  have hA : ∀ t ∈ ts.take i.toNat, Trk.b t = true := fun t ht => h2 t (List.mem_of_mem_take ht)
  rw [e, List.pairwise_append] at h3
  refine tl_iff.2 ⟨?_, ?_, ?_⟩
  · have := (hs _ hA).1
    unfold nwL
    simp only [List.length_append]
    have e3 : ts.length = (ts.take i.toNat).length + (ts.drop i.toNat).length := by rw [← List.length_append, List.take_append_drop]
    omega
  · intro t ht
    rcases List.mem_append.1 ht with ht | ht
    · exact ((hs _ hA).2 t ht).1
    · exact h2 t (List.mem_of_mem_drop ht)
  · unfold nwL
    rw [List.pairwise_append]
    refine ⟨hp _ hA h3.1, h3.2.1, ?_⟩
    intro u hu v hv
    obtain ⟨_, t, g2, g3⟩ := (hs _ hA).2 u hu
    rw [g3]; exact h3.2.2 t g2 v hv
theorem tk_app {n : Nat} {qs bs : List Trk} (h : (i : Int) = qs.length) : tk (qs ++ t :: bs) i = t := by
  unfold tk
  have e : i.toNat = qs.length := by omega
  simp [List.getD, e]
/-- one miss more -/
theorem nw_step (h : tlB ts = true) (h0 : 0 ≤ i) (h1 : i < ts.length) : miO (nwL ts i) (tk ts i).i = true ∧ miV (nwL ts i) (tk ts i).i = nwL ts (i + 1) := by
  have hN := nw_tl (i := i) h
  obtain ⟨e1, e2⟩ := nw_split h0 h1
  have hlen : ((ts.take i.toNat).flatMap msL).length < (nwL ts i).length := by rw [e1]; simp
  have hat : tk (nwL ts i) (((ts.take i.toNat).flatMap msL).length : Int) = tk ts i := by rw [e1]; exact tk_app (n := 0) rfl
  have hf : fdI (nwL ts i) (tk ts i).i = (((ts.take i.toNat).flatMap msL).length : Int) := by
    rcases fdI_cases (ts := nwL ts i) (id := (tk ts i).i) with g | ⟨g1, g2, g3⟩
    · exact absurd (by rw [hat]) (g.2 (((ts.take i.toNat).flatMap msL).length : Int) (by omega) (by omega))
    · exact tl_inj hN g1 g2 (by omega) (by omega) (by rw [g3, hat])
  have ho : miO (nwL ts i) (tk ts i).i = true := mi_y (by simp [hN]) (by rw [hf]; omega)
  refine ⟨ho, ?_⟩
  rw [mi_yes ho, hf, miR_eq (by omega) (by omega), hat, e2]
  generalize (ts.take i.toNat).flatMap msL = A at *
  have e3 : ((A.length : Int) + 1).toNat = A.length + 1 := by omega
  rw [e1, e3, Int.toNat_natCast, List.take_left]
  have e4 : (A ++ tk ts i :: ts.drop (i + 1).toNat).drop (A.length + 1) = ts.drop (i + 1).toNat := by
    rw [List.drop_append]; simp
  rw [e4, List.append_assoc]; rfl
/-- what a scan without hits makes -/
theorem scR_none : (scR ts [] []).1 = ts.flatMap msL := by
  have key := foldI_ind (f := snF ts [] []) (n := ts.length) (fun (q : List Trk × Int) j => q.1 = (ts.take j.toNat).flatMap msL) (a := ([], 0)) (i := 0) (by omega) (by simp) (fun a j h1 h2 h => by
    (try simp only [] at h ⊢)
    have e : (j + 1).toNat = j.toNat + 1 := by omega
    have hj : j.toNat < ts.length := by omega
    have e2 : tk ts j = ts[j.toNat] := by unfold tk; simp [List.getD, List.getElem?_eq_getElem hj]
    have hS : scS ts [] j ([] : List It).length = false := by
      unfold scS hxR
      rw [foldI_end (by simp)]; rfl
    rw [e, List.take_add_one, List.getElem?_eq_getElem hj, List.flatMap_append]
    have e5 : List.flatMap msL ((some ts[j.toNat]).toList) = msL (tk ts j) := by rw [e2]; simp
    rw [e5]
    rw [← h]
    unfold snF
    rw [if_neg (by rw [hS]; decide)]
    unfold msL
    split
    · rfl
    · simp)
  have : (scR ts [] []).1 = (ts.take (ts.length : Int).toNat).flatMap msL := key
  rw [this]; simp
theorem sc_none (h : tlB ts = true) : scO ts [] [] = true ∧ scV ts [] [] = nwL ts ts.length := by
  have e : nwL ts ts.length = ts.flatMap msL := by unfold nwL; simp
  have hT : tlB (scR ts [] []).1 = true := by rw [scR_none, ← e]; exact nw_tl h
  have ho : scO ts [] [] = true := by
    simp only [scO, Bool.and_eq_true, decide_eq_true_eq]
    exact ⟨⟨⟨⟨h, allI_end (by simp)⟩, by simp⟩, allI_end (by simp)⟩, hT⟩
  exact ⟨ho, by rw [(sc_yes ho).1, scR_none, e]⟩
theorem sc_count (h : scO ts ps xs = true) : (scV ts ps xs).length + scD ts ps xs = ts.length ∧ tlB (scV ts ps xs) = true := by
  have ho := h
  simp only [scO, Bool.and_eq_true, decide_eq_true_eq] at h
  have hl := tlB_len h.1.1.1.1
  rw [(sc_yes ho).1, (sc_yes ho).2]
  have key := foldI_ind (f := snF ts ps xs) (n := ts.length) (fun (q : List Trk × Int) j => (q.1.length : Int) + q.2 = j ∧ 0 ≤ q.2) (a := ([], 0)) (i := 0) (by omega) (by simp) (fun a j h1 h2 h => by
    (try simp only [] at h ⊢)
    have e : w64 (a.2 + 1) = a.2 + 1 := wrap_id (by omega) (by omega)
    unfold snF
    split
    · simp; omega
    · split
      · simp; omega
      · simp only [e]; omega)
  exact ⟨key.1, h.2⟩
def hasP (xs : List It) (k j : Int) : Bool := ig xs j == k
def hasV (xs : List It) (k : Int) : Bool := anyI (hasP xs k) 0 xs.length
theorem hasV_iff : hasV xs k = true ↔ ∃ j : Int, 0 ≤ j ∧ j < xs.length ∧ ig xs j = k := by
  unfold hasV
  rw [anyI_not]
  have h := @allI_iff (fun j => !hasP xs k j) xs.length 0
  constructor
  · intro hn
    refine Classical.byContradiction fun hc => ?_
    have h2 : allI (fun j => !hasP xs k j) 0 xs.length = true := h.2 fun j h1 h2 => by
      simp only [hasP, Bool.not_eq_true', beq_eq_false_iff_ne]
      exact fun e => hc ⟨j, h1, h2, e⟩
    rw [h2] at hn; cases hn
  · rintro ⟨j, h1, h2, h3⟩
    rw [Bool.not_eq_true']
    cases hb : allI (fun j => !hasP xs k j) 0 xs.length with
    | false => rfl
    | true =>
      have := h.1 hb j h1 h2
      simp [hasP, h3] at this
theorem hasV_snoc {us : List It} {m : Int} : hasV (us ++ [⟨m⟩]) k = (hasV us k || m == k) := by
  have e : ((us ++ [(⟨m⟩ : It)]).length : Int) = us.length + 1 := by simp
  rw [Bool.eq_iff_iff, Bool.or_eq_true, beq_iff_eq]
  have hi : ∀ xs : List It, hasV xs k = true ↔ ∃ j : Int, 0 ≤ j ∧ j < xs.length ∧ ig xs j = k := fun xs => hasV_iff
  rw [hi, hi]
  constructor
  · rintro ⟨j, h0, h1, h2⟩
    by_cases hj : j < us.length
    · refine .inl ⟨j, h0, hj, ?_⟩
      rw [← h2]; unfold ig; simp only [List.getD]; rw [List.getElem?_append_left (by omega)]
    · have ej : j = us.length := by omega
      subst ej
      right
      rw [← h2]; unfold ig; simp [List.getD]
  · rintro (⟨j, h0, h1, h2⟩ | h)
    · refine ⟨j, h0, by omega, ?_⟩
      rw [← h2]; unfold ig; simp only [List.getD]; rw [List.getElem?_append_left (by omega)]
    · refine ⟨us.length, by omega, by omega, ?_⟩
      rw [← h]; unfold ig; simp [List.getD]
theorem cf_has (h : tlB ts = true) (h0 : 0 ≤ i) (h1 : i < ts.length) : hasV (cfV ts) (tk ts i).i = decide (3 ≤ (tk ts i).h) := by
  rw [cfV_yes h]
  have key := foldI_ind (f := cfF ts) (n := ts.length) (fun (us : List It) j => ∀ k : Int, hasV us k = true ↔ ∃ q : Int, 0 ≤ q ∧ q < j ∧ (tk ts q).s ≠ 1 ∧ (tk ts q).i = k) (a := []) (i := 0) (by omega)
    (fun k => by
      constructor
      · intro g
        rw [show hasV [] k = false from anyI_end (by simp)] at g; cases g
      · rintro ⟨q, q1, q2, _⟩
        omega)
    (fun us j h1 h2 h => by
      (try simp only [] at h ⊢)
      intro k
      unfold cfF
      split
      · rename_i hc
        rw [h k]
        constructor
        · rintro ⟨q, q1, q2, q3⟩; exact ⟨q, q1, by omega, q3⟩
        · rintro ⟨q, q1, q2, q3, q4⟩
          refine ⟨q, q1, ?_, q3, q4⟩
          by_cases e : q = j
          · subst e; simp at hc; exact absurd hc q3
          · omega
      · rename_i hc
        rw [hasV_snoc, Bool.or_eq_true, h k, beq_iff_eq]
        constructor
        · rintro (⟨q, q1, q2, q3⟩ | g)
          · exact ⟨q, q1, by omega, q3⟩
          · exact ⟨j, h1, by omega, by simpa using hc, g⟩
        · rintro ⟨q, q1, q2, q3, q4⟩
          by_cases e : q = j
          · subst e; exact .inr q4
          · exact .inl ⟨q, q1, by omega, q3, q4⟩)
  rw [Bool.eq_iff_iff, decide_eq_true_eq]
  have kk := key (tk ts i).i
  have e : foldI (cfF ts) [] 0 ts.length = cfR ts := rfl
  rw [e] at kk
  rw [kk]
  have hp := (trB_parts (tl_at' h h0 h1)).2
  constructor
  · rintro ⟨q, q1, q2, q3, q4⟩
    have : q = i := tl_inj h q1 q2 h0 h1 q4
    subst this; omega
  · intro g
    exact ⟨i, h0, h1, by omega, rfl⟩
end
end Go.Proofs.Ytejahpnbplcgnaa
