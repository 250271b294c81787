/-
Plain laws of FnPlotTexts: counts of sites add up to the list, and lonely sightings are those whose number no other sighting has.
No condition but those that the statements name.
-/
import Derived.Test.YtgcmahhejblpkaaC22
import Derived.Test.YtgcmahhejblpkaaC21
namespace Go.Proofs.Ytgcmahhejblpkaa
open Eng
set_option linter.unusedSimpArgs false
set_option linter.unusedVariables false
section
variable {ss : List Sgt} {w r i x v b c k n : Int} {gs gs' : List (List It)} {us vs gr : List It}
def sumL : List It → Int
  | [] => 0
  | x :: r => x.n + sumL r
theorem sumL_set : ∀ {us : List It} {k : Nat}, k < us.length → sumL (us.set k ⟨v⟩) = sumL us - (us.getD k default).n + v
  | [], k, h => by simp at h
  | x :: us, 0, h => by simp only [List.set_cons_zero, sumL, List.getD_cons_zero]; omega
  | x :: us, k + 1, h => by
    have := sumL_set (us := us) (k := k) (by simpa using h)
    simp only [List.set_cons_succ, sumL, List.getD_cons_succ, this]; omega
theorem sumL_take : ∀ {us : List It} {k : Nat}, k < us.length → sumL (us.take (k + 1)) = sumL (us.take k) + (us.getD k default).n
  | [], k, h => by simp at h
  | x :: us, 0, h => by simp [sumL]
  | x :: us, k + 1, h => by
    have := sumL_take (us := us) (k := k) (by simpa using h)
    simp only [List.take_succ_cons, sumL, List.getD_cons_succ] at this ⊢
    omega
theorem suV_eq (hl : us.length ≤ 100) (hb : ∀ k : Nat, k < us.length → 0 ≤ (us.getD k default).n ∧ (us.getD k default).n ≤ 100) : suV us = sumL us := by
  have := foldI_ind (f := suF us) (n := us.length) (fun (n : Int) i => n = sumL (us.take i.toNat) ∧ 0 ≤ n ∧ n ≤ 100 * i) (a := 0) (i := 0) (by omega) ⟨by simp [sumL], by omega, by omega⟩ (by
    intro a j h0 h1 h
    have hj : j.toNat < us.length := by omega
    have hb2 := hb j.toNat hj
    have e1 : (j + 1).toNat = j.toNat + 1 := by omega
    have e2 : suF us a j = a + (us.getD j.toNat default).n := wrap_id (by omega) (by omega)
    rw [e2, e1, sumL_take hj]
    omega)
  have e3 : us.take ((us.length : Int)).toNat = us := by rw [Int.toNat_natCast, List.take_length]
  rw [e3] at this
  exact this.1
theorem scR_sum (h : sgB ss = true) : suV (scR ss) = ss.length := by
  have hl := sg_len h
  have key := foldI_ind (f := scF ss) (n := ss.length) (fun (us : List It) i => us.length = 9 ∧ (∀ k : Nat, k < us.length → 0 ≤ (us.getD k default).n ∧ (us.getD k default).n ≤ i) ∧ sumL us = i) (a := List.replicate 9 default) (i := 0) (by omega)
    ⟨by simp, fun k hk => by
      have e : (List.replicate 9 (default : It)).getD k default = default := by
        simp only [List.length_replicate] at hk
        simp only [List.getD, List.getElem?_replicate, hk, if_true, Option.getD_some]
      rw [e]; exact ⟨by decide, by decide⟩, rfl⟩ (by
    intro us j h0 h1 hJ
    have hs := sg_site h h0 h1
    have hk : ((ss.getD j.toNat default).s - 1).toNat < us.length := by rw [hJ.1]; omega
    have hb := hJ.2.1 _ hk
    have e1 : w64 ((us.getD ((ss.getD j.toNat default).s - 1).toNat default).n + 1) = (us.getD ((ss.getD j.toNat default).s - 1).toNat default).n + 1 := wrap_id (by omega) (by omega)
    unfold scF
    rw [e1]
    refine ⟨by simp [hJ.1], ?_, by rw [sumL_set hk, hJ.2.2]; omega⟩
    intro k hk2
    rw [List.length_set] at hk2
    have hb2 := hJ.2.1 k hk2
    simp only [List.getD, List.getElem?_set] at hb hb2 ⊢
    split
    · rename_i e; subst e; simp only [hk2, if_true, Option.getD_some]; omega
    · omega)
  have key2 : (scR ss).length = 9 ∧ (∀ k : Nat, k < (scR ss).length → 0 ≤ ((scR ss).getD k default).n ∧ ((scR ss).getD k default).n ≤ (ss.length : Int)) ∧ sumL (scR ss) = ss.length := key
  rw [suV_eq (by omega) (fun k hk => by have := key2.2.1 k hk; omega), key2.2.2]
/-- how many sightings have the number of sighting i -/
def cnF (gr : List It) (i c k : Int) : Int := if ig gr k = ig gr i then c + 1 else c
def cnV (gr : List It) (i : Int) : Int := foldI (cnF gr i) 0 0 gr.length
theorem cn_t (h : ig gr k = ig gr i) : c + 1 = cnF gr i c k := (if_pos h).symm
theorem cn_f (h : ¬ ig gr k = ig gr i) : c = cnF gr i c k := (if_neg h).symm
theorem cnV_one (h0 : 0 ≤ i) (h1 : i < gr.length) : cnV gr i = 1 ↔ ∀ k : Int, 0 ≤ k → k < gr.length → ig gr k = ig gr i → k = i := by
  have key := foldI_ind (f := cnF gr i) (n := gr.length) (fun (c : Int) j => (0 ≤ c ∧ 0 ≤ j) ∧ (c = 0 → ∀ k : Int, 0 ≤ k → k < j → ¬ ig gr k = ig gr i) ∧ (c = 1 → ∃ a : Int, (0 ≤ a ∧ a < j) ∧ ig gr a = ig gr i ∧ ∀ k : Int, 0 ≤ k → k < j → ig gr k = ig gr i → k = a) ∧ (2 ≤ c → ∃ a b : Int, (0 ≤ a ∧ a < b ∧ b < j) ∧ ig gr a = ig gr i ∧ ig gr b = ig gr i)) (a := 0) (i := 0) (by omega)
    ⟨by omega, fun _ k h0 h1 => by omega, fun h => by omega, fun h => by omega⟩ (by
    intro c j j0 j1 ⟨hc, hz, ho, ht⟩
    unfold cnF
    split
    · rename_i e
      refine ⟨by omega, fun h => by omega, fun h => ⟨j, by omega, e, fun k k0 k1 ke => ?_⟩, fun h => ?_⟩
      · by_cases e2 : k = j
        · exact e2
        · exact absurd ke (hz (by omega) k k0 (by omega))
      · by_cases e2 : 2 ≤ c
        · obtain ⟨a, b, h1, h2⟩ := ht e2
          exact ⟨a, b, by omega, h2⟩
        · obtain ⟨a, ha, hP, hu⟩ := ho (by omega)
          exact ⟨a, j, by omega, hP, e⟩
    · rename_i e
      refine ⟨by omega, fun h k k0 k1 => ?_, fun h => ?_, fun h => ?_⟩
      · by_cases e2 : k = j
        · subst e2; exact e
        · exact hz h k k0 (by omega)
      · obtain ⟨a, ha, hP, hu⟩ := ho h
        refine ⟨a, by omega, hP, fun k k0 k1 ke => ?_⟩
        by_cases e2 : k = j
        · subst e2; exact absurd ke e
        · exact hu k k0 (by omega) ke
      · obtain ⟨a, b, h1, h2⟩ := ht h
        exact ⟨a, b, by omega, h2⟩)
  have hx : foldI (cnF gr i) 0 0 gr.length = cnV gr i := rfl
  rw [hx] at key
  obtain ⟨hc, hz, ho, ht⟩ := key
  constructor
  · intro h k k0 k1 ke
    obtain ⟨a, ha, hP, hu⟩ := ho h
    rw [hu k k0 k1 ke, hu i h0 h1 rfl]
  · intro h
    by_cases c0 : cnV gr i = 0
    · exact absurd rfl (hz c0 i h0 h1)
    · by_cases c2 : 2 ≤ cnV gr i
      · obtain ⟨a, b, h3, h4, h5⟩ := ht c2
        have e1 := h a (by omega) (by omega) h4
        have e2 := h b (by omega) (by omega) h5
        omega
      · omega
/-- which sightings are told as alone -/
theorem lo_mem (h : agB ss w r = true) : (∃ k : Nat, k < (loR ss w r).length ∧ ((loR ss w r).getD k default).n = x) ↔ ∃ g : Nat, gln (grR ss w r) g = 1 ∧ gel (grR ss w r) g 0 = x := by
  have key := foldI_ind (f := loF (grR ss w r)) (n := (grR ss w r).length) (fun (us : List It) j => (∃ k : Nat, k < us.length ∧ (us.getD k default).n = x) ↔ ∃ g : Nat, (g : Int) < j ∧ gln (grR ss w r) g = 1 ∧ gel (grR ss w r) g 0 = x) (a := []) (i := 0) (by omega)
    ⟨fun ⟨k, h1, h2⟩ => by simp at h1, fun ⟨g, h1, h2⟩ => by omega⟩ (by
    intro us j j0 j1 hJ
    have e0 : ((grR ss w r).getD j.toNat default).length = gln (grR ss w r) j.toNat := rfl
    have e1 : (((grR ss w r).getD j.toNat default).getD 0 default).n = gel (grR ss w r) j.toNat 0 := rfl
    unfold loF
    rw [e0, e1]
    split
    · rename_i hl
      constructor
      · rintro ⟨k, h1, h2⟩
        simp only [List.length_append, List.length_cons, List.length_nil] at h1
        by_cases e : k < us.length
        · obtain ⟨g, h3, h4⟩ := hJ.1 ⟨k, e, by simp only [List.getD] at h2 ⊢; rw [List.getElem?_append_left e] at h2; exact h2⟩
          exact ⟨g, by omega, h4⟩
        · have ek : k = us.length := by omega
          subst ek
          simp only [List.getD] at h2
          rw [List.getElem?_append_right (Nat.le_refl _)] at h2
          simp at h2
          exact ⟨j.toNat, by omega, hl, h2⟩
      · rintro ⟨g, h1, h2, h3⟩
        by_cases e : (g : Int) < j
        · obtain ⟨k, h4, h5⟩ := hJ.2 ⟨g, e, h2, h3⟩
          exact ⟨k, by simp; omega, by simp only [List.getD] at h5 ⊢; rw [List.getElem?_append_left h4]; exact h5⟩
        · have eg : j.toNat = g := by omega
          refine ⟨us.length, by simp, ?_⟩
          simp only [List.getD]
          rw [List.getElem?_append_right (Nat.le_refl _)]
          simp
          rw [eg]; exact h3
    · rename_i hl
      rw [hJ]
      constructor
      · rintro ⟨g, h1, h2⟩; exact ⟨g, by omega, h2⟩
      · rintro ⟨g, h1, h2, h3⟩
        by_cases e : (g : Int) < j
        · exact ⟨g, e, h2, h3⟩
        · have eg : j.toNat = g := by omega
          rw [eg] at hl; exact absurd h2 hl)
  have key2 : (∃ k : Nat, k < (loR ss w r).length ∧ ((loR ss w r).getD k default).n = x) ↔ ∃ g : Nat, (g : Int) < (grR ss w r).length ∧ gln (grR ss w r) g = 1 ∧ gel (grR ss w r) g 0 = x := key
  rw [key2]
  constructor
  · rintro ⟨g, _, h2⟩; exact ⟨g, h2⟩
  · rintro ⟨g, h2⟩
    refine ⟨g, ?_, h2⟩
    rcases Nat.lt_or_ge g (grR ss w r).length with h5 | h5
    · omega
    · exfalso; have := h2.1; unfold gln at this; rw [List.getD, List.getElem?_eq_none h5] at this; simp at this
theorem anyI_iff' {p : Int → Bool} {n : Int} {i : Int} : anyI p i n = true ↔ ∃ j, i ≤ j ∧ j < n ∧ p j = true := by
  rw [anyI_not, Bool.not_eq_true', ← Bool.not_eq_true, allI_iff]
  constructor
  · intro h
    refine Classical.byContradiction fun hn => h fun j h1 h2 => ?_
    cases hp : p j with
    | false => rfl
    | true => exact absurd ⟨j, h1, h2, hp⟩ hn
  · rintro ⟨j, h1, h2, h3⟩ h
    have := h j h1 h2
    rw [h3] at this; cases this
theorem has_iff {xs : List It} : hasV xs x = true ↔ ∃ k : Nat, k < xs.length ∧ (xs.getD k default).n = x := by
  unfold hasV
  rw [anyI_iff']
  constructor
  · rintro ⟨j, h0, h1, h2⟩
    refine ⟨j.toNat, by omega, ?_⟩
    simpa [hasP, ig] using h2
  · rintro ⟨k, h0, h1⟩
    refine ⟨k, by omega, by omega, ?_⟩
    simp only [hasP, ig, Int.toNat_natCast, beq_iff_eq]
    exact h1
theorem lo_cnt (h : agB ss w r = true) (h0 : 0 ≤ i) (h1 : i < (gsV ss w r).length) : hasV (loV ss w r) i = (cnV (gsV ss w r) i == 1) := by
  rw [gsV_yes h] at h1 ⊢
  rw [loV_yes h]
  have hl : (gsR ss w r).length = ss.length := gsR_len
  have A := grR_GA h
  rw [Bool.eq_iff_iff, has_iff, beq_iff_eq, lo_mem h, cnV_one h0 h1]
  constructor
  · rintro ⟨g, h2, h3⟩ k k0 k1 ke
    obtain ⟨g2, j, h4, h5, h6⟩ := gs_mem h k0 (by omega)
    have e1 := gsR_at h (g := g) (k := 0) (by omega)
    rw [h3] at e1
    rw [ke, e1] at h6
    have e2 : g2 = g := by omega
    subst e2
    have e3 : j = 0 := by omega
    subst e3
    rw [← h5, h3]
  · intro hall
    obtain ⟨g, j, h4, h5, h6⟩ := gs_mem h h0 (by omega)
    have h7 : gln (grR ss w r) g = 1 := by
      by_cases e : gln (grR ss w r) g = 1
      · exact e
      · exfalso
        have hx : ∃ j2, j2 < gln (grR ss w r) g ∧ j2 ≠ j := by
          by_cases e2 : j = 0
          · exact ⟨1, by omega, by omega⟩
          · exact ⟨0, by omega, by omega⟩
        obtain ⟨j2, h8, h9⟩ := hx
        have hi := A.inr g j2 h8
        have e3 := hall (gel (grR ss w r) g j2) hi.1 (by omega) (by rw [gsR_at h h8, h6])
        rw [← h5] at e3
        exact h9 (A.one _ _ _ _ h8 h4 e3).2
    have e3 : j = 0 := by omega
    subst e3
    exact ⟨g, h7, h5⟩
end
end Go.Proofs.Ytgcmahhejblpkaa
