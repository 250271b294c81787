/-
Plain laws on assignments: the nearest one is one, the best one is least, free plots are in no pair.
No condition but those that the statements name.
-/
import Derived.Test.YtnbkmfbnlodikaaE9
namespace Go.Proofs.Ytnbkmfbnlodikaa
open Eng
set_option linter.unusedSimpArgs false
set_option linter.unusedVariables false
variable {ts : List Trk} {ps : List Plc} {g i k : Int} {xs us : List It}
theorem hasV_snoc {m : Int} : hasV (us ++ [⟨m⟩]) k = (hasV us k || m == k) := by
  rw [Bool.eq_iff_iff, Bool.or_eq_true, hasV_iff, hasV_iff, beq_iff_eq]
  constructor
  · rintro ⟨j, h0, h1, h2⟩
    by_cases hj : j < us.length
    · exact .inl ⟨j, h0, hj, by rw [← h2, ig_app h0 hj]⟩
    · have e : j = us.length := by simp at h1; omega
      subst e
      rw [ig_last] at h2; exact .inr h2
  · rintro (⟨j, h0, h1, h2⟩ | h)
    · exact ⟨j, h0, by simp; omega, by rw [ig_app h0 h1]; exact h2⟩
    · exact ⟨us.length, by omega, by simp; omega, by rw [ig_last]; exact h⟩
theorem nbR_ok : nbR ts ps g us i = -1 ∨ (0 ≤ nbR ts ps g us i ∧ nbR ts ps g us i < ps.length ∧ hasV us (nbR ts ps g us i) = false ∧ ¬ g < dsV ts ps i (nbR ts ps g us i)) :=
  foldI_ind (f := nbF ts ps g us i) (n := ps.length) (fun (b : Int) _ => b = -1 ∨ (0 ≤ b ∧ b < ps.length ∧ hasV us b = false ∧ ¬ g < dsV ts ps i b)) (a := -1) (i := 0) (by omega) (.inl rfl) (fun b j h1 h2 h => by
    (try simp only [] at h ⊢)
    unfold nbF
    split
    · rename_i hc
      simp only [nbC, Bool.and_eq_true, Bool.not_eq_true', decide_eq_false_iff_not] at hc
      exact .inr ⟨h1, h2, hc.1.1, hc.1.2⟩
    · exact h)
theorem na_ok (h : asB ts ps g = true) : iaB ts ps g (naV ts ps g) = true := by
  rw [naV_yes h]
  have key := foldI_ind (f := naF ts ps g) (n := ts.length) (fun (us : List It) i => Beg ts ps g us ∧ (us.length : Int) = i) (a := []) (i := 0) (by omega) ⟨Beg.nil h, by simp⟩ (fun us j h1 h2 h => by
    (try simp only [] at h ⊢)
    obtain ⟨hb, e⟩ := h
    refine ⟨?_, by simp [naF]; omega⟩
    unfold naF
    refine hb.snoc (by omega) ?_
    rw [← e]
    exact nbR_ok)
  exact key.1.full naR_len
theorem ba_ok (h : asB ts ps g = true) : iaB ts ps g (baV ts ps g) = true ∧ acV ts ps g (baV ts ps g) = baC ts ps g := by
  have hk := bsV_ok (Beg.nil h) (n := ts.length) (by simp)
  have e : baV ts ps g = (bsV ts ps g ts.length []).1 := by rw [baV_yes h]; rfl
  have e2 : baC ts ps g = (bsV ts ps g ts.length []).2 := by rw [baC_yes h]; rfl
  rw [e, e2]
  refine ⟨hk.1, ?_⟩
  unfold acV; rw [if_pos hk.1, hk.2]
theorem ba_least (h : iaB ts ps g xs = true) : asB ts ps g = true ∧ baC ts ps g ≤ acV ts ps g xs := by
  obtain ⟨hb, hl⟩ := Beg.of h
  refine ⟨hb.asg, ?_⟩
  have := bsV_least (n := ts.length) (xs := []) (ys := xs) hb hl (by simp)
  have e2 : baC ts ps g = (bsV ts ps g ts.length []).2 := by rw [baC_yes hb.asg]; rfl
  rw [e2]; unfold acV; rw [if_pos h]
  simpa using this
theorem ba_none (h : asB ts ps g = false) : (baV ts ps g).length = 0 := by rw [baV_no h]; rfl
theorem fp_has (h0 : 0 ≤ k) (h1 : k < ps.length) : hasV (fpR ps xs) k = !hasV xs k := by
  have key := foldI_ind (f := fpF xs) (n := ps.length) (fun (us : List It) i => ∀ k : Int, hasV us k = (decide (0 ≤ k ∧ k < i) && !hasV xs k)) (a := []) (i := 0) (by omega)
    (fun k => by
      have : ¬ (0 ≤ k ∧ k < 0) := by omega
      rw [decide_eq_false this, Bool.false_and]; unfold hasV; exact anyI_end (by simp))
    (fun us j h1 h2 h => by
      (try simp only [] at h ⊢)
      intro k
      unfold fpF
      split
      · rename_i hc
        rw [h k]
        by_cases hk : k = j
        · subst hk; rw [hc]; simp
        · have : (0 ≤ k ∧ k < j) ↔ (0 ≤ k ∧ k < j + 1) := by omega
          simp only [this]
      · rename_i hc
        rw [hasV_snoc, h k]
        by_cases hk : k = j
        · subst hk
          have : (0 ≤ k ∧ k < k + 1) := by omega
          simp [hc, this]
        · have : (0 ≤ k ∧ k < j) ↔ (0 ≤ k ∧ k < j + 1) := by omega
          have h9 : ¬ j = k := fun e => hk e.symm
          simp only [this, beq_eq_false_iff_ne.2 h9, Bool.or_false])
  have := key k
  rw [decide_eq_true ⟨h0, h1⟩, Bool.true_and] at this
  exact this
theorem fpV_has (h : iaB ts ps g xs = true) (h0 : 0 ≤ k) (h1 : k < ps.length) : hasV (fpV ts ps g xs) k = !hasV xs k := by
  rw [fpV_yes h]; exact fp_has h0 h1
end Go.Proofs.Ytnbkmfbnlodikaa
