/-
Plain laws on lists of tracks: they rise, and their numbers are told apart.
No condition but those that the statements name.
-/
import Derived.Test.YtejahpnbplcgnaaT10
namespace Go.Proofs.Ytejahpnbplcgnaa
open Eng
set_option linter.unusedSimpArgs false
set_option linter.unusedVariables false
section
variable {ts us : List Trk} {i j k : Int}
theorem tl_step (h : tlB ts = true) (h0 : 0 < i) (h1 : i < ts.length) : (tk ts (i - 1)).i < (tk ts i).i := by
  have key : ∀ (m : Nat) (i : Int), ((ts.length : Int) - i).toNat ≤ m → tlGo ts i = true → ∀ j, i ≤ j → 0 < j → j < ts.length → (ts.getD (j - 1).toNat default).i < (ts.getD j.toNat default).i := by
    intro m
    induction m with
    | zero => intro i hm _ j h1 h2; omega
    | succ m ih =>
      intro i hm hg j h1 h2 h3
      rw [tlGo.eq_1, if_pos (by omega)] at hg
      split at hg
      · rename_i hc
        by_cases e : j = i
        · subst e; have := hc.2; omega
        · exact ih (i + 1) (by omega) hg j (by omega) h2 h3
      · cases hg
  simp only [tlB, Bool.and_eq_true] at h
  exact key _ 0 (Nat.le_refl _) h.2 i (by omega) h0 h1
theorem tl_rise (h : tlB ts = true) (h0 : 0 ≤ i) (h1 : i < j) (h2 : j < ts.length) : (tk ts i).i < (tk ts j).i := by
  have key : ∀ (m : Nat) (j : Int), (j - i).toNat ≤ m → i < j → j < ts.length → (tk ts i).i < (tk ts j).i := by
    intro m
    induction m with
    | zero => intro j h1 h2 _; omega
    | succ m ih =>
      intro j h1 h2 h3
      have h4 := tl_step h (i := j) (by omega) h3
      by_cases e : i = j - 1
      · subst e; exact h4
      · have := ih (j - 1) (by omega) (by omega) (by omega); omega
  exact key _ j (Nat.le_refl _) h1 h2
theorem tl_inj (h : tlB ts = true) (h0 : 0 ≤ i) (h1 : i < ts.length) (h2 : 0 ≤ j) (h3 : j < ts.length) (e : (tk ts i).i = (tk ts j).i) : i = j := by
  rcases Int.lt_trichotomy i j with h4 | h4 | h4
  · have := tl_rise h h0 h4 h3; omega
  · exact h4
  · have := tl_rise h h2 h4 h1; omega
theorem tk_mem (h0 : 0 ≤ i) (h1 : i < ts.length) : tk ts i ∈ ts := by
  unfold tk
  have e : ts.getD i.toNat default = ts[i.toNat]'(by omega) := by simp [List.getD, List.getElem?_eq_getElem (show i.toNat < ts.length by omega)]
  rw [e]; exact List.getElem_mem (by omega)
theorem mem_tk {t : Trk} (h : t ∈ ts) : ∃ i : Int, 0 ≤ i ∧ i < ts.length ∧ tk ts i = t := by
  obtain ⟨n, hn, e⟩ := List.getElem_of_mem h
  refine ⟨n, by omega, by omega, ?_⟩
  unfold tk
  simp [List.getD, List.getElem?_eq_getElem hn, e]
end
end Go.Proofs.Ytejahpnbplcgnaa
