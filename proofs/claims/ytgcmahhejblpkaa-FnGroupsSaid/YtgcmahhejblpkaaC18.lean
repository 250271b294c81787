/-
Plain laws on groups: their first sightings rise.
No condition but those that the statements name.
-/
import Derived.Test.YtgcmahhejblpkaaC17
namespace Go.Proofs.Ytgcmahhejblpkaa
open Eng
set_option linter.unusedSimpArgs false
set_option linter.unusedVariables false
section
variable {ss : List Sgt} {w r i g : Int} {gs : List (List It)}
def g1st (gs : List (List It)) (g : Nat) : Int := ((gs.getD g []).getD 0 default).n
structure GF (gs : List (List It)) (i : Int) : Prop where
  gi : GI gs i
  up : ∀ g h : Nat, g < h → h < gs.length → g1st gs g < g1st gs h
theorem GF.join (h : GF gs i) (hi : 0 ≤ i) (h0 : 0 ≤ g) (h1 : g < gs.length) : GF (gs.set g.toNat (gs.getD g.toNat [] ++ [⟨i⟩])) (i + 1) := by
  refine ⟨h.gi.join hi h0 h1, fun a b hab hb => ?_⟩
  rw [List.length_set] at hb
  have key : ∀ k, k < gs.length → g1st (gs.set g.toNat (gs.getD g.toNat [] ++ [⟨i⟩])) k = g1st gs k := by
    intro k hk
    have hp := (h.gi.pos g.toNat (by omega)).1
    unfold g1st
    by_cases e : g.toNat = k
    · subst e
      simp only [List.getD] at hp ⊢
      rw [List.getElem?_set_self hk]
      simp only [Option.getD_some]
      rw [List.getElem?_append_left hp]
    · simp only [List.getD]
      rw [List.getElem?_set_ne e]
  rw [key a (by omega), key b hb]
  exact h.up a b hab hb
theorem GF.push (h : GF gs i) (hi : 0 ≤ i) : GF (gs ++ [[⟨i⟩]]) (i + 1) := by
  refine ⟨h.gi.push hi, fun a b hab hb => ?_⟩
  simp only [List.length_append, List.length_cons, List.length_nil] at hb
  have key : ∀ k, k < gs.length → g1st (gs ++ [[(⟨i⟩ : It)]]) k = g1st gs k := by
    intro k hk
    unfold g1st
    simp only [List.getD]
    rw [List.getElem?_append_left hk]
  rw [key a (by omega)]
  by_cases e : b < gs.length
  · rw [key b e]; exact h.up a b hab e
  · have eb : b = gs.length := by omega
    subst eb
    have e2 : g1st (gs ++ [[(⟨i⟩ : It)]]) gs.length = i := by unfold g1st; simp [List.getD]
    rw [e2]
    exact (h.gi.mem a (by omega) 0 (h.gi.pos a (by omega)).1).2
theorem fi_rng {p : Int → Bool} {n : Int} : ∀ (m : Nat) (j : Int), 0 ≤ j → (n - j).toNat ≤ m → j ≤ n → j ≤ firstI p j n ∧ firstI p j n ≤ n := by
  intro m
  induction m with
  | zero => intro j h0 h1 h2; rw [firstI.eq_1, if_neg (by omega)]; omega
  | succ m ih =>
    intro j h0 h1 h2
    rw [firstI.eq_1]
    by_cases hj : j < n
    · rw [if_pos hj]
      split
      · omega
      · have := ih (j + 1) (by omega) (by omega) (by omega); omega
    · rw [if_neg hj]; omega
theorem grF_GF (h : GF gs i) (hi : 0 ≤ i) : GF (grF ss w r gs i) (i + 1) := by
  have hk := fi_rng (p := gkB ss w r gs i) (n := gs.length) _ 0 (by omega) (Nat.le_refl _) (by omega)
  unfold grF
  split
  · rename_i hl
    exact h.join hi hk.1 hl
  · exact h.push hi
theorem grR_GF : GF (grR ss w r) ss.length :=
  foldI_ind (f := grF ss w r) (n := ss.length) (fun (gs : List (List It)) i => GF gs i) (a := []) (i := 0) (by omega) ⟨GI.nil, fun g h _ hb => by simp at hb⟩ (fun a j h1 h2 h => grF_GF h h1)
end
end Go.Proofs.Ytgcmahhejblpkaa
