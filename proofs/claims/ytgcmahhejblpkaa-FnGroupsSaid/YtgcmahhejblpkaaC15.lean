/-
Plain laws on the greatest of differences, and contracts of SpreadOf, over plain data.
No condition but those that the contracts name.
-/
import Derived.Test.YtgcmahhejblpkaaC14
namespace Go.Proofs.Ytgcmahhejblpkaa
open Eng
set_option linter.unusedSimpArgs false
set_option linter.unusedVariables false
section
variable {p : Int → Int} {n m i k : Int}
/-- the greatest difference of two of n numbers, or 0 -/
def mxA (p : Int → Int) (n : Int) : Int := foldI (fun m i => foldI (fun m k => max m (p i - p k)) m 0 n) 0 0 n
def mxB (p : Int → Int) (n : Int) : Int := foldI (fun m i => foldI (fun m k => max m (absV (p i - p k))) m 0 i) 0 0 n
theorem mx_in {q : Int → Int} {a : Int} (hn : 0 ≤ n) : (a ≤ foldI (fun m k => max m (q k)) a 0 n ∧ ∀ k, 0 ≤ k → k < n → q k ≤ foldI (fun m k => max m (q k)) a 0 n) ∧ (foldI (fun m k => max m (q k)) a 0 n = a ∨ ∃ k, 0 ≤ k ∧ k < n ∧ foldI (fun m k => max m (q k)) a 0 n = q k) :=
  foldI_ind (f := fun m k => max m (q k)) (n := n) (fun (m : Int) j => (a ≤ m ∧ ∀ k, 0 ≤ k → k < j → q k ≤ m) ∧ (m = a ∨ ∃ k, 0 ≤ k ∧ k < j ∧ m = q k)) (a := a) (i := 0) hn ⟨⟨Int.le_refl _, fun k h0 h1 => by omega⟩, .inl rfl⟩ (fun m j h1 h2 h => by
    (try simp only [] at h ⊢)
    obtain ⟨⟨h3, h4⟩, h5⟩ := h
    refine ⟨⟨by omega, fun k h6 h7 => ?_⟩, ?_⟩
    · by_cases e : k = j
      · subst e; omega
      · have := h4 k h6 (by omega); omega
    · by_cases e : m ≤ q j
      · exact .inr ⟨j, h1, by omega, by omega⟩
      · rcases h5 with h5 | ⟨k, k0, k1, k2⟩
        · exact .inl (by omega)
        · exact .inr ⟨k, k0, by omega, by omega⟩)
theorem mxA_law (hn : 0 ≤ n) : 0 ≤ mxA p n ∧ (∀ i k, 0 ≤ i → i < n → 0 ≤ k → k < n → p i - p k ≤ mxA p n) ∧ (mxA p n = 0 ∨ ∃ i k, (0 ≤ i ∧ i < n) ∧ (0 ≤ k ∧ k < n) ∧ mxA p n = p i - p k) := by
  have key := foldI_ind (f := fun m i => foldI (fun m k => max m (p i - p k)) m 0 n) (n := n) (fun (m : Int) j => 0 ≤ m ∧ (∀ i k, 0 ≤ i → i < j → 0 ≤ k → k < n → p i - p k ≤ m) ∧ (m = 0 ∨ ∃ i k, (0 ≤ i ∧ i < n) ∧ (0 ≤ k ∧ k < n) ∧ m = p i - p k)) (a := 0) (i := 0) hn ⟨Int.le_refl _, fun i k h0 h1 => by omega, .inl rfl⟩ (fun m j h1 h2 h => by
    (try simp only [] at h ⊢)
    obtain ⟨h3, h4, h5⟩ := h
    obtain ⟨⟨g1, g2⟩, g3⟩ := mx_in (q := fun k => p j - p k) (a := m) hn
    refine ⟨by omega, fun i k q1 q2 q3 q4 => ?_, ?_⟩
    · by_cases e : i = j
      · subst e; exact g2 k q3 q4
      · have := h4 i k q1 (by omega) q3 q4; omega
    · rcases g3 with g3 | ⟨k, k0, k1, k2⟩
      · rw [g3]; exact h5
      · exact .inr ⟨j, k, ⟨h1, h2⟩, ⟨k0, k1⟩, k2⟩)
  exact key
theorem mxB_law (hn : 0 ≤ n) : 0 ≤ mxB p n ∧ (∀ i k, 0 ≤ k → k < i → i < n → absV (p i - p k) ≤ mxB p n) ∧ (mxB p n = 0 ∨ ∃ i k, (0 ≤ k ∧ k < i) ∧ i < n ∧ mxB p n = absV (p i - p k)) := by
  have key := foldI_ind (f := fun m i => foldI (fun m k => max m (absV (p i - p k))) m 0 i) (n := n) (fun (m : Int) j => 0 ≤ m ∧ (∀ i k, 0 ≤ k → k < i → i < j → absV (p i - p k) ≤ m) ∧ (m = 0 ∨ ∃ i k, (0 ≤ k ∧ k < i) ∧ i < n ∧ m = absV (p i - p k))) (a := 0) (i := 0) hn ⟨Int.le_refl _, fun i k h0 h1 h2 => by omega, .inl rfl⟩ (fun m j h1 h2 h => by
    (try simp only [] at h ⊢)
    obtain ⟨h3, h4, h5⟩ := h
    obtain ⟨⟨g1, g2⟩, g3⟩ := mx_in (n := j) (q := fun k => absV (p j - p k)) (a := m) h1
    refine ⟨by omega, fun i k q1 q2 q3 => ?_, ?_⟩
    · by_cases e : i = j
      · subst e; exact g2 k q1 q2
      · have := h4 i k q1 q2 (by omega); omega
    · rcases g3 with g3 | ⟨k, k0, k1, k2⟩
      · rw [g3]; exact h5
      · exact .inr ⟨j, k, ⟨k0, k1⟩, h2, k2⟩)
  exact key
theorem mx_eq (hn : 0 ≤ n) (hb : ∀ i, 0 ≤ i → i < n → -100000 ≤ p i ∧ p i ≤ 100000) : mxA p n = mxB p n := by
  obtain ⟨a1, a2, a3⟩ := mxA_law (p := p) hn
  obtain ⟨b1, b2, b3⟩ := mxB_law (p := p) hn
  have habs : ∀ i k, 0 ≤ i → i < n → 0 ≤ k → k < n → absV (p i - p k) = if p i - p k < 0 then p k - p i else p i - p k := by
    intro i k h0 h1 h2 h3
    have e1 := hb i h0 h1
    have e2 := hb k h2 h3
    unfold absV
    split
    · rw [wrap_id (by omega) (by omega)]; omega
    · rfl
  apply Int.le_antisymm
  · rcases a3 with a3 | ⟨i, k, hi, hk, e⟩
    · omega
    · rw [e]
      rcases Int.lt_trichotomy i k with h | h | h
      · have := b2 k i hi.1 h hk.2
        rw [habs k i hk.1 hk.2 hi.1 hi.2] at this
        split at this <;> omega
      · subst h; omega
      · have := b2 i k hk.1 h hi.2
        rw [habs i k hi.1 hi.2 hk.1 hk.2] at this
        split at this <;> omega
  · rcases b3 with b3 | ⟨i, k, hk, hi, e⟩
    · omega
    · rw [e, habs i k (by omega) hi hk.1 (by omega)]
      have x1 := a2 i k (by omega) hi hk.1 (by omega)
      have x2 := a2 k i hk.1 (by omega) (by omega) hi
      split <;> omega
end
end Go.Proofs.Ytgcmahhejblpkaa
