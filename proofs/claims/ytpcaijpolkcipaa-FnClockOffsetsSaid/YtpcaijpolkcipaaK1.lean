/-
Plain tools for clocks and links: connected clocks, potentials, groups. No program in sight.
No condition but those that the lemmas name.
-/
import Derived.Test.YtpcaijpolkcipaaB7
namespace Go.Proofs.Ytpcaijpolkcipaa
open Eng
set_option linter.unusedSimpArgs false
set_option linter.unusedVariables false
/-- the same number, where numbers wrap round -/
def cg (a b : Int) : Prop := (a - b) % 18446744073709551616 = 0
theorem cg_w {a b : Int} : w64 a = w64 b ↔ cg a b := by simp only [w64, IntKind.wrap_i64, cg]; omega
/-- connected by links -/
inductive Cn (ls : List Lnk) : Int → Int → Prop
  | refl (i : Int) : Cn ls i i
  | fwd {i : Int} (l : Lnk) (h : l ∈ ls) (c : Cn ls i l.f) : Cn ls i l.t
  | bwd {i : Int} (l : Lnk) (h : l ∈ ls) (c : Cn ls i l.t) : Cn ls i l.f
variable {ls ls' : List Lnk} {i j k s : Int}
theorem Cn.trans (h : Cn ls i j) (g : Cn ls j k) : Cn ls i k := by
  induction g with
  | refl => exact h
  | fwd l hl c ih => exact .fwd l hl ih
  | bwd l hl c ih => exact .bwd l hl ih
theorem Cn.symm (h : Cn ls i j) : Cn ls j i := by
  induction h with
  | refl => exact .refl _
  | fwd l hl c ih => exact (Cn.bwd l hl (.refl _)).trans ih
  | bwd l hl c ih => exact (Cn.fwd l hl (.refl _)).trans ih
theorem Cn.mono (hs : ∀ l ∈ ls, l ∈ ls') (h : Cn ls i j) : Cn ls' i j := by
  induction h with
  | refl => exact .refl _
  | fwd l hl c ih => exact .fwd l (hs l hl) ih
  | bwd l hl c ih => exact .bwd l (hs l hl) ih
theorem Cn.link {l : Lnk} (h : l ∈ ls) : Cn ls l.f l.t := .fwd l h (.refl _)
theorem Cn.grow {l : Lnk} (h : Cn ls i j) : Cn (ls ++ [l]) i j := h.mono (fun _ h => by simp [h])
/-- a link between connected clocks connects no others -/
theorem Cn.less {l : Lnk} (g : Cn ls l.f l.t) (h : Cn (ls ++ [l]) i j) : Cn ls i j := by
  induction h with
  | refl => exact .refl _
  | fwd l' hl c ih =>
    rcases List.mem_append.1 hl with h | h
    · exact .fwd l' h ih
    · have e : l' = l := by simpa using h
      subst e; exact ih.trans g
  | bwd l' hl c ih =>
    rcases List.mem_append.1 hl with h | h
    · exact .bwd l' h ih
    · have e : l' = l := by simpa using h
      subst e; exact ih.trans g.symm
/-- p agrees with all links that are connected with s -/
def PotA (ls : List Lnk) (s : Int) (p : Int → Int) : Prop := ∀ l ∈ ls, Cn ls s l.f → cg (p l.t) (p l.f + l.o)
def PotOn (ls : List Lnk) (s : Int) : Prop := ∃ p, PotA ls s p
theorem PotA.less {p : Int → Int} (hs : ∀ l ∈ ls, l ∈ ls') (h : PotA ls' s p) : PotA ls s p := fun l hl c => h l (hs l hl) (c.mono hs)
theorem PotA.diff {p q : Int → Int} (hp : PotA ls s p) (hq : PotA ls s q) (hi : Cn ls s i) (h : Cn ls i j) : cg (p j - p i) (q j - q i) := by
  induction h with
  | refl => simp [cg]
  | fwd l hl c ih =>
    have h1 := hp l hl (hi.trans c)
    have h2 := hq l hl (hi.trans c)
    simp only [cg] at *; omega
  | bwd l hl c ih =>
    have h1 := hp l hl (hi.trans (.bwd l hl c))
    have h2 := hq l hl (hi.trans (.bwd l hl c))
    simp only [cg] at *; omega
/-- what is known of the groups after some links -/
structure UInv (n : Int) (ls : List Lnk) (G O : Int → Int) (ok : Bool) : Prop where
  rng : ∀ l ∈ ls, (0 ≤ l.f ∧ l.f < n) ∧ 0 ≤ l.t ∧ l.t < n
  grp : ∀ i j, 0 ≤ i → i < n → 0 ≤ j → j < n → (G i = G j ↔ Cn ls i j)
  pot : ok = true → ∀ l ∈ ls, cg (O l.t) (O l.f + l.o)
  bad : ok = false → ∃ s, (0 ≤ s ∧ s < n) ∧ ¬ PotOn ls s
theorem UInv.start {n : Int} {O : Int → Int} : UInv n [] (fun i => i) O true where
  rng := by simp
  grp := fun i j _ _ _ _ => by
    constructor
    · intro h; have h : i = j := h
      subst h; exact .refl _
    · intro h
      cases h with
      | refl => rfl
      | fwd l hl _ => simp at hl
      | bwd l hl _ => simp at hl
  pot := by simp
  bad := by simp
theorem UInv.congr {n : Int} {G G' O O' : Int → Int} {ok : Bool} (h : UInv n ls G O ok) (hG : ∀ i, 0 ≤ i → i < n → G' i = G i) (hO : ∀ i, 0 ≤ i → i < n → cg (O' i) (O i)) : UInv n ls G' O' ok where
  rng := h.rng
  grp := fun i j h1 h2 h3 h4 => by rw [hG i h1 h2, hG j h3 h4]; exact h.grp i j h1 h2 h3 h4
  pot := fun e l hl => by
    have h1 := h.pot e l hl
    have h2 := h.rng l hl
    have h3 := hO l.t h2.2.1 h2.2.2
    have h4 := hO l.f h2.1.1 h2.1.2
    simp only [cg] at *; omega
  bad := h.bad
theorem UInv.mono_bad {n : Int} {l : Lnk} (h : ∃ s, (0 ≤ s ∧ s < n) ∧ ¬ PotOn ls s) : ∃ s, (0 ≤ s ∧ s < n) ∧ ¬ PotOn (ls ++ [l]) s := by
  obtain ⟨s, h1, h2⟩ := h
  exact ⟨s, h1, fun ⟨p, hp⟩ => h2 ⟨p, hp.less (fun _ h => by simp [h])⟩⟩
/-- a needless link -/
theorem UInv.same {n : Int} {G O : Int → Int} {ok fine : Bool} {l : Lnk} (h : UInv n ls G O ok) (hf : 0 ≤ l.f ∧ l.f < n) (ht : 0 ≤ l.t ∧ l.t < n) (e : G l.f = G l.t)
    (hv : fine = true ↔ cg (O l.t) (O l.f + l.o)) : UInv n (ls ++ [l]) G O (ok && fine) := by
  have hc : Cn ls l.f l.t := (h.grp _ _ hf.1 hf.2 ht.1 ht.2).1 e
  refine ⟨?_, ?_, ?_, ?_⟩
  · intro l' hl
    rcases List.mem_append.1 hl with g | g
    · exact h.rng l' g
    · have e : l' = l := by simpa using g
      subst e; exact ⟨hf, ht⟩
  · intro i j h1 h2 h3 h4
    rw [h.grp i j h1 h2 h3 h4]
    exact ⟨Cn.grow, Cn.less hc⟩
  · intro hk l' hl
    rw [Bool.and_eq_true] at hk
    rcases List.mem_append.1 hl with g | g
    · exact h.pot hk.1 l' g
    · have e : l' = l := by simpa using g
      subst e; exact hv.1 hk.2
  · intro hk
    cases hok : ok with
    | false => exact UInv.mono_bad (h.bad hok)
    | true =>
      have hfi : fine = false := by rw [hok] at hk; simpa using hk
      refine ⟨l.f, hf, fun ⟨p, hp⟩ => ?_⟩
      have h1 := hp l (by simp) (.refl _)
      have h2 : PotA ls l.f p := hp.less (fun _ h => by simp [h])
      have h3 : PotA ls l.f O := fun l' hl' _ => h.pot hok l' hl'
      have h4 := h2.diff h3 (.refl _) hc
      have h5 : fine = true := hv.2 (by simp only [cg] at *; omega)
      rw [hfi] at h5; cases h5
/-- a link that joins two groups -/
theorem UInv.join {n : Int} {G O G' O' : Int → Int} {ok : Bool} {l : Lnk} (h : UInv n ls G O ok) (hf : 0 ≤ l.f ∧ l.f < n) (ht : 0 ≤ l.t ∧ l.t < n) (e : G l.f ≠ G l.t)
    (hG : ∀ i, 0 ≤ i → i < n → G' i = if G i = G l.t then G l.f else G i)
    (hO : ∀ i, 0 ≤ i → i < n → cg (O' i) (if G i = G l.t then O i + (O l.f + l.o - O l.t) else O i)) : UInv n (ls ++ [l]) G' O' ok := by
  have hrng : ∀ l' ∈ ls ++ [l], (0 ≤ l'.f ∧ l'.f < n) ∧ 0 ≤ l'.t ∧ l'.t < n := by
    intro l' hl
    rcases List.mem_append.1 hl with g | g
    · exact h.rng l' g
    · have e : l' = l := by simpa using g
      subst e; exact ⟨hf, ht⟩
  have hlink : ∀ l' ∈ ls ++ [l], G' l'.f = G' l'.t := by
    intro l' hl
    obtain ⟨r1, r2⟩ := hrng l' hl
    rcases List.mem_append.1 hl with g | g
    · have := (h.grp _ _ r1.1 r1.2 r2.1 r2.2).2 (Cn.link g)
      rw [hG _ r1.1 r1.2, hG _ r2.1 r2.2, this]
    · have e2 : l' = l := by simpa using g
      subst e2
      rw [hG _ r1.1 r1.2, hG _ r2.1 r2.2, if_neg e, if_pos rfl]
  have hcl : Cn (ls ++ [l]) l.f l.t := Cn.link (by simp)
  refine ⟨hrng, ?_, ?_, ?_⟩
  · intro i j h1 h2 h3 h4
    constructor
    · intro g
      rw [hG i h1 h2, hG j h3 h4] at g
      have key : ∀ x, 0 ≤ x → x < n → G x = G l.t → Cn (ls ++ [l]) x l.f := fun x a b c => (((h.grp x l.t a b ht.1 ht.2).1 c).grow).trans hcl.symm
      have key2 : ∀ x, 0 ≤ x → x < n → G x = G l.f → Cn (ls ++ [l]) x l.f := fun x a b c => ((h.grp x l.f a b hf.1 hf.2).1 c).grow
      split at g <;> split at g
      · exact (key i h1 h2 (by assumption)).trans (key j h3 h4 (by assumption)).symm
      · exact (key i h1 h2 (by assumption)).trans (key2 j h3 h4 g.symm).symm
      · exact (key2 i h1 h2 g).trans (key j h3 h4 (by assumption)).symm
      · exact ((h.grp i j h1 h2 h3 h4).1 g).grow
    · intro g
      clear h2 h4 h1 h3
      induction g with
      | refl => rfl
      | fwd l' hl c ih => exact ih.trans (hlink l' hl)
      | bwd l' hl c ih => exact ih.trans (hlink l' hl).symm
  · intro hk l' hl
    obtain ⟨r1, r2⟩ := hrng l' hl
    have a1 := hO l'.f r1.1 r1.2
    have a2 := hO l'.t r2.1 r2.2
    rcases List.mem_append.1 hl with g | g
    · have e2 := (h.grp _ _ r1.1 r1.2 r2.1 r2.2).2 (Cn.link g)
      have p := h.pot hk l' g
      rw [e2] at a1
      split at a1
      · rename_i hc; rw [if_pos hc] at a2; simp only [cg] at *; omega
      · rename_i hc; rw [if_neg hc] at a2; simp only [cg] at *; omega
    · have e2 : l' = l := by simpa using g
      subst e2
      rw [if_neg e] at a1; rw [if_pos rfl] at a2
      simp only [cg] at *; omega
  · intro hk; exact UInv.mono_bad (h.bad hk)
/-- what is known of the clocks that were seen from s -/
structure SInv (n : Int) (ls : List Lnk) (s : Int) (S : Int → Bool) (D : Int → Int) : Prop where
  own : S s = true
  con : ∀ j, 0 ≤ j → j < n → S j = true → Cn ls s j
  val : ∀ p, PotA ls s p → ∀ j, 0 ≤ j → j < n → S j = true → cg (D j) (p j - p s)
theorem SInv.fwd {n : Int} {S S' : Int → Bool} {D D' : Int → Int} {l : Lnk} (h : SInv n ls s S D) (hl : l ∈ ls) (hf : 0 ≤ l.f ∧ l.f < n) (ht : 0 ≤ l.t ∧ l.t < n) (h1 : S l.f = true)
    (hs : 0 ≤ s ∧ s < n) (hS : ∀ i, 0 ≤ i → i < n → S' i = if i = l.t then true else S i) (hD : ∀ i, 0 ≤ i → i < n → cg (D' i) (if i = l.t then D l.f + l.o else D i)) : SInv n ls s S' D' := by
  refine ⟨?_, ?_, ?_⟩
  · rw [hS s hs.1 hs.2, h.own]; simp
  · intro j h2 h3 h4
    rw [hS j h2 h3] at h4
    split at h4
    · rename_i e; subst e; exact .fwd l hl (h.con _ hf.1 hf.2 h1)
    · exact h.con j h2 h3 h4
  · intro p hp j h2 h3 h4
    have h5 := hD j h2 h3
    rw [hS j h2 h3] at h4
    split at h4
    · rename_i e; subst e
      rw [if_pos rfl] at h5
      have h6 := h.val p hp _ hf.1 hf.2 h1
      have h7 := hp l hl (h.con _ hf.1 hf.2 h1)
      simp only [cg] at *; omega
    · rename_i e
      rw [if_neg e] at h5
      have h6 := h.val p hp j h2 h3 h4
      simp only [cg] at *; omega
theorem SInv.bwd {n : Int} {S S' : Int → Bool} {D D' : Int → Int} {l : Lnk} (h : SInv n ls s S D) (hl : l ∈ ls) (hf : 0 ≤ l.f ∧ l.f < n) (ht : 0 ≤ l.t ∧ l.t < n) (h1 : S l.t = true)
    (hs : 0 ≤ s ∧ s < n) (hS : ∀ i, 0 ≤ i → i < n → S' i = if i = l.f then true else S i) (hD : ∀ i, 0 ≤ i → i < n → cg (D' i) (if i = l.f then D l.t - l.o else D i)) : SInv n ls s S' D' := by
  refine ⟨?_, ?_, ?_⟩
  · rw [hS s hs.1 hs.2, h.own]; simp
  · intro j h2 h3 h4
    rw [hS j h2 h3] at h4
    split at h4
    · rename_i e; subst e; exact .bwd l hl (h.con _ ht.1 ht.2 h1)
    · exact h.con j h2 h3 h4
  · intro p hp j h2 h3 h4
    have h5 := hD j h2 h3
    rw [hS j h2 h3] at h4
    split at h4
    · rename_i e; subst e
      rw [if_pos rfl] at h5
      have h6 := h.val p hp _ ht.1 ht.2 h1
      have h7 := hp l hl (.bwd l hl (h.con _ ht.1 ht.2 h1))
      simp only [cg] at *; omega
    · rename_i e
      rw [if_neg e] at h5
      have h6 := h.val p hp j h2 h3 h4
      simp only [cg] at *; omega
/-- nothing more is to be seen -/
theorem SInv.all {n : Int} {S : Int → Bool} {D : Int → Int} (h : SInv n ls s S D) (hc : ∀ l ∈ ls, S l.f = S l.t) (g : Cn ls s j) : S j = true := by
  induction g with
  | refl => exact h.own
  | fwd l hl c ih => rw [← hc l hl]; exact ih
  | bwd l hl c ih => rw [hc l hl]; exact ih
theorem SInv.iff {n : Int} {S : Int → Bool} {D : Int → Int} (h : SInv n ls s S D) (hc : ∀ l ∈ ls, S l.f = S l.t) (h1 : 0 ≤ j) (h2 : j < n) : S j = true ↔ Cn ls s j := ⟨h.con j h1 h2, h.all hc⟩
/-- all links of what was seen agree -/
theorem SInv.pot {n : Int} {S : Int → Bool} {D : Int → Int} (h : SInv n ls s S D) (hr : ∀ l ∈ ls, (0 ≤ l.f ∧ l.f < n) ∧ 0 ≤ l.t ∧ l.t < n) (hc : ∀ l ∈ ls, S l.f = S l.t) :
    (∀ l ∈ ls, S l.f = true → cg (D l.t) (D l.f + l.o)) ↔ PotOn ls s := by
  constructor
  · intro H
    exact ⟨D, fun l hl c => H l hl (h.all hc c)⟩
  · intro ⟨p, hp⟩ l hl hs
    obtain ⟨r1, r2⟩ := hr l hl
    have h1 := h.val p hp _ r1.1 r1.2 hs
    have h2 := h.val p hp _ r2.1 r2.2 (by rw [← hc l hl]; exact hs)
    have h3 := hp l hl (h.con _ r1.1 r1.2 hs)
    simp only [cg] at *; omega
/-- one clock's component without agreement spoils all that are connected with it -/
theorem PotOn.move (h : PotOn ls s) (c : Cn ls s j) : PotOn ls j := by
  obtain ⟨p, hp⟩ := h
  exact ⟨p, fun l hl g => hp l hl (c.trans g)⟩
end Go.Proofs.Ytpcaijpolkcipaa
