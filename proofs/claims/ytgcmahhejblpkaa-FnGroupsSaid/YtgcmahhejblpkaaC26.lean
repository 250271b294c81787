/-
Plain laws on plots of groups: their sites rise, and their places are rounded means.
No condition but those that the statements name.
-/
import Derived.Test.YtgcmahhejblpkaaC25
namespace Go.Proofs.Ytgcmahhejblpkaa
open Eng
set_option linter.unusedSimpArgs false
set_option linter.unusedVariables false
section
variable {ss : List Sgt} {w r i g k n s : Int} {gs : List (List It)} {us xs own : List It} {ps : List Pl}
def rise (us : List It) : Prop := ∀ a b : Nat, a < b → b < us.length → (us.getD a default).n < (us.getD b default).n
theorem puGo_spec : ∀ (m : Nat) (k : Int), 0 ≤ k → k.toNat ≤ m → k ≤ xs.length → (∀ a : Nat, k ≤ a → a < xs.length → n < (xs.getD a default).n) →
    (0 ≤ puGo xs n k ∧ puGo xs n k ≤ xs.length) ∧ (∀ a : Nat, puGo xs n k ≤ a → a < xs.length → n < (xs.getD a default).n) ∧ (0 < puGo xs n k → ¬ n < (xs.getD (puGo xs n k - 1).toNat default).n) := by
  intro m
  induction m with
  | zero =>
    intro k h0 h1 h2 h3
    have e : puGo xs n k = k := by rw [puGo.eq_1, if_neg (by omega)]
    rw [e]; exact ⟨by omega, h3, fun h => by omega⟩
  | succ m ih =>
    intro k h0 h1 h2 h3
    by_cases hk : 0 < k
    · by_cases hn : n < (xs.getD (k - 1).toNat default).n
      · have e : puGo xs n k = puGo xs n (k - 1) := by rw [puGo.eq_1, if_pos hk, if_pos hn]
        rw [e]
        refine ih (k - 1) (by omega) (by omega) (by omega) fun a h4 h5 => ?_
        by_cases e2 : (a : Int) = k - 1
        · have e3 : a = (k - 1).toNat := by omega
          rw [e3]; exact hn
        · exact h3 a (by omega) h5
      · have e : puGo xs n k = k := by rw [puGo.eq_1, if_pos hk, if_neg hn]
        rw [e]; exact ⟨by omega, h3, fun _ => hn⟩
    · have e : puGo xs n k = k := by rw [puGo.eq_1, if_neg hk]
      rw [e]; exact ⟨by omega, h3, fun h => by omega⟩
theorem puK_spec : (0 ≤ puK xs n ∧ puK xs n ≤ xs.length) ∧ (∀ a : Nat, puK xs n ≤ a → a < xs.length → n < (xs.getD a default).n) ∧ (0 < puK xs n → ¬ n < (xs.getD (puK xs n - 1).toNat default).n) :=
  puGo_spec _ _ (by omega) (Nat.le_refl _) (by omega) (fun a h1 h2 => by omega)
theorem puK_lo (hr : rise xs) (hn : ∀ k : Nat, k < xs.length → ¬ (xs.getD k default).n = n) {a : Nat} (ha : (a : Int) < puK xs n) : (xs.getD a default).n < n := by
  obtain ⟨h1, h2, h3⟩ := puK_spec (xs := xs) (n := n)
  have h4 := h3 (by omega)
  have h5 := hn (puK xs n - 1).toNat (by omega)
  by_cases e : a = (puK xs n - 1).toNat
  · rw [e]; omega
  · have := hr a (puK xs n - 1).toNat (by omega) (by omega); omega
/-- the same place, looked for from below -/
theorem puK_up (hr : rise xs) (hn : ∀ k : Nat, k < xs.length → ¬ (xs.getD k default).n = n) (h0 : 0 ≤ k) (h1 : k ≤ xs.length) (hlo : ∀ a : Nat, (a : Int) < k → (xs.getD a default).n < n) (hhi : k < xs.length → ¬ (xs.getD k.toNat default).n < n) : puK xs n = k := by
  obtain ⟨g1, g2, g3⟩ := puK_spec (xs := xs) (n := n)
  by_cases e : puK xs n = k
  · exact e
  · exfalso
    by_cases e2 : k < puK xs n
    · have := puK_lo hr hn (a := k.toNat) (by omega)
      exact hhi (by omega) this
    · have h4 := hlo (puK xs n).toNat (by omega)
      have h5 := g2 (puK xs n).toNat (by omega) (by omega)
      omega
theorem puV_len : (puV xs n).length = xs.length + 1 := by
  have := (puK_spec (xs := xs) (n := n)).1
  unfold puV; simp; omega
theorem puV_at (a : Nat) : ((puV xs n).getD a default) = if (a : Int) < puK xs n then xs.getD a default else if (a : Int) = puK xs n then ⟨n⟩ else xs.getD (a - 1) default := by
  have h := (puK_spec (xs := xs) (n := n)).1
  unfold puV
  have hl : (xs.take (puK xs n).toNat).length = (puK xs n).toNat := by simp; omega
  split
  · rename_i h1
    simp only [List.getD]
    rw [List.getElem?_append_left (by rw [hl]; omega), List.getElem?_take, if_pos (by omega)]
  · split
    · rename_i h1 h2
      simp only [List.getD]
      rw [List.getElem?_append_right (by rw [hl]; omega), hl, show a - (puK xs n).toNat = 0 by omega]
      rfl
    · rename_i h1 h2
      simp only [List.getD]
      rw [List.getElem?_append_right (by rw [hl]; omega), hl, show a - (puK xs n).toNat = (a - (puK xs n).toNat - 1) + 1 by omega, List.getElem?_cons_succ, List.getElem?_drop, show (puK xs n).toNat + (a - (puK xs n).toNat - 1) = a - 1 by omega]
theorem puV_rise (hr : rise xs) (hn : ∀ k : Nat, k < xs.length → ¬ (xs.getD k default).n = n) : rise (puV xs n) := by
  intro a b hab hb
  rw [puV_len] at hb
  obtain ⟨h1, h2, h3⟩ := puK_spec (xs := xs) (n := n)
  rw [puV_at, puV_at]
  by_cases a1 : (a : Int) < puK xs n
  · rw [if_pos a1]
    by_cases b1 : (b : Int) < puK xs n
    · rw [if_pos b1]; exact hr a b hab (by omega)
    · rw [if_neg b1]
      by_cases b2 : (b : Int) = puK xs n
      · rw [if_pos b2]; exact puK_lo hr hn a1
      · rw [if_neg b2]
        by_cases e : a = b - 1
        · omega
        · exact hr a (b - 1) (by omega) (by omega)
  · rw [if_neg a1, if_neg (show ¬ (b : Int) < puK xs n by omega), if_neg (show ¬ (b : Int) = puK xs n by omega)]
    by_cases a2 : (a : Int) = puK xs n
    · rw [if_pos a2]; exact h2 (b - 1) (by omega) (by omega)
    · rw [if_neg a2]; exact hr (a - 1) (b - 1) (by omega) (by omega)
theorem puV_mem {a : Nat} (ha : a < (puV xs n).length) : ((puV xs n).getD a default).n = n ∨ ∃ b, b < xs.length ∧ (puV xs n).getD a default = xs.getD b default := by
  rw [puV_len] at ha
  have h1 := (puK_spec (xs := xs) (n := n)).1
  rw [puV_at]
  split
  · exact .inr ⟨a, by omega, rfl⟩
  · split
    · exact .inl rfl
    · exact .inr ⟨a - 1, by omega, rfl⟩
/-- the sites of a group -/
def ste (ss : List Sgt) (own : List It) (k : Int) : Int := (sg ss (own.getD k.toNat default).n).s
def siF (ss : List Sgt) (own us : List It) (k : Int) : List It := puV us (ste ss own k)
def siR (ss : List Sgt) (own : List It) : List It := foldI (siF ss own) [] 0 own.length
structure SI (ss : List Sgt) (own us : List It) (k : Int) : Prop where
  len : (us.length : Int) = k
  up : rise us
  mem : ∀ a : Nat, a < us.length → ∃ j : Nat, (j : Int) < k ∧ (us.getD a default).n = ste ss own j
theorem SI.nil : SI ss own [] 0 := ⟨rfl, fun a b h h1 => by simp at h1, fun a h => by simp at h⟩
/-- different sites, each from 1 to 9, and places in range -/
structure DS (ss : List Sgt) (own : List It) : Prop where
  pos : 0 < own.length
  len : own.length ≤ 20
  idx : ∀ j : Nat, j < own.length → 0 ≤ (own.getD j default).n ∧ (own.getD j default).n < ss.length
  ne : ∀ j k : Nat, j < k → k < own.length → ¬ ste ss own j = ste ss own k
  rng : ∀ j : Nat, j < own.length → (1 ≤ ste ss own j ∧ ste ss own j ≤ 9)
  plc : ∀ j : Nat, j < own.length → (0 ≤ (sg ss (own.getD j default).n).x ∧ (sg ss (own.getD j default).n).x ≤ 9899) ∧ (0 ≤ (sg ss (own.getD j default).n).y ∧ (sg ss (own.getD j default).n).y ≤ 9899)
theorem SI.no (h : SI ss own us k) (d : DS ss own) (h1 : k < own.length) (a : Nat) (ha : a < us.length) : ¬ (us.getD a default).n = ste ss own k := by
  obtain ⟨j, h2, h3⟩ := h.mem a ha
  have hl := h.len
  have := d.ne j k.toNat (by omega) (by omega)
  have e : ((k.toNat : Nat) : Int) = k := by omega
  rw [e] at this
  rw [h3]; exact this
theorem SI.put (h : SI ss own us k) (d : DS ss own) (h1 : k < own.length) : SI ss own (puV us (ste ss own k)) (k + 1) := by
  have hl := h.len
  refine ⟨by rw [puV_len]; omega, puV_rise h.up (h.no d h1), fun a ha => ?_⟩
  rcases puV_mem ha with e | ⟨b, hb, e⟩
  · exact ⟨k.toNat, by omega, by rw [e]; congr 1; omega⟩
  · obtain ⟨j, h2, h3⟩ := h.mem b hb
    exact ⟨j, by omega, by rw [e, h3]⟩
theorem siR_SI (d : DS ss own) : SI ss own (siR ss own) own.length :=
  foldI_ind (f := siF ss own) (n := own.length) (fun (us : List It) k => SI ss own us k) (a := []) (i := 0) (by omega) SI.nil (fun a j h1 h2 h => h.put d h2)
def sxF (ss : List Sgt) (own : List It) (a k : Int) : Int := a + (sg ss (own.getD k.toNat default).n).x
def sxR (ss : List Sgt) (own : List It) : Int := foldI (sxF ss own) 0 0 own.length
def syF (ss : List Sgt) (own : List It) (a k : Int) : Int := a + (sg ss (own.getD k.toNat default).n).y
def syR (ss : List Sgt) (own : List It) : Int := foldI (syF ss own) 0 0 own.length
theorem sx_bd (d : DS ss own) : 0 ≤ sxR ss own ∧ sxR ss own ≤ 9899 * own.length := by
  have := foldI_ind (f := sxF ss own) (n := own.length) (fun (a : Int) k => 0 ≤ a ∧ a ≤ 9899 * k) (a := 0) (i := 0) (by omega) ⟨by omega, by omega⟩ (fun a j h1 h2 h => by
    have := (d.plc j.toNat (by omega)).1
    unfold sxF; omega)
  exact this
theorem sy_bd (d : DS ss own) : 0 ≤ syR ss own ∧ syR ss own ≤ 9899 * own.length := by
  have := foldI_ind (f := syF ss own) (n := own.length) (fun (a : Int) k => 0 ≤ a ∧ a ≤ 9899 * k) (a := 0) (i := 0) (by omega) ⟨by omega, by omega⟩ (fun a j h1 h2 h => by
    have := (d.plc j.toNat (by omega)).2
    unfold syF; omega)
  exact this
/-- a quotient, rounded to the nearest number -/
def nrV (s n : Int) : Int := (2 * s + n) / (2 * n)
theorem nr_rng (hn : 0 < n) (h0 : 0 ≤ s) (h1 : s ≤ 9899 * n) : 0 ≤ nrV s n ∧ nrV s n ≤ 9899 := by
  unfold nrV
  refine ⟨Int.ediv_nonneg (by omega) (by omega), ?_⟩
  have : (2 * s + n) / (2 * n) < 9900 := Int.ediv_lt_of_lt_mul (by omega) (by omega)
  omega
theorem nr_td (hn : 0 < n ∧ n ≤ 1000) (h0 : 0 ≤ s ∧ s ≤ 100000000) : IntKind.i64.wrap ((IntKind.i64.wrap (IntKind.i64.wrap (2 * s) + n)).tdiv (IntKind.i64.wrap (2 * n))) = nrV s n := by
  have e1 : IntKind.i64.wrap (2 * s) = 2 * s := wrap_id (by omega) (by omega)
  have e2 : IntKind.i64.wrap (2 * n) = 2 * n := wrap_id (by omega) (by omega)
  have e3 : IntKind.i64.wrap (2 * s + n) = 2 * s + n := wrap_id (by omega) (by omega)
  rw [e1, e2, e3, Int.tdiv_eq_ediv_of_nonneg (by omega)]
  have h1 : 0 ≤ (2 * s + n) / (2 * n) := Int.ediv_nonneg (by omega) (by omega)
  have h2 : (2 * s + n) / (2 * n) ≤ 2 * s + n := Int.ediv_le_self _ (by omega)
  exact wrap_id (by omega) (by omega)
/-- the plot of a group -/
def plG (ss : List Sgt) (own : List It) : Pl := ⟨(sg ss (own.getD 0 default).n).c, (sg ss (own.getD 0 default).n).a, nrV (sxR ss own) own.length, nrV (syR ss own) own.length, siR ss own⟩
def plF (ss : List Sgt) (gs : List (List It)) (ps : List Pl) (g : Int) : List Pl := ps ++ [plG ss (gs.getD g.toNat default)]
def plR (ss : List Sgt) (w r : Int) : List Pl := foldI (plF ss (grR ss w r)) [] 0 (grR ss w r).length
def plV (ss : List Sgt) (w r : Int) : List Pl := if agB ss w r = true then plR ss w r else []
theorem plV_yes (h : agB ss w r = true) : plV ss w r = plR ss w r := if_pos h
theorem plV_no (h : agB ss w r = false) : plV ss w r = [] := by unfold plV; rw [h]; rfl
theorem plR_spec : (plR ss w r).length = (grR ss w r).length ∧ ∀ g : Nat, g < (grR ss w r).length → (plR ss w r).getD g default = plG ss ((grR ss w r).getD g default) := by
  have := foldI_ind (f := plF ss (grR ss w r)) (n := (grR ss w r).length) (fun (ps : List Pl) k => (ps.length : Int) = k ∧ ∀ g : Nat, (g : Int) < k → ps.getD g default = plG ss ((grR ss w r).getD g default)) (a := []) (i := 0) (by omega) ⟨rfl, fun g h => by omega⟩ (fun ps j h1 h2 h => by
    unfold plF
    refine ⟨by simp; omega, fun g hg => ?_⟩
    simp only [List.getD]
    by_cases e : (g : Int) < j
    · rw [List.getElem?_append_left (by omega)]; exact h.2 g e
    · have e2 : g = ps.length := by omega
      have e3 : j.toNat = g := by omega
      rw [List.getElem?_append_right (by omega), e2, Nat.sub_self, ← e2, e3]; rfl)
  have key : ((plR ss w r).length : Int) = (grR ss w r).length ∧ ∀ g : Nat, (g : Int) < (grR ss w r).length → (plR ss w r).getD g default = plG ss ((grR ss w r).getD g default) := this
  exact ⟨by omega, fun g hg => key.2 g (by omega)⟩
theorem grR_DS (h : agB ss w r = true) (h0 : 0 ≤ g) (h1 : g < (grR ss w r).length) : DS ss ((grR ss w r).getD g.toNat default) := by
  have A := grR_GA h
  have G := grR_GI (ss := ss) (w := w) (r := r)
  have hp := G.pos g.toNat (by omega)
  have hl := ag_len h
  have hs := ag_sg h
  have e0 : ((grR ss w r).getD g.toNat default).length = gln (grR ss w r) g.toNat := rfl
  have e1 : ((grR ss w r).getD g.toNat []).length = gln (grR ss w r) g.toNat := rfl
  have e2 : ∀ j : Nat, (((grR ss w r).getD g.toNat default).getD j default).n = gel (grR ss w r) g.toNat j := fun j => rfl
  refine ⟨by omega, by omega, fun j hj => by rw [e2]; exact A.inr _ _ hj, fun j k hjk hk => ?_, fun j hj => ?_, fun j hj => ?_⟩
  · have := A.st g.toNat j k hjk hk
    unfold ste
    rw [Int.toNat_natCast, Int.toNat_natCast, e2, e2]; exact this
  · have hi := A.inr _ _ hj
    unfold ste
    rw [Int.toNat_natCast, e2]
    exact sg_site hs hi.1 hi.2
  · have hi := A.inr _ _ hj
    have hb := sg_at hs hi.1 hi.2
    rw [e2]
    simp only [Sgt.b, Bool.and_eq_true, placeB] at hb
    exact ⟨inB_iff.1 hb.2.1, inB_iff.1 hb.2.2⟩
end
end Go.Proofs.Ytgcmahhejblpkaa
