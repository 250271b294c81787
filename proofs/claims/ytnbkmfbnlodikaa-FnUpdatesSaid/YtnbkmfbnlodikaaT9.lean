/-
Contracts of MissTrack, over plain data, and its law.
No condition but those that the contracts name.
-/
import Derived.Test.YtnbkmfbnlodikaaT8
namespace Go.Proofs.Ytnbkmfbnlodikaa
open Eng
set_option linter.unusedSimpArgs false
set_option linter.unusedVariables false
theorem foldI_split {α : Type} {f : α → Int → α} {m n : Int} (hm : m ≤ n) : ∀ {a : α} {i : Int}, i ≤ m → foldI f a i n = foldI f (foldI f a i m) m n := by
  have key : ∀ (k : Nat) (i : Int) (a : α), (m - i).toNat ≤ k → i ≤ m → foldI f a i n = foldI f (foldI f a i m) m n := by
    intro k
    induction k with
    | zero => intro i a h h1; have e : i = m := by omega
              subst e; rw [foldI_end (i := i) (n := i) (by omega)]
    | succ k ih =>
      intro i a h h1
      by_cases e : i = m
      · subst e; rw [foldI_end (i := i) (n := i) (by omega)]
      · rw [foldI_step (by omega), foldI_step (n := m) (by omega)]; exact ih (i + 1) _ (by omega) (by omega)
  exact fun {a i} h => key _ i a (Nat.le_refl _) h
theorem foldI_congr {α : Type} {f g : α → Int → α} {n : Int} {a : α} {i : Int} (h : ∀ a j, i ≤ j → j < n → f a j = g a j) : foldI f a i n = foldI g a i n :=
  foldI_rel (fun x y => x = y) rfl (fun a b j h1 h2 e => by rw [e]; exact h b j h1 h2)
theorem take_drop_snoc {α : Type} [Inhabited α] {xs : List α} {a j : Nat} (h : a ≤ j) (hj : j < xs.length) : (xs.take j).drop a ++ [xs.getD j default] = (xs.take (j + 1)).drop a := by
  rw [List.take_add_one, List.drop_append_of_le_length (by simp; omega)]
  congr 1
  simp [List.getD, List.getElem?_eq_getElem hj]
theorem fold_copy {ts us : List Trk} {a n : Int} (h0 : 0 ≤ a) (h1 : a ≤ n) (h2 : n ≤ ts.length) : foldI (fun us k => us ++ [tk ts k]) us a n = us ++ (ts.take n.toNat).drop a.toNat := by
  have := foldI_ind (f := fun us k => us ++ [tk ts k]) (n := n) (fun vs j => vs = us ++ (ts.take j.toNat).drop a.toNat) (a := us) (i := a) h1 (by simp) (fun vs j h3 h4 h => by
    (try simp only [] at h ⊢)
    rw [h, List.append_assoc]
    have e : (j + 1).toNat = j.toNat + 1 := by omega
    rw [e, ← take_drop_snoc (by omega) (by omega)]; rfl)
  exact this
def missV (t : Trk) : Trk := ⟨t.i, 3, t.x, t.y, t.h, w64 (t.l + 1)⟩
def miF (ts : List Trk) (i : Int) (us : List Trk) (k : Int) : List Trk := if (k == i) = true then (if misK (tk ts k).s (tk ts k).l = true then us ++ [missV (tk ts k)] else us) else us ++ [tk ts k]
def miR (ts : List Trk) (i : Int) : List Trk := foldI (miF ts i) [] 0 ts.length
def miO (ts : List Trk) (id : Int) : Bool := tlB ts && !decide (fdI ts id < 0)
def miV (ts : List Trk) (id : Int) : List Trk := if miO ts id = true then miR ts (fdI ts id) else []
section
variable {ts us : List Trk} {id i k : Int}
theorem mi_no (h : miO ts id = false) : miV ts id = [] := by simp [miV, h]
theorem mi_yes (h : miO ts id = true) : miV ts id = miR ts (fdI ts id) := by simp [miV, h]
theorem mi_n1 (h : tlB ts = false) : miO ts id = false := by simp [miO, h]
theorem mi_n2 (h : fdI ts id < 0) : miO ts id = false := by simp [miO, h]
theorem mi_y (h1 : ¬ tlB ts = false) (h2 : ¬ fdI ts id < 0) : miO ts id = true := by
  simp only [miO, Bool.and_eq_true, Bool.not_eq_true', decide_eq_false_iff_not]
  exact ⟨by simpa using h1, h2⟩
theorem miF_own (h : (k == i) = true) (h2 : misK (tk ts k).s (tk ts k).l = true) : us ++ [missV (tk ts k)] = miF ts i us k := by unfold miF; rw [if_pos h, if_pos h2]
theorem miF_drop (h : (k == i) = true) (h2 : misK (tk ts k).s (tk ts k).l = false) : us = miF ts i us k := by unfold miF; rw [if_pos h, if_neg (by rw [h2]; decide)]
theorem miF_else (h : ¬ (k == i) = true) : us ++ [tk ts k] = miF ts i us k := by unfold miF; rw [if_neg h]
theorem miF_len : (miF ts i us k).length ≤ us.length + 1 := by
  unfold miF; split
  · split <;> simp
  · simp
theorem miR_len : (miR ts i).length ≤ ts.length := by
  have h := foldI_ind (f := miF ts i) (n := ts.length) (fun (us : List Trk) i => (us.length : Int) ≤ i) (a := []) (i := 0) (by omega) (by simp) (fun a j h1 h2 h => by
    (try simp only [] at h ⊢)
    have := miF_len (ts := ts) (i := i) (us := a) (k := j); omega)
  (try simp only [] at h)
  unfold miR; omega
theorem miV_len : (miV ts id).length ≤ 1048576 := by
  unfold miV; split
  · rename_i h
    simp only [miO, Bool.and_eq_true] at h
    have := tlB_len h.1; have := miR_len (ts := ts) (i := fdI ts id); omega
  · simp
theorem miR_eq (h0 : 0 ≤ i) (h1 : i < ts.length) : miR ts i = ts.take i.toNat ++ (if misK (tk ts i).s (tk ts i).l = true then [missV (tk ts i)] else []) ++ ts.drop (i + 1).toNat := by
  unfold miR
  rw [foldI_split (m := i) (by omega) (by omega), foldI_step h1]
  have e1 : foldI (miF ts i) [] 0 i = ts.take i.toNat := by
    rw [foldI_congr (g := fun us k => us ++ [tk ts k]) (fun a j h2 h3 => (miF_else (by simp; omega)).symm), fold_copy (by omega) (by omega) (by omega)]
    simp
  have e2 : ∀ us, foldI (miF ts i) us (i + 1) ts.length = us ++ ts.drop (i + 1).toNat := by
    intro us
    rw [foldI_congr (g := fun us k => us ++ [tk ts k]) (fun a j h2 h3 => (miF_else (by simp; omega)).symm), fold_copy (by omega) (by omega) (by omega)]
    simp
  rw [e1, e2]
  congr 1
  unfold miF
  rw [if_pos (by simp)]
  split <;> simp
theorem tl_at' (h : tlB ts = true) (h0 : 0 ≤ i) (h1 : i < ts.length) : Trk.b (tk ts i) = true := by
  have key : ∀ (m : Nat) (i : Int), ((ts.length : Int) - i).toNat ≤ m → tlGo ts i = true → ∀ j, i ≤ j → j < ts.length → Trk.b (ts.getD j.toNat default) = true := by
    intro m
    induction m with
    | zero => intro i hm _ j h1 h2; omega
    | succ m ih =>
      intro i hm hg j h1 h2
      rw [tlGo.eq_1, if_pos (by omega)] at hg
      split at hg
      · rename_i hc
        by_cases e : j = i
        · subst e; exact hc.1
        · exact ih (i + 1) (by omega) hg j (by omega) h2
      · cases hg
  simp only [tlB, Bool.and_eq_true] at h
  exact key _ 0 (Nat.le_refl _) h.2 i h0 h1
theorem trB_lost {i s x y h l : Int} (t : trB i s x y h l = true) : 0 ≤ l ∧ l ≤ 3 := by
  simp only [trB, Bool.and_eq_true] at t
  obtain ⟨_, t⟩ := t
  split at t
  · simp at t; omega
  · split at t
    · simp at t; omega
    · split at t
      · simp only [Bool.and_eq_true] at t; have := inB_iff.1 t.2; omega
      · cases t
theorem mis_eq (h : tlB ts = true) (h0 : 0 ≤ i) (h1 : i < ts.length) : misK (tk ts i).s (tk ts i).l = misO (tk ts i).s (tk ts i).l := by
  have := trB_lost (tl_at' h h0 h1)
  unfold misK misO
  congr 1
  have e : w64 ((tk ts i).l + 1) = (tk ts i).l + 1 := wrap_id (by omega) (by omega)
  rw [e]
  by_cases h3 : (tk ts i).l = 3
  · simp [h3]
  · have : (tk ts i).l + 1 ≤ 3 := by omega
    simp [h3, this]
end

theorem mi_s1 {ts : List Trk} {id : Int} (hl : ts.length ≤ 1048576) (h1 : ¬ tlB ts = false) (h2 : ¬ fdI ts id < 0) (h3 : misO (tk ts (fdI ts id)).s (tk ts (fdI ts id)).l = true) :
    miO ts id = true ∧ miV ts id = ts.take (fdI ts id).toNat ++ [missV (tk ts (fdI ts id))] ++ ts.drop (IntKind.i64.wrap (fdI ts id + 1)).toNat := by
  have h := mi_y h1 h2
  have h4 : tlB ts = true := by simpa using h1
  have h5 := fdI_lt (ts := ts) (id := id)
  have e : IntKind.i64.wrap (fdI ts id + 1) = fdI ts id + 1 := wrap_id (by omega) (by omega)
  rw [mi_yes h, miR_eq (by omega) (by omega), mis_eq h4 (by omega) (by omega), h3, e]
  exact ⟨h, rfl⟩
theorem mi_s2 {ts : List Trk} {id : Int} (hl : ts.length ≤ 1048576) (h1 : ¬ tlB ts = false) (h2 : ¬ fdI ts id < 0) (h3 : ¬ misO (tk ts (fdI ts id)).s (tk ts (fdI ts id)).l = true) :
    miO ts id = true ∧ miV ts id = ts.take (fdI ts id).toNat ++ ts.drop (IntKind.i64.wrap (fdI ts id + 1)).toNat := by
  have h := mi_y h1 h2
  have h4 : tlB ts = true := by simpa using h1
  have h5 := fdI_lt (ts := ts) (id := id)
  have e : IntKind.i64.wrap (fdI ts id + 1) = fdI ts id + 1 := wrap_id (by omega) (by omega)
  rw [mi_yes h, miR_eq (by omega) (by omega), mis_eq h4 (by omega) (by omega), if_neg h3, e, List.append_nil]
  exact ⟨h, rfl⟩

end Go.Proofs.Ytnbkmfbnlodikaa
