/-
Plain tools for loops over whole numbers, and what wraps round: no program in sight.
No condition but those that the lemmas name.
-/
import Derived.Test.YtgcmahhejblpkaaVU
namespace Go.Proofs.Ytgcmahhejblpkaa
open Eng
set_option linter.unusedSimpArgs false
set_option linter.unusedVariables false
abbrev w64 (n : Int) : Int := IntKind.i64.wrap n
theorem w_add_mul (n k : Int) : w64 (n + 18446744073709551616 * k) = w64 n := by simp only [w64, IntKind.wrap_i64]; omega
theorem w_eq (n : Int) : ∃ k, w64 n = n + 18446744073709551616 * k := ⟨-((n + 9223372036854775808) / 18446744073709551616), by simp only [w64, IntKind.wrap_i64]; omega⟩
theorem w_ml (a b : Int) : w64 (w64 a * b) = w64 (a * b) := by
  obtain ⟨k, h⟩ := w_eq a
  rw [h, Int.add_mul, Int.mul_assoc, w_add_mul]
theorem w_mr (a b : Int) : w64 (a * w64 b) = w64 (a * b) := by rw [Int.mul_comm, w_ml, Int.mul_comm]
theorem w_al (a b : Int) : w64 (w64 a + b) = w64 (a + b) := by simp only [w64, IntKind.wrap_i64]; omega
theorem w_ar (a b : Int) : w64 (a + w64 b) = w64 (a + b) := by simp only [w64, IntKind.wrap_i64]; omega
theorem w_sl (a b : Int) : w64 (w64 a - b) = w64 (a - b) := by simp only [w64, IntKind.wrap_i64]; omega
theorem w_sr (a b : Int) : w64 (a - w64 b) = w64 (a - b) := by simp only [w64, IntKind.wrap_i64]; omega
theorem w_w (a : Int) : w64 (w64 a) = w64 a := by simp only [w64, IntKind.wrap_i64]; omega
theorem ws : (type_of% @w_ml) ∧ (type_of% @w_mr) ∧ (type_of% @w_al) ∧ (type_of% @w_ar) ∧ (type_of% @w_sl) ∧ (type_of% @w_sr) ∧ (type_of% @w_w) := ⟨@w_ml, @w_mr, @w_al, @w_ar, @w_sl, @w_sr, @w_w⟩
theorem mn1 {a b : Int} : (if b < a then b else a) = min a b := by omega
theorem mn2 {a b : Int} : (if a < b then a else b) = min a b := by omega
theorem mx1 {a b : Int} : (if b < a then a else b) = max a b := by omega
theorem mx2 {a b : Int} : (if a < b then b else a) = max a b := by omega
theorem mul_bd {u v N M : Int} (h : -N ≤ u ∧ u ≤ N) (h' : -M ≤ v ∧ v ≤ M) : -(N * M) ≤ u * v ∧ u * v ≤ N * M := by
  have h1 : (u * v).natAbs ≤ N.natAbs * M.natAbs := by rw [Int.natAbs_mul]; exact Nat.mul_le_mul (by omega) (by omega)
  rw [← Int.natAbs_mul] at h1
  have h2 : 0 ≤ N * M := Int.mul_nonneg (by omega) (by omega)
  omega
theorem prod_le {p q R S : Int} (hp : 0 < p) (hq : 0 < q) (h : p * S = q * R) : (R ≤ p ↔ S ≤ q) := by
  constructor
  · intro h1
    have := Int.mul_le_mul_of_nonneg_left h1 (Int.le_of_lt hq)
    rw [← h, Int.mul_comm q p] at this
    exact Int.le_of_mul_le_mul_left this hp
  · intro h1
    have := Int.mul_le_mul_of_nonneg_left h1 (Int.le_of_lt hp)
    rw [h, Int.mul_comm p q] at this
    exact Int.le_of_mul_le_mul_left this hq
theorem mz1 {a b : Int} : a = 0 → a * b = 0 := fun h => by simp [h]
theorem mz2 {a b : Int} : b = 0 → a * b = 0 := fun h => by simp [h]
def allI (p : Int → Bool) (i n : Int) : Bool := if i < n then (if p i = true then allI p (i + 1) n else false) else true
termination_by (n - i).toNat
theorem allI_end {p : Int → Bool} {i n : Int} (h : ¬ i < n) : allI p i n = true := by rw [allI.eq_1, if_neg h]
theorem allI_yes {p : Int → Bool} {i n : Int} (h : i < n) (h1 : p i = true) : allI p i n = allI p (i + 1) n := by rw [allI.eq_1, if_pos h, if_pos h1]
theorem allI_no {p : Int → Bool} {i n : Int} (h : i < n) (h1 : p i = false) : allI p i n = false := by rw [allI.eq_1, if_pos h, if_neg (by simp [h1])]
theorem allI_iff {p : Int → Bool} {n : Int} : ∀ {i : Int}, allI p i n = true ↔ ∀ j, i ≤ j → j < n → p j = true := by
  have key : ∀ (m : Nat) (i : Int), (n - i).toNat ≤ m → (allI p i n = true ↔ ∀ j, i ≤ j → j < n → p j = true) := by
    intro m
    induction m with
    | zero => intro i h; rw [allI_end (by omega)]; simp; intro j h1 h2; omega
    | succ m ih =>
      intro i h
      by_cases hi : i < n
      · cases hp : p i with
        | true =>
          rw [allI_yes hi hp, ih (i + 1) (by omega)]
          constructor
          · intro H j h1 h2
            by_cases e : j = i
            · subst e; exact hp
            · exact H j (by omega) h2
          · intro H j h1 h2; exact H j (by omega) h2
        | false =>
          rw [allI_no hi hp]
          constructor
          · intro H; cases H
          · intro H; have := H i (by omega) hi; rw [hp] at this; exact this
      · rw [allI_end hi]; simp; intro j h1 h2; omega
  exact fun {i} => key _ i (Nat.le_refl _)
theorem allI_congr {p q : Int → Bool} {i n : Int} (h : ∀ j, i ≤ j → j < n → p j = q j) : allI p i n = allI q i n := by
  have h1 := @allI_iff p n i
  have h2 := @allI_iff q n i
  have h3 : allI p i n = true ↔ allI q i n = true := by
    rw [h1, h2]
    exact ⟨fun H j a b => by rw [← h j a b]; exact H j a b, fun H j a b => by rw [h j a b]; exact H j a b⟩
  cases hp : allI p i n <;> cases hq : allI q i n <;> simp_all
theorem allI_go {p : Int → Bool} {i j n : Int} {X : Bool} (e : j = i + 1) (h : i < n) (h1 : p i = true) (hg : X = allI p i n) : X = allI p j n := by rw [hg, e, allI_yes h h1]
theorem allI_fin {p : Int → Bool} {i n : Int} {X : Bool} (h : ¬ i < n) (hg : X = allI p i n) : X = true := by rw [hg, allI_end h]
theorem allI_bad {p : Int → Bool} {i n : Int} {X : Bool} (h : i < n) (h1 : p i = false) (hg : X = allI p i n) : X = false := by rw [hg, allI_no h h1]
def anyI (p : Int → Bool) (i n : Int) : Bool := if i < n then (if p i = true then true else anyI p (i + 1) n) else false
termination_by (n - i).toNat
theorem anyI_end {p : Int → Bool} {i n : Int} (h : ¬ i < n) : anyI p i n = false := by rw [anyI.eq_1, if_neg h]
theorem anyI_no {p : Int → Bool} {i n : Int} (h : i < n) (h1 : p i = false) : anyI p i n = anyI p (i + 1) n := by rw [anyI.eq_1, if_pos h, if_neg (by simp [h1])]
theorem anyI_yes {p : Int → Bool} {i n : Int} (h : i < n) (h1 : p i = true) : anyI p i n = true := by rw [anyI.eq_1, if_pos h, if_pos h1]
theorem anyI_not {p : Int → Bool} {n : Int} : ∀ {i : Int}, anyI p i n = !allI (fun j => !p j) i n := by
  have key : ∀ (m : Nat) (i : Int), (n - i).toNat ≤ m → anyI p i n = !allI (fun j => !p j) i n := by
    intro m
    induction m with
    | zero => intro i h; rw [allI_end (by omega), anyI_end (by omega)]; rfl
    | succ m ih =>
      intro i h
      by_cases hi : i < n
      · cases hp : p i with
        | true => rw [allI_no hi (by simp [hp]), anyI_yes hi hp]; rfl
        | false => rw [allI_yes hi (by simp [hp]), anyI_no hi hp, ih (i + 1) (by omega)]
      · rw [allI_end hi, anyI_end hi]; rfl
  exact fun {i} => key _ i (Nat.le_refl _)
theorem anyI_go {p : Int → Bool} {i j n : Int} {X : Bool} (e : j = i + 1) (h : i < n) (h1 : p i = false) (hg : X = anyI p i n) : X = anyI p j n := by rw [hg, e, anyI_no h h1]
theorem anyI_fin {p : Int → Bool} {i n : Int} {X : Bool} (h : ¬ i < n) (hg : X = anyI p i n) : X = false := by rw [hg, anyI_end h]
theorem anyI_hit {p : Int → Bool} {i n : Int} {X : Bool} (h : i < n) (h1 : p i = true) (hg : X = anyI p i n) : X = true := by rw [hg, anyI_yes h h1]
def foldI {α : Type} (f : α → Int → α) (a : α) (i n : Int) : α := if i < n then foldI f (f a i) (i + 1) n else a
termination_by (n - i).toNat
theorem foldI_end {α : Type} {f : α → Int → α} {a : α} {i n : Int} (h : ¬ i < n) : foldI f a i n = a := by rw [foldI.eq_1, if_neg h]
theorem foldI_step {α : Type} {f : α → Int → α} {a : α} {i n : Int} (h : i < n) : foldI f a i n = foldI f (f a i) (i + 1) n := by rw [foldI.eq_1, if_pos h]
theorem foldI_go {α : Type} {f : α → Int → α} {a b X : α} {i j n : Int} (e : j = i + 1) (h : i < n) (h1 : b = f a i) (hg : X = foldI f a i n) : X = foldI f b j n := by rw [hg, e, h1, foldI_step h]
theorem foldI_fin {α : Type} {f : α → Int → α} {a X : α} {i n : Int} (h : ¬ i < n) (hg : X = foldI f a i n) : X = a := by rw [hg, foldI_end h]
/-- what holds of a fold, from round to round -/
theorem foldI_ind {α : Type} {f : α → Int → α} {n : Int} (J : α → Int → Prop) : ∀ {a : α} {i : Int}, i ≤ n → J a i → (∀ a j, i ≤ j → j < n → J a j → J (f a j) (j + 1)) → J (foldI f a i n) n := by
  have key : ∀ (m : Nat) (i : Int) (a : α), (n - i).toNat ≤ m → i ≤ n → J a i → (∀ a j, i ≤ j → j < n → J a j → J (f a j) (j + 1)) → J (foldI f a i n) n := by
    intro m
    induction m with
    | zero =>
      intro i a h hn h0 _
      rw [foldI_end (by omega)]
      have e : i = n := by omega
      exact e ▸ h0
    | succ m ih =>
      intro i a h hn h0 hs
      by_cases hi : i < n
      · rw [foldI_step hi]
        exact ih (i + 1) _ (by omega) (by omega) (hs a i (Int.le_refl _) hi h0) (fun a j h1 h2 => hs a j (by omega) h2)
      · rw [foldI_end hi]
        have e : i = n := by omega
        exact e ▸ h0
  exact fun {a i} => key _ i a (Nat.le_refl _)
/-- two folds side by side -/
theorem foldI_rel {α β : Type} {f : α → Int → α} {g : β → Int → β} {n : Int} (R : α → β → Prop) : ∀ {i : Int} {a : α} {b : β}, R a b → (∀ a b j, i ≤ j → j < n → R a b → R (f a j) (g b j)) → R (foldI f a i n) (foldI g b i n) := by
  have key : ∀ (m : Nat) (i : Int) (a : α) (b : β), (n - i).toNat ≤ m → R a b → (∀ a b j, i ≤ j → j < n → R a b → R (f a j) (g b j)) → R (foldI f a i n) (foldI g b i n) := by
    intro m
    induction m with
    | zero => intro i a b h h0 _; rw [foldI_end (by omega), foldI_end (by omega)]; exact h0
    | succ m ih =>
      intro i a b h h0 hs
      by_cases hi : i < n
      · rw [foldI_step hi, foldI_step hi]
        exact ih (i + 1) _ _ (by omega) (hs a b i (Int.le_refl _) hi h0) (fun a b j h1 h2 => hs a b j (by omega) h2)
      · rw [foldI_end hi, foldI_end hi]; exact h0
  exact fun {i a b} => key _ i a b (Nat.le_refl _)
theorem w_aml (c a b : Int) : w64 (c + w64 a * b) = w64 (c + a * b) := by rw [← w_ar c (w64 a * b), w_ml, w_ar]
/-- a sum and a count against one sum -/
theorem cost_rel {d : Int → Int} {x : Int → Int} {g : Int} {n c a s : Int} (h : s = w64 (c + a * (g + 1))) :
    foldI (fun s i => if 0 ≤ x i then w64 (w64 (s + d i) - w64 (2 * w64 (g + 1))) else s) s 0 n =
    w64 ((foldI (fun (q : Int × Int) i => if 0 ≤ x i then (w64 (q.1 + d i), w64 (q.2 - 2)) else q) (c, a) 0 n).1 + (foldI (fun (q : Int × Int) i => if 0 ≤ x i then (w64 (q.1 + d i), w64 (q.2 - 2)) else q) (c, a) 0 n).2 * (g + 1)) := by
  refine foldI_rel (fun (s : Int) (q : Int × Int) => s = w64 (q.1 + q.2 * (g + 1))) h ?_
  intro s q j _ _ hs
  (try simp only [] at hs ⊢)
  by_cases hx : 0 ≤ x j
  · rw [if_pos hx, if_pos hx, hs]
    simp only [ws, w_aml]
    congr 1
    grind
  · rw [if_neg hx, if_neg hx]; exact hs
end Go.Proofs.Ytgcmahhejblpkaa
