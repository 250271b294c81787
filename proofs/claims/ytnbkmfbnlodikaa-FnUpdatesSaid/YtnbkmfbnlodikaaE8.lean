/-
The best assignment over plain data: what it is, that it is an assignment, that its cost is told, is not negative and is least. No program in sight.
No condition but those that the lemmas name.
-/
import Derived.Test.YtnbkmfbnlodikaaE7
namespace Go.Proofs.Ytnbkmfbnlodikaa
open Eng
set_option linter.unusedSimpArgs false
set_option linter.unusedVariables false
variable {ts : List Trk} {ps : List Plc} {g i k : Int} {xs ys : List It} {n : Nat}
theorem hasV_iff : hasV xs k = true ↔ ∃ j : Int, 0 ≤ j ∧ j < xs.length ∧ ig xs j = k := by
  unfold hasV
  rw [anyI_not]
  have h := @allI_iff (fun j => !hasP xs k j) xs.length 0
  constructor
  · intro hn
    refine Classical.byContradiction fun hc => ?_
    have h2 : allI (fun j => !hasP xs k j) 0 xs.length = true := h.2 fun j h1 h2 => by
      simp only [hasP, Bool.not_eq_true', beq_eq_false_iff_ne]
      exact fun e => hc ⟨j, h1, h2, e⟩
    rw [h2] at hn; cases hn
  · rintro ⟨j, h1, h2, h3⟩
    rw [Bool.not_eq_true']
    cases hb : allI (fun j => !hasP xs k j) 0 xs.length with
    | false => rfl
    | true =>
      have := h.1 hb j h1 h2
      simp [hasP, h3] at this
theorem ig_take {m : Nat} (h : k.toNat < m) : ig (xs.take m) k = ig xs k := by
  unfold ig; rw [getD_take_lt' h]
where
  getD_take_lt' {α : Type} {xs : List α} {n k : Nat} {d : α} (h : k < n) : (xs.take n).getD k d = xs.getD k d := by
    simp [List.getD, List.getElem?_take, h]
theorem ig_app (h0 : 0 ≤ i) (h : i < xs.length) : ig (xs ++ ys) i = ig xs i := by
  unfold ig
  simp only [List.getD]
  rw [List.getElem?_append_left (by omega)]
theorem ig_last : ig (xs ++ [⟨k⟩]) xs.length = k := by
  unfold ig
  simp [List.getD]
theorem take_app_le {m : Nat} (h : m ≤ xs.length) : (xs ++ ys).take m = xs.take m := by
  rw [List.take_append_of_le_length h]
/-- the first pairs of an assignment -/
structure Beg (ts : List Trk) (ps : List Plc) (g : Int) (xs : List It) : Prop where
  asg : asB ts ps g = true
  le : xs.length ≤ ts.length
  ok : ∀ j : Int, 0 ≤ j → j < xs.length → paP ts ps g xs j = true
theorem Beg.full (h : Beg ts ps g xs) (e : xs.length = ts.length) : iaB ts ps g xs = true := by
  simp only [iaB, h.asg, Bool.true_and, Bool.and_eq_true, decide_eq_true_eq]
  exact ⟨by omega, allI_iff.2 h.ok⟩
theorem Beg.of (h : iaB ts ps g xs = true) : Beg ts ps g xs ∧ xs.length = ts.length := by
  simp only [iaB, Bool.and_eq_true, decide_eq_true_eq] at h
  exact ⟨⟨h.1.1, by omega, allI_iff.1 h.2⟩, by omega⟩
theorem paP_app {j : Int} (h0 : 0 ≤ j) (h : j < xs.length) : paP ts ps g (xs ++ ys) j = paP ts ps g xs j := by
  unfold paP
  rw [ig_app h0 h, take_app_le (by omega)]
theorem paP_last : paP ts ps g (xs ++ [⟨k⟩]) xs.length = (k == -1 || (inB k 0 (ps.length - 1) && !decide (g < dsV ts ps xs.length k) && !hasV xs k)) := by
  unfold paP
  rw [ig_last, Int.toNat_natCast, take_app_le (Nat.le_refl _), List.take_length]
theorem Beg.nil (h : asB ts ps g = true) : Beg ts ps g [] := ⟨h, by simp, fun j h1 h2 => by simp at h2; omega⟩
theorem Beg.snoc (h : Beg ts ps g xs) (hl : xs.length < ts.length) (hk : k = -1 ∨ (0 ≤ k ∧ k < ps.length ∧ hasV xs k = false ∧ ¬ g < dsV ts ps xs.length k)) : Beg ts ps g (xs ++ [⟨k⟩]) := by
  refine ⟨h.asg, by simp; omega, fun j h1 h2 => ?_⟩
  by_cases hj : j < xs.length
  · rw [paP_app h1 hj]; exact h.ok j h1 hj
  · have e : j = xs.length := by simp at h2; omega
    subst e
    rw [paP_last]
    rcases hk with rfl | ⟨k1, k2, k3, k4⟩
    · rfl
    · have : inB k 0 (ps.length - 1) = true := inB_iff.2 ⟨k1, by omega⟩
      simp [this, k3, k4]
theorem Beg.init (h : Beg ts ps g (xs ++ ys)) : Beg ts ps g xs := by
  refine ⟨h.asg, by have := h.le; simp at this; omega, fun j h1 h2 => ?_⟩
  rw [← paP_app (ys := ys) h1 h2]; exact h.ok j h1 (by simp; omega)
theorem Beg.next (h : Beg ts ps g (xs ++ [⟨k⟩])) : k = -1 ∨ (0 ≤ k ∧ k < ps.length ∧ hasV xs k = false ∧ ¬ g < dsV ts ps xs.length k) := by
  have h1 := h.ok xs.length (by omega) (by simp; omega)
  rw [paP_last] at h1
  simp only [Bool.or_eq_true, beq_iff_eq, Bool.and_eq_true, Bool.not_eq_true', decide_eq_false_iff_not] at h1
  rcases h1 with h1 | ⟨⟨h1, h2⟩, h3⟩
  · exact .inl h1
  · have := inB_iff.1 h1
    exact .inr ⟨by omega, by omega, h3, h2⟩
theorem Beg.rng (h : Beg ts ps g xs) {j : Int} (h0 : 0 ≤ j) (h1 : j < xs.length) : ig xs j = -1 ∨ (0 ≤ ig xs j ∧ ig xs j < ps.length ∧ ¬ g < dsV ts ps j (ig xs j) ∧ ∀ i, 0 ≤ i → i < j → ig xs i ≠ ig xs j) := by
  have h2 := h.ok j h0 h1
  simp only [paP, Bool.or_eq_true, beq_iff_eq, Bool.and_eq_true, Bool.not_eq_true', decide_eq_false_iff_not] at h2
  rcases h2 with h2 | ⟨⟨h2, h3⟩, h4⟩
  · exact .inl h2
  · have := inB_iff.1 h2
    refine .inr ⟨by omega, by omega, h3, fun i h5 h6 e => ?_⟩
    have h7 : hasV (xs.take j.toNat) (ig xs j) = true := hasV_iff.2 ⟨i, h5, by simp; omega, by rw [ig_take (by omega)]; exact e⟩
    rw [h4] at h7; cases h7
/-- numbers below m, each once: at most m -/
theorem few : ∀ (m : Nat) (l : List Int), l.Nodup → (∀ x ∈ l, 0 ≤ x ∧ x < m) → l.length ≤ m
  | 0, l, _, h => by
    cases l with
    | nil => simp
    | cons x l => have := h x (by simp); omega
  | m + 1, l, hn, h => by
    have h1 := few m (l.erase m) (hn.erase _) (fun x hx => by
      have h2 := h x (List.mem_of_mem_erase hx)
      have h3 : x ≠ m := (hn.mem_erase_iff.1 hx).1
      omega)
    by_cases hm : (m : Int) ∈ l
    · rw [List.length_erase_of_mem hm] at h1; omega
    · rw [List.erase_of_not_mem hm] at h1; omega
theorem tl_at (h : tlB ts = true) (h0 : 0 ≤ i) (h1 : i < ts.length) : Trk.b (tk ts i) = true := by
  have key : ∀ (m : Nat) (i : Int), ((ts.length : Int) - i).toNat ≤ m → tlGo ts i = true → ∀ j, i ≤ j → j < ts.length → Trk.b (ts.getD j.toNat default) = true := by
    intro m
    induction m with
    | zero => intro i hm _ j h1 h2; omega
    | succ m ih =>
      intro i hm hg j h1 h2
      rw [tlGo.eq_1, if_pos (by omega)] at hg
      split at hg
      · rename_i hc
        by_cases e : j = i
        · subst e; exact hc.1
        · exact ih (i + 1) (by omega) hg j (by omega) h2
      · cases hg
  simp only [tlB, Bool.and_eq_true] at h
  exact key _ 0 (Nat.le_refl _) h.2 i h0 h1
theorem placeB_bd {x y : Int} (h : placeB x y = true) : (0 ≤ x ∧ x ≤ 9899) ∧ 0 ≤ y ∧ y ≤ 9899 := by
  simp only [placeB, Bool.and_eq_true] at h
  exact ⟨inB_iff.1 h.1, inB_iff.1 h.2⟩
theorem trB_place {i s x y h l : Int} (t : trB i s x y h l = true) : (0 ≤ x ∧ x ≤ 9899) ∧ 0 ≤ y ∧ y ≤ 9899 := by
  simp only [trB, Bool.and_eq_true] at t
  exact placeB_bd t.1.1.2
theorem pdV_bd {a b c d : Int} (ha : 0 ≤ a ∧ a ≤ 9899) (hb : 0 ≤ b ∧ b ≤ 9899) (hc : 0 ≤ c ∧ c ≤ 9899) (hd : 0 ≤ d ∧ d ≤ 9899) : 0 ≤ pdV a b c d ∧ pdV a b c d ≤ 19798 := by
  have e1 : w64 (a - c) = a - c := wrap_id (by omega) (by omega)
  have e2 : w64 (b - d) = b - d := wrap_id (by omega) (by omega)
  have key : ∀ n : Int, -9899 ≤ n → n ≤ 9899 → 0 ≤ absV n ∧ absV n ≤ 9899 := by
    intro n h1 h2
    unfold absV
    split
    · rw [wrap_id (by omega) (by omega)]; omega
    · omega
  have k1 := key (a - c) (by omega) (by omega)
  have k2 := key (b - d) (by omega) (by omega)
  unfold pdV
  rw [e1, e2]
  have e3 : w64 (absV (a - c) + absV (b - d)) = absV (a - c) + absV (b - d) := wrap_id (by omega) (by omega)
  rw [e3]; omega
theorem dsV_bd (h : asB ts ps g = true) (h0 : 0 ≤ i) (h1 : i < ts.length) (h2 : 0 ≤ k) (h3 : k < ps.length) : 0 ≤ dsV ts ps i k ∧ dsV ts ps i k ≤ 19798 := by
  simp only [asB, Bool.and_eq_true] at h
  have t := trB_place (tl_at h.1.1.1 h0 h1)
  have p := placeB_bd (allI_iff.1 h.2 k h2 h3)
  exact pdV_bd t.1 t.2 p.1 p.2
/-- what the cost is made of -/
theorem coR_bd (h : iaB ts ps g xs = true) : 0 ≤ (coR ts ps xs).1 ∧ (coR ts ps xs).1 ≤ 118788 ∧ 0 ≤ (coR ts ps xs).2 ∧ (coR ts ps xs).2 ≤ 11 := by
  obtain ⟨hb, hl⟩ := Beg.of h
  have hn := asB_len hb.asg
  have key := foldI_ind (f := coF ts ps xs) (n := xs.length) (fun (q : Int × Int) i => 0 ≤ q.1 ∧ q.1 ≤ 19798 * i ∧ ∃ l : List Int, l.Nodup ∧ (∀ x ∈ l, 0 ≤ x ∧ x < ps.length) ∧ (∀ x ∈ l, ∃ j, 0 ≤ j ∧ j < i ∧ ig xs j = x) ∧ (l.length : Int) ≤ i ∧ q.2 = ts.length + ps.length - 2 * l.length)
    (a := (0, w64 (ts.length + ps.length))) (i := 0) (by omega)
    (by
      have e : w64 ((ts.length : Int) + ps.length) = ts.length + ps.length := wrap_id (by omega) (by omega)
      exact ⟨by simp, by simp, [], by simp, by simp, by simp, by simp, by simp [e]⟩)
    (by
      rintro ⟨c, a⟩ j h1 h2 ⟨c1, c2, l, l1, l2, l3, l4, l5⟩
      simp only [] at c1 c2 l5 ⊢
      have l6 := few ps.length l l1 l2
      by_cases hk : 0 ≤ ig xs j
      · have e : coF ts ps xs (c, a) j = (w64 (c + dcV ts ps xs j), w64 (a - 2)) := if_pos hk
        rw [e]
        rcases hb.rng h1 h2 with r | ⟨r1, r2, r3, r4⟩
        · omega
        · have d := dsV_bd hb.asg h1 (by omega) r1 r2
          have e1 : w64 (c + dcV ts ps xs j) = c + dcV ts ps xs j := wrap_id (by unfold dcV; omega) (by unfold dcV; omega)
          have e2 : w64 (a - 2) = a - 2 := wrap_id (by omega) (by omega)
          simp only [e1, e2]
          refine ⟨by unfold dcV; omega, by unfold dcV; omega, ig xs j :: l, ?_, ?_, ?_, by simp; omega, by simp; omega⟩
          · rw [List.nodup_cons]
            refine ⟨fun hm => ?_, l1⟩
            obtain ⟨i, i1, i2, i3⟩ := l3 _ hm
            exact r4 i i1 i2 i3
          · intro x hx
            rcases List.mem_cons.1 hx with rfl | hx
            · exact ⟨r1, r2⟩
            · exact l2 x hx
          · intro x hx
            rcases List.mem_cons.1 hx with rfl | hx
            · exact ⟨j, h1, by omega, rfl⟩
            · obtain ⟨i, i1, i2, i3⟩ := l3 x hx
              exact ⟨i, i1, by omega, i3⟩
      · have e : coF ts ps xs (c, a) j = (c, a) := if_neg hk
        rw [e]
        refine ⟨c1, by omega, l, l1, l2, fun x hx => ?_, by omega, l5⟩
        obtain ⟨i, i1, i2, i3⟩ := l3 x hx
        exact ⟨i, i1, by omega, i3⟩)
  obtain ⟨c1, c2, l, l1, l2, l3, l4, l5⟩ := key
  have l6 := few ps.length l l1 l2
  have e : foldI (coF ts ps xs) (0, w64 (↑ts.length + ↑ps.length)) 0 xs.length = coR ts ps xs := rfl
  rw [e] at c1 c2 l5
  omega
theorem coV_eq' (h : iaB ts ps g xs = true) : coV ts ps g xs = (coR ts ps xs).1 + (coR ts ps xs).2 * (g + 1) ∧ 0 ≤ coV ts ps g xs := by
  have h1 := coR_bd h
  have h2 := asB_len (Beg.of h).1.asg
  have h3 := mul_bd (u := (coR ts ps xs).2) (v := g + 1) (N := 11) (M := 1001) (by omega) (by omega)
  have h4 : 0 ≤ (coR ts ps xs).2 * (g + 1) := Int.mul_nonneg (by omega) (by omega)
  have e : coV ts ps g xs = (coR ts ps xs).1 + (coR ts ps xs).2 * (g + 1) := wrap_id (by omega) (by omega)
  exact ⟨e, by omega⟩
/-- the best assignment that begins with some pairs, and its cost -/
def bsV (ts : List Trk) (ps : List Plc) (g : Int) : Nat → List It → List It × Int
  | 0, xs => (xs, coV ts ps g xs)
  | n + 1, xs => foldI (fun q k => if (hasV xs k || decide (g < dsV ts ps xs.length k)) = true then q else if (bsV ts ps g n (xs ++ [⟨k⟩])).2 < q.2 then bsV ts ps g n (xs ++ [⟨k⟩]) else q) (bsV ts ps g n (xs ++ [⟨-1⟩])) 0 ps.length
def bsF (ts : List Trk) (ps : List Plc) (g : Int) (n : Nat) (xs : List It) (q : List It × Int) (k : Int) : List It × Int :=
  if (hasV xs k || decide (g < dsV ts ps xs.length k)) = true then q else if (bsV ts ps g n (xs ++ [⟨k⟩])).2 < q.2 then bsV ts ps g n (xs ++ [⟨k⟩]) else q
theorem bsV_succ : bsV ts ps g (n + 1) xs = foldI (bsF ts ps g n xs) (bsV ts ps g n (xs ++ [⟨-1⟩])) 0 ps.length := rfl
theorem bsV_zero : bsV ts ps g 0 xs = (xs, coV ts ps g xs) := rfl
/-- it is an assignment and its cost is told -/
theorem bsV_ok : ∀ {n : Nat} {xs : List It}, Beg ts ps g xs → xs.length + n = ts.length → iaB ts ps g (bsV ts ps g n xs).1 = true ∧ (bsV ts ps g n xs).2 = coV ts ps g (bsV ts ps g n xs).1
  | 0, xs, h, e => ⟨h.full (by omega), rfl⟩
  | n + 1, xs, h, e => by
    rw [bsV_succ]
    refine foldI_ind (fun (q : List It × Int) _ => iaB ts ps g q.1 = true ∧ q.2 = coV ts ps g q.1) (by omega) (bsV_ok (h.snoc (by omega) (.inl rfl)) (by simp; omega)) ?_
    intro q k h1 h2 hq
    unfold bsF
    split
    · exact hq
    · rename_i hc
      simp only [Bool.or_eq_true, decide_eq_true_eq, not_or] at hc
      split
      · exact bsV_ok (h.snoc (by omega) (.inr ⟨h1, h2, by simpa using hc.1, hc.2⟩)) (by simp; omega)
      · exact hq
theorem bsV_nn (h : Beg ts ps g xs) (e : xs.length + n = ts.length) : 0 ≤ (bsV ts ps g n xs).2 := by
  obtain ⟨h1, h2⟩ := bsV_ok h e
  rw [h2]; exact (coV_eq' h1).2
theorem foldI_least {f : List It × Int → Int → List It × Int} {a : List It × Int} {i n : Int} (hf : ∀ q k, (f q k).2 ≤ q.2) (hn : i ≤ n) : (foldI f a i n).2 ≤ a.2 :=
  foldI_ind (fun q _ => q.2 ≤ a.2) hn (Int.le_refl _) (fun q k _ _ h => Int.le_trans (hf q k) h)
theorem foldI_least_at {f : List It × Int → Int → List It × Int} {c : Int} {k : Int} : ∀ {a : List It × Int} {i n : Int}, (∀ q k, (f q k).2 ≤ q.2) → i ≤ k → k < n → (∀ q, (f q k).2 ≤ c) → (foldI f a i n).2 ≤ c := by
  intro a i n hf h1 h2 hc
  have key : ∀ (m : Nat) (i : Int) (a : List It × Int), (k - i).toNat ≤ m → i ≤ k → (foldI f a i n).2 ≤ c := by
    intro m
    induction m with
    | zero =>
      intro i a h h1
      have e : i = k := by omega
      subst e
      rw [foldI_step h2]
      exact Int.le_trans (foldI_least hf (by omega)) (hc a)
    | succ m ih =>
      intro i a h h1
      by_cases e : i = k
      · subst e
        rw [foldI_step h2]
        exact Int.le_trans (foldI_least hf (by omega)) (hc a)
      · rw [foldI_step (by omega)]
        exact ih (i + 1) _ (by omega) (by omega)
  exact key _ i a (Nat.le_refl _) h1
theorem bsF_le (q : List It × Int) (k : Int) : (bsF ts ps g n xs q k).2 ≤ q.2 := by
  unfold bsF; split
  · exact Int.le_refl _
  · split
    · omega
    · exact Int.le_refl _
/-- no other costs less -/
theorem bsV_least : ∀ {n : Nat} {xs ys : List It}, Beg ts ps g (xs ++ ys) → ys.length = n → xs.length + n = ts.length → (bsV ts ps g n xs).2 ≤ coV ts ps g (xs ++ ys)
  | 0, xs, ys, h, e, _ => by
    have : ys = [] := List.eq_nil_of_length_eq_zero e
    subst this
    simp [bsV_zero]
  | n + 1, xs, [], h, e, _ => by simp at e
  | n + 1, xs, ⟨k⟩ :: ys, h, e, e2 => by
    have ea : xs ++ ⟨k⟩ :: ys = (xs ++ [⟨k⟩]) ++ ys := by simp
    have h' := h
    rw [ea] at h' ⊢
    have ih := bsV_least (n := n) h' (by simpa using e) (by simp; omega)
    rw [bsV_succ]
    rcases h'.init.next with hk | ⟨k1, k2, k3, k4⟩
    · subst hk
      exact Int.le_trans (foldI_least bsF_le (by omega)) ih
    · refine foldI_least_at bsF_le k1 k2 (fun q => ?_)
      unfold bsF
      rw [if_neg (by simp [k3, k4])]
      split
      · exact ih
      · omega
end Go.Proofs.Ytnbkmfbnlodikaa
