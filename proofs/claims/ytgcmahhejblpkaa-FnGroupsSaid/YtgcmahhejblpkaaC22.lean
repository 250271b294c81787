/-
Plain laws on groups: every sighting lies in one group, and members of a group are duplicates of its first from different sites.
No condition but those that the statements name.
-/
import Derived.Test.YtgcmahhejblpkaaC19
namespace Go.Proofs.Ytgcmahhejblpkaa
open Eng
set_option linter.unusedSimpArgs false
set_option linter.unusedVariables false
section
variable {ss : List Sgt} {w r i x : Int} {gs gs' : List (List It)} {us vs : List It} {q : Nat}
def gln (gs : List (List It)) (g : Nat) : Nat := (gs.getD g []).length
def gel (gs : List (List It)) (g k : Nat) : Int := ((gs.getD g []).getD k default).n
structure GA (ss : List Sgt) (w r : Int) (gs : List (List It)) (i : Int) : Prop where
  inr : ∀ g k, k < gln gs g → 0 ≤ gel gs g k ∧ gel gs g k < i
  all : ∀ x : Int, 0 ≤ x → x < i → ∃ g k, k < gln gs g ∧ gel gs g k = x
  one : ∀ g k h j, k < gln gs g → j < gln gs h → gel gs g k = gel gs h j → g = h ∧ k = j
  up : ∀ g k j, k < j → j < gln gs g → gel gs g k < gel gs g j
  st : ∀ g k j, k < j → j < gln gs g → ¬ (sg ss (gel gs g k)).s = (sg ss (gel gs g j)).s
  tw : ∀ g k, k < gln gs g → twB (sg ss (gel gs g 0)) (sg ss (gel gs g k)) w r = true
theorem GA.nil : GA ss w r [] 0 where
  inr g k h := by simp [gln] at h
  all x h0 h1 := by omega
  one g k h j h1 := by simp [gln] at h1
  up g k j h h1 := by simp [gln] at h1
  st g k j h h1 := by simp [gln] at h1
  tw g k h := by simp [gln] at h
theorem GA.add (h : GA ss w r gs i) (hi : 0 ≤ i) (hl : ∀ g, gln gs' g = if g = q then gln gs q + 1 else gln gs g) (he : ∀ g k, k < gln gs g → gel gs' g k = gel gs g k) (hn : gel gs' q (gln gs q) = i)
    (hs : ∀ k, k < gln gs q → ¬ (sg ss (gel gs q k)).s = (sg ss i).s) (ht : twB (sg ss (if 0 < gln gs q then gel gs q 0 else i)) (sg ss i) w r = true) : GA ss w r gs' (i + 1) := by
  have cas : ∀ g k, k < gln gs' g → k < gln gs g ∨ (g = q ∧ k = gln gs q) := by
    intro g k hk
    rw [hl] at hk
    split at hk
    · rename_i e; subst e; by_cases e2 : k = gln gs g
      · exact .inr ⟨rfl, e2⟩
      · exact .inl (by omega)
    · exact .inl hk
  have old : ∀ g k, k < gln gs g → k < gln gs' g := by
    intro g k hk; rw [hl]; split
    · rename_i e; subst e; omega
    · exact hk
  have newq : gln gs q < gln gs' q := by rw [hl, if_pos rfl]; omega
  refine ⟨?_, ?_, ?_, ?_, ?_, ?_⟩
  · intro g k hk
    rcases cas g k hk with c | ⟨rfl, rfl⟩
    · rw [he g k c]; have := h.inr g k c; omega
    · rw [hn]; omega
  · intro x h0 h1
    by_cases e : x = i
    · exact ⟨q, gln gs q, newq, by rw [hn, e]⟩
    · obtain ⟨g, k, c, e2⟩ := h.all x h0 (by omega)
      exact ⟨g, k, old g k c, by rw [he g k c, e2]⟩
  · intro g k g2 j hk hj e
    rcases cas g k hk with c | ⟨rfl, rfl⟩ <;> rcases cas g2 j hj with c2 | ⟨rfl, rfl⟩
    · rw [he g k c, he g2 j c2] at e; exact h.one g k g2 j c c2 e
    · rw [he g k c, hn] at e; have := h.inr g k c; omega
    · rw [hn, he g2 j c2] at e; have := h.inr g2 j c2; omega
    · exact ⟨rfl, rfl⟩
  · intro g k j hkj hj
    rcases cas g j hj with c | ⟨rfl, rfl⟩
    · rw [he g k (by omega), he g j c]; exact h.up g k j hkj c
    · rw [he _ k hkj, hn]; exact (h.inr _ k hkj).2
  · intro g k j hkj hj
    rcases cas g j hj with c | ⟨rfl, rfl⟩
    · rw [he g k (by omega), he g j c]; exact h.st g k j hkj c
    · rw [he _ k hkj, hn]; exact hs k hkj
  · intro g k hk
    rcases cas g k hk with c | ⟨rfl, rfl⟩
    · rw [he g k c, he g 0 (by omega)]; exact h.tw g k c
    · rw [hn]
      by_cases c : 0 < gln gs g
      · rw [if_pos c] at ht; rw [he g 0 c]; exact ht
      · have e0 : gln gs g = 0 := by omega
        rw [if_neg c] at ht
        rw [e0] at hn; rw [hn]; exact ht
theorem gln_join (hq : q < gs.length) {z : It} (g : Nat) : gln (gs.set q (gs.getD q [] ++ [z])) g = if g = q then gln gs q + 1 else gln gs g := by
  unfold gln
  simp only [List.getD, List.getElem?_set]
  by_cases e : q = g
  · subst e; simp [hq]
  · have e2 : ¬ g = q := fun x => e x.symm
    simp [e, e2]
theorem gel_join (hq : q < gs.length) {z : It} (g k : Nat) (hk : k < gln gs g) : gel (gs.set q (gs.getD q [] ++ [z])) g k = gel gs g k := by
  unfold gel gln at *
  simp only [List.getD, List.getElem?_set] at *
  by_cases e : q = g
  · subst e
    simp only [hq, if_true, Option.getD_some]
    rw [List.getElem?_append_left hk]
  · simp [e]
theorem gel_joinN (hq : q < gs.length) {z : It} : gel (gs.set q (gs.getD q [] ++ [z])) q (gln gs q) = z.n := by
  unfold gel gln
  simp only [List.getD, List.getElem?_set]
  simp [hq]
theorem gln_push {z : It} (g : Nat) : gln (gs ++ [[z]]) g = if g = gs.length then gln gs gs.length + 1 else gln gs g := by
  unfold gln
  simp only [List.getD]
  by_cases e : g = gs.length
  · subst e; simp
  · rw [if_neg e]
    by_cases e2 : g < gs.length
    · rw [List.getElem?_append_left e2]
    · rw [List.getElem?_eq_none (by simp; omega), List.getElem?_eq_none (by omega)]
theorem gel_push {z : It} (g k : Nat) (hk : k < gln gs g) : gel (gs ++ [[z]]) g k = gel gs g k := by
  unfold gel gln at *
  simp only [List.getD] at *
  by_cases e2 : g < gs.length
  · rw [List.getElem?_append_left e2]
  · rw [List.getElem?_eq_none (by omega)] at hk
    simp at hk
theorem gln_out : gln gs gs.length = 0 := by unfold gln; simp
theorem gel_pushN {z : It} : gel (gs ++ [[z]]) gs.length (gln gs gs.length) = z.n := by
  rw [gln_out]; unfold gel; simp [List.getD]
theorem fi_spec {p : Int → Bool} {n : Int} : ∀ (m : Nat) (j : Int), (n - j).toNat ≤ m → firstI p j n < n → p (firstI p j n) = true := by
  intro m
  induction m with
  | zero => intro j h0 h1; rw [firstI.eq_1, if_neg (by omega)] at h1; omega
  | succ m ih =>
    intro j h0 h1
    by_cases hj : j < n
    · by_cases hp : p j = true
      · rw [firstI.eq_1, if_pos hj, if_pos hp]; exact hp
      · rw [firstI.eq_1, if_pos hj, if_neg hp] at h1 ⊢
        exact ih (j + 1) (by omega) h1
    · rw [firstI.eq_1, if_neg hj] at h1; omega
theorem absV_z : absV (w64 (x - x)) = 0 := by
  rw [Int.sub_self]; rfl
theorem tw_self {a : Sgt} (hw : 0 ≤ w) (hr : 0 ≤ r) : twB a a w r = true := by
  unfold twB; rw [absV_z, absV_z, absV_z]; simp [hw, hr]
theorem grF_GA (h : GA ss w r gs i) (hi : 0 ≤ i) (hw : 0 ≤ w) (hr : 0 ≤ r) : GA ss w r (grF ss w r gs i) (i + 1) := by
  have hk := fi_rng (p := gkB ss w r gs i) (n := gs.length) _ 0 (by omega) (Nat.le_refl _) (by omega)
  have hsp := fi_spec (p := gkB ss w r gs i) (n := gs.length) _ 0 (Nat.le_refl _)
  unfold grF
  split
  · rename_i hl
    have hb := hsp hl
    generalize firstI (gkB ss w r gs i) 0 gs.length = f at *
    have hq : f.toNat < gs.length := by omega
    simp only [gkB, Bool.and_eq_true, gat] at hb
    have hst : ∀ k, k < gln gs f.toNat → ¬ (sg ss (gel gs f.toNat k)).s = (sg ss i).s := by
      intro k hk2
      have := allI_iff.1 hb.2 (k : Int) (by omega) (by unfold gln at hk2; omega)
      simp only [gkP, Int.toNat_natCast] at this
      unfold gel
      intro e
      rw [e] at this
      simp at this
    refine h.add hi (q := f.toNat) (fun g => gln_join hq g) (fun g k hk2 => gel_join hq g k hk2) (gel_joinN hq) hst ?_
    split
    · exact hb.1
    · exact tw_self hw hr
  · refine h.add hi (q := gs.length) (fun g => gln_push g) (fun g k hk2 => gel_push g k hk2) gel_pushN (fun k hk2 => by rw [gln_out] at hk2; omega) ?_
    rw [gln_out]
    exact tw_self hw hr
theorem ag_rng (h : agB ss w r = true) : (0 ≤ w ∧ w ≤ 60) ∧ 0 ≤ r ∧ r ≤ 1000 := by
  simp only [agB, Bool.and_eq_true] at h
  exact ⟨inB_iff.1 h.1.2, inB_iff.1 h.2⟩
theorem ag_sg (h : agB ss w r = true) : sgB ss = true := by
  simp only [agB, Bool.and_eq_true] at h; exact h.1.1
theorem grR_GA (h : agB ss w r = true) : GA ss w r (grR ss w r) ss.length :=
  foldI_ind (f := grF ss w r) (n := ss.length) (fun (gs : List (List It)) i => GA ss w r gs i) (a := []) (i := 0) (by omega) GA.nil (fun a j h1 h2 h3 => grF_GA h3 h1 (ag_rng h).1.1 (ag_rng h).2.1)
/-- seconds do not fall -/
theorem sg_up (h : sgB ss = true) {a b : Int} (h0 : 0 ≤ a) (h1 : a ≤ b) (h2 : b < ss.length) : (sg ss a).c ≤ (sg ss b).c := by
  have key : ∀ (m : Nat) (i : Int), ((ss.length : Int) - i).toNat ≤ m → sgGo ss i = true → ∀ j, i ≤ j → 0 < j → j < ss.length → (sg ss (j - 1)).c ≤ (sg ss j).c := by
    intro m
    induction m with
    | zero => intro i hm _ j h1 h2 h3; omega
    | succ m ih =>
      intro i hm hg j h1 h2 h3
      rw [sgGo.eq_1, if_pos (by omega)] at hg
      split at hg
      · rename_i hc
        by_cases e : j = i
        · subst e
          have := hc.2
          unfold sg
          omega
        · exact ih (i + 1) (by omega) hg j (by omega) h2 h3
      · cases hg
  simp only [sgB, Bool.and_eq_true] at h
  have k1 := key _ 0 (Nat.le_refl _) h.2
  have k2 : ∀ (m : Nat), a + m < ss.length → (sg ss a).c ≤ (sg ss (a + m)).c := by
    intro m
    induction m with
    | zero => intro _; simp
    | succ m ih =>
      intro hm
      have e1 := ih (by omega)
      have e2 := k1 (a + (m + 1 : Nat)) (by omega) (by omega) hm
      have e3 : a + ((m + 1 : Nat) : Int) - 1 = a + m := by omega
      rw [e3] at e2
      omega
  have e := k2 (b - a).toNat (by omega)
  have e4 : a + ((b - a).toNat : Int) = b := by omega
  rw [e4] at e; exact e
theorem ig_set {a b v : Int} (h0 : 0 ≤ a) (h1 : 0 ≤ b) (h2 : a < us.length) : ig (us.set a.toNat (⟨v⟩ : It)) b = if a = b then v else ig us b := by
  unfold ig
  simp only [List.getD, List.getElem?_set]
  by_cases e : a = b
  · subst e
    have : a.toNat < us.length := by omega
    simp [this]
  · have e2 : ¬ a.toNat = b.toNat := by omega
    simp [e, e2]
/-- the number told of a sighting is that of the group that it lies in -/
theorem gsR_at (h : agB ss w r = true) {g k : Nat} (hk : k < gln (grR ss w r) g) : ig (gsR ss w r) (gel (grR ss w r) g k) = g := by
  have A := grR_GA h
  generalize hG : grR ss w r = gs at *
  have key : (fun (us : List It) (m : Int) => us.length = ss.length ∧ ∀ g : Nat, (g : Int) < m → ∀ k, k < gln gs g → ig us (gel gs g k) = g) (foldI (gsF gs) (List.replicate ss.length default) 0 gs.length) gs.length := by
    refine foldI_ind (fun (us : List It) (m : Int) => us.length = ss.length ∧ ∀ g : Nat, (g : Int) < m → ∀ k, k < gln gs g → ig us (gel gs g k) = g) (by omega) ⟨by simp, fun g hg => by omega⟩ ?_
    intro us m h0 h1 hJ
    have in2 : (fun (vs : List It) (p : Int) => vs.length = ss.length ∧ (∀ g : Nat, (g : Int) < m → ∀ k, k < gln gs g → ig vs (gel gs g k) = g) ∧ ∀ k : Nat, (k : Int) < p → ig vs (gel gs m.toNat k) = m) (gsF gs us m) ((gs.getD m.toNat default).length : Int) := by
      unfold gsF
      refine foldI_ind (fun (vs : List It) (p : Int) => vs.length = ss.length ∧ (∀ g : Nat, (g : Int) < m → ∀ k, k < gln gs g → ig vs (gel gs g k) = g) ∧ ∀ k : Nat, (k : Int) < p → ig vs (gel gs m.toNat k) = m) (by omega) ⟨hJ.1, hJ.2, fun k hk => by omega⟩ ?_
      intro vs p p0 p1 hI
      have hp : p.toNat < gln gs m.toNat := by
        have : (gs.getD m.toNat default).length = gln gs m.toNat := rfl
        omega
      have hin := A.inr m.toNat p.toNat hp
      have e0 : (((gs.getD m.toNat default).getD p.toNat default).n : Int) = gel gs m.toNat p.toNat := rfl
      refine ⟨by simp [gsI, hI.1], ?_, ?_⟩
      · intro g hg k hk
        have hin2 := A.inr g k hk
        unfold gsI
        rw [e0, ig_set hin.1 hin2.1 (by rw [hI.1]; exact hin.2), if_neg, hI.2.1 g hg k hk]
        intro e
        have := (A.one _ _ _ _ hp hk e).1
        omega
      · intro k hk
        have hkl : k < gln gs m.toNat := by omega
        have hin2 := A.inr m.toNat k hkl
        unfold gsI
        rw [e0, ig_set hin.1 hin2.1 (by rw [hI.1]; exact hin.2)]
        split
        · rfl
        · rename_i e
          by_cases e5 : (k : Int) = p
          · exact absurd (by rw [← e5, Int.toNat_natCast]) e
          · exact hI.2.2 k (by omega)
    refine ⟨in2.1, ?_⟩
    intro g hg k hk
    by_cases e : (g : Int) = m
    · have := in2.2.2 k (by have : (gs.getD m.toNat default).length = gln gs m.toNat := rfl; have e6 : m.toNat = g := by omega
                            rw [this, e6]; omega)
      have e6 : m.toNat = g := by omega
      rw [e6] at this; rw [this, e]
    · exact in2.2.1 g (by omega) k hk
  have hg : g < gs.length := by
    rcases Nat.lt_or_ge g gs.length with h | h
    · exact h
    · exfalso; unfold gln at hk; rw [List.getD, List.getElem?_eq_none h] at hk; simp at hk
  unfold gsR
  rw [hG]
  exact key.2 g (by omega) k hk
theorem gs_mem (h : agB ss w r = true) {x : Int} (h0 : 0 ≤ x) (h1 : x < ss.length) : ∃ g k : Nat, k < gln (grR ss w r) g ∧ gel (grR ss w r) g k = x ∧ ig (gsR ss w r) x = g := by
  obtain ⟨g, k, h2, h3⟩ := (grR_GA h).all x h0 h1
  exact ⟨g, k, h2, h3, by rw [← h3]; exact gsR_at h h2⟩
end
end Go.Proofs.Ytgcmahhejblpkaa
