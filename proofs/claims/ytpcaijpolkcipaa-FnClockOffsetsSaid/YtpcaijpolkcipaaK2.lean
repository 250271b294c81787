/-
What linking clocks and seeing clocks have in common, over plain data. No program in sight.
No condition but those that the lemmas name.
-/
import Derived.Test.YtpcaijpolkcipaaB10
namespace Go.Proofs.Ytpcaijpolkcipaa
open Eng
set_option linter.unusedSimpArgs false
set_option linter.unusedVariables false
variable {ls : List Lnk} {i j k n s v : Int} {xs gs os : List It} {ss : List Bo}
theorem ig_set (h0 : 0 ≤ k) (hk : k < xs.length) (hj : 0 ≤ j) : ig (xs.set k.toNat ⟨v⟩) j = if j = k then v else ig xs j := by
  unfold ig
  simp only [List.getD]
  rw [List.getElem?_set]
  by_cases e : j = k
  · subst e
    rw [if_pos rfl, if_pos rfl, if_pos (by omega)]; rfl
  · rw [if_neg (by omega), if_neg e]
theorem sb_set (h0 : 0 ≤ k) (hk : k < ss.length) (hj : 0 ≤ j) : sb (ss.set k.toNat ⟨true⟩) j = if j = k then true else sb ss j := by
  unfold sb
  simp only [List.getD]
  rw [List.getElem?_set]
  by_cases e : j = k
  · subst e
    rw [if_pos rfl, if_pos rfl, if_pos (by omega)]; rfl
  · rw [if_neg (by omega), if_neg e]
theorem ig_idL (h0 : 0 ≤ j) (h1 : j < n) : ig (idL n.toNat) j = j := by
  have h2 : j.toNat < n.toNat := by omega
  have h3 : ((j.toNat : Nat) : Int) = j := by omega
  simp [ig, idL, List.getD, h2, h3]
theorem ig_zrL (h0 : 0 ≤ j) : ig (zrL n.toNat) j = 0 := by
  simp only [ig, zrL, List.getD, List.getElem?_replicate]
  split <;> rfl
theorem sb_zrB : sb (zrB n.toNat) j = false := by
  simp only [sb, zrB, List.getD, List.getElem?_replicate]
  split <;> rfl
theorem lk_mem (h0 : 0 ≤ i) (h1 : i < ls.length) : lk' ls i ∈ ls := by
  have h2 : i.toNat < ls.length := by omega
  have e : lk' ls i = ls[i.toNat] := by simp [lk', List.getD, List.getElem?_eq_getElem h2]
  rw [e]; exact List.getElem_mem h2
theorem mem_lk {l : Lnk} (h : l ∈ ls) : ∃ i : Int, 0 ≤ i ∧ i < ls.length ∧ lk' ls i = l := by
  obtain ⟨k, h1, h2⟩ := List.mem_iff_getElem.1 h
  refine ⟨k, by omega, by omega, ?_⟩
  simp [lk', List.getD, List.getElem?_eq_getElem h1, h2]
theorem take_lk (h0 : 0 ≤ k) (h1 : k < ls.length) : ls.take (k + 1).toNat = ls.take k.toNat ++ [lk' ls k] := by
  have e : (k + 1).toNat = k.toNat + 1 := by omega
  have h2 : k.toNat < ls.length := by omega
  rw [e, List.take_add_one, List.getElem?_eq_getElem h2]
  simp [lk', List.getD, List.getElem?_eq_getElem h2]
theorem lkOk_rng (hk : lkOk n ls) : ∀ l ∈ ls, (0 ≤ l.f ∧ l.f < n) ∧ 0 ≤ l.t ∧ l.t < n := by
  intro l hl
  obtain ⟨i, h1, h2, rfl⟩ := mem_lk hl
  exact hk i h1 h2
theorem lkOk_take (hk : lkOk n ls) {m : Nat} : lkOk n (ls.take m) := by
  intro i h1 h2
  have h3 := List.mem_of_mem_take (lk_mem h1 h2)
  exact lkOk_rng hk _ h3
theorem ln_point {a b by' : Int} (hg : gs.length = n.toNat) (ho : os.length = n.toNat) (h0 : 0 ≤ j) (h1 : j < n) :
    ig (foldI (lnF a b by') (gs, os) 0 n).1 j = (if ig gs j = b then a else ig gs j) ∧ ig (foldI (lnF a b by') (gs, os) 0 n).2 j = (if ig gs j = b then w64 (ig os j + by') else ig os j) := by
  have key := foldI_ind (f := lnF a b by') (n := n) (a := (gs, os)) (i := 0) (fun (p : List It × List It) k => (p.1.length = n.toNat ∧ p.2.length = n.toNat) ∧ ∀ j, 0 ≤ j → j < n → (j < k → ig p.1 j = (if ig gs j = b then a else ig gs j) ∧ ig p.2 j = (if ig gs j = b then w64 (ig os j + by') else ig os j)) ∧ (k ≤ j → ig p.1 j = ig gs j ∧ ig p.2 j = ig os j)) (by omega)
    ⟨⟨hg, ho⟩, fun j _ _ => ⟨fun h => by omega, fun _ => ⟨rfl, rfl⟩⟩⟩
    (fun p k h2 h3 hp => by
      obtain ⟨⟨p1, p2⟩, p3⟩ := hp
      refine ⟨⟨lnF_len.1.trans p1, lnF_len.2.trans p2⟩, fun j h4 h5 => ?_⟩
      obtain ⟨q1, q2⟩ := p3 j h4 h5
      have hk := (p3 k h2 h3).2 (Int.le_refl _)
      unfold lnF
      split
      · rename_i hc
        have hc : ig p.1 k = b := by simpa using hc
        simp only []
        rw [ig_set h2 (by omega) h4, ig_set h2 (by omega) h4]
        by_cases e : j = k
        · subst e
          rw [hk.1] at hc
          rw [if_pos rfl, if_pos rfl, if_pos hc, if_pos hc, hk.2]
          exact ⟨fun _ => ⟨rfl, rfl⟩, fun h => by omega⟩
        · rw [if_neg e, if_neg e]
          exact ⟨fun h => q1 (by omega), fun h => q2 (by omega)⟩
      · rename_i hc
        have hc : ¬ ig p.1 k = b := by simpa using hc
        refine ⟨fun h => ?_, fun h => q2 (by omega)⟩
        by_cases e : j = k
        · subst e
          rw [hk.1] at hc
          rw [if_neg hc, if_neg hc]; exact hk
        · exact q1 (by omega))
  exact (key.2 j h0 h1).1 h1
theorem agR_inv (hn : 0 ≤ n) (hk : lkOk n ls) : ((agR n ls).1.length = n.toNat ∧ (agR n ls).2.1.length = n.toNat) ∧ UInv n ls (ig (agR n ls).1) (ig (agR n ls).2.1) (agR n ls).2.2 := by
  have key := foldI_ind (f := agF ls) (n := ls.length) (a := (idL n.toNat, zrL n.toNat, true)) (i := 0) (fun (p : List It × List It × Bool) k => (p.1.length = n.toNat ∧ p.2.1.length = n.toNat) ∧ UInv n (ls.take k.toNat) (ig p.1) (ig p.2.1) p.2.2) (by omega)
    ⟨⟨idL_len, zrL_len⟩, by
      have h : UInv n [] (fun i => i) (fun _ => 0) true := UInv.start
      exact h.congr (fun i h1 h2 => ig_idL h1 h2) (fun i h1 h2 => by rw [ig_zrL h1]; rfl)⟩
    (fun p k h2 h3 hp => by
      obtain ⟨⟨p1, p2⟩, p3⟩ := hp
      have hl := hk k h2 h3
      refine ⟨⟨by simp [agF, p1], by simp [agF, p2]⟩, ?_⟩
      rw [take_lk h2 h3]
      simp only [agF]
      generalize lk' ls k = l at hl
      by_cases e : (ig p.1 l.f == ig p.1 l.t) = true
      · rw [lnR_same e]
        have e' : ig p.1 l.f = ig p.1 l.t := by simpa using e
        refine p3.same hl.1 hl.2 e' ?_
        have hy : lnY p.1 p.2.1 l.f l.t l.o = (w64 (w64 (ig p.2.1 l.f + l.o) - ig p.2.1 l.t) == 0) := if_pos e
        rw [hy]
        simp only [beq_iff_eq, w64, IntKind.wrap_i64, cg]
        omega
      · rw [lnR_else e]
        have e' : ig p.1 l.f ≠ ig p.1 l.t := by simpa using e
        have hy : lnY p.1 p.2.1 l.f l.t l.o = true := if_neg e
        rw [hy, Bool.and_true]
        have hlen : ((p.1.length : Nat) : Int) = n := by omega
        rw [hlen]
        refine p3.join hl.1 hl.2 e' (fun i h4 h5 => ?_) (fun i h4 h5 => ?_)
        · rw [(ln_point p1 p2 h4 h5).1]
        · rw [(ln_point p1 p2 h4 h5).2]
          split
          · simp only [w64, IntKind.wrap_i64, cg]; omega
          · simp [cg])
  have e : (ls.length : Int).toNat = ls.length := by omega
  rw [e, List.take_length] at key
  exact key
/-- nothing more is to be seen -/
def Cl (ls : List Lnk) (ss : List Bo) : Prop := ∀ l ∈ ls, sb ss l.f = sb ss l.t
/-- what is held to be whole -/
def Wr (ds : List It) : Prop := ∀ x ∈ ds, w64 x.n = x.n
theorem Wr.set {ds : List It} {k : Nat} {v : Int} (h : Wr ds) : Wr (ds.set k ⟨w64 v⟩) := by
  intro x hx
  rcases List.mem_or_eq_of_mem_set hx with h1 | h1
  · exact h x h1
  · subst h1; exact w_w v
structure SJ (n : Int) (ls : List Lnk) (s : Int) (ss : List Bo) (ds : List It) : Prop where
  l1 : ss.length = n.toNat
  l2 : ds.length = n.toNat
  wr : Wr ds
  inv : SInv n ls s (sb ss) (ig ds)
theorem paR_SJ (hn : 0 ≤ s ∧ s < n) (hk : lkOk n ls) {ds : List It} (h : SJ n ls s ss ds) : SJ n ls s (paR ls ss ds).1 (paR ls ss ds).2.1 ∧ ((paR ls ss ds).2.2 = false → Cl ls ss) := by
  have key := foldI_ind (f := paF ls) (n := ls.length) (a := (ss, ds, false)) (i := 0) (fun (p : List Bo × List It × Bool) k => SJ n ls s p.1 p.2.1 ∧ (p.2.2 = false → p.1 = ss ∧ ∀ j, 0 ≤ j → j < k → sb ss (lk' ls j).f = sb ss (lk' ls j).t)) (by omega)
    ⟨h, fun _ => ⟨rfl, fun j h1 h2 => by omega⟩⟩
    (fun p k h2 h3 hp => by
      obtain ⟨p1, p2⟩ := hp
      have hl := hk k h2 h3
      have hm := lk_mem h2 h3
      have q1 := p1.l1
      have q2 := p1.l2
      unfold paF
      split
      · rename_i hc
        simp only [Bool.and_eq_true, Bool.not_eq_true'] at hc
        refine ⟨⟨by simpa using p1.l1, by simpa using p1.l2, p1.wr.set, ?_⟩, fun h => Bool.noConfusion h⟩
        refine p1.inv.fwd hm hl.1 hl.2 hc.1 hn (fun i h4 h5 => sb_set hl.2.1 (by omega) h4) (fun i h4 h5 => ?_)
        simp only []
        rw [ig_set hl.2.1 (by omega) h4]
        split
        · simp only [w64, IntKind.wrap_i64, cg]; omega
        · simp [cg]
      · split
        · rename_i hc
          simp only [Bool.and_eq_true, Bool.not_eq_true'] at hc
          refine ⟨⟨by simpa using p1.l1, by simpa using p1.l2, p1.wr.set, ?_⟩, fun h => Bool.noConfusion h⟩
          refine p1.inv.bwd hm hl.1 hl.2 hc.1 hn (fun i h4 h5 => sb_set hl.1.1 (by omega) h4) (fun i h4 h5 => ?_)
          simp only []
          rw [ig_set hl.1.1 (by omega) h4]
          split
          · simp only [w64, IntKind.wrap_i64, cg]; omega
          · simp [cg]
        · rename_i c1 c2
          refine ⟨p1, fun hb => ?_⟩
          obtain ⟨e1, e2⟩ := p2 hb
          refine ⟨e1, fun j h4 h5 => ?_⟩
          by_cases e : j = k
          · subst e
            rw [e1] at c1 c2
            cases h6 : sb ss (lk' ls j).f <;> cases h7 : sb ss (lk' ls j).t <;> simp [h6, h7] at c1 c2 ⊢
          · exact e2 j h4 (by omega))
  refine ⟨key.1, fun hb l hl => ?_⟩
  obtain ⟨i, h1, h2, rfl⟩ := mem_lk hl
  exact (key.2 hb).2 i h1 h2
theorem shGo_SJ (hn : 0 ≤ s ∧ s < n) (hk : lkOk n ls) : ∀ {k : Nat} {ss : List Bo} {ds : List It} {m : Bool}, SJ n ls s ss ds → (m = true → uns ss < k) → (m = false → Cl ls ss) → SJ n ls s (shGo ls k (ss, ds, m)).1 (shGo ls k (ss, ds, m)).2 ∧ Cl ls (shGo ls k (ss, ds, m)).1
  | 0, ss, ds, m, h, hu, hc => by
    cases m with
    | true => exact absurd (hu rfl) (by omega)
    | false => exact ⟨h, hc rfl⟩
  | k + 1, ss, ds, false, h, hu, hc => ⟨h, hc rfl⟩
  | k + 1, ss, ds, true, h, hu, hc => by
    have e : shGo ls (k + 1) (ss, ds, true) = shGo ls k (paR ls ss ds) := if_pos rfl
    rw [e]
    have h1 := paR_SJ hn hk h
    have h2 := paR_uns hk ⟨h.l1, h.l2⟩
    have hu' := hu rfl
    cases hp : paR ls ss ds with
    | mk us q =>
      obtain ⟨vs, b⟩ := q
      rw [hp] at h1 h2
      refine shGo_SJ hn hk h1.1 (fun hb => ?_) (fun hb => ?_)
      · have := h2.2 hb; simp only [] at this; omega
      · have h3 := h1.2 hb
        have h4 : us = ss := (h2.1 hb).1
        rw [h4]; exact h3
theorem shR_SJ (hn : 0 ≤ s ∧ s < n) (hk : lkOk n ls) : SJ n ls s (shR n ls s).1 (shR n ls s).2 ∧ Cl ls (shR n ls s).1 := by
  refine shGo_SJ hn hk ⟨by simp, by simp, ?_, ?_⟩ (fun _ => ?_) (fun h => Bool.noConfusion h)
  · intro x hx
    simp only [zrL, List.mem_replicate] at hx
    rw [hx.2]; decide
  · refine ⟨?_, fun j h1 h2 h3 => ?_, fun p hp j h1 h2 h3 => ?_⟩
    · rw [sb_set hn.1 (by simp; omega) hn.1, if_pos rfl]
    · rw [sb_set hn.1 (by simp; omega) h1, sb_zrB] at h3
      split at h3
      · rename_i e; subst e; exact .refl _
      · cases h3
    · rw [sb_set hn.1 (by simp; omega) h1, sb_zrB] at h3
      split at h3
      · rename_i e; subst e; rw [ig_zrL h1]; simp [cg]
      · cases h3
  · have := uns_le (ss := (zrB n.toNat).set s.toNat ⟨true⟩)
    simp at this; omega
theorem shR_seen (hn : 0 ≤ s ∧ s < n) (hk : lkOk n ls) (h1 : 0 ≤ j) (h2 : j < n) : sb (shR n ls s).1 j = true ↔ Cn ls s j := by
  have h := shR_SJ hn hk
  exact h.1.inv.iff h.2 h1 h2
theorem shO_iff (hn : 0 ≤ s ∧ s < n) (hk : lkOk n ls) : shO n ls s = true ↔ PotOn ls s := by
  have h := shR_SJ hn hk
  rw [← h.1.inv.pot (lkOk_rng hk) h.2]
  unfold shO
  rw [allI_iff]
  constructor
  · intro H l hl hs
    obtain ⟨i, h1, h2, rfl⟩ := mem_lk hl
    have h3 := H i h1 h2
    have h4 : ig (shR n ls s).2 (lk' ls i).t = w64 (ig (shR n ls s).2 (lk' ls i).f + (lk' ls i).o) := by simpa [shP, hs] using h3
    rw [h4]; simp only [w64, IntKind.wrap_i64, cg]; omega
  · intro H i h1 h2
    have h3 := H _ (lk_mem h1 h2)
    cases hb : sb (shR n ls s).1 (lk' ls i).f with
    | false => simp [shP, hb]
    | true =>
      have h4 := hk i h1 h2
      have h5 : w64 (ig (shR n ls s).2 (lk' ls i).t) = ig (shR n ls s).2 (lk' ls i).t := by
        have hlt : (lk' ls i).t.toNat < (shR n ls s).2.length := by rw [h.1.l2]; omega
        have := h.1.wr _ (List.getElem_mem hlt)
        simpa [ig, List.getD, List.getElem?_eq_getElem hlt] using this
      have h6 := cg_w.2 (h3 hb)
      rw [h5] at h6
      simp only [shP, hb, Bool.true_and, Bool.not_not, beq_iff_eq]
      exact h6
end Go.Proofs.Ytpcaijpolkcipaa
