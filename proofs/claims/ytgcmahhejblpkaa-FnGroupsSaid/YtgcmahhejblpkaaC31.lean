/-
Contracts of the laws' small functions on lists of plots that hold own slices, over plain data.
No condition but those that the contracts name.
-/
import Derived.Test.YtgcmahhejblpkaaC30
namespace Go.Proofs.Ytgcmahhejblpkaa
open Eng
set_option linter.unusedSimpArgs false
set_option linter.unusedVariables false
def Pl.e (p : Pl) : List AV := [vi p.c, vi p.a, vi p.x, vi p.y, .sl 1 (p.ts.map It.e)]
theorem Pl.ee {p : Pl} : Pl.e p = [vi p.c, vi p.a, vi p.x, vi p.y, .sl 1 (p.ts.map It.e)] := rfl
namespace Eng
section
variable {P : Program} {n0 : Nat} {pl : List (Nat × Plan)} {hp hs : List Ent} {l : List (Nat × AV)} {ps us : List Pl} {i : Nat} {c : AV → Prop} {ce : List Ent → Prop}
/-- a loop over blocks, as many as there are -/
theorem acode_loopE4 {c : Code} {Q : Exit → St → Prop} {α : Type} (id : Nat) (hid : lid c = id) (mods : α → List (Nat × AV)) (tops topsL : List Nat) (hab : absL tops topsL l = true) (V : List Nat) (hps : α → List Ent) (J : α → Prop) (hlen : ∀ a, J a → n0 ≤ (hps a).length) (ν : α → Nat) (a0 : α)
    (h0 : agr l (mods a0)) (hh : hp = hps a0) (hJ : J a0) (hr : ∀ a, J a → acode P n0 pl c (lpe3 n0 mods tops l V hps J ν a Q) ⟨mods a ++ tp topsL (clr (hps a).length V l), hps a⟩) : acode P n0 pl (.loop c) Q ⟨l, hp⟩ := by
  subst hh
  refine acode_loopT (fun a => ⟨mods a ++ tp topsL (clr (hps a).length V l), hps a⟩) J ν a0 ?_ hJ ?_
  · refine Wk.le fun t => ?_
    by_cases ht : ((mods a0).map (·.1)).contains t = true
    · exact .inr (agr_lk h0 _ ht)
    · rw [lk_skip _ (by simpa using ht)]
      rcases lk_tpL (t := t) (absL_clr (H := (hps a0).length) (V := V) hab) with h | ⟨hk, h⟩
      · exact .inl h
      · rw [h]
        rcases clr_lk (H := (hps a0).length) (V := V) (l := l) (t := t) with h | h
        · exact .inl h
        · exact .inr h.1
  · intro a ha
    refine acode_imp (hr a ha) ?_
    rintro e ⟨sl, sh⟩ hq
    cases e with
    | normal =>
      obtain ⟨is, a', ⟨h1, h2, h3⟩, h4, h5, h6, h7, h8⟩ := hq
      refine ⟨a', ?_, h7, h8⟩
      simp only at h1 h3 h4 h5 h6
      have hn0 : n0 ≤ sh.length := by
        rcases Nat.lt_or_ge sh.length n0 with hlt | hge
        · exfalso
          have h9 := hlen a' h7
          rw [← h4] at h9
          have hz : is = [] := by
            cases is with
            | nil => rfl
            | cons i r => simp [isB] at h1; omega
          subst hz
          simp [kept] at h9
          omega
        · exact hge
      refine Wk.keep (is := is) hn0 ⟨h1, h3⟩ h4 fun t => ?_
      by_cases ht : ((mods a').map (·.1)).contains t = true
      · exact .inr (agrR_lk h5 _ ht)
      · rw [lk_skip _ (by simpa using ht)]
        rcases lk_tpL (t := t) (absL_clr (H := (hps a').length) (V := V) hab) with h | ⟨hk, h⟩
        · exact .inl h
        · rw [h]
          rcases undK_lk h6 (t := t) (by simp at ht hk ⊢; exact ⟨ht, hk⟩) with hu | hu
          · exact .inl hu
          rw [hu]
          rcases clr_lk (H := (hps a').length) (V := V) (l := l) (t := t) with h | h
          · exact .inl h
          · exact .inr (by rw [rn_fix h2 (by rw [h.1]; exact h.2)])
    | _ => exact hq
theorem loadS_pl {gg : Bool} {n o : Nat} : loadS gg n i o c (plC us) = (i < us.length ∧ rd gg n o [vi (us.getD i default).c, vi (us.getD i default).a, vi (us.getD i default).x, vi (us.getD i default).y, .ref (i + 1) (us.getD i default).ts.length] c) := by
  unfold loadS
  rw [plC_len]
  by_cases h : i < us.length
  · rw [plC_get h]; rfl
  · simp [h]
theorem loadS_plS {gg : Bool} {n o : Nat} {R : List AV} : loadS gg n i o c ((plC us).set i R) = (i < us.length ∧ rd gg n o R c) := by
  unfold loadS
  rw [List.length_set, plC_len]
  by_cases h : i < us.length
  · rw [List.getElem?_set_self (by rw [plC_len]; exact h)]; rfl
  · simp [h]
theorem stoS_pl {v : List AV} {id o n sz : Nat} : stoS id o n sz i v hp ce (plC us) = (i < us.length ∧ o + n ≤ 5 ∧ ce (hp.set id (.arr sz ((plC us).set i (wr [vi (us.getD i default).c, vi (us.getD i default).a, vi (us.getD i default).x, vi (us.getD i default).y, .ref (i + 1) (us.getD i default).ts.length] o v))))) := by
  unfold stoS
  rw [plC_len]
  by_cases h : i < us.length
  · rw [plC_get h]; simp
  · simp [h]
theorem stoS_plS {v R : List AV} {id o n sz : Nat} : stoS id o n sz i v hp ce ((plC us).set i R) = (i < us.length ∧ o + n ≤ R.length ∧ ce (hp.set id (.arr sz ((plC us).set i (wr R o v))))) := by
  unfold stoS
  rw [List.length_set, plC_len]
  by_cases h : i < us.length
  · rw [List.getElem?_set_self (by rw [plC_len]; exact h), List.set_set]; simp
  · simp [h]
theorem plI_at {e : Ent} (h : i < us.length) : (e :: plI us)[i + 1]? = some (.arr 1 ((us.getD i default).ts.map It.e)) := by
  rw [List.getElem?_cons_succ]; exact plI_get h
theorem plI_ati {e : Ent} {j : Int} (h0 : 0 ≤ j) (h : j < us.length) : (e :: plI us)[j.toNat + 1]? = some (.arr 1 ((us.getD j.toNat default).ts.map It.e)) := plI_at (by omega)
theorem rnE_plH {N : Nat} (h : us.length + 1 = N) {e : Ent} (he : e ∈ plH us) : rnE N [] e = e := by
  unfold plH at he
  rcases List.mem_cons.1 he with rfl | he
  · simp only [rnE, rnLL]
    split
    · rfl
    · congr 1
      have : ∀ x ∈ plC us, rn.rnL N [] x = id x := by
        intro x hx
        unfold plC at hx
        obtain ⟨k, hk, rfl⟩ := List.mem_map.1 hx
        have hk2 : k + 1 < N := by rw [List.mem_range] at hk; omega
        simp only [rn.rnL, rn, rnId, hk2, if_true, id]
      rw [List.map_congr_left this, List.map_id]
  · unfold plI at he
    obtain ⟨g, _, rfl⟩ := List.mem_map.1 he
    exact rnE_pln (plnLL_map it_pl _)
theorem kept_plH {N : Nat} (h : us.length + 1 = N) : kept N [] (plH us) = plH us := by
  simp only [kept, List.map_nil, List.append_nil]
  rw [List.take_of_length_le (by rw [plH_len]; omega)]
  have : ∀ x ∈ plH us, rnE N [] x = id x := fun x hx => rnE_plH h hx
  rw [List.map_congr_left this, List.map_id]
theorem fixB_nil {N H : Nat} {V : List Nat} (h : H ≤ N) : fixB N H V [] = true := by
  simp only [fixB, List.all_eq_true, List.mem_range, Bool.or_eq_true, decide_eq_true_eq]
  exact fun i hi => .inl (.inl (by omega))
/-- a round's end over handed blocks of plots -/
theorem lpe3_pl {α : Type} {N : Nat} {mods : α → List (Nat × AV)} {tops : List Nat} {V : List Nat} {hps : α → List Ent} {J : α → Prop} {ν : α → Nat} {a : α} {Q : Exit → St → Prop} {sl : List (Nat × AV)} (hN : us.length + 1 = N) (a' : α) (hh : hps a' = plH us)
    (h6 : agrR N [] sl (mods a')) (h7 : undK ((mods a').map (·.1) ++ tops) (clr (hps a').length V l) sl) (h8 : J a') (h9 : ν a' < ν a) {sh : List Ent} (hs : sh = plH us) : lpe3 N mods tops l V hps J ν a Q .normal ⟨sl, sh⟩ := by
  subst hs
  have hk := kept_plH hN
  exact ⟨[], a', ⟨rfl, fixB_nil (by rw [hh, plH_len]; omega), by rw [hk]; exact okP⟩, by rw [hk, hh], h6, h7, h8, h9⟩
/-- the end of a function that is handed blocks of plots -/
theorem fin_plW {N : Nat} {x : Value} {K : AV → List Ent → Prop} (hN : us.length + 1 = N) {sh : List Ent} (hs : sh = plH us) (h : K (.v x) (plH us)) : fin N (.v x) sh K := by
  subst hs
  have hk := kept_plH hN
  refine ⟨[], ⟨rfl, by rw [hk]; exact okP⟩, ?_⟩
  rw [hk]; exact h
end
end Eng
/-- a plot that was marked -/
def mkO (o : Int) (n : Nat) : Pl := ⟨o, o + 1, o + 2, o + 3, mkIt (o + 4) n⟩
/-- where the marks of plot n begin -/
def offN (ps : List Pl) (k : Int) : Nat → Int
  | 0 => k
  | n + 1 => offN ps k n + 4 + (ps.getD n default).ts.length
def mkP (ps : List Pl) (k : Int) : List Pl := (List.range ps.length).map fun j => mkO (offN ps k j) (ps.getD j default).ts.length
section
variable {ps us : List Pl} {k kk : Int} {i : Nat}
theorem mkP_len : (mkP ps k).length = ps.length := by simp [mkP]
theorem mkP_get (h : i < ps.length) : (mkP ps k).getD i default = mkO (offN ps k i) (ps.getD i default).ts.length := by
  unfold mkP; simp only [List.getD]; rw [List.getElem?_map, List.getElem?_range h]; rfl
theorem off_bd (hl : ∀ j : Nat, j < ps.length → (ps.getD j default).ts.length ≤ 100) : ∀ {n : Nat}, n ≤ ps.length → k ≤ offN ps k n ∧ offN ps k n ≤ k + 104 * n
  | 0, _ => by simp [offN]
  | n + 1, h => by
    have h1 := off_bd hl (n := n) (by omega)
    have h2 := hl n (by omega)
    simp only [offN]; omega
structure PM (ps us : List Pl) (k kk : Int) (i : Int) : Prop where
  len : us.length = ps.length
  done : ∀ j : Nat, (j : Int) < i → j < ps.length → us.getD j default = mkO (offN ps k j) (ps.getD j default).ts.length
  todo : ∀ j : Nat, i ≤ j → us.getD j default = ps.getD j default
  off : kk = offN ps k i.toNat
theorem PM.start : PM ps ps k k 0 := ⟨rfl, fun j h => by omega, fun j h => rfl, rfl⟩
theorem PM.step {i : Int} (h : PM ps us k kk i) (h0 : 0 ≤ i) (h1 : i < ps.length) : PM ps (us.set i.toNat (mkO kk (us.getD i.toNat default).ts.length)) k (kk + 4 + (us.getD i.toNat default).ts.length) (i + 1) := by
  have hu := h.todo i.toNat (by omega)
  have e1 : (i + 1).toNat = i.toNat + 1 := by omega
  rw [hu]
  refine ⟨by simp [h.len], fun j hj hl => ?_, fun j hj => ?_, by rw [e1]; simp only [offN]; rw [h.off]⟩
  · simp only [List.getD, List.getElem?_set]
    by_cases e : i.toNat = j
    · subst e
      have : i.toNat < us.length := by rw [h.len]; omega
      simp only [this, if_true, Option.getD_some]
      rw [h.off]
    · rw [if_neg e]
      exact h.done j (by omega) hl
  · simp only [List.getD, List.getElem?_set]
    have e : ¬ i.toNat = j := by omega
    rw [if_neg e]
    exact h.todo j (by omega)
theorem PM.fin {i : Int} (h : PM ps us k kk i) (h1 : i = ps.length) : us = mkP ps k ∧ kk = offN ps k ps.length := by
  refine ⟨?_, by rw [h.off]; congr 1; omega⟩
  apply List.ext_getElem?
  intro j
  by_cases hj : j < ps.length
  · have e1 := h.done j (by omega) hj
    have e2 := mkP_get (k := k) hj
    have h2 : j < us.length := by rw [h.len]; exact hj
    have h3 : j < (mkP ps k).length := by rw [mkP_len]; exact hj
    simp only [List.getD, List.getElem?_eq_getElem h2, List.getElem?_eq_getElem h3, Option.getD_some] at e1 e2 ⊢
    rw [e1, e2]
  · rw [List.getElem?_eq_none (by rw [h.len]; omega), List.getElem?_eq_none (by rw [mkP_len]; omega)]
/-- the heap after a round of marking -/
theorem mark_hp (h : i < us.length) {o : Int} : Ent.arr 5 ((plC us).set i [vi o, vi (o + 1), vi (o + 2), vi (o + 3), .ref (i + 1) (us.getD i default).ts.length]) :: (plI us).set i (.arr 1 ((mkIt (o + 4) (us.getD i default).ts.length).map It.e)) = plH (us.set i (mkO o (us.getD i default).ts.length)) := by
  unfold plH
  congr 1
  · congr 1
    apply List.ext_getElem?
    intro j
    by_cases hj : j < us.length
    · rw [plC_get (by rw [List.length_set]; exact hj)]
      by_cases e : i = j
      · subst e
        rw [List.getElem?_set_self (by rw [plC_len]; exact hj)]
        have : (us.set i (mkO o (us.getD i default).ts.length)).getD i default = mkO o (us.getD i default).ts.length := by simp [List.getD, List.getElem?_set, hj]
        rw [this]
        simp only [mkO, mkIt_len]
      · rw [List.getElem?_set_ne e, plC_get hj]
        have : (us.set i (mkO o (us.getD i default).ts.length)).getD j default = us.getD j default := by simp [List.getD, List.getElem?_set, e]
        rw [this]
    · rw [List.getElem?_eq_none (by rw [List.length_set, plC_len]; omega), List.getElem?_eq_none (by rw [plC_len, List.length_set]; omega)]
  · unfold plI
    rw [List.map_set]
    rfl
end
end Go.Proofs.Ytgcmahhejblpkaa
