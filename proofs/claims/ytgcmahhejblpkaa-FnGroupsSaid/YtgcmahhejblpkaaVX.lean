/-
An abstract interpreter of the program's code on plain data: part X, outcomes that may be one of many, one own block that nobody writes any more.
No condition: everything here is stated over any program.
-/
import Derived.Test.YtgcmahhejblpkaaVW
namespace Go.Proofs.Ytgcmahhejblpkaa
namespace Eng
set_option linter.unusedVariables false
set_option linter.unusedSimpArgs false

variable {P : Program} {n0 : Nat} {pl : List (Nat × Plan)} {hp hs : List Ent} {l : List (Nat × AV)} {m : Mp} {w : World} {F : Nat → Prop}

theorem fin_mono {r : AV} {K K' : AV → List Ent → Prop} (h : fin n0 r hp K) (hK : ∀ r h, K r h → K' r h) : fin n0 r hp K' := by
  obtain ⟨is, h1, h2⟩ := h
  exact ⟨is, h1, hK _ _ h2⟩
/-- a result of which something is told -/
theorem fin_K {r : AV} {K : AV → List Ent → Prop} (hq : plnH (hp.take n0 ++ (idn n0 r).map (fun i => hp.getD i .dead)) = true) (hb : isB n0 hp.length (idn n0 r) = true)
    (h : K (rn n0 (idn n0 r) r) (hp.take n0 ++ (idn n0 r).map (fun i => hp.getD i .dead))) : fin n0 r hp K :=
  fin_mono (fin_is (idn n0 r) rfl rfl hb hq) (fun r h' ⟨h1, h2⟩ => by rw [h1, h2]; exact h)
def rep1 (id len : Nat) (d : AV) : List AV → List AV → Prop
  | [], [] => True
  | x :: xs, y :: ys => (x = y ∨ (x = .ref id len ∧ y = d)) ∧ rep1 id len d xs ys
  | _, _ => False
theorem rep1_get {id len : Nat} {d : AV} : ∀ {xs ys : List AV}, rep1 id len d xs ys → ys.length = xs.length ∧ ∀ (i : Nat) (x y : AV), xs[i]? = some x → ys[i]? = some y → x = y ∨ (x = .ref id len ∧ y = d)
  | [], [], _ => ⟨rfl, fun i c v h => by simp at h⟩
  | x :: xs, v :: vs, h => by
    obtain ⟨h1, h2⟩ := rep1_get h.2
    refine ⟨by simp [h1], ?_⟩
    intro i c u e1 e2
    cases i with
    | zero => simp at e1 e2; subst e1; subst e2; exact h.1
    | succ i => exact h2 i c u (by simpa using e1) (by simpa using e2)
def reps (X d : AV) : List AV → List AV → Prop
  | [], [] => True
  | x :: xs, y :: ys => (x = y ∨ (x = X ∧ y = d)) ∧ reps X d xs ys
  | _, _ => False
theorem reps_get {X d : AV} : ∀ {xs ys : List AV}, reps X d xs ys → ys.length = xs.length ∧ ∀ (i : Nat) (x y : AV), xs[i]? = some x → ys[i]? = some y → x = y ∨ (x = X ∧ y = d)
  | [], [], _ => ⟨rfl, fun i c v h => by simp at h⟩
  | x :: xs, v :: vs, h => by
    obtain ⟨h1, h2⟩ := reps_get h.2
    refine ⟨by simp [h1], ?_⟩
    intro i c u e1 e2
    cases i with
    | zero => simp at e1 e2; subst e1; subst e2; exact h.1
    | succ i => exact h2 i c u (by simpa using e1) (by simpa using e2)
theorem RelH.frz1 {id b sz : Nat} {e : Ent} (hh : RelH m w F hp) (he : hp[id]? = some e) (ha : e.alive = true) (hm : m[id]? = some (some (b, sz))) :
    RelH m w (fun x => F x ∨ x = b) (hp.set id .dead) ∧ Tr m w F hp m w (fun x => F x ∨ x = b) (hp.set id .dead) := by
  have hO : Own m hp b := ⟨id, e, sz, he, ha, hm⟩
  have get : ∀ (j : Nat) (x : Ent), (hp.set id .dead)[j]? = some x → x.alive = true → hp[j]? = some x ∧ j ≠ id := by
    intro j x hx hxa
    rw [List.getElem?_set] at hx
    split at hx
    · split at hx
      · cases hx; cases hxa
      · cases hx
    · rename_i h; exact ⟨hx, fun e => h e.symm⟩
  have t : Tr m w F hp m w (fun x => F x ∨ x = b) (hp.set id .dead) := { Tr.refl m w F hp with
    sub := fun b hb => .inl hb
    own := fun b ⟨j, x, s, h1, h2, h3⟩ => .inl ⟨j, x, s, (get j x h1 h2).1, h2, h3⟩
    frz := fun c hc => by
      rcases hc with hc | hc
      · exact .inl hc
      · subst hc; exact .inr (.inr hO) }
  refine ⟨⟨by simp [hh.len], ?_, ?_, ?_, ?_⟩, t⟩
  · intro c hc
    rcases hc with hc | hc
    · exact hh.stable c hc
    · subst hc; exact Own.lt hh hO
  · intro j x hx
    cases hxa : x.alive with
    | true => exact (hh.ent j x (get j x hx hxa).1).tr t (fun ha b z hm => rfl)
    | false => cases x with
      | dead => trivial
      | arr => cases hxa
  · intro i j ei ej bi si bj sj hi hj ai aj hne hmi hmj
    exact hh.inj i j ei ej bi si bj sj (get i ei hi ai).1 (get j ej hj aj).1 ai aj hne hmi hmj
  · intro i x c s hx hxa hmi
    obtain ⟨h1, h2⟩ := get i x hx hxa
    obtain ⟨h3, h4⟩ := hh.own i x c s h1 hxa hmi
    refine ⟨fun hc => ?_, h4⟩
    rcases hc with hc | hc
    · exact h3 hc
    · subst hc; exact hh.inj i id x e c s c sz h1 he hxa ha h2 hmi hm rfl
/-- A CALL, where nobody writes one own block any more -/
theorem GC.frz1 {k : FuncId} {id sz len : Nat} {elems : List (List AV)} {args as : List AV} {K : AV → List Ent → Prop} (he : hp[id]? = some (.arr sz elems)) (hq : plnLL elems = true) (hl : len ≤ elems.length)
    (ha : rep1 id len (.sl sz (elems.take len)) args as) (h : GC P k as (hp.set id .dead) K) : GC P k args hp K := by
  refine ⟨h.1, ?_⟩
  intro m w F vals hh hv
  obtain ⟨hL, hg⟩ := rep1_get ha
  have fin : ∀ (F' : Nat → Prop), (∀ b, F b → F' b) → RelH m w F' (hp.set id .dead) → Tr m w F hp m w F' (hp.set id .dead) → (∀ v, RepA m w F (.ref id len) v → RepA m w F' (.sl sz (elems.take len)) v) →
      Calls P k vals.toArray w fun e w' => ∃ v r hp' m' F', e = .returned v ∧ K r hp' ∧ RelH m' w' F' hp' ∧ RepA m' w' F' r v ∧ Tr m w F hp m' w' F' hp' := by
    intro F' hF hh' t hr
    refine (h.2 m w F' vals hh' ⟨by rw [hv.1, hL], fun i d v h1 h2 => ?_⟩).mono ?_
    · have hi : i < args.length := by rw [← hL]; exact lt_of_some h1
      have hx := List.getElem?_eq_getElem hi
      have hv' := hv.2 i _ v hx h2
      rcases hg i _ d hx h1 with e | ⟨e1, e2⟩
      · rw [e] at hv'; exact hv'.tr t
      · rw [e1] at hv'; rw [e2]; exact hr v hv'
    · rintro e w' ⟨v, r, hp', m', F'', h1, h2, h3, h4, h5⟩
      exact ⟨v, r, hp', m', F'', h1, h2, h3, h4, t.trans h5⟩
  cases hmm : m[id]? with
  | none => have := lt_of_some he; rw [← hh.len] at this; simp at hmm; omega
  | some o =>
    cases o with
    | none =>
      obtain ⟨k1, k2⟩ := hh.kill id
      have e0 := hh.none_ he hmm
      subst e0
      refine fin F (fun _ h => h) k1 k2 (fun v hv => ?_)
      rcases hv.inv_ref with ⟨_, rfl, rfl⟩ | ⟨b, s', cap, cur, T, rfl, hm, hb, hsz, hlc, hmax⟩
      · exact .nil sz none 0
      · rw [hmm] at hm; cases hm
    | some q =>
      obtain ⟨b, s⟩ := q
      obtain ⟨rfl, cur', T', cs, hA⟩ := hh.at_ he hmm
      obtain ⟨k1, k2⟩ := hh.frz1 he rfl hmm
      refine fin _ (fun _ h => .inl h) k1 k2 (fun v hv => ?_)
      rcases hv.inv_ref with ⟨hm, rfl, rfl⟩ | ⟨b', s', cap, cur, T, rfl, hm, hb, hsz, hlc, hmax⟩
      · rw [hmm] at hm; cases hm
      · rw [hmm] at hm; cases hm
        have hlen : (elems.take len).length = len := by simp; omega
        have := RepA.sl (m := m) (w := w) (F := fun x => F x ∨ x = b) s (elems.take len) b 0 cap cur' T' (0, 0) cs (.inr rfl) hA.hb (by rw [hlen]; exact hlc) hmax
          (fun e h1 => (hA.hsz e (List.mem_of_mem_take h1)).1) (fun e h1 d h2 => plnLL_get hq (List.mem_of_mem_take h1) h2)
          (by intro i o hi ho; rw [hlen] at hi; simpa using hA.hcell i o (by omega) ho)
          (by
            intro i o e d h1 h2
            rw [List.getElem?_take] at h1
            split at h1
            · exact (hA.hrep i o e d h1 h2).noid (pln_noid (plnLL_get hq (List.mem_of_getElem? h1) (List.mem_of_getElem? h2))) (fun b hb => .inl hb)
            · cases h1)
        rw [hlen] at this
        exact this
/-- the same, where a part of the block is handed on -/
theorem GC.frzS {k : FuncId} {id sz lo len : Nat} {elems : List (List AV)} {args as : List AV} {K : AV → List Ent → Prop} (he : hp[id]? = some (.arr sz elems)) (hq : plnLL elems = true) (hl : lo + len ≤ elems.length)
    (ha : reps (.rs id lo len) (.sl sz ((elems.drop lo).take len)) args as) (h : GC P k as (hp.set id .dead) K) : GC P k args hp K := by
  refine ⟨h.1, ?_⟩
  intro m w F vals hh hv
  obtain ⟨hL, hg⟩ := reps_get ha
  have fin : ∀ (F' : Nat → Prop), (∀ b, F b → F' b) → RelH m w F' (hp.set id .dead) → Tr m w F hp m w F' (hp.set id .dead) → (∀ v, RepA m w F (.rs id lo len) v → RepA m w F' (.sl sz ((elems.drop lo).take len)) v) →
      Calls P k vals.toArray w fun e w' => ∃ v r hp' m' F', e = .returned v ∧ K r hp' ∧ RelH m' w' F' hp' ∧ RepA m' w' F' r v ∧ Tr m w F hp m' w' F' hp' := by
    intro F' hF hh' t hr
    refine (h.2 m w F' vals hh' ⟨by rw [hv.1, hL], fun i d v h1 h2 => ?_⟩).mono ?_
    · have hi : i < args.length := by rw [← hL]; exact lt_of_some h1
      have hx := List.getElem?_eq_getElem hi
      have hv' := hv.2 i _ v hx h2
      rcases hg i _ d hx h1 with e | ⟨e1, e2⟩
      · rw [e] at hv'; exact hv'.tr t
      · rw [e1] at hv'; rw [e2]; exact hr v hv'
    · rintro e w' ⟨v, r, hp', m', F'', h1, h2, h3, h4, h5⟩
      exact ⟨v, r, hp', m', F'', h1, h2, h3, h4, t.trans h5⟩
  cases hmm : m[id]? with
  | none => have := lt_of_some he; rw [← hh.len] at this; simp at hmm; omega
  | some o =>
    cases o with
    | none =>
      obtain ⟨k1, k2⟩ := hh.kill id
      refine fin F (fun _ h => h) k1 k2 (fun v hv => ?_)
      rcases hv.inv_rs with ⟨rfl, ad, cap, rfl⟩ | ⟨b, s', cap, rfl, hm, hlc, hmax⟩
      · rw [List.take_zero]; exact .nil sz ad cap
      · rw [hmm] at hm; cases hm
    | some q =>
      obtain ⟨b, s⟩ := q
      obtain ⟨rfl, cur', T', cs, hA⟩ := hh.at_ he hmm
      obtain ⟨k1, k2⟩ := hh.frz1 he rfl hmm
      refine fin _ (fun _ h => .inl h) k1 k2 (fun v hv => ?_)
      rcases hv.inv_rs with ⟨rfl, ad, cap, rfl⟩ | ⟨b', s', cap, rfl, hm, hlc, hmax⟩
      · rw [List.take_zero]; exact .nil s ad cap
      · rw [hmm] at hm; cases hm
        have hlen : ((elems.drop lo).take len).length = len := by simp; omega
        have := RepA.sl (m := m) (w := w) (F := fun x => F x ∨ x = b) s ((elems.drop lo).take len) b (lo * s) cap cur' T' (0, 0) (fun i o => cs (lo + i) o) (.inr rfl) hA.hb (by rw [hlen]; exact hlc) hmax
          (fun e h1 => (hA.hsz e (List.mem_of_mem_drop (List.mem_of_mem_take h1))).1) (fun e h1 d h2 => plnLL_get hq (List.mem_of_mem_drop (List.mem_of_mem_take h1)) h2)
          (by
            intro i o hi ho; rw [hlen] at hi
            have := hA.hcell (lo + i) o (by omega) ho
            rw [Nat.add_mul] at this; exact this)
          (by
            intro i o e d h1 h2
            rw [List.getElem?_take] at h1
            split at h1
            · rw [List.getElem?_drop] at h1
              exact (hA.hrep (lo + i) o e d h1 h2).noid (pln_noid (plnLL_get hq (List.mem_of_getElem? h1) (List.mem_of_getElem? h2))) (fun b hb => .inl hb)
            · cases h1)
        rw [hlen] at this
        exact this
end Eng
end Go.Proofs.Ytgcmahhejblpkaa
