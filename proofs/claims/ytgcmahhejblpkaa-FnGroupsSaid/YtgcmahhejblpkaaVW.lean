/-
An abstract interpreter of the program's code on plain data: part W, own blocks that nobody writes any more.
No condition: everything here is stated over any program.
-/
import Derived.Test.YtgcmahhejblpkaaVV
namespace Go.Proofs.Ytgcmahhejblpkaa
namespace Eng
set_option linter.unusedVariables false
set_option linter.unusedSimpArgs false

variable {P : Program} {n0 : Nat} {pl : List (Nat × Plan)} {hp hs : List Ent} {l : List (Nat × AV)} {m : Mp} {w : World} {F : Nat → Prop}

/-- own content, as plain data that nobody writes any more -/
inductive Fz (hp : List Ent) : AV → AV → Prop
  | same (x : AV) (h : noid x = true) : Fz hp x x
  | nil (sz : Nat) : Fz hp (.v (.slice none 0 0)) (.sl sz [])
  | ref (id len sz : Nat) (elems ds : List (List AV)) (h : hp[id]? = some (.arr sz elems)) (hl : len ≤ elems.length) (hn : ds.length = len)
      (hz : ∀ e ∈ ds, e.length = sz) (hq : ∀ e ∈ ds, ∀ d ∈ e, pln d = true)
      (hx : ∀ e ∈ elems, e.length = sz)
      (hr : ∀ (i o : Nat) (e e' : List AV) (x d : AV), elems[i]? = some e → ds[i]? = some e' → e[o]? = some x → e'[o]? = some d → Fz hp x d) : Fz hp (.ref id len) (.sl sz ds)
  | agg (cs ds : List AV) (hl : ds.length = cs.length) (h : ∀ (i : Nat) (c d : AV), cs[i]? = some c → ds[i]? = some d → Fz hp c d) : Fz hp (.agg cs) (.agg ds)
  | tup (cs ds : List AV) (hl : ds.length = cs.length) (h : ∀ (i : Nat) (c d : AV), cs[i]? = some c → ds[i]? = some d → Fz hp c d) : Fz hp (.tup cs) (.tup ds)
def FzL (hp : List Ent) : List AV → List AV → Prop
  | [], [] => True
  | x :: xs, d :: ds => Fz hp x d ∧ FzL hp xs ds
  | _, _ => False
theorem FzL.get : ∀ {xs ds : List AV}, FzL hp xs ds → ds.length = xs.length ∧ ∀ (i : Nat) (x d : AV), xs[i]? = some x → ds[i]? = some d → Fz hp x d
  | [], [], _ => ⟨rfl, fun i c v h => by simp at h⟩
  | x :: xs, v :: vs, h => by
    obtain ⟨h1, h2⟩ := h.2.get
    refine ⟨by simp [h1], ?_⟩
    intro i c u e1 e2
    cases i with
    | zero => simp at e1 e2; subst e1; subst e2; exact h.1
    | succ i => exact h2 i c u (by simpa using e1) (by simpa using e2)
theorem Fz.rep (hh : RelH m w F hp) {x d : AV} {v : Value} (hr : Fz hp x d) (h : RepA m w F x v) (m' : Mp) : RepA m' w (allF m F hp) d v := by
  induction hr generalizing v with
  | same x hx => exact h.noid hx (fun b hb => .inl hb)
  | nil sz => rw [h.inv_v]; exact .nil sz none 0
  | ref id len sz elems ds he hl hn hz hq hx hr ih =>
    rcases h.inv_ref with ⟨hm, rfl, rfl⟩ | ⟨b, s', cap, cur, T, rfl, hm, hb, hsz, hlc, hmax⟩
    · have : ds = [] := List.eq_nil_of_length_eq_zero hn
      subst this; exact .nil sz none 0
    · obtain ⟨rfl, cur', T', cs, hA⟩ := hh.at_ he hm
      have := RepA.sl (m := m') (w := w) (F := allF m F hp) s' ds b 0 cap cur' T' (0, 0) cs (.inr ⟨id, _, s', he, rfl, hm⟩) hA.hb (by rw [hn]; exact hlc) hmax
        hz hq (by intro i o hi ho; rw [hn] at hi; simpa using hA.hcell i o (by omega) ho)
        (by
          intro i o e d h1 h2
          have hi := lt_of_some h1
          have hi' : i < elems.length := by omega
          have e1 := List.getElem?_eq_getElem hi'
          have l1 := hx _ (List.getElem_mem hi')
          have l2 := hz e (List.mem_of_getElem? h1)
          have ho := lt_of_some h2
          have ho' : o < (elems[i]).length := by omega
          have e2 := List.getElem?_eq_getElem ho'
          exact ih i o _ e _ d e1 h1 e2 h2 (hA.hrep i o _ _ e1 e2))
      rw [hn] at this
      exact this
  | agg cs ds hl hh' ih =>
    obtain ⟨vs, rfl, hlv, hrv⟩ := h.inv_agg
    refine .agg ds vs (by rw [hlv, hl]) ?_
    intro i d u h1 h2
    have hi : i < cs.length := by rw [← hl]; exact lt_of_some h1
    have hc := List.getElem?_eq_getElem hi
    exact ih i _ d hc h1 (hrv i _ u hc h2)
  | tup cs ds hl hh' ih =>
    obtain ⟨vs, rfl, hlv, hrv⟩ := h.inv_tup
    refine .tup ds vs (by rw [hlv, hl]) ?_
    intro i d u h1 h2
    have hi : i < cs.length := by rw [← hl]; exact lt_of_some h1
    have hc := List.getElem?_eq_getElem hi
    exact ih i _ d hc h1 (hrv i _ u hc h2)
/-- all own blocks are left alone from now on -/
def deads (hp : List Ent) : List Ent := hp.map (fun _ => .dead)
theorem deads_nil : deads [] = [] := (rfl)
theorem deads_cons {e : Ent} {r : List Ent} : deads (e :: r) = .dead :: deads r := (rfl)
theorem deads_get {i : Nat} {e : Ent} (h : (deads hp)[i]? = some e) : e = .dead := by
  unfold deads at h
  rw [List.getElem?_map] at h
  cases hx : hp[i]? <;> simp [hx] at h
  exact h.symm
theorem RelH.deads (hh : RelH m w F hp) : RelH m w (allF m F hp) (deads hp) ∧ Tr m w F hp m w (allF m F hp) (deads hp) := by
  refine ⟨⟨by rw [hh.len]; simp [Eng.deads], allF_lt hh, ?_, ?_, ?_⟩, ?_⟩
  · intro j x hx; rw [deads_get hx]; trivial
  · intro i j ei ej bi si bj sj hi hj ai; rw [deads_get hi] at ai; cases ai
  · intro i x b s hx hxa; rw [deads_get hx] at hxa; cases hxa
  · exact { Tr.refl m w F hp with
      sub := fun b hb => .inl hb
      own := fun b ⟨j, x, s, h1, h2, h3⟩ => by rw [deads_get h1] at h2; cases h2
      frz := fun b hb => by
        rcases hb with hb | hb
        · exact .inl hb
        · exact .inr (.inr hb) }
/-- A CALL, where nobody writes any more what the caller owns -/
theorem GC.useF {k : FuncId} {args as : List AV} {r0 : AV} {K : AV → List Ent → Prop} (hr : FzL hp args as) (h : GC P k as [] (fun r hs => r = r0 ∧ hs = [])) (hn : noid r0 = true) (hK : K r0 (deads hp)) : GC P k args hp K := by
  refine ⟨h.1, ?_⟩
  intro m w F vals hh hv
  obtain ⟨hl, hg⟩ := hr.get
  obtain ⟨d1, d2⟩ := hh.deads
  have := h.2 [] w (allF m F hp) vals (relH_nil w (allF_lt hh))
    ⟨by rw [hv.1, hl], fun i d v h1 h2 => by
      have hi : i < args.length := by rw [← hl]; exact lt_of_some h1
      have hx := List.getElem?_eq_getElem hi
      exact (hg i _ d hx h1).rep hh (hv.2 i _ v hx h2) []⟩
  refine this.mono ?_
  rintro e w' ⟨v, r', hp', m', F', he, ⟨rfl, rfl⟩, hh', hx, t⟩
  refine ⟨v, r', deads hp, m, F', he, hK, ?_, hx.noid hn (fun _ h => h), ?_⟩
  · refine ⟨d1.len, hh'.stable, ?_, ?_, ?_⟩
    · intro j x hx; rw [deads_get hx]; trivial
    · intro i j ei ej bi si bj sj hi hj ai; rw [deads_get hi] at ai; cases ai
    · intro i x b s hx hxa; rw [deads_get hx] at hxa; cases hxa
  · refine d2.trans ?_
    exact { os := t.os, tape := t.tape, output := t.output, size := t.size, blk := t.blk, sub := t.sub, mid := fun _ _ => rfl, mlen := Nat.le_refl _, shp := t.shp
            fix := fun b hb _ => t.fix b hb notOwn_nil
            own := fun b ⟨j, x, s, h1, h2, h3⟩ => by rw [deads_get h1] at h2; cases h2
            frz := fun b hb => by
              rcases t.frz b hb with g | g | g
              · exact .inl g
              · exact .inr (.inl g)
              · exact absurd g notOwn_nil }
/-- A RESULT, where nobody writes any more what it holds -/
theorem GC.frzX {k : FuncId} {args : List AV} {d : AV} (h : GC P k args [] (fun r hs => Fz hs r d)) (hn : noid d = true) : GC P k args [] (fun r hs => r = d ∧ hs = []) := by
  refine ⟨h.1, fun m w F vals hh hv => ?_⟩
  have hm : m = [] := List.eq_nil_of_length_eq_zero hh.len
  subst hm
  refine (h.2 [] w F vals hh hv).mono ?_
  rintro e w' ⟨v, r, hp', m', F', rfl, hk, hh', hr, t⟩
  refine ⟨v, d, [], [], allF m' F' hp', rfl, ⟨rfl, rfl⟩, relH_nil _ (allF_lt hh'), hk.rep hh' hr [], ?_⟩
  exact { os := t.os, tape := t.tape, output := t.output, size := t.size, blk := t.blk, sub := fun b hb => .inl (t.sub b hb), mid := fun _ _ => rfl, mlen := Nat.le_refl _, shp := t.shp, fix := t.fix
          own := fun b ho => absurd ho notOwn_nil
          frz := fun b hb => by
            rcases hb with g | g
            · exact t.frz b g
            · rcases t.own b g with g | g
              · exact absurd g notOwn_nil
              · exact .inr (.inl g) }
theorem fz_v {x : Value} : Fz hp (.v x) (.v x) := .same _ rfl
theorem fz_sl {sz : Nat} {xs : List (List AV)} : Fz hp (.sl sz xs) (.sl sz xs) := .same _ rfl
theorem fz_nil {α : Type} {sz : Nat} {f : α → List AV} : Fz hp (.v (.slice none 0 0)) (.sl sz (List.map f [])) := .nil sz
theorem fz_ref {α : Type} {id len sz : Nat} {ts : List α} {f : α → List AV} (h : hp[id]? = some (.arr sz (ts.map f))) (hl : len = ts.length) (hz : ∀ t, (f t).length = sz) (hq : ∀ t, (f t).all pln = true) : Fz hp (.ref id len) (.sl sz (ts.map f)) := by
  have key : ∀ e ∈ ts.map f, e.length = sz := by
    intro e he
    obtain ⟨t, _, rfl⟩ := List.mem_map.1 he
    exact hz t
  have keyq : ∀ e ∈ ts.map f, ∀ d ∈ e, pln d = true := by
    intro e he d hd
    obtain ⟨t, _, rfl⟩ := List.mem_map.1 he
    exact List.all_eq_true.1 (hq t) d hd
  refine .ref id len sz _ _ h (by simp; omega) (by simp; omega) key keyq key ?_
  intro i o e e' x d h1 h2 h3 h4
  rw [h1] at h2; cases h2
  rw [h3] at h4; cases h4
  exact .same _ (pln_noid (keyq e (List.mem_of_getElem? h1) x (List.mem_of_getElem? h3)))
theorem fzL_nil : FzL hp [] [] := trivial
theorem fzL_cons {x d : AV} {xs ds : List AV} (h : Fz hp x d) (t : FzL hp xs ds) : FzL hp (x :: xs) (d :: ds) := ⟨h, t⟩
theorem fz_agg {cs ds : List AV} (h : FzL hp cs ds) : Fz hp (.agg cs) (.agg ds) := .agg cs ds h.get.1 h.get.2
theorem fz_tup {cs ds : List AV} (h : FzL hp cs ds) : Fz hp (.tup cs) (.tup ds) := .tup cs ds h.get.1 h.get.2
theorem fin_fz {r d : AV} (h : Fz hp r d) (hq : plnH hp = true) (hb : AV.big hp.length [] r = false) : fin 0 r hp (fun r' hs => Fz hs r' d) := by
  have hk : kept 0 (rngL 0 hp.length) hp = hp := by
    have := kept_rng (n0 := 0) (ex := []) hq (Nat.zero_le _)
    rwa [List.append_nil] at this
  refine ⟨rngL 0 hp.length, ⟨?_, by rw [hk]; exact okL_plnH hq⟩, by rw [rn_fix fixB_rng hb, hk]; exact h⟩
  simp only [isB, Bool.and_eq_true, List.all_eq_true, decide_eq_true_eq]
  refine ⟨ndB_range' _ _, fun i hi => ?_⟩
  simp only [rngL, List.mem_range'] at hi
  obtain ⟨j, hj, rfl⟩ := hi
  omega
theorem fz_ref0 {α : Type} {id sz : Nat} {f : α → List AV} (h : hp[id]? = some (.arr sz [])) : Fz hp (.ref id 0) (.sl sz (List.map f [])) :=
  .ref id 0 sz [] _ h (Nat.le_refl _) rfl (by simp) (by simp) (by simp) (by simp)
/-- a round's end, over handed blocks too, where blocks hold own slices -/
theorem lpe2_endN {α : Type} {mods : α → List (Nat × AV)} {tops : List Nat} {W : List (Nat × Nat)} {hps : α → List Ent} {J : α → Prop} {ν : α → Nat} {a : α} {Q : Exit → St → Prop} {sl : List (Nat × AV)} {sh : List Ent} (is : List Nat) (a' : α)
    (h1 : is = isOf sl W n0 ((hps a').length - n0)) (h2 : isB n0 sh.length is = true) (h3 : fixB n0 (hps a').length (W.map (·.2)) is = true) (h5 : (sh.take n0).map (rnE n0 is) ++ is.map (fun i => rnE n0 is (sh.getD i .dead)) = hps a') (hq : okL (hps a') = true)
    (h6 : agrR n0 is sl (mods a')) (h7 : undK ((mods a').map (·.1) ++ tops) (clr (hps a').length (W.map (·.2)) l) sl) (h8 : J a') (h9 : ν a' < ν a) : lpe2 n0 mods tops l W hps J ν a Q .normal ⟨sl, sh⟩ := by
  have hk : kept n0 is sh = hps a' := h5
  exact ⟨is, a', h1, ⟨h2, h3, by rw [hk]; exact hq⟩, hk, h6, h7, h8, h9⟩
end Eng
end Go.Proofs.Ytgcmahhejblpkaa
