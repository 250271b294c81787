/-
An abstract interpreter of the program's code on plain data: part U, results that hold own slices, or nil in their place.
No condition: everything here is stated over any program.
-/
import Derived.Test.YtgcmahhejblpkaaVT
namespace Go.Proofs.Ytgcmahhejblpkaa
namespace Eng
set_option linter.unusedVariables false
set_option linter.unusedSimpArgs false

variable {P : Program} {n0 : Nat} {pl : List (Nat × Plan)} {hp hs : List Ent} {l : List (Nat × AV)}

theorem kept_pl {is : List Nat} (h : hp.take n0 ++ is.map (fun i => hp.getD i .dead) = hs) (hq : plnH hs = true) : kept n0 is hp = hs := by
  subst h
  unfold kept
  have key : ∀ l : List Ent, plnH l = true → l.map (rnE n0 is) = l := by
    intro l hl
    refine List.ext_getElem? fun i => ?_
    rw [List.getElem?_map]
    cases hi : l[i]? with
    | none => rfl
    | some e => simp only [Option.map_some]; rw [plnH_get hl (List.mem_of_getElem? hi)]
  simp only [plnH, List.all_append, Bool.and_eq_true] at hq
  rw [key _ hq.1]
  congr 1
  have := key _ hq.2
  rw [List.map_map] at this
  exact this
theorem okL_plnH (hq : plnH hs = true) : okL hs = true := by
  refine okL_all fun e he => ?_
  have := List.all_eq_true.1 hq e he
  cases e with
  | dead => rfl
  | arr sz es => simp only [okE, this, Bool.true_or]
/-- a result that holds own plain slices -/
theorem fin_is {r r' : AV} (is : List Nat) (h : rn n0 is r = r') (hk : hp.take n0 ++ is.map (fun i => hp.getD i .dead) = hs) (hb : isB n0 hp.length is = true) (hq : plnH hs = true) :
    fin n0 r hp (fun r h' => r = r' ∧ h' = hs) := by
  have hk := kept_pl hk hq
  exact ⟨is, ⟨hb, by rw [hk]; exact okL_plnH hq⟩, h, hk⟩
def idn (n0 : Nat) (r : AV) : List Nat := (ids r).filter (fun i => decide (n0 ≤ i))
theorem idn_eq {r : AV} : idn n0 r = (ids r).filter (fun i => decide (n0 ≤ i)) := (rfl)
theorem fin_ids {r r' : AV} (h : rn n0 (idn n0 r) r = r') (hk : hp.take n0 ++ (idn n0 r).map (fun i => hp.getD i .dead) = hs) (hb : isB n0 hp.length (idn n0 r) = true) (hq : plnH hs = true) :
    fin n0 r hp (fun r h' => r = r' ∧ h' = hs) := fin_is _ h hk hb hq
theorem fin_or {r : AV} {K K' : AV → List Ent → Prop} (h : fin n0 r hp K) : fin n0 r hp (fun r h' => K r h' ∨ K' r h') := by
  obtain ⟨is, h1, h2⟩ := h
  exact ⟨is, h1, .inl h2⟩

/-- nil as an own slice without elements -/
def unnil (k : Nat) : AV → AV
  | .v (.slice none 0 0) => .ref k 0
  | .agg cs => .agg (unnilL k cs)
  | .tup cs => .tup (unnilL k cs)
  | x => x
where
  unnilL (k : Nat) : List AV → List AV
    | [] => []
    | c :: cs => unnil k c :: unnilL k cs
theorem unnilL_get {k : Nat} : ∀ (cs : List AV) (i : Nat), (unnil.unnilL k cs)[i]? = (cs[i]?).map (unnil k)
  | [], i => by simp [unnil.unnilL]
  | c :: cs, 0 => by simp [unnil.unnilL]
  | c :: cs, i + 1 => by simp [unnil.unnilL, unnilL_get cs i]
theorem unnilL_length {k : Nat} : ∀ (cs : List AV), (unnil.unnilL k cs).length = cs.length
  | [] => rfl
  | c :: cs => by simp [unnil.unnilL, unnilL_length cs]
theorem unnil_rep {m : Mp} {w : World} {F : Nat → Prop} {k : Nat} (hm : m[k]? = some none) {x : AV} {v : Value} (h : RepA m w F x v) : RepA m w F (unnil k x) v := by
  induction h with
  | v x =>
    by_cases hx : x = .slice none 0 0
    · subst hx; exact .refNil k hm
    · have e : unnil k (.v x) = .v x := by
        cases x <;> try rfl
        rename_i a b c
        cases a <;> try rfl
        cases b <;> try rfl
        cases c <;> try rfl
        exact absurd rfl hx
      rw [e]; exact .v x
  | agg cs vs hl h ih =>
    refine .agg _ vs (by rw [unnilL_length]; exact hl) ?_
    intro i c v h1 h2
    rw [unnilL_get] at h1
    cases hc : cs[i]? with
    | none => simp [hc] at h1
    | some c' => simp [hc] at h1; subst h1; exact ih i c' v hc h2
  | tup cs vs hl h ih =>
    refine .tup _ vs (by rw [unnilL_length]; exact hl) ?_
    intro i c v h1 h2
    rw [unnilL_get] at h1
    cases hc : cs[i]? with
    | none => simp [hc] at h1
    | some c' => simp [hc] at h1; subst h1; exact ih i c' v hc h2
  | top v => exact .top v
  | nil sz a cap => exact .nil sz a cap
  | sl sz xs b off cap cur T fz cs hF hb hcap hmax hsz hpl hcell hrep ih => exact .sl sz xs b off cap cur T fz cs hF hb hcap hmax hsz hpl hcell hrep
  | refNil id hm => exact .refNil id hm
  | ref id len b sz cap cur T hm hb hs hl hmax => exact .ref id len b sz cap cur T hm hb hs hl hmax
  | rsNil id lo a cap => exact .rsNil id lo a cap
  | rs id lo len b sz cap hm hl hmax => exact .rs id lo len b sz cap hm hl hmax
  | ptr id i o b sz hm => exact .ptr id i o b sz hm
  | ep e o b off cur T fz cs hF hb hpl hcell hrep ih => exact .ep e o b off cur T fz cs hF hb hpl hcell hrep
/-- what a result is, or what it is where nil is read as an own slice -/
abbrev orN (sz : Nat) (r' : AV) (hs : List Ent) (r : AV) (h' : List Ent) : Prop := (r = r' ∧ h' = hs) ∨ (unnil h'.length r = r' ∧ h' ++ [.arr sz []] = hs)
theorem GC.nilX {k : FuncId} {args : List AV} {r' : AV} {h0 : List Ent} (sz : Nat) (h : GC P k args h0 (orN sz r' hs)) : GC P k args h0 (fun r h' => r = r' ∧ h' = hs) := by
  refine ⟨h.1, fun m w F vals hh hv => (h.2 m w F vals hh hv).mono ?_⟩
  rintro e w' ⟨v, r, hp', m', F', rfl, hk, hh', hr, t⟩
  rcases hk with h1 | ⟨h1, h2⟩
  · exact ⟨v, r, hp', m', F', rfl, h1, hh', hr, t⟩
  · obtain ⟨g1, g2⟩ := hh'.nilEnt sz
    refine ⟨v, _, _, m' ++ [none], F', rfl, ⟨h1, h2⟩, g1, unnil_rep ?_ (hr.tr g2), t.trans g2⟩
    rw [← hh'.len]; simp
theorem fin_orL {sz : Nat} {r r' : AV} (h : rn n0 (idn n0 r) r = r') (hk : hp.take n0 ++ (idn n0 r).map (fun i => hp.getD i .dead) = hs) (hb : isB n0 hp.length (idn n0 r) = true) (hq : plnH hs = true) :
    fin n0 r hp (orN sz r' hs) := fin_or (fin_is _ h hk hb hq)
theorem fin_orR {sz : Nat} {r r' : AV} (h : unnil 0 (rn 0 [] r) = r') (hk : [Ent.arr sz []] = hs) : fin 0 r hp (orN sz r' hs) :=
  ⟨[], ⟨rfl, rfl⟩, .inr ⟨h, hk⟩⟩
/- loops, with the slots that nobody reads left out -/
def prn (live : List Nat) (l : List (Nat × AV)) : List (Nat × AV) := live.map (fun k => (k, lk l k))
theorem prn_nil : prn [] l = [] := (rfl)
theorem prn_cons {k : Nat} {ks : List Nat} : prn (k :: ks) l = (k, lk l k) :: prn ks l := (rfl)
theorem lk_emp {t : Nat} : lk [] t = .top := (rfl)
theorem prn_lk {live : List Nat} {t : Nat} : lk (prn live l) t = .top ∨ lk (prn live l) t = lk l t := by
  induction live with
  | nil => exact .inl rfl
  | cons k ks ih =>
    simp only [prn_cons, lk]
    by_cases h : k = t
    · subst h; rw [if_pos rfl]; exact .inr rfl
    · rw [if_neg h]; exact ih
theorem acode_prune {c : Code} {Q : Exit → St → Prop} (live : List Nat) (h : acode P n0 pl (.loop c) Q ⟨prn live l, hp⟩) : acode P n0 pl (.loop c) Q ⟨l, hp⟩ :=
  acode_loop_wk (Wk.le fun _ => prn_lk) h
def hasN : List Nat → Nat → Bool
  | [], _ => false
  | k :: ks, t => Nat.beq k t || hasN ks t
theorem hasN_eq : ∀ {ks : List Nat} {t : Nat}, hasN ks t = ks.contains t
  | [], t => rfl
  | k :: ks, t => by
    simp only [hasN, List.contains_cons, hasN_eq (ks := ks)]
    congr 1
    by_cases h : k = t
    · subst h; simp
    · have : Nat.beq k t = false := by
        cases hb : Nat.beq k t with
        | false => rfl
        | true => exact absurd (Nat.eq_of_beq_eq_true hb) h
      rw [this]; simp [Ne.symm h]
def absL (tops topsL : List Nat) (l : List (Nat × AV)) : Bool := tops.all (fun t => hasN topsL t || !hasN (l.map (·.1)) t)
theorem lk_absent : ∀ {l : List (Nat × AV)} {t : Nat}, (l.map (·.1)).contains t = false → lk l t = .top
  | [], t, _ => rfl
  | (k, v) :: r, t, h => by
    simp only [List.map_cons, List.contains_cons, Bool.or_eq_false_iff, beq_eq_false_iff_ne, ne_eq] at h
    simp only [lk]
    rw [if_neg (Ne.symm h.1)]
    exact lk_absent h.2
theorem lk_tpL {tops topsL : List Nat} {t : Nat} (h : absL tops topsL l = true) : lk (tp topsL l) t = .top ∨ (tops.contains t = false ∧ lk (tp topsL l) t = lk l t) := by
  rw [lk_tp]
  by_cases hk : topsL.contains t = true
  · rw [if_pos hk]; exact .inl rfl
  · rw [if_neg hk]
    by_cases ht : tops.contains t = true
    · refine .inl (lk_absent ?_)
      have := List.all_eq_true.1 h t (by simpa using ht)
      simp only [Bool.or_eq_true, Bool.not_eq_true', hasN_eq] at this
      rcases this with g | g
      · exact absurd g hk
      · exact g
    · exact .inr ⟨by simpa using ht, rfl⟩
def flt (ks : List Nat) (l : List (Nat × AV)) : List (Nat × AV) := l.filter (fun p => !hasN ks p.1)
/-- only these slots have changed -/
def undK (ks : List Nat) (l sl : List (Nat × AV)) : Prop := (flt ks l).map (fun p => lk sl p.1) = (flt ks l).map (fun p => lk l p.1)
theorem undK_lk {ks : List Nat} {sl : List (Nat × AV)} (h : undK ks l sl) {t : Nat} (h1 : ks.contains t = false) : lk l t = .top ∨ lk sl t = lk l t := by
  by_cases ht : (l.map (·.1)).contains t = true
  · right
    simp only [List.contains_eq_mem, List.mem_map, decide_eq_true_eq] at ht
    obtain ⟨p, hp, rfl⟩ := ht
    have hm : p ∈ flt ks l := List.mem_filter.2 ⟨hp, by rw [hasN_eq, h1]; rfl⟩
    exact List.map_inj_left.1 h p hm
  · exact .inl (lk_absent (by simpa using ht))
theorem undK_refl {ks : List Nat} : undK ks l l := rfl
def lps2 {α : Type} (mods : α → List (Nat × AV)) (tops : List Nat) (l : List (Nat × AV)) (hp : List Ent) (J : α → Prop) (ν : α → Nat) (a : α) (Q : Exit → St → Prop) : Exit → St → Prop
  | .normal, s => ∃ a', agr s.sl (mods a') ∧ undK ((mods a').map (·.1) ++ tops) l s.sl ∧ s.hp = hp ∧ J a' ∧ ν a' < ν a
  | e, s => Q e s
theorem lps2_ret {α : Type} {mods : α → List (Nat × AV)} {tops : List Nat} {J : α → Prop} {ν : α → Nat} {a : α} {Q : Exit → St → Prop} {s : St} : lps2 mods tops l hp J ν a Q .ret s = Q .ret s := (rfl)
theorem lps2_exit {α : Type} {mods : α → List (Nat × AV)} {tops : List Nat} {J : α → Prop} {ν : α → Nat} {a : α} {Q : Exit → St → Prop} {id : Nat} {s : St} : lps2 mods tops l hp J ν a Q (.exit id) s = Q (.exit id) s := (rfl)
@[congr] theorem lps2_congr {α : Type} {mods : α → List (Nat × AV)} {tops : List Nat} {J : α → Prop} {ν : α → Nat} {a : α} {Q : Exit → St → Prop} {e : Exit} {s s' : St} (h : s = s') : lps2 mods tops l hp J ν a Q e s = lps2 mods tops l hp J ν a Q e s' := by rw [h]
def lpd2 {α : Type} (mods : α → List (Nat × AV)) (tops : List Nat) (l : List (Nat × AV)) (hp : List Ent) (J : α → Prop) (ν : α → Nat) (a : α) (Q : Exit → St → Prop) : Exit → St → Prop
  | .normal, s => ∃ a', agr s.sl (mods a') ∧ undK ((mods a').map (·.1) ++ tops) l s.sl ∧ (∃ ex, s.hp = hp ++ ex) ∧ nbig hp.length (mods a') = true ∧ J a' ∧ ν a' < ν a
  | e, s => Q e s
theorem lpd2_ret {α : Type} {mods : α → List (Nat × AV)} {tops : List Nat} {J : α → Prop} {ν : α → Nat} {a : α} {Q : Exit → St → Prop} {s : St} : lpd2 mods tops l hp J ν a Q .ret s = Q .ret s := (rfl)
theorem lpd2_exit {α : Type} {mods : α → List (Nat × AV)} {tops : List Nat} {J : α → Prop} {ν : α → Nat} {a : α} {Q : Exit → St → Prop} {id : Nat} {s : St} : lpd2 mods tops l hp J ν a Q (.exit id) s = Q (.exit id) s := (rfl)
@[congr] theorem lpd2_congr {α : Type} {mods : α → List (Nat × AV)} {tops : List Nat} {J : α → Prop} {ν : α → Nat} {a : α} {Q : Exit → St → Prop} {e : Exit} {s s' : St} (h : s = s') : lpd2 mods tops l hp J ν a Q e s = lpd2 mods tops l hp J ν a Q e s' := by rw [h]
def lpe2 {α : Type} (n0 : Nat) (mods : α → List (Nat × AV)) (tops : List Nat) (l : List (Nat × AV)) (W : List (Nat × Nat)) (hps : α → List Ent) (J : α → Prop) (ν : α → Nat) (a : α) (Q : Exit → St → Prop) : Exit → St → Prop
  | .normal, s => ∃ is a', is = isOf s.sl W n0 ((hps a').length - n0) ∧ (isB n0 s.hp.length is = true ∧ fixB n0 (hps a').length (W.map (·.2)) is = true ∧ okL (kept n0 is s.hp) = true) ∧ kept n0 is s.hp = hps a' ∧ agrR n0 is s.sl (mods a') ∧
      undK ((mods a').map (·.1) ++ tops) (clr (hps a').length (W.map (·.2)) l) s.sl ∧ J a' ∧ ν a' < ν a
  | e, s => Q e s
theorem lpe2_ret {α : Type} {mods : α → List (Nat × AV)} {tops : List Nat} {W : List (Nat × Nat)} {hps : α → List Ent} {J : α → Prop} {ν : α → Nat} {a : α} {Q : Exit → St → Prop} {s : St} : lpe2 n0 mods tops l W hps J ν a Q .ret s = Q .ret s := (rfl)
theorem lpe2_exit {α : Type} {mods : α → List (Nat × AV)} {tops : List Nat} {W : List (Nat × Nat)} {hps : α → List Ent} {J : α → Prop} {ν : α → Nat} {a : α} {Q : Exit → St → Prop} {id : Nat} {s : St} : lpe2 n0 mods tops l W hps J ν a Q (.exit id) s = Q (.exit id) s := (rfl)
@[congr] theorem lpe2_congr {α : Type} {mods : α → List (Nat × AV)} {tops : List Nat} {W : List (Nat × Nat)} {hps : α → List Ent} {J : α → Prop} {ν : α → Nat} {a : α} {Q : Exit → St → Prop} {e : Exit} {s s' : St} (h : s = s') : lpe2 n0 mods tops l W hps J ν a Q e s = lpe2 n0 mods tops l W hps J ν a Q e s' := by rw [h]
theorem sim8 : (type_of% @lps2_ret) ∧ (type_of% @lps2_exit) ∧ (type_of% @lpd2_ret) ∧ (type_of% @lpd2_exit) ∧ (type_of% @lpe2_ret) ∧ (type_of% @lpe2_exit) := ⟨@lps2_ret, @lps2_exit, @lpd2_ret, @lpd2_exit, @lpe2_ret, @lpe2_exit⟩
theorem lps2_end {α : Type} {mods : α → List (Nat × AV)} {tops : List Nat} {J : α → Prop} {ν : α → Nat} {a : α} {Q : Exit → St → Prop} {sl : List (Nat × AV)} (a' : α) (h1 : agr sl (mods a'))
    (h2 : undK ((mods a').map (·.1) ++ tops) l sl) (h3 : J a') (h4 : ν a' < ν a) : lps2 mods tops l hp J ν a Q .normal ⟨sl, hp⟩ := ⟨a', h1, h2, rfl, h3, h4⟩
theorem lpd2_end {α : Type} {mods : α → List (Nat × AV)} {tops : List Nat} {J : α → Prop} {ν : α → Nat} {a : α} {Q : Exit → St → Prop} {sl : List (Nat × AV)} {sh : List Ent} (a' : α) (h1 : agr sl (mods a'))
    (h2 : undK ((mods a').map (·.1) ++ tops) l sl) (ex : List Ent) (he : sh = hp ++ ex) (hb : nbig hp.length (mods a') = true) (h3 : J a') (h4 : ν a' < ν a) : lpd2 mods tops l hp J ν a Q .normal ⟨sl, sh⟩ := ⟨a', h1, h2, ⟨ex, he⟩, hb, h3, h4⟩
theorem acode_loopS2 {c : Code} {Q : Exit → St → Prop} {α : Type} (id : Nat) (hid : lid c = id) (mods : α → List (Nat × AV)) (tops topsL : List Nat) (hab : absL tops topsL l = true) (J : α → Prop) (ν : α → Nat) (a0 : α)
    (h0 : agr l (mods a0)) (hJ : J a0) (hr : ∀ a, J a → acode P n0 pl c (lps2 mods tops l hp J ν a Q) ⟨mods a ++ tp topsL l, hp⟩) : acode P n0 pl (.loop c) Q ⟨l, hp⟩ := by
  have wk : ∀ (s : St) (a : α), agr s.sl (mods a) → undK ((mods a).map (·.1) ++ tops) l s.sl → s.hp = hp → Wk n0 s ⟨mods a ++ tp topsL l, hp⟩ := by
    rintro ⟨sl, sh⟩ a h1 h2 rfl
    refine Wk.le fun t => ?_
    by_cases ht : ((mods a).map (·.1)).contains t = true
    · exact .inr (agr_lk h1 _ ht)
    · rw [lk_skip _ (by simpa using ht)]
      rcases lk_tpL (t := t) hab with h | ⟨hk, h⟩
      · exact .inl h
      · rw [h]
        have h7 := undK_lk h2 (t := t) (by simp at ht hk ⊢; exact ⟨ht, hk⟩)
        rcases h7 with h7 | h7
        · exact .inl h7
        · exact .inr h7.symm
  refine acode_loopT (fun a => ⟨mods a ++ tp topsL l, hp⟩) J ν a0 (wk ⟨l, hp⟩ a0 h0 undK_refl rfl) hJ ?_
  intro a ha
  refine acode_imp (hr a ha) ?_
  intro e s hq
  cases e with
  | normal =>
    obtain ⟨a', h1, h2, h3, h4, h5⟩ := hq
    exact ⟨a', wk s a' h1 h2 h3, h4, h5⟩
  | _ => exact hq
theorem acode_loopD2 {c : Code} {Q : Exit → St → Prop} {α : Type} (id : Nat) (hid : lid c = id) (mods : α → List (Nat × AV)) (tops topsL : List Nat) (hab : absL tops topsL l = true) (J : α → Prop) (ν : α → Nat) (a0 : α)
    (h0 : agr l (mods a0)) (hp0 : plnH hp = true) (hn : n0 ≤ hp.length) (hb : nbig hp.length l = true) (hJ : J a0) (hr : ∀ a, J a → acode P n0 pl c (lpd2 mods tops l hp J ν a Q) ⟨mods a ++ tp topsL l, hp⟩) : acode P n0 pl (.loop c) Q ⟨l, hp⟩ := by
  refine acode_loopT (fun a => ⟨mods a ++ tp topsL l, hp⟩) J ν a0 (Wk.le fun t => ?_) hJ ?_
  · by_cases ht : ((mods a0).map (·.1)).contains t = true
    · exact .inr (agr_lk h0 _ ht)
    · rw [lk_skip _ (by simpa using ht)]
      rcases lk_tpL (t := t) hab with h | ⟨hk, h⟩
      · exact .inl h
      · exact .inr h
  intro a ha
  refine acode_imp (hr a ha) ?_
  rintro e ⟨sl, sh⟩ hq
  cases e with
  | normal =>
    obtain ⟨a', h1, h2, ⟨ex, h3⟩, h4, h5, h6⟩ := hq
    refine ⟨a', ?_, h5, h6⟩
    simp only at h1 h2 h3
    subst h3
    have hk := kept_rng (ex := ex) hp0 hn
    refine Wk.keep (is := rngL n0 hp.length) (by simp; omega) ⟨?_, ?_⟩ hk fun t => ?_
    · simp only [isB, Bool.and_eq_true, List.all_eq_true, decide_eq_true_eq]
      refine ⟨ndB_range' _ _, fun i hi => ?_⟩
      simp only [rngL, List.mem_range'] at hi
      obtain ⟨j, hj, rfl⟩ := hi
      simp; omega
    · rw [hk]; exact okL_plnH hp0
    · by_cases ht : ((mods a').map (·.1)).contains t = true
      · have e1 := agr_lk h1 (tp topsL l) ht
        have e2 : AV.big hp.length [] (lk (mods a' ++ tp topsL l) t) = false := by
          have := nbig_lk h4 t
          have e3 : lk (mods a' ++ tp topsL l) t = lk (mods a') t := by
            clear e1 this h4 h1 h2
            generalize mods a' = ms at ht
            induction ms with
            | nil => simp at ht
            | cons q ms ih =>
              obtain ⟨k, v⟩ := q
              simp only [List.cons_append, lk]
              split
              · rfl
              · rename_i hne
                refine ih ?_
                simp at ht ⊢
                rcases ht with ht | ht
                · exact absurd ht.symm hne
                · exact ht
          rw [e3]; exact this
        refine .inr ?_
        rw [← e1, rn_fix fixB_rng e2]
      · rw [lk_skip _ (by simpa using ht)]
        rcases lk_tpL (t := t) hab with h | ⟨hk2, h⟩
        · exact .inl h
        · rw [h]
          rcases undK_lk h2 (t := t) (by simp at ht hk2 ⊢; exact ⟨ht, hk2⟩) with e1 | e1
          · exact .inl e1
          · rw [e1]
            exact .inr (rn_fix fixB_rng (nbig_lk hb t)).symm
  | _ => exact hq
theorem absL_clr {tops topsL : List Nat} {H : Nat} {V : List Nat} (h : absL tops topsL l = true) : absL tops topsL (clr H V l) = true := by
  have e : ∀ l : List (Nat × AV), (clr H V l).map (·.1) = l.map (·.1) := by
    intro l
    induction l with
    | nil => rfl
    | cons q r ih => obtain ⟨k, v⟩ := q; simp only [clr, List.map_cons, ih]
  unfold absL at h ⊢
  rw [e l]; exact h
theorem acode_loopE2 {c : Code} {Q : Exit → St → Prop} {α : Type} (id : Nat) (hid : lid c = id) (mods : α → List (Nat × AV)) (tops topsL : List Nat) (hab : absL tops topsL l = true) (W : List (Nat × Nat)) (hps : α → List Ent) (hlen : ∀ a, n0 ≤ (hps a).length) (hsame : ∀ a a', (hps a).length = (hps a').length) (J : α → Prop) (ν : α → Nat) (a0 : α)
    (h0 : agr l (mods a0)) (hh : hp = hps a0) (hJ : J a0) (hr : ∀ a, J a → acode P n0 pl c (lpe2 n0 mods tops l W hps J ν a Q) ⟨mods a ++ tp topsL (clr (hps a).length (W.map (·.2)) l), hps a⟩) : acode P n0 pl (.loop c) Q ⟨l, hp⟩ := by
  subst hh
  refine acode_loopT (fun a => ⟨mods a ++ tp topsL (clr (hps a).length (W.map (·.2)) l), hps a⟩) J ν a0 ?_ hJ ?_
  · refine Wk.le fun t => ?_
    by_cases ht : ((mods a0).map (·.1)).contains t = true
    · exact .inr (agr_lk h0 _ ht)
    · rw [lk_skip _ (by simpa using ht)]
      rcases lk_tpL (t := t) (absL_clr (H := (hps a0).length) (V := W.map (·.2)) hab) with h | ⟨hk, h⟩
      · exact .inl h
      · rw [h]
        rcases clr_lk (H := (hps a0).length) (V := W.map (·.2)) (l := l) (t := t) with h | h
        · exact .inl h
        · exact .inr h.1
  · intro a ha
    refine acode_imp (hr a ha) ?_
    rintro e ⟨sl, sh⟩ hq
    cases e with
    | normal =>
      obtain ⟨is, a', _, ⟨h1, h2, h3⟩, h4, h5, h6, h7, h8⟩ := hq
      refine ⟨a', ?_, h7, h8⟩
      simp only at h1 h3 h4 h5 h6
      have hn0 : n0 ≤ sh.length := by
        rcases Nat.lt_or_ge sh.length n0 with hlt | hge
        · exfalso
          have h9 := hlen a'
          rw [← h4] at h9
          have hz : is = [] := by
            cases is with
            | nil => rfl
            | cons i r => simp [isB] at h1; omega
          subst hz
          simp [kept] at h9
          omega
        · exact hge
      refine Wk.keep (is := is) hn0 ⟨h1, h3⟩ h4 fun t => ?_
      by_cases ht : ((mods a').map (·.1)).contains t = true
      · exact .inr (agrR_lk h5 _ ht)
      · rw [lk_skip _ (by simpa using ht)]
        rcases lk_tpL (t := t) (absL_clr (H := (hps a').length) (V := W.map (·.2)) hab) with h | ⟨hk, h⟩
        · exact .inl h
        · rw [h]
          rcases undK_lk h6 (t := t) (by simp at ht hk ⊢; exact ⟨ht, hk⟩) with hu | hu
          · exact .inl hu
          rw [hu]
          rcases clr_lk (H := (hps a').length) (V := W.map (·.2)) (l := l) (t := t) with h | h
          · exact .inl h
          · exact .inr (by rw [rn_fix h2 (by rw [h.1]; exact h.2)])
    | _ => exact hq
theorem lpe2_end0 {α : Type} {mods : α → List (Nat × AV)} {tops : List Nat} {W : List (Nat × Nat)} {hps : α → List Ent} {J : α → Prop} {ν : α → Nat} {a : α} {Q : Exit → St → Prop} {sl : List (Nat × AV)} {sh : List Ent} (is : List Nat) (a' : α)
    (h1 : is = isOf sl W 0 (hps a').length) (h2 : isB 0 sh.length is = true) (h3 : fixB 0 (hps a').length (W.map (·.2)) is = true) (h5 : is.map (fun i => sh.getD i .dead) = hps a') (hq : plnH (hps a') = true)
    (h6 : agrR 0 is sl (mods a')) (h7 : undK ((mods a').map (·.1) ++ tops) (clr (hps a').length (W.map (·.2)) l) sl) (h8 : J a') (h9 : ν a' < ν a) : lpe2 0 mods tops l W hps J ν a Q .normal ⟨sl, sh⟩ := by
  have hk := kept0 h5 hq
  exact ⟨is, a', by simpa using h1, ⟨h2, h3, by rw [hk]; exact okL_plnH hq⟩, hk, h6, h7, h8, h9⟩
theorem lpe2_endP {α : Type} {mods : α → List (Nat × AV)} {tops : List Nat} {hps : α → List Ent} {J : α → Prop} {ν : α → Nat} {a : α} {Q : Exit → St → Prop} {sl : List (Nat × AV)} {sh : List Ent} (a' : α)
    (hn : n0 ≤ (hps a').length) (ex : List Ent) (he : sh = hps a' ++ ex) (hq : plnH (hps a') = true) (hb : nbig (hps a').length (mods a') = true)
    (h6 : agr sl (mods a')) (h7 : undK ((mods a').map (·.1) ++ tops) (clr (hps a').length [] l) sl) (h8 : J a') (h9 : ν a' < ν a) : lpe2 n0 mods tops l [] hps J ν a Q .normal ⟨sl, sh⟩ := by
  have hk : kept n0 (rngL n0 (hps a').length) sh = hps a' := by rw [he]; exact kept_rng hq hn
  refine ⟨rngL n0 (hps a').length, a', by rw [isOf_nil]; rfl, ⟨?_, fixB_rng, by rw [hk]; exact okL_plnH hq⟩, hk, ?_, h7, h8, h9⟩
  · simp only [isB, Bool.and_eq_true, List.all_eq_true, decide_eq_true_eq]
    refine ⟨ndB_range' _ _, fun i hi => ?_⟩
    simp only [rngL, List.mem_range'] at hi
    obtain ⟨j, hj, rfl⟩ := hi
    simp [he]; omega
  · revert h6 hb
    generalize mods a' = ms
    induction ms with
    | nil => intro _ _; trivial
    | cons q ms ih =>
      obtain ⟨k, v⟩ := q
      intro hb h6
      simp only [nbig, List.all_cons, Bool.and_eq_true, Bool.not_eq_true'] at hb
      refine ⟨?_, ih hb.2 h6.2⟩
      rw [h6.1]
      exact rn_fix fixB_rng hb.1
/- what a goal is about: used to keep slow tactics away from it -/
theorem onCode {n0 : Nat} {pl : List (Nat × Plan)} {c : Code} {Q : Exit → St → Prop} {s : St} (h : acode P n0 pl c Q s) : acode P n0 pl c Q s := h
theorem onLid {c : Code} {Q : Exit → St → Prop} {s : St} (id : Nat) (h : acode P n0 pl (.loop c) Q s) (hid : lid c = id) : acode P n0 pl (.loop c) Q s := h
theorem onLps {α : Type} {mods : α → List (Nat × AV)} {tops : List Nat} {J : α → Prop} {ν : α → Nat} {a : α} {Q : Exit → St → Prop} {e : Exit} {s : St} (h : lps2 mods tops l hp J ν a Q e s) : lps2 mods tops l hp J ν a Q e s := h
theorem onLpd {α : Type} {mods : α → List (Nat × AV)} {tops : List Nat} {J : α → Prop} {ν : α → Nat} {a : α} {Q : Exit → St → Prop} {e : Exit} {s : St} (h : lpd2 mods tops l hp J ν a Q e s) : lpd2 mods tops l hp J ν a Q e s := h
theorem onLpe {α : Type} {mods : α → List (Nat × AV)} {tops : List Nat} {W : List (Nat × Nat)} {hps : α → List Ent} {J : α → Prop} {ν : α → Nat} {a : α} {Q : Exit → St → Prop} {e : Exit} {s : St} (h : lpe2 n0 mods tops l W hps J ν a Q e s) : lpe2 n0 mods tops l W hps J ν a Q e s := h
theorem onFin {r : AV} {K : AV → List Ent → Prop} (h : fin n0 r hp K) : fin n0 r hp K := h
theorem onCall {k : FuncId} {args : List AV} {K : AV → List Ent → Prop} (h : GC P k args hp K) : GC P k args hp K := h
theorem onQcall {k : FuncId} {args : List AV} {c : AV → Prop} (h : qcall P k args hp c) : qcall P k args hp c := h
theorem un_nil {k : Nat} : unnil k (.v (.slice none 0 0)) = .ref k 0 := (rfl)
theorem un_int {k : Nat} {t : IntKind} {n : Int} : unnil k (.v (.int t n)) = .v (.int t n) := (rfl)
theorem un_bool {k : Nat} {b : Bool} : unnil k (.v (.bool b)) = .v (.bool b) := (rfl)
theorem un_str {k : Nat} {b : ByteArray} : unnil k (.v (.string b)) = .v (.string b) := (rfl)
theorem un_agg {k : Nat} {cs : List AV} : unnil k (.agg cs) = .agg (unnil.unnilL k cs) := (rfl)
theorem un_tup {k : Nat} {cs : List AV} : unnil k (.tup cs) = .tup (unnil.unnilL k cs) := (rfl)
theorem unL_nil {k : Nat} : unnil.unnilL k [] = [] := (rfl)
theorem unL_cons {k : Nat} {c : AV} {cs : List AV} : unnil.unnilL k (c :: cs) = unnil k c :: unnil.unnilL k cs := (rfl)
theorem isB_eq {n : Nat} {is : List Nat} : isB n0 n is = (ndB is && is.all (fun i => decide (n0 ≤ i) && decide (i < n))) := (rfl)
theorem ndB_nil : ndB [] = true := (rfl)
theorem ndB_cons {i : Nat} {l : List Nat} : ndB (i :: l) = (!l.contains i && ndB l) := (rfl)
theorem ids_tup0 {cs : List AV} : ids (.tup cs) = ids.idsL cs := (rfl)
theorem funs : (type_of% @ids_tup0) ∧ (type_of% @idn_eq) ∧ (type_of% @un_nil) ∧ (type_of% @un_int) ∧ (type_of% @un_bool) ∧ (type_of% @un_str) ∧ (type_of% @un_agg) ∧ (type_of% @un_tup) ∧ (type_of% @unL_nil) ∧ (type_of% @unL_cons) ∧ (type_of% @isB_eq) ∧ (type_of% @ndB_nil) ∧ (type_of% @ndB_cons) ∧ (type_of% @ids_v) ∧ (type_of% @ids_sl) ∧ (type_of% @ids_ref) ∧ (type_of% @ids_rs) ∧ (type_of% @ids_ptr) ∧ (type_of% @ids_agg) ∧ (type_of% @idsL_nil) ∧ (type_of% @idsL_cons) :=
  ⟨@ids_tup0, @idn_eq, @un_nil, @un_int, @un_bool, @un_str, @un_agg, @un_tup, @unL_nil, @unL_cons, @isB_eq, @ndB_nil, @ndB_cons, @ids_v, @ids_sl, @ids_ref, @ids_rs, @ids_ptr, @ids_agg, @idsL_nil, @idsL_cons⟩
/-- rules of the library that every step uses -/
theorem simx : (type_of% (@Nat.le_refl)) ∧ (type_of% (@Int.toNat_natCast)) ∧ (type_of% (@beq_self_eq_true.{0})) ∧ (type_of% (@Nat.zero_add)) ∧ (type_of% (@Nat.add_zero)) ∧ (type_of% (@Nat.sub_zero)) ∧ (type_of% (@Nat.sub_self)) ∧ (type_of% (@List.getElem?_cons_succ.{0})) ∧ (type_of% (@List.getElem?_cons_zero.{0})) ∧ (type_of% (@List.getElem?_nil.{0})) ∧ (type_of% (@List.getD_cons_zero.{0})) ∧ (type_of% (@List.getD_cons_succ.{0})) ∧ (type_of% (@Option.getD_some.{0})) ∧ (type_of% (@Option.bind_some.{0, 0})) ∧ (type_of% (@Option.map_some.{0, 0})) ∧ (type_of% (@Option.map_none.{0, 0})) ∧ (type_of% (@List.map_cons.{0, 0})) ∧ (type_of% (@List.map_nil.{0, 0})) ∧ (type_of% (@List.length_cons.{0})) ∧ (type_of% (@List.length_nil.{0})) ∧ (type_of% (@List.length_append.{0})) ∧ (type_of% (@List.length_set.{0})) ∧ (type_of% (@List.length_map.{0, 0})) ∧ (type_of% (@List.drop_succ_cons.{0})) ∧ (type_of% (@List.drop_zero.{0})) ∧ (type_of% (@List.drop_nil.{0})) ∧ (type_of% (@List.take_succ_cons.{0})) ∧ (type_of% (@List.take_zero.{0})) ∧ (type_of% (@List.cons_append.{0})) ∧ (type_of% (@List.nil_append.{0})) ∧ (type_of% (@List.append_nil.{0})) ∧ (type_of% (@List.set_cons_zero.{0})) ∧ (type_of% (@List.set_cons_succ.{0})) ∧ (type_of% (@List.length_replicate.{0})) ∧ (type_of% (@decide_eq_true_eq)) ∧ (type_of% (@decide_eq_false_iff_not)) ∧ (type_of% (@Bool.not_eq_true')) ∧ (type_of% (@Bool.not_eq_false')) ∧ (type_of% (@true_and)) ∧ (type_of% (@and_true)) ∧ (type_of% (@and_self)) ∧ (type_of% (@true_or)) ∧ (type_of% (@Bool.not_true)) ∧ (type_of% (@Bool.not_false)) ∧ (type_of% (@Bool.not_not)) ∧ (type_of% (@Bool.true_eq_false)) ∧ (type_of% (@Bool.false_eq_true)) ∧ (type_of% (@false_implies)) ∧ (type_of% (@true_implies)) ∧ (type_of% (@forall_const.{0})) ∧ (type_of% (@Bool.false_or)) ∧ (type_of% (@Bool.or_false)) ∧ (type_of% (@Bool.true_or)) ∧ (type_of% (@Bool.or_true)) ∧ (type_of% (@List.contains_nil.{0})) ∧ (type_of% (@List.contains_cons.{0})) ∧ (type_of% (@Bool.and_true)) ∧ (type_of% (@Bool.true_and)) ∧ (type_of% (@Bool.and_self)) ∧ (type_of% (@decide_true)) ∧ (type_of% (@decide_false)) ∧ (type_of% (@Option.some.injEq.{0})) ∧ (type_of% (@forall_eq'.{0})) ∧ (type_of% (@forall_eq.{0})) :=
  ⟨@Nat.le_refl, @Int.toNat_natCast, @beq_self_eq_true.{0}, @Nat.zero_add, @Nat.add_zero, @Nat.sub_zero, @Nat.sub_self, @List.getElem?_cons_succ.{0}, @List.getElem?_cons_zero.{0}, @List.getElem?_nil.{0}, @List.getD_cons_zero.{0}, @List.getD_cons_succ.{0}, @Option.getD_some.{0}, @Option.bind_some.{0, 0}, @Option.map_some.{0, 0}, @Option.map_none.{0, 0}, @List.map_cons.{0, 0}, @List.map_nil.{0, 0}, @List.length_cons.{0}, @List.length_nil.{0}, @List.length_append.{0}, @List.length_set.{0}, @List.length_map.{0, 0}, @List.drop_succ_cons.{0}, @List.drop_zero.{0}, @List.drop_nil.{0}, @List.take_succ_cons.{0}, @List.take_zero.{0}, @List.cons_append.{0}, @List.nil_append.{0}, @List.append_nil.{0}, @List.set_cons_zero.{0}, @List.set_cons_succ.{0}, @List.length_replicate.{0}, @decide_eq_true_eq, @decide_eq_false_iff_not, @Bool.not_eq_true', @Bool.not_eq_false', @true_and, @and_true, @and_self, @true_or, @Bool.not_true, @Bool.not_false, @Bool.not_not, @Bool.true_eq_false, @Bool.false_eq_true, @false_implies, @true_implies, @forall_const.{0}, @Bool.false_or, @Bool.or_false, @Bool.true_or, @Bool.or_true, @List.contains_nil.{0}, @List.contains_cons.{0}, @Bool.and_true, @Bool.true_and, @Bool.and_self, @decide_true, @decide_false, @Option.some.injEq.{0}, @forall_eq'.{0}, @forall_eq.{0}⟩
end Eng
end Go.Proofs.Ytgcmahhejblpkaa
