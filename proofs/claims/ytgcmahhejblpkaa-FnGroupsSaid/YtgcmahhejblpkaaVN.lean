/-
An abstract interpreter of the program's code on plain data: part N, loops over blocks that hold own slices, as many as there are.
No condition: everything here is stated over any program.
-/
import Derived.Test.YtgcmahhejblpkaaVZ
namespace Go.Proofs.Ytgcmahhejblpkaa
namespace Eng
set_option linter.unusedVariables false
set_option linter.unusedSimpArgs false

variable {P : Program} {n0 : Nat} {pl : List (Nat × Plan)} {hp hs : List Ent} {l : List (Nat × AV)} {m : Mp} {w : World} {F : Nat → Prop}

/-- what a round's end is asked, where the entries in V may turn -/
def lpe3 {α : Type} (n0 : Nat) (mods : α → List (Nat × AV)) (tops : List Nat) (l : List (Nat × AV)) (V : List Nat) (hps : α → List Ent) (J : α → Prop) (ν : α → Nat) (a : α) (Q : Exit → St → Prop) : Exit → St → Prop
  | .normal, s => ∃ is a', (isB n0 s.hp.length is = true ∧ fixB n0 (hps a').length V is = true ∧ okL (kept n0 is s.hp) = true) ∧ kept n0 is s.hp = hps a' ∧ agrR n0 is s.sl (mods a') ∧
      undK ((mods a').map (·.1) ++ tops) (clr (hps a').length V l) s.sl ∧ J a' ∧ ν a' < ν a
  | e, s => Q e s
theorem lpe3_ret {α : Type} {mods : α → List (Nat × AV)} {tops : List Nat} {V : List Nat} {hps : α → List Ent} {J : α → Prop} {ν : α → Nat} {a : α} {Q : Exit → St → Prop} {s : St} : lpe3 n0 mods tops l V hps J ν a Q .ret s = Q .ret s := (rfl)
theorem lpe3_exit {α : Type} {mods : α → List (Nat × AV)} {tops : List Nat} {V : List Nat} {hps : α → List Ent} {J : α → Prop} {ν : α → Nat} {a : α} {Q : Exit → St → Prop} {id : Nat} {s : St} : lpe3 n0 mods tops l V hps J ν a Q (.exit id) s = Q (.exit id) s := (rfl)
@[congr] theorem lpe3_congr {α : Type} {mods : α → List (Nat × AV)} {tops : List Nat} {V : List Nat} {hps : α → List Ent} {J : α → Prop} {ν : α → Nat} {a : α} {Q : Exit → St → Prop} {e : Exit} {s s' : St} (h : s = s') : lpe3 n0 mods tops l V hps J ν a Q e s = lpe3 n0 mods tops l V hps J ν a Q e s' := by rw [h]
theorem onLpe3 {α : Type} {mods : α → List (Nat × AV)} {tops : List Nat} {V : List Nat} {hps : α → List Ent} {J : α → Prop} {ν : α → Nat} {a : α} {Q : Exit → St → Prop} {e : Exit} {s : St} (h : lpe3 n0 mods tops l V hps J ν a Q e s) : lpe3 n0 mods tops l V hps J ν a Q e s := h
theorem acode_loopE3 {c : Code} {Q : Exit → St → Prop} {α : Type} (id : Nat) (hid : lid c = id) (mods : α → List (Nat × AV)) (tops topsL : List Nat) (hab : absL tops topsL l = true) (V : List Nat) (hps : α → List Ent) (hlen : ∀ a, n0 ≤ (hps a).length) (J : α → Prop) (ν : α → Nat) (a0 : α)
    (h0 : agr l (mods a0)) (hh : hp = hps a0) (hJ : J a0) (hr : ∀ a, J a → acode P n0 pl c (lpe3 n0 mods tops l V hps J ν a Q) ⟨mods a ++ tp topsL (clr (hps a).length V l), hps a⟩) : acode P n0 pl (.loop c) Q ⟨l, hp⟩ := by
  subst hh
  refine acode_loopT (fun a => ⟨mods a ++ tp topsL (clr (hps a).length V l), hps a⟩) J ν a0 ?_ hJ ?_
  · refine Wk.le fun t => ?_
    by_cases ht : ((mods a0).map (·.1)).contains t = true
    · exact .inr (agr_lk h0 _ ht)
    · rw [lk_skip _ (by simpa using ht)]
      rcases lk_tpL (t := t) (absL_clr (H := (hps a0).length) (V := V) hab) with h | ⟨hk, h⟩
      · exact .inl h
      · rw [h]
        rcases clr_lk (H := (hps a0).length) (V := V) (l := l) (t := t) with h | h
        · exact .inl h
        · exact .inr h.1
  · intro a ha
    refine acode_imp (hr a ha) ?_
    rintro e ⟨sl, sh⟩ hq
    cases e with
    | normal =>
      obtain ⟨is, a', ⟨h1, h2, h3⟩, h4, h5, h6, h7, h8⟩ := hq
      refine ⟨a', ?_, h7, h8⟩
      simp only at h1 h3 h4 h5 h6
      have hn0 : n0 ≤ sh.length := by
        rcases Nat.lt_or_ge sh.length n0 with hlt | hge
        · exfalso
          have h9 := hlen a'
          rw [← h4] at h9
          have hz : is = [] := by
            cases is with
            | nil => rfl
            | cons i r => simp [isB] at h1; omega
          subst hz
          simp [kept] at h9
          omega
        · exact hge
      refine Wk.keep (is := is) hn0 ⟨h1, h3⟩ h4 fun t => ?_
      by_cases ht : ((mods a').map (·.1)).contains t = true
      · exact .inr (agrR_lk h5 _ ht)
      · rw [lk_skip _ (by simpa using ht)]
        rcases lk_tpL (t := t) (absL_clr (H := (hps a').length) (V := V) hab) with h | ⟨hk, h⟩
        · exact .inl h
        · rw [h]
          rcases undK_lk h6 (t := t) (by simp at ht hk ⊢; exact ⟨ht, hk⟩) with hu | hu
          · exact .inl hu
          rw [hu]
          rcases clr_lk (H := (hps a').length) (V := V) (l := l) (t := t) with h | h
          · exact .inl h
          · exact .inr (by rw [rn_fix h2 (by rw [h.1]; exact h.2)])
    | _ => exact hq
theorem lpe3_end {α : Type} {mods : α → List (Nat × AV)} {tops : List Nat} {V : List Nat} {hps : α → List Ent} {J : α → Prop} {ν : α → Nat} {a : α} {Q : Exit → St → Prop} {sl : List (Nat × AV)} {sh : List Ent} (is : List Nat) (a' : α)
    (h2 : isB 0 sh.length is = true) (h3 : fixB 0 (hps a').length V is = true) (h5 : is.map (fun i => rnE 0 is (sh.getD i .dead)) = hps a') (hq : okL (hps a') = true)
    (h6 : agrR 0 is sl (mods a')) (h7 : undK ((mods a').map (·.1) ++ tops) (clr (hps a').length V l) sl) (h8 : J a') (h9 : ν a' < ν a) : lpe3 0 mods tops l V hps J ν a Q .normal ⟨sl, sh⟩ := by
  have hk : kept 0 is sh = hps a' := by rw [← h5]; simp [kept]
  exact ⟨is, a', ⟨h2, h3, by rw [hk]; exact hq⟩, hk, h6, h7, h8, h9⟩

/- blocks that hold slices of blocks -/
section
variable {α : Type} {f : α → List AV} {z : Nat} {gs : List (List α)} {X : List Ent} {k : Nat}
/-- the outer block: slice k lies in block k + 1 -/
def nestC (gs : List (List α)) : List (List AV) := (List.range gs.length).map fun k => [.ref (k + 1) (gs.getD k []).length]
def nestI (z : Nat) (f : α → List AV) (gs : List (List α)) : List Ent := gs.map fun g => .arr z (g.map f)
def nestH (z : Nat) (f : α → List AV) (gs : List (List α)) : List Ent := .arr 1 (nestC gs) :: nestI z f gs
theorem nestC_len : (nestC gs).length = gs.length := by simp [nestC]
theorem nestI_len : (nestI z f gs).length = gs.length := by simp [nestI]
theorem nestH_len : (nestH z f gs).length = gs.length + 1 := by simp [nestH, nestI]
theorem nestC_get (h : k < gs.length) : (nestC gs)[k]? = some [.ref (k + 1) (gs.getD k []).length] := by
  unfold nestC; rw [List.getElem?_map, List.getElem?_range h]; rfl
theorem nestI_get (h : k < gs.length) : (nestI z f gs)[k]? = some (.arr z ((gs.getD k []).map f)) := by
  unfold nestI
  rw [List.getElem?_map]
  simp [List.getD, List.getElem?_eq_getElem h]
theorem nestI_app (h : k < gs.length) : (nestI z f gs ++ X)[k]? = some (.arr z ((gs.getD k []).map f)) := by
  rw [List.getElem?_append_left (by rw [nestI_len]; exact h), nestI_get h]
theorem nestI_new : (nestI z f gs ++ X)[gs.length + k]? = X[k]? := by
  rw [List.getElem?_append_right (by rw [nestI_len]; omega), nestI_len]; congr 1; omega
theorem nestI_new0 : (nestI z f gs ++ X)[gs.length]? = X[0]? := nestI_new (k := 0)
theorem nestI_setN {v : Ent} : (nestI z f gs ++ X).set (gs.length + k) v = nestI z f gs ++ X.set k v := by
  rw [List.set_append_right _ _ (by rw [nestI_len]; omega), nestI_len]; congr 2; omega
theorem nestI_set0 {v : Ent} : (nestI z f gs ++ X).set gs.length v = nestI z f gs ++ X.set 0 v := nestI_setN (k := 0)
theorem nestI_setG {v : Ent} (h : k < gs.length) : (nestI z f gs ++ X).set k v = (nestI z f gs).set k v ++ X := by
  rw [List.set_append_left _ _ (by rw [nestI_len]; exact h)]
theorem pos_at : ∀ {is : List Nat} {i x : Nat}, is.Nodup → is[i]? = some x → pos x is = some i
  | [], i, x, _, h => by simp at h
  | y :: r, i, x, hn, h => by
    unfold pos
    cases i with
    | zero => simp at h; subst h; rw [if_pos rfl]
    | succ i =>
      rw [List.getElem?_cons_succ] at h
      rw [List.nodup_cons] at hn
      have hm : x ∈ r := List.mem_of_getElem? h
      have hne : ¬ y = x := fun e => hn.1 (by rw [e]; exact hm)
      rw [if_neg hne, pos_at hn.2 h]; rfl
theorem ndB_of : ∀ {is : List Nat}, is.Nodup → ndB is = true
  | [], _ => rfl
  | i :: r, h => by
    rw [List.nodup_cons] at h
    simp only [ndB, Bool.and_eq_true, Bool.not_eq_true']
    exact ⟨by simpa using h.1, ndB_of h.2⟩
theorem nest_okL (hf : ∀ x, (f x).all pln = true) : okL (nestH z f gs) = true := by
  have h1 : ∀ (hs : List Ent), (∀ e ∈ hs, okE e = true) → okL hs = true := by
    intro hs
    induction hs with
    | nil => intro _; rfl
    | cons e r ih => intro h; simp only [okL, Bool.and_eq_true]; exact ⟨h e (by simp), ih fun x hx => h x (by simp [hx])⟩
  refine h1 _ fun e he => ?_
  unfold nestH at he
  rcases List.mem_cons.1 he with rfl | he
  · simp only [okE, Bool.or_eq_true, List.all_eq_true]
    right
    intro x hx
    unfold nestC at hx
    obtain ⟨k, _, rfl⟩ := List.mem_map.1 hx
    rfl
  · unfold nestI at he
    obtain ⟨g, _, rfl⟩ := List.mem_map.1 he
    simp only [okE, Bool.or_eq_true]
    exact .inl (plnLL_map hf _)
theorem rnL_pl {is : List Nat} : ∀ {b : List AV}, (b.all pln) = true → rn.rnL n0 is b = b
  | [], _ => rfl
  | x :: b, h => by
    simp only [List.all_cons, Bool.and_eq_true] at h
    simp only [rn.rnL, rnL_pl h.2]
    have hx := h.1
    cases x <;> simp [pln] at hx <;> rfl
/-- blocks that hold slices of blocks, told anew: r is the outer block, js are the inner ones -/
theorem nest_end (hf : ∀ x, (f x).all pln = true) {sh : List Ent} {r : Nat} {js : List Nat} {cs : List (List AV)} (hr : sh[r]? = some (.arr 1 cs)) (hl : js.length = gs.length) (hcl : cs.length = gs.length)
    (hc : ∀ k j, k < gs.length → js[k]? = some j → cs[k]? = some [.ref j (gs.getD k []).length] ∧ sh[j]? = some (.arr z ((gs.getD k []).map f))) (hn : (r :: js).Nodup) :
    isB 0 sh.length (r :: js) = true ∧ (r :: js).map (fun i => rnE 0 (r :: js) (sh.getD i .dead)) = nestH z f gs := by
  constructor
  · simp only [isB, Bool.and_eq_true, List.all_eq_true, decide_eq_true_eq]
    refine ⟨ndB_of hn, fun i hi => ⟨Nat.zero_le _, ?_⟩⟩
    rcases List.mem_cons.1 hi with rfl | hi
    · exact lt_of_some hr
    · obtain ⟨k, hk, e⟩ := List.getElem_of_mem hi
      exact lt_of_some (hc k i (by omega) (by rw [List.getElem?_eq_getElem hk, e])).2
  · unfold nestH
    rw [List.map_cons]
    congr 1
    · simp only [List.getD, hr, Option.getD_some, rnE, rnLL]
      congr 1
      have e2 : cs.map (rn.rnL 0 (r :: js)) = nestC gs := by
        apply List.ext_getElem?
        intro k
        by_cases hk : k < gs.length
        · have hj : js[k]? = some (js[k]'(by omega)) := List.getElem?_eq_getElem (by omega)
          rw [List.getElem?_map, (hc k _ hk hj).1, nestC_get hk]
          have hp : pos (js[k]'(by omega)) (r :: js) = some (k + 1) := pos_at hn (by rw [List.getElem?_cons_succ]; exact hj)
          simp only [Option.map_some, rn.rnL, rn, rnId, Nat.not_lt_zero, if_false, hp, Option.map_some, Nat.zero_add]
        · rw [List.getElem?_eq_none (by rw [List.length_map]; omega), List.getElem?_eq_none (by rw [nestC_len]; omega)]
      split
      · rename_i hp
        rw [← e2]
        have e3 : ∀ x ∈ cs, rn.rnL 0 (r :: js) x = id x := by
          intro x hx
          refine rnL_pl ?_
          exact List.all_eq_true.2 fun d hd => plnLL_get hp hx hd
        rw [List.map_congr_left e3, List.map_id]
      · exact e2
    · apply List.ext_getElem?
      intro k
      by_cases hk : k < gs.length
      · have hj : js[k]? = some (js[k]'(by omega)) := List.getElem?_eq_getElem (by omega)
        rw [List.getElem?_map, hj, nestI_get hk]
        simp only [Option.map_some, List.getD, (hc k _ hk hj).2, Option.getD_some]
        rw [rnE_pln (plnLL_map hf _)]
      · rw [List.getElem?_eq_none (by rw [List.length_map]; omega), List.getElem?_eq_none (by rw [nestI_len]; omega)]
theorem nest_self (hf : ∀ x, (f x).all pln = true) : isB 0 (nestH z f gs).length (0 :: (List.range gs.length).map (· + 1)) = true ∧ (0 :: (List.range gs.length).map (· + 1)).map (fun i => rnE 0 (0 :: (List.range gs.length).map (· + 1)) ((nestH z f gs).getD i .dead)) = nestH z f gs := by
  refine nest_end (r := 0) (js := (List.range gs.length).map (· + 1)) (cs := nestC gs) hf rfl (by simp) nestC_len ?_ ?_
  · intro k j hk hj
    rw [List.getElem?_map, List.getElem?_range hk] at hj
    simp only [Option.map_some, Option.some.injEq] at hj
    subst hj
    exact ⟨nestC_get hk, by unfold nestH; rw [List.getElem?_cons_succ]; exact nestI_get hk⟩
  · rw [List.nodup_cons]
    refine ⟨by simp, ?_⟩
    exact List.Pairwise.map _ (fun a b h => by omega) List.nodup_range
theorem fz_nest (hf : ∀ x, (f x).all pln = true) (hz : ∀ x, (f x).length = z) : Fz (nestH z f gs) (.ref 0 gs.length) (.sl 1 (gs.map fun g => [.sl z (g.map f)])) := by
  refine .ref 0 gs.length 1 (nestC gs) _ rfl (by rw [nestC_len]; exact Nat.le_refl _) (by simp) ?_ ?_ ?_ ?_
  · intro e he
    obtain ⟨g, _, rfl⟩ := List.mem_map.1 he
    rfl
  · intro e he d hd
    obtain ⟨g, _, rfl⟩ := List.mem_map.1 he
    simp only [List.mem_singleton] at hd
    subst hd; rfl
  · intro e he
    unfold nestC at he
    obtain ⟨k, _, rfl⟩ := List.mem_map.1 he
    rfl
  · intro i o e e' x d h1 h2 h3 h4
    have hi : i < gs.length := by
      have := lt_of_some h1; rwa [nestC_len] at this
    rw [nestC_get hi] at h1
    simp only [Option.some.injEq] at h1
    subst h1
    rw [List.getElem?_map, List.getElem?_eq_getElem hi] at h2
    simp only [Option.map_some, Option.some.injEq] at h2
    subst h2
    have ho : o = 0 := by
      have := lt_of_some h3; simp at this; exact this
    subst ho
    simp only [List.getElem?_cons_zero, Option.some.injEq] at h3 h4
    subst h3; subst h4
    have e1 : gs.getD i [] = gs[i] := by simp [List.getD, List.getElem?_eq_getElem hi]
    rw [e1]
    refine fz_ref ?_ rfl hz hf
    unfold nestH
    rw [List.getElem?_cons_succ, nestI_get hi, e1]
theorem fin_nest (hf : ∀ x, (f x).all pln = true) (hz : ∀ x, (f x).length = z) : fin 0 (.ref 0 gs.length) (nestH z f gs) (fun r' hs => Fz hs r' (.sl 1 (gs.map fun g => [.sl z (g.map f)]))) := by
  obtain ⟨h1, h2⟩ := nest_self (gs := gs) (z := z) hf
  have hk : kept 0 (0 :: (List.range gs.length).map (· + 1)) (nestH z f gs) = nestH z f gs := by
    simp only [kept, List.take_zero, List.map_nil, List.nil_append]; exact h2
  refine ⟨0 :: (List.range gs.length).map (· + 1), ⟨h1, by rw [hk]; exact nest_okL hf⟩, ?_⟩
  rw [hk]
  exact fz_nest hf hz
theorem fix_all {V : List Nat} {H : Nat} {is : List Nat} (h : ∀ i, i < H → V.contains i = true) : fixB 0 H V is = true := by
  simp only [fixB, List.all_eq_true, List.mem_range, Bool.or_eq_true]
  exact fun i hi => .inl (.inr (h i hi))
theorem fix_rng {H n : Nat} {is : List Nat} (h : H ≤ n) : fixB 0 H (List.range n) is = true :=
  fix_all fun i hi => by simp; omega
end
section
variable {α : Type} {f : α → List AV} {z : Nat} {gs : List (List α)} {X : List Ent} {c : AV → Prop} {ce : List Ent → Prop}
theorem loadS_nest {n i : Nat} : loadS false n i 0 c (nestC gs) = (i < gs.length ∧ c (.ref (i + 1) (gs.getD i []).length)) := by
  unfold loadS
  rw [nestC_len]
  by_cases h : i < gs.length
  · rw [nestC_get h]; simp [h, rd]
  · simp [h]
theorem stoS_nest {v : AV} {id sz i : Nat} : stoS id 0 1 sz i [v] hp ce (nestC gs) = (i < gs.length ∧ ce (hp.set id (.arr sz ((nestC gs).set i [v])))) := by
  unfold stoS
  rw [nestC_len]
  by_cases h : i < gs.length
  · rw [nestC_get h]; simp [h, wr]
  · simp [h]
theorem idx_in {zz id k : Nat} {n : Int} (h : k < gs.length) (hh : z = zz ∧ c (.ptr id n.toNat 0)) : idxE0 zz n id c ((nestI z f gs ++ X)[k]?) := by
  rw [nestI_app h]; exact hh
theorem idx_in0 {zz id k : Nat} {n : Int} (h : k < gs.length) (hh : z = zz ∧ c (.ptr id n.toNat 0)) : idxE0 zz n id c ((nestI z f gs)[k]?) := by
  rw [nestI_get h]; exact hh
theorem load_in {gg : Bool} {n i o k : Nat} (h : k < gs.length) (hh : loadS gg n i o c ((gs.getD k []).map f)) : loadP gg n i o c ((nestI z f gs ++ X)[k]?) := by
  rw [nestI_app h]; exact hh
theorem load_in0 {gg : Bool} {n i o k : Nat} (h : k < gs.length) (hh : loadS gg n i o c ((gs.getD k []).map f)) : loadP gg n i o c ((nestI z f gs)[k]?) := by
  rw [nestI_get h]; exact hh
theorem app_in {id len sz k : Nat} {ys : List (List AV)} {ce : AV → List Ent → Prop} (h : k < gs.length) (hh : appE hp id len sz ys ce (some (.arr z ((gs.getD k []).map f)))) : appE hp id len sz ys ce ((nestI z f gs ++ X)[k]?) := by
  rw [nestI_app h]; exact hh
theorem rn_r {r n : Nat} {js : List Nat} : rn 0 (r :: js) (.ref r n) = .ref 0 n := by simp [rn, rnId, pos]
theorem nd_rng {n q : Nat} : (0 :: (List.range n).map (· + 1)).Nodup := by
  rw [List.nodup_cons]
  exact ⟨by simp, List.Pairwise.map _ (fun a b h => by omega) List.nodup_range⟩
theorem join_end (hf : ∀ x, (f x).all pln = true) {b1 b2 : Ent} {g : Nat} {x : α} (hg : g < gs.length) :
    isB 0 (Ent.arr 1 ((nestC gs).set g [.ref (gs.length + 2 + 1) ((gs.getD g []).length + 1)]) :: ((nestI z f gs ++ [b1, b2]).set g .dead ++ [.arr z ((gs.getD g [] ++ [x]).map f)])).length (0 :: ((List.range gs.length).map (· + 1)).set g (gs.length + 3)) = true ∧
    (0 :: ((List.range gs.length).map (· + 1)).set g (gs.length + 3)).map (fun i => rnE 0 (0 :: ((List.range gs.length).map (· + 1)).set g (gs.length + 3)) ((Ent.arr 1 ((nestC gs).set g [.ref (gs.length + 2 + 1) ((gs.getD g []).length + 1)]) :: ((nestI z f gs ++ [b1, b2]).set g .dead ++ [.arr z ((gs.getD g [] ++ [x]).map f)])).getD i .dead)) = nestH z f (gs.set g (gs.getD g [] ++ [x])) := by
  refine nest_end (gs := gs.set g (gs.getD g [] ++ [x])) (r := 0) (cs := (nestC gs).set g [.ref (gs.length + 2 + 1) ((gs.getD g []).length + 1)]) hf rfl (by simp) (by rw [List.length_set, List.length_set, nestC_len]) ?_ ?_
  · intro k j hk hj
    rw [List.length_set] at hk
    have hgd : (gs.set g (gs.getD g [] ++ [x])).getD k [] = if g = k then gs.getD g [] ++ [x] else gs.getD k [] := by
      simp only [List.getD, List.getElem?_set]
      split
      · rename_i e; subst e; simp [hk]
      · rfl
    have hln : ((nestI z f gs ++ [b1, b2]).set g .dead).length = gs.length + 2 := by rw [List.length_set, List.length_append, nestI_len]; rfl
    rw [hgd]
    by_cases e : g = k
    · subst e
      rw [if_pos rfl]
      rw [List.getElem?_set_self (by simp; exact hk)] at hj
      simp only [Option.some.injEq] at hj
      subst hj
      constructor
      · rw [List.getElem?_set_self (by rw [nestC_len]; exact hk)]
        simp
      · rw [List.getElem?_cons_succ, List.getElem?_append_right (by rw [hln]; omega), hln]
        simp
    · rw [if_neg e]
      rw [List.getElem?_set_ne e, List.getElem?_map, List.getElem?_range hk] at hj
      simp only [Option.map_some, Option.some.injEq] at hj
      subst hj
      constructor
      · rw [List.getElem?_set_ne e, nestC_get hk]
      · rw [List.getElem?_cons_succ, List.getElem?_append_left (by rw [hln]; omega), List.getElem?_set_ne e, nestI_app hk]
  · rw [List.nodup_cons]
    constructor
    · intro hm
      rcases List.mem_or_eq_of_mem_set hm with h | h
      · simp at h
      · omega
    · unfold List.Nodup
      rw [List.pairwise_iff_getElem]
      intro i j hi hj hij
      rw [List.length_set, List.length_map, List.length_range] at hi hj
      rw [List.getElem_set, List.getElem_set]
      by_cases e1 : g = i
      · have e2 : ¬ g = j := by omega
        rw [if_pos e1, if_neg e2]; simp; omega
      · by_cases e2 : g = j
        · rw [if_neg e1, if_pos e2]; simp; omega
        · rw [if_neg e1, if_neg e2]; simp; omega
theorem push_end (hf : ∀ x, (f x).all pln = true) {b1 b2 : Ent} {x : α} :
    isB 0 (Ent.dead :: (nestI z f gs ++ [b1, .arr z [f x], b2, .arr 1 (nestC gs ++ [[.ref (gs.length + 1 + 1) 1]])])).length ((gs.length + 4) :: ((List.range gs.length).map (· + 1) ++ [gs.length + 2])) = true ∧
    ((gs.length + 4) :: ((List.range gs.length).map (· + 1) ++ [gs.length + 2])).map (fun i => rnE 0 ((gs.length + 4) :: ((List.range gs.length).map (· + 1) ++ [gs.length + 2])) ((Ent.dead :: (nestI z f gs ++ [b1, .arr z [f x], b2, .arr 1 (nestC gs ++ [[.ref (gs.length + 1 + 1) 1]])])).getD i .dead)) = nestH z f (gs ++ [[x]]) := by
  refine nest_end (gs := gs ++ [[x]]) (cs := nestC gs ++ [[.ref (gs.length + 1 + 1) 1]]) hf ?_ (by simp) (by simp [nestC_len]) ?_ ?_
  · rw [List.getElem?_cons_succ, nestI_new]; rfl
  · intro k j hk hj
    simp only [List.length_append, List.length_cons, List.length_nil] at hk
    by_cases e : k < gs.length
    · rw [List.getElem?_append_left (by simp; exact e), List.getElem?_map, List.getElem?_range e] at hj
      simp only [Option.map_some, Option.some.injEq] at hj
      subst hj
      have hgd : (gs ++ [[x]]).getD k [] = gs.getD k [] := by simp only [List.getD]; rw [List.getElem?_append_left e]
      rw [hgd]
      constructor
      · rw [List.getElem?_append_left (by rw [nestC_len]; exact e), nestC_get e]
      · rw [List.getElem?_cons_succ, nestI_app e]
    · have ek : k = gs.length := by omega
      subst ek
      rw [List.getElem?_append_right (by simp)] at hj
      simp only [List.length_map, List.length_range, Nat.sub_self, List.getElem?_cons_zero, Option.some.injEq] at hj
      subst hj
      have hgd : (gs ++ [[x]]).getD gs.length [] = [x] := by simp [List.getD]
      rw [hgd]
      constructor
      · rw [List.getElem?_append_right (by rw [nestC_len]; omega), nestC_len, Nat.sub_self]; rfl
      · rw [List.getElem?_cons_succ, nestI_new]; rfl
  · rw [List.nodup_cons]
    constructor
    · intro hm
      rcases List.mem_append.1 hm with h | h
      · simp at h; omega
      · simp at h
    · rw [List.nodup_append]
      refine ⟨List.Pairwise.map _ (fun a b h => by omega) List.nodup_range, by simp, ?_⟩
      intro a ha b hb
      simp at ha hb
      omega
theorem join_endX (hf : ∀ x, (f x).all pln = true) {X : List Ent} {q g : Nat} {x : α} (hg : g < gs.length) (hq : q = gs.length + X.length + 1) :
    isB 0 (Ent.arr 1 ((nestC gs).set g [.ref q ((gs.getD g []).length + 1)]) :: ((nestI z f gs ++ X).set g .dead ++ [.arr z ((gs.getD g [] ++ [x]).map f)])).length (0 :: ((List.range gs.length).map (· + 1)).set g q) = true ∧
    (0 :: ((List.range gs.length).map (· + 1)).set g q).map (fun i => rnE 0 (0 :: ((List.range gs.length).map (· + 1)).set g q) ((Ent.arr 1 ((nestC gs).set g [.ref q ((gs.getD g []).length + 1)]) :: ((nestI z f gs ++ X).set g .dead ++ [.arr z ((gs.getD g [] ++ [x]).map f)])).getD i .dead)) = nestH z f (gs.set g (gs.getD g [] ++ [x])) := by
  refine nest_end (gs := gs.set g (gs.getD g [] ++ [x])) (r := 0) (cs := (nestC gs).set g [.ref q ((gs.getD g []).length + 1)]) hf rfl (by simp) (by rw [List.length_set, List.length_set, nestC_len]) ?_ ?_
  · intro k j hk hj
    rw [List.length_set] at hk
    have hgd : (gs.set g (gs.getD g [] ++ [x])).getD k [] = if g = k then gs.getD g [] ++ [x] else gs.getD k [] := by
      simp only [List.getD, List.getElem?_set]
      split
      · rename_i e; subst e; simp [hk]
      · rfl
    have hln : ((nestI z f gs ++ X).set g .dead).length = gs.length + X.length := by rw [List.length_set, List.length_append, nestI_len]
    rw [hgd]
    by_cases e : g = k
    · subst e
      rw [if_pos rfl]
      rw [List.getElem?_set_self (by simp; exact hk)] at hj
      simp only [Option.some.injEq] at hj
      subst hj
      constructor
      · rw [List.getElem?_set_self (by rw [nestC_len]; exact hk)]
        simp
      · rw [hq, List.getElem?_cons_succ, List.getElem?_append_right (by rw [hln]; exact Nat.le_refl _), hln]
        simp
    · rw [if_neg e]
      rw [List.getElem?_set_ne e, List.getElem?_map, List.getElem?_range hk] at hj
      simp only [Option.map_some, Option.some.injEq] at hj
      subst hj
      constructor
      · rw [List.getElem?_set_ne e, nestC_get hk]
      · rw [List.getElem?_cons_succ, List.getElem?_append_left (by rw [hln]; omega), List.getElem?_set_ne e, nestI_app hk]
  · rw [List.nodup_cons]
    constructor
    · intro hm
      rcases List.mem_or_eq_of_mem_set hm with h | h
      · simp at h
      · omega
    · unfold List.Nodup
      rw [List.pairwise_iff_getElem]
      intro i j hi hj hij
      rw [List.length_set, List.length_map, List.length_range] at hi hj
      rw [List.getElem_set, List.getElem_set]
      by_cases e1 : g = i
      · have e2 : ¬ g = j := by omega
        rw [if_pos e1, if_neg e2]; simp; omega
      · by_cases e2 : g = j
        · rw [if_neg e1, if_pos e2]; simp; omega
        · rw [if_neg e1, if_neg e2]; simp; omega
theorem push_endG (hf : ∀ x, (f x).all pln = true) {T : List Ent} {a b : Nat} {x : α} (ha : T[a]? = some (.arr z [f x])) (hb : T[b]? = some (.arr 1 (nestC gs ++ [[.ref (gs.length + 1 + a) 1]]))) (hab : a ≠ b) :
    isB 0 (Ent.dead :: (nestI z f gs ++ T)).length ((gs.length + 1 + b) :: ((List.range gs.length).map (· + 1) ++ [gs.length + 1 + a])) = true ∧
    ((gs.length + 1 + b) :: ((List.range gs.length).map (· + 1) ++ [gs.length + 1 + a])).map (fun i => rnE 0 ((gs.length + 1 + b) :: ((List.range gs.length).map (· + 1) ++ [gs.length + 1 + a])) ((Ent.dead :: (nestI z f gs ++ T)).getD i .dead)) = nestH z f (gs ++ [[x]]) := by
  refine nest_end (gs := gs ++ [[x]]) (cs := nestC gs ++ [[.ref (gs.length + 1 + a) 1]]) hf ?_ (by simp) (by simp [nestC_len]) ?_ ?_
  · rw [show gs.length + 1 + b = (gs.length + b) + 1 by omega, List.getElem?_cons_succ, nestI_new]; exact hb
  · intro k j hk hj
    simp only [List.length_append, List.length_cons, List.length_nil] at hk
    by_cases e : k < gs.length
    · rw [List.getElem?_append_left (by simp; exact e), List.getElem?_map, List.getElem?_range e] at hj
      simp only [Option.map_some, Option.some.injEq] at hj
      subst hj
      have hgd : (gs ++ [[x]]).getD k [] = gs.getD k [] := by simp only [List.getD]; rw [List.getElem?_append_left e]
      rw [hgd]
      constructor
      · rw [List.getElem?_append_left (by rw [nestC_len]; exact e), nestC_get e]
      · rw [List.getElem?_cons_succ, nestI_app e]
    · have ek : k = gs.length := by omega
      subst ek
      rw [List.getElem?_append_right (by simp)] at hj
      simp only [List.length_map, List.length_range, Nat.sub_self, List.getElem?_cons_zero, Option.some.injEq] at hj
      subst hj
      have hgd : (gs ++ [[x]]).getD gs.length [] = [x] := by simp [List.getD]
      rw [hgd]
      constructor
      · rw [List.getElem?_append_right (by rw [nestC_len]; omega), nestC_len, Nat.sub_self]; rfl
      · rw [show gs.length + 1 + a = (gs.length + a) + 1 by omega, List.getElem?_cons_succ, nestI_new]; exact ha
  · rw [List.nodup_cons]
    constructor
    · intro hm
      rcases List.mem_append.1 hm with h | h
      · simp at h; omega
      · simp at h; omega
    · rw [List.nodup_append]
      refine ⟨List.Pairwise.map _ (fun a b h => by omega) List.nodup_range, by simp, ?_⟩
      intro a ha b hb
      simp at ha hb
      omega
theorem fin_nestX {gs' : List (List α)} (hf : ∀ x, (f x).all pln = true) (hz : ∀ x, (f x).length = z) (h : gs = gs') : fin 0 (.ref 0 gs.length) (nestH z f gs) (fun r' hs => Fz hs r' (.sl 1 (gs'.map fun g => [.sl z (g.map f)]))) := by
  subst h; exact fin_nest hf hz
end
end Eng
end Go.Proofs.Ytgcmahhejblpkaa
