/-
An abstract interpreter of the program's code on plain data: part V, blocks that hold own slices, nil within a block.
No condition: everything here is stated over any program.
-/
import Derived.Test.YtgcmahhejblpkaaVU
namespace Go.Proofs.Ytgcmahhejblpkaa
namespace Eng
set_option linter.unusedVariables false
set_option linter.unusedSimpArgs false

variable {P : Program} {n0 : Nat} {pl : List (Nat × Plan)} {hp hs : List Ent} {l : List (Nat × AV)}

/- nil within a block -/
def unnilE (k : Nat) : Ent → Ent
  | .arr z elems => .arr z (elems.map (unnil.unnilL k))
  | .dead => .dead
theorem unnil_one {k : Nat} {x : AV} (h : one x = true) : one (unnil k x) = true := by
  cases x <;> try exact h
  rename_i v
  cases v <;> try exact h
  rename_i a b c
  cases a <;> try exact h
  cases b <;> try exact h
  cases c <;> first | exact h | rfl
theorem unnil_oneL {k : Nat} : ∀ {l : List AV}, oneL l = true → oneL (unnil.unnilL k l) = true
  | [], _ => rfl
  | x :: l, h => by
    simp only [oneL, Bool.and_eq_true] at h
    simp only [unnil.unnilL, oneL, unnil_one h.1, unnil_oneL h.2, Bool.and_self]
theorem unnilE_rep {m : Mp} {w : World} {F : Nat → Prop} {k id : Nat} (hm : m[k]? = some none) {e : Ent} (h : RepE m w F id e) : RepE m w F id (unnilE k e) := by
  cases e with
  | dead => trivial
  | arr z elems =>
    rcases h with ⟨h1, h2⟩ | ⟨b, cur, T, cs, h1, h2, h3, h4, h5⟩
    · subst h2; exact .inl ⟨h1, rfl⟩
    · refine .inr ⟨b, cur, T, cs, h1, h2, ?_, by simpa using h4, ?_⟩
      · intro e he
        obtain ⟨e0, g, rfl⟩ := List.mem_map.1 he
        exact ⟨by rw [unnilL_length]; exact (h3 e0 g).1, unnil_oneL (h3 e0 g).2⟩
      · intro i o e d he hd
        rw [List.getElem?_map] at he
        cases hc : elems[i]? with
        | none => simp [hc] at he
        | some e0 =>
          simp [hc] at he
          subst he
          rw [unnilL_get] at hd
          cases hc' : e0[o]? with
          | none => simp [hc'] at hd
          | some d0 => simp [hc'] at hd; subst hd; exact unnil_rep hm (h5 i o e0 d0 hc hc')
theorem unnilE_alive {k : Nat} {e : Ent} : (unnilE k e).alive = e.alive := by cases e <;> rfl
theorem RelH.unnilAt {m : Mp} {w : World} {F : Nat → Prop} {k id : Nat} {e : Ent} (h : RelH m w F hp) (hm : m[k]? = some none) (he : hp[id]? = some e) :
    RelH m w F (hp.set id (unnilE k e)) ∧ Tr m w F hp m w F (hp.set id (unnilE k e)) := by
  have get : ∀ (j : Nat) (x : Ent), (hp.set id (unnilE k e))[j]? = some x → ∃ y, hp[j]? = some y ∧ y.alive = x.alive := by
    intro j x hx
    rw [List.getElem?_set] at hx
    split at hx
    · rename_i hj; subst hj
      split at hx
      · cases hx; exact ⟨e, he, unnilE_alive.symm⟩
      · cases hx
    · exact ⟨x, hx, rfl⟩
  refine ⟨⟨by simp [h.len], h.stable, ?_, ?_, ?_⟩, ?_⟩
  · intro j x hx
    rw [List.getElem?_set] at hx
    split at hx
    · rename_i hj; subst hj
      split at hx
      · cases hx; exact unnilE_rep hm (h.ent id e he)
      · cases hx
    · exact h.ent j x hx
  · intro i j ei ej bi si bj sj hi hj ai aj hne hmi hmj
    obtain ⟨y1, g1, g2⟩ := get i ei hi
    obtain ⟨y2, g3, g4⟩ := get j ej hj
    exact h.inj i j y1 y2 bi si bj sj g1 g3 (g2.trans ai) (g4.trans aj) hne hmi hmj
  · intro i x b s hx ha hmi
    obtain ⟨y, g1, g2⟩ := get i x hx
    exact h.own i y b s g1 (g2.trans ha) hmi
  · exact { Tr.refl m w F hp with
      own := fun b ⟨j, x, s, h1, h2, h3⟩ => by
        obtain ⟨y, g1, g2⟩ := get j x h1
        exact .inl ⟨j, y, s, g1, g2.trans h2, h3⟩ }
/-- nil in the cells of block id is an own slice without elements -/
theorem Wk.nilAt (id sz : Nat) {e : Ent} (he : hp[id]? = some e) : Wk n0 ⟨l, hp⟩ ⟨l, (hp ++ [Ent.arr sz []]).set id (unnilE hp.length e)⟩ := fun B m F N a w _ _ r => by
  obtain ⟨h1, h2⟩ := r.hp.nilEnt sz
  have he' : (hp ++ [Ent.arr sz []])[id]? = some e := by rw [List.getElem?_append_left (lt_of_some he)]; exact he
  have hm : (m ++ [none])[hp.length]? = some none := by rw [← r.hp.len]; simp
  obtain ⟨h3, h4⟩ := h1.unnilAt hm he'
  exact ⟨m ++ [none], F, h3, fun t => ((r.sl t).tr h2).tr h4, r.size, r.defers, (r.base.trans h2).trans h4⟩
theorem ids_tup {cs : List AV} : ids (.tup cs) = ids.idsL cs := (rfl)
theorem un_sl {k z : Nat} {xs : List (List AV)} : unnil k (.sl z xs) = .sl z xs := (rfl)
theorem un_ref {k i n : Nat} : unnil k (.ref i n) = .ref i n := (rfl)
theorem unE_arr {k z : Nat} {elems : List (List AV)} : unnilE k (.arr z elems) = .arr z (elems.map (unnil.unnilL k)) := (rfl)
theorem acode_nilAt {c : Code} {Q : Exit → St → Prop} (id sz : Nat) {e : Ent} (he : hp[id]? = some e) (h : acode P n0 pl (.loop c) Q ⟨l, (hp ++ [Ent.arr sz []]).set id (unnilE hp.length e)⟩) : acode P n0 pl (.loop c) Q ⟨l, hp⟩ :=
  acode_loop_wk (Wk.nilAt id sz he) h
/-- a round's end, where blocks hold own slices too -/
theorem lpe2_endG {α : Type} {mods : α → List (Nat × AV)} {tops : List Nat} {W : List (Nat × Nat)} {hps : α → List Ent} {J : α → Prop} {ν : α → Nat} {a : α} {Q : Exit → St → Prop} {sl : List (Nat × AV)} {sh : List Ent} (is : List Nat) (a' : α)
    (h1 : is = isOf sl W 0 (hps a').length) (h2 : isB 0 sh.length is = true) (h3 : fixB 0 (hps a').length (W.map (·.2)) is = true) (h5 : is.map (fun i => rnE 0 is (sh.getD i .dead)) = hps a') (hq : okL (hps a') = true)
    (h6 : agrR 0 is sl (mods a')) (h7 : undK ((mods a').map (·.1) ++ tops) (clr (hps a').length (W.map (·.2)) l) sl) (h8 : J a') (h9 : ν a' < ν a) : lpe2 0 mods tops l W hps J ν a Q .normal ⟨sl, sh⟩ := by
  have hk : kept 0 is sh = hps a' := by rw [← h5]; simp [kept]
  exact ⟨is, a', by simpa using h1, ⟨h2, h3, by rw [hk]; exact hq⟩, hk, h6, h7, h8, h9⟩
end Eng
end Go.Proofs.Ytgcmahhejblpkaa
