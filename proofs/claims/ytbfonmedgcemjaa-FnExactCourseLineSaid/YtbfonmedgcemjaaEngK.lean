/-
An abstract interpreter of the program's code on plain data: part K, contracts of functions that only compute, and weaker descriptions.
No condition: everything here is stated over any program.
-/
import Derived.Test.YtbfonmedgcemjaaEngJ
namespace Go.Proofs.Ytbfonmedgcemjaa
namespace Eng
set_option linter.unusedVariables false
set_option linter.unusedSimpArgs false

variable {P : Program} {n0 N : Nat} {B : Bs} {m : Mp} {F : Nat → Prop} {s : St} {a : Act} {w : World}

/-- A FUNCTION THAT ONLY COMPUTES: its contract over no entries serves over any -/
theorem GC.pure {k : FuncId} {args dargs : List AV} {hp : List Ent} {K : AV → List Ent → Prop} {r : AV}
    (h : GC P k dargs [] (fun r' _ => r' = r)) (hf : flat r = true) (hr : RdL hp args dargs) (hK : K r hp) : GC P k args hp K := by
  refine ⟨h.1, ?_⟩
  intro m w F vals hh hv
  obtain ⟨hl, hg⟩ := hr.get
  have := h.2 [] w (allF m F hp) vals ⟨rfl, allF_lt hh, fun id e he => by simp at he, fun i j ei ej bi si bj sj hi => by simp at hi, fun i e b s he => by simp at he⟩
    ⟨by rw [hv.1, hl], fun i d v h1 h2 => by
      have hi : i < args.length := by rw [← hl]; exact lt_of_some h1
      have hx := List.getElem?_eq_getElem hi
      exact (hg i _ d hx h1).rep hh (hv.2 i _ v hx h2)⟩
  refine this.mono ?_
  rintro e w' ⟨v, r', hp', m', F', he, rfl, hh', hx, t⟩
  obtain ⟨h1, h2⟩ := after_pure hh t
  exact ⟨v, r', hp, m, F, he, hK, h1, hx.flat hf, h2⟩

/- weaker descriptions -/
theorem Wk.refl : Wk n0 s s := fun B m F N a w _ r => ⟨m, F, r⟩
theorem Wk.trans {s1 s2 s3 : St} (h1 : Wk n0 s1 s2) (h2 : Wk n0 s2 s3) : Wk n0 s1 s3 := fun B m F N a w hn r =>
  let ⟨m', F', r'⟩ := h1 B m F N a w hn r
  h2 B m' F' N a w hn r'

theorem sle_lk {l : List (Nat × AV)} : ∀ {l' : List (Nat × AV)}, sle l l' → ∀ t, lk l' t = .top ∨ lk l' t = lk l t
  | [], _, t => .inl rfl
  | (k, v) :: l', h, t => by
    simp only [lk]
    split
    · rename_i e; subst e; exact .inr h.1.symm
    · exact sle_lk h.2 t

/-- fewer slots -/
theorem Wk.le {l l' : List (Nat × AV)} {hp : List Ent} (h : sle l l') : Wk n0 ⟨l, hp⟩ ⟨l', hp⟩ := fun B m F N a w _ r => by
  refine ⟨m, F, r.hp, fun t => ?_, r.size, r.defers, r.base⟩
  rcases sle_lk h t with e | e
  · show RepA m w F (lk l' t) _; rw [e]; exact .top _
  · show RepA m w F (lk l' t) _; rw [e]; exact r.sl t

theorem blwL_get (n : Nat) : ∀ {l : List AV} {i : Nat} {c : AV}, blw.blwL n l = true → l[i]? = some c → blw n c = true
  | [], i, c, _, h => by simp at h
  | x :: l, 0, c, h, hc => by simp [blw.blwL] at h; simp at hc; exact hc ▸ h.1
  | x :: l, i + 1, c, h, hc => by simp [blw.blwL] at h; simp at hc; exact blwL_get n h.2 hc

theorem RepA.take {n : Nat} {x : AV} {v : Value} (h : RepA m w F x v) (hb : blw n x = true) : RepA (m.take n) w F x v := by
  have get : ∀ {id : Nat} {y : Option (Nat × Nat)}, id < n → m[id]? = some y → (m.take n)[id]? = some y := by
    intro id y h1 h2
    rw [List.getElem?_take, if_pos h1]; exact h2
  induction h with
  | d h => exact .d h
  | top v => exact .top v
  | agg cs vs hl h ih => exact .agg cs vs hl fun i c v h1 h2 => ih i c v h1 h2 (blwL_get n (by simpa [blw] using hb) h1)
  | tup cs vs hl h ih => exact .tup cs vs hl fun i c v h1 h2 => ih i c v h1 h2 (blwL_get n (by simpa [blw] using hb) h1)
  | refNil id hm => exact .refNil id (get (by simpa [blw] using hb) hm)
  | ref id lo len b sz cap cur T hm hb' hs hl hmax => exact .ref id lo len b sz cap cur T (get (by simpa [blw] using hb) hm) hb' hs hl hmax
  | bx id o b sz hm => exact .bx id o b sz (get (by simpa [blw] using hb) hm)
  | ptr id i o b sz hm => exact .ptr id i o b sz (get (by simpa [blw] using hb) hm)
  | ep e o b off cur T fz cs hF hb' hcell hrep => exact .ep e o b off cur T fz cs hF hb' hcell hrep

theorem blwS_lk (n : Nat) : ∀ {l : List (Nat × AV)}, blwS n l = true → ∀ t, blw n (lk l t) = true
  | [], _, t => by simp [lk, blw]
  | (k, v) :: l, h, t => by
    simp only [blwS, Bool.and_eq_true] at h
    simp only [lk]
    split
    · exact h.1
    · exact blwS_lk n h.2 t
theorem blwH_get (n : Nat) : ∀ {l : List Ent} {i : Nat} {e : Ent}, blwH n l = true → l[i]? = some e → blwE n e = true
  | [], i, e, _, h => by simp at h
  | x :: l, 0, e, h, he => by simp [blwH] at h; simp at he; exact he ▸ h.1
  | x :: l, i + 1, e, h, he => by simp [blwH] at h; simp at he; exact blwH_get n h.2 he

/-- fewer entries -/
theorem Wk.trunc {l : List (Nat × AV)} {hp hp' : List Ent} (h : hp'.length ≤ hp.length) (e : hp.take hp'.length = hp') (hn : n0 ≤ hp'.length) (h1 : blwS hp'.length l = true) (h2 : blwH hp'.length hp' = true) :
    Wk n0 ⟨l, hp⟩ ⟨l, hp'⟩ := fun B m F N a w hB r => by
  have hlen : m.length = hp.length := r.hp.len
  have get : ∀ {id : Nat} {y : Option (Nat × Nat)}, (m.take hp'.length)[id]? = some y → m[id]? = some y ∧ id < hp'.length := by
    intro id y h
    rw [List.getElem?_take] at h
    split at h
    · rename_i hlt; exact ⟨h, hlt⟩
    · cases h
  have ge : ∀ {id : Nat} {x : Ent}, hp'[id]? = some x → hp[id]? = some x := by
    intro id x hx
    have hlt := lt_of_some hx
    rw [← e, List.getElem?_take, if_pos hlt] at hx
    exact hx
  refine ⟨m.take hp'.length, F, ⟨by simp; omega, r.hp.stable, ?_, ?_, ?_⟩, fun t => (r.sl t).take (blwS_lk _ h1 t), r.size, r.defers, ?_⟩
  · intro id x hx
    have hx' := r.hp.ent id x (ge hx)
    have hlt := lt_of_some hx
    cases x with
    | dead => trivial
    | box cells =>
      obtain ⟨b, sz, vs, T, hm, hb, hl, hc⟩ := hx'
      exact ⟨b, sz, vs, T, by rw [List.getElem?_take, if_pos hlt]; exact hm, hb, hl, fun o c v e1 e2 => (hc o c v e1 e2).take (blwL_get _ (by simpa [blwE] using blwH_get _ h2 hx) e1)⟩
    | arr sz elems =>
      rcases hx' with ⟨hm, he⟩ | ⟨b, cur, T, cs, hm, rest⟩
      · exact .inl ⟨by rw [List.getElem?_take, if_pos hlt]; exact hm, he⟩
      · exact .inr ⟨b, cur, T, cs, by rw [List.getElem?_take, if_pos hlt]; exact hm, rest⟩
  · intro i j ei ej bi si bj sj hi hj ai aj hne hmi hmj
    exact r.hp.inj i j ei ej bi si bj sj (ge hi) (ge hj) ai aj hne (get hmi).1 (get hmj).1
  · intro i x b s hx ha hm
    exact r.hp.own i x b s (ge hx) ha (get hm).1
  · have t := r.base
    refine ⟨t.os, t.tape, t.output, t.size, t.blk, t.sub, t.sup, ?_, by simp; omega, t.shp, ?_⟩
    · intro id hid
      rw [List.getElem?_take, if_pos (by omega)]
      exact t.mid id hid
    · intro id b z hid hm
      exact t.mb id b z hid (get hm).1

/-- fewer slots, and fewer entries -/
theorem Wk.of {l l' : List (Nat × AV)} {hp hp' : List Ent} (h : sle l l') (e : hp.take hp'.length = hp') (hn : n0 ≤ hp'.length) (h1 : blwS hp'.length l' = true) (h2 : blwH hp'.length hp' = true) :
    Wk n0 ⟨l, hp⟩ ⟨l', hp'⟩ :=
  (Wk.le h).trans (Wk.trunc (by have := congrArg List.length e; simp at this; omega) e hn h1 h2)

/-- what a round's end is asked, by a template of the state -/
def lpt {α : Type} (n0 : Nat) (T : α → St) (J : α → Prop) (ν : α → Nat) (a : α) (Q : Exit → St → Prop) : Exit → St → Prop
  | .normal, s => ∃ a', Wk n0 s (T a') ∧ J a' ∧ ν a' < ν a
  | e, s => Q e s
theorem lpt_normal {α : Type} {T : α → St} {J : α → Prop} {ν : α → Nat} {a : α} {Q : Exit → St → Prop} : lpt n0 T J ν a Q .normal s = ∃ a', Wk n0 s (T a') ∧ J a' ∧ ν a' < ν a := (rfl)
theorem lpt_ret {α : Type} {T : α → St} {J : α → Prop} {ν : α → Nat} {a : α} {Q : Exit → St → Prop} : lpt n0 T J ν a Q .ret s = Q .ret s := (rfl)
theorem lpt_exit {α : Type} {T : α → St} {J : α → Prop} {ν : α → Nat} {a : α} {Q : Exit → St → Prop} {id : Nat} : lpt n0 T J ν a Q (.exit id) s = Q (.exit id) s := (rfl)
@[congr] theorem lpt_congr {α : Type} {T : α → St} {J : α → Prop} {ν : α → Nat} {a : α} {Q : Exit → St → Prop} {e : Exit} {s s' : St} (h : s = s') : lpt n0 T J ν a Q e s = lpt n0 T J ν a Q e s' := by rw [h]

/-- A LOOP, by a template of the state at its head -/
theorem acode_loopT {α : Type} {c : Code} {Q : Exit → St → Prop} (T : α → St) (J : α → Prop) (ν : α → Nat) (a0 : α) (h0 : Wk n0 s (T a0)) (hJ : J a0)
    (hr : ∀ a, J a → acode P n0 c (lpt n0 T J ν a Q) (T a)) : acode P n0 (.loop c) Q s := by
  refine ⟨fun n s => ∃ a, J a ∧ s = T a ∧ ν a = n, ⟨ν a0, T a0, h0, a0, hJ, rfl, rfl⟩, ?_⟩
  rintro n s0 ⟨a, hJ', rfl, rfl⟩
  have e : lpt n0 T J ν a Q = lpq n0 (fun n s => ∃ a, J a ∧ s = T a ∧ ν a = n) (ν a) Q := by
    funext e s
    cases e <;> try rfl
    simp only [lpt, lpq, eq_iff_iff]
    constructor
    · rintro ⟨a', h1, h2, h3⟩; exact ⟨ν a', T a', h1, ⟨a', h2, rfl, rfl⟩, h3⟩
    · rintro ⟨k, s1, h1, ⟨a', h2, rfl, rfl⟩, h3⟩; exact ⟨a', h1, h2, h3⟩
  rw [← e]
  exact hr a hJ'

theorem wrap_id {n : Int} (h1 : -9223372036854775808 ≤ n) (h2 : n ≤ 9223372036854775807) : IntKind.i64.wrap n = n := by
  rw [IntKind.wrap_i64]; omega

/-- a call as it stands -/
theorem acall_of {k : FuncId} {as : List Operand} {dst : Option Nat} {K : St → Prop} {s : St} (h : GC P k (as.map (ev s)) s.hp (callK dst K s.sl)) : acall P n0 k as dst K s :=
  ⟨s, Wk.refl, h⟩

theorem fin_nil {r : AV} {hp : List Ent} {K : AV → List Ent → Prop} (h : K (rn n0 [] r) ((hp.take n0).map (rnE n0 []))) : fin n0 r hp K :=
  ⟨[], List.nodup_nil, by simp, by simpa using h⟩

end Eng
end Go.Proofs.Ytbfonmedgcemjaa
