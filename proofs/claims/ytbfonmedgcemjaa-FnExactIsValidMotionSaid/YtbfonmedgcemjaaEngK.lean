/-
An abstract interpreter of the program's code on plain data: part K, contracts of functions that only compute, and weaker descriptions.
No condition: everything here is stated over any program.
-/
import Derived.Test.YtbfonmedgcemjaaEngJ
namespace Go.Proofs.Ytbfonmedgcemjaa
namespace Eng
set_option linter.unusedVariables false
set_option linter.unusedSimpArgs false

variable {P : Program} {n0 N : Nat} {B : Bs} {m : Mp} {F : Nat → Prop} {s : St} {a : Act} {w : World}

/-- nothing in memory -/
def flat : AV → Bool
  | .d (.v _) => true
  | .agg cs => flatL cs
  | .tup cs => flatL cs
  | _ => false
where
  flatL : List AV → Bool
    | [] => true
    | c :: cs => flat c && flatL cs

/-- no entry is named -/
def noid : AV → Bool
  | .d _ => true
  | .ep _ _ => true
  | .top => true
  | .agg cs => noidL cs
  | .tup cs => noidL cs
  | _ => false
where
  noidL : List AV → Bool
    | [] => true
    | c :: cs => noid c && noidL cs

theorem flatL_get : ∀ {l : List AV} {i : Nat} {c : AV}, flat.flatL l = true → l[i]? = some c → flat c = true
  | [], i, c, _, h => by simp at h
  | x :: l, 0, c, h, hc => by simp [flat.flatL] at h; simp at hc; exact hc ▸ h.1
  | x :: l, i + 1, c, h, hc => by simp [flat.flatL] at h; simp at hc; exact flatL_get h.2 hc
theorem noidL_get : ∀ {l : List AV} {i : Nat} {c : AV}, noid.noidL l = true → l[i]? = some c → noid c = true
  | [], i, c, _, h => by simp at h
  | x :: l, 0, c, h, hc => by simp [noid.noidL] at h; simp at hc; exact hc ▸ h.1
  | x :: l, i + 1, c, h, hc => by simp [noid.noidL] at h; simp at hc; exact noidL_get h.2 hc

theorem RepA.flat {m' : Mp} {w' : World} {F' : Nat → Prop} {x : AV} {v : Value} (h : RepA m w F x v) (hf : flat x = true) : RepA m' w' F' x v := by
  induction h with
  | d h => cases h <;> first | exact .d (.v _) | simp [Eng.flat] at hf
  | agg cs vs hl h ih => exact .agg cs vs hl fun i c v h1 h2 => ih i c v h1 h2 (flatL_get (by simpa [Eng.flat] using hf) h1)
  | tup cs vs hl h ih => exact .tup cs vs hl fun i c v h1 h2 => ih i c v h1 h2 (flatL_get (by simpa [Eng.flat] using hf) h1)
  | _ => simp [Eng.flat] at hf

theorem RepA.noid {m' : Mp} {F' : Nat → Prop} {x : AV} {v : Value} (h : RepA m w F x v) (hf : noid x = true) (hF : ∀ b, F b → F' b) : RepA m' w F' x v := by
  induction h with
  | d h => exact .d (h.tr (fun _ _ => rfl) hF)
  | top v => exact .top v
  | agg cs vs hl h ih => exact .agg cs vs hl fun i c v h1 h2 => ih i c v h1 h2 (noidL_get (by simpa [Eng.noid] using hf) h1)
  | tup cs vs hl h ih => exact .tup cs vs hl fun i c v h1 h2 => ih i c v h1 h2 (noidL_get (by simpa [Eng.noid] using hf) h1)
  | ep e o b off cur T fz cs hFb hb hcell hrep => exact .ep e o b off cur T fz cs (hF b hFb) hb hcell (fun j d hd => (hrep j d hd).tr (fun _ _ => rfl) hF)
  | _ => simp [Eng.noid] at hf

/-- the slot's contents, read as plain data -/
inductive Rd (hp : List Ent) : AV → AV → Prop
  | same (x : AV) (h : noid x = true) : Rd hp x x
  | ref (id lo len sz : Nat) (elems : List (List D)) (h : hp[id]? = some (.arr sz elems)) (hl : lo + len ≤ elems.length) :
      Rd hp (.ref id lo len) (.d (.sl sz ((elems.drop lo).take len)))
  | nil (sz : Nat) : Rd hp (.d (.v (.slice none 0 0))) (.d (.sl sz []))
  | agg (cs ds : List AV) (hl : ds.length = cs.length) (h : ∀ (i : Nat) (c d : AV), cs[i]? = some c → ds[i]? = some d → Rd hp c d) : Rd hp (.agg cs) (.agg ds)

def RdL (hp : List Ent) : List AV → List AV → Prop
  | [], [] => True
  | x :: xs, d :: ds => Rd hp x d ∧ RdL hp xs ds
  | _, _ => False

theorem RdL.get {hp : List Ent} : ∀ {xs ds : List AV}, RdL hp xs ds → ds.length = xs.length ∧ ∀ (i : Nat) (x d : AV), xs[i]? = some x → ds[i]? = some d → Rd hp x d
  | [], [], _ => ⟨rfl, fun i c v h => by simp at h⟩
  | x :: xs, v :: vs, h => by
    obtain ⟨h1, h2⟩ := h.2.get
    refine ⟨by simp [h1], ?_⟩
    intro i c u e1 e2
    cases i with
    | zero => simp at e1 e2; subst e1; subst e2; exact h.1
    | succ i => exact h2 i c u (by simpa using e1) (by simpa using e2)

/-- the blocks that stay, and those that the caller owns -/
def allF (m : Mp) (F : Nat → Prop) (hp : List Ent) (b : Nat) : Prop := F b ∨ ∃ (id : Nat) (e : Ent) (s : Nat), hp[id]? = some e ∧ e.alive = true ∧ m[id]? = some (some (b, s))

theorem Rd.rep {hp : List Ent} (hh : RelH m w F hp) {x d : AV} {v : Value} (hr : Rd hp x d) (h : RepA m w F x v) : RepA [] w (allF m F hp) d v := by
  induction hr generalizing v with
  | same x hx => exact h.noid hx (fun b hb => .inl hb)
  | ref id lo len sz elems he hl =>
    rcases h.inv_ref with ⟨hm, rfl, rfl, rfl⟩ | ⟨b, sz', cap, cur, T, rfl, hm, hb, hs, hlc, hmax⟩
    · simp; exact .d (.nil sz none 0)
    · have hE := hh.ent id _ he
      rcases hE with ⟨hm', _⟩ | ⟨b', cur', T', cs, hm', hb', hsz, hcell, hrep⟩
      · rw [hm'] at hm; cases hm
      · rw [hm'] at hm; cases hm
        rw [hb'] at hb; cases hb
        have hlen : ((elems.drop lo).take len).length = len := by simp; omega
        have := RepD.sl (w := w) (F := allF m F hp) sz ((elems.drop lo).take len) b (lo * sz) cap cur T (0, 0) (fun i o => cs (lo + i) o)
          (.inr ⟨id, _, sz, he, rfl, hm'⟩) hb' (by rw [hlen]; exact hlc) (by omega) (fun e h1 => hsz e (List.mem_of_mem_drop (List.mem_of_mem_take h1)))
          (by
            intro i o hi ho
            rw [hlen] at hi
            have := hcell (lo + i) o (by omega) ho
            rw [Nat.add_mul] at this
            exact this)
          (by
            intro i o e d h1 h2
            rw [List.getElem?_take] at h1
            split at h1
            · rw [List.getElem?_drop] at h1
              exact (hrep (lo + i) o e d h1 h2).tr (fun _ _ => rfl) (fun b hb => .inl hb)
            · cases h1)
        rw [hlen] at this
        exact .d this
  | nil sz =>
    rw [h.inv_v]
    exact .d (.nil sz none 0)
  | agg cs ds hl hh' ih =>
    obtain ⟨vs, rfl, hlv, hrv⟩ := h.inv_agg
    refine .agg ds vs (by rw [hlv, hl]) ?_
    intro i d u h1 h2
    have hi : i < cs.length := by rw [← hl]; exact lt_of_some h1
    have hc := List.getElem?_eq_getElem hi
    exact ih i _ d hc h1 (hrv i _ u hc h2)

theorem allF_lt {hp : List Ent} (hh : RelH m w F hp) : ∀ b, allF m F hp b → b < w.heap.size := by
  rintro b (h | ⟨id, e, s, h1, h2, h3⟩)
  · exact hh.stable b h
  · exact (hh.own id e b s h1 h2 h3).2

/-- what a caller knows goes on, where nothing of his has turned -/
theorem after_pure {hp : List Ent} {m' : Mp} {w' : World} {F' : Nat → Prop} (hh : RelH m w F hp) (t : Tr [] w (allF m F hp) m' w' F') : RelH m w' F hp ∧ Tr m w F m w' F := by
  have t' : Tr m w F m w' F := ⟨t.os, t.tape, t.output, t.size, fun b hb => t.blk b (.inl hb), fun _ h => h, fun _ h => .inl h, fun _ _ => rfl, Nat.le_refl _, t.shp,
    fun id b z h hm => by rw [List.getElem?_eq_none h] at hm; cases hm⟩
  refine ⟨⟨hh.len, fun b hb => Nat.lt_of_lt_of_le (hh.stable b hb) t.size, ?_, hh.inj, ?_⟩, t'⟩
  · intro id e he
    exact (hh.ent id e he).tr t' (fun ha b z hm => t.blk b (.inr ⟨id, e, z, he, ha, hm⟩))
  · intro i e b s he ha hm
    have := hh.own i e b s he ha hm
    exact ⟨this.1, Nat.lt_of_lt_of_le this.2 t.size⟩

/-- A FUNCTION THAT ONLY COMPUTES: its contract over no entries serves over any -/
theorem GC.pure {k : FuncId} {args dargs : List AV} {hp : List Ent} {K : AV → List Ent → Prop} {r : AV}
    (h : GC P k dargs [] (fun r' _ => r' = r)) (hf : flat r = true) (hr : RdL hp args dargs) (hK : K r hp) : GC P k args hp K := by
  refine ⟨h.1, ?_⟩
  intro m w F vals hh hv
  obtain ⟨hl, hg⟩ := hr.get
  have := h.2 [] w (allF m F hp) vals ⟨rfl, allF_lt hh, fun id e he => by simp at he, fun i j ei ej bi si bj sj hi => by simp at hi, fun i e b s he => by simp at he⟩
    ⟨by rw [hv.1, hl], fun i d v h1 h2 => by
      have hi : i < args.length := by rw [← hl]; exact lt_of_some h1
      have hx := List.getElem?_eq_getElem hi
      exact (hg i _ d hx h1).rep hh (hv.2 i _ v hx h2)⟩
  refine this.mono ?_
  rintro e w' ⟨v, r', hp', m', F', he, rfl, hh', hx, t⟩
  obtain ⟨h1, h2⟩ := after_pure hh t
  exact ⟨v, r', hp, m, F, he, hK, h1, hx.flat hf, h2⟩

/- weaker descriptions -/
theorem Wk.refl : Wk n0 s s := fun B m F N a w _ r => ⟨m, F, r⟩
theorem Wk.trans {s1 s2 s3 : St} (h1 : Wk n0 s1 s2) (h2 : Wk n0 s2 s3) : Wk n0 s1 s3 := fun B m F N a w hn r =>
  let ⟨m', F', r'⟩ := h1 B m F N a w hn r
  h2 B m' F' N a w hn r'

theorem sle_lk {l : List (Nat × AV)} : ∀ {l' : List (Nat × AV)}, sle l l' → ∀ t, lk l' t = .top ∨ lk l' t = lk l t
  | [], _, t => .inl rfl
  | (k, v) :: l', h, t => by
    simp only [lk]
    split
    · rename_i e; subst e; exact .inr h.1.symm
    · exact sle_lk h.2 t

/-- fewer slots -/
theorem Wk.le {l l' : List (Nat × AV)} {hp : List Ent} (h : sle l l') : Wk n0 ⟨l, hp⟩ ⟨l', hp⟩ := fun B m F N a w _ r => by
  refine ⟨m, F, r.hp, fun t => ?_, r.size, r.defers, r.base⟩
  rcases sle_lk h t with e | e
  · show RepA m w F (lk l' t) _; rw [e]; exact .top _
  · show RepA m w F (lk l' t) _; rw [e]; exact r.sl t

theorem blwL_get (n : Nat) : ∀ {l : List AV} {i : Nat} {c : AV}, blw.blwL n l = true → l[i]? = some c → blw n c = true
  | [], i, c, _, h => by simp at h
  | x :: l, 0, c, h, hc => by simp [blw.blwL] at h; simp at hc; exact hc ▸ h.1
  | x :: l, i + 1, c, h, hc => by simp [blw.blwL] at h; simp at hc; exact blwL_get n h.2 hc

theorem RepA.take {n : Nat} {x : AV} {v : Value} (h : RepA m w F x v) (hb : blw n x = true) : RepA (m.take n) w F x v := by
  have get : ∀ {id : Nat} {y : Option (Nat × Nat)}, id < n → m[id]? = some y → (m.take n)[id]? = some y := by
    intro id y h1 h2
    rw [List.getElem?_take, if_pos h1]; exact h2
  induction h with
  | d h => exact .d h
  | top v => exact .top v
  | agg cs vs hl h ih => exact .agg cs vs hl fun i c v h1 h2 => ih i c v h1 h2 (blwL_get n (by simpa [blw] using hb) h1)
  | tup cs vs hl h ih => exact .tup cs vs hl fun i c v h1 h2 => ih i c v h1 h2 (blwL_get n (by simpa [blw] using hb) h1)
  | refNil id hm => exact .refNil id (get (by simpa [blw] using hb) hm)
  | ref id lo len b sz cap cur T hm hb' hs hl hmax => exact .ref id lo len b sz cap cur T (get (by simpa [blw] using hb) hm) hb' hs hl hmax
  | bx id o b sz hm => exact .bx id o b sz (get (by simpa [blw] using hb) hm)
  | ptr id i o b sz hm => exact .ptr id i o b sz (get (by simpa [blw] using hb) hm)
  | ep e o b off cur T fz cs hF hb' hcell hrep => exact .ep e o b off cur T fz cs hF hb' hcell hrep

theorem blwS_lk (n : Nat) : ∀ {l : List (Nat × AV)}, blwS n l = true → ∀ t, blw n (lk l t) = true
  | [], _, t => by simp [lk, blw]
  | (k, v) :: l, h, t => by
    simp only [blwS, Bool.and_eq_true] at h
    simp only [lk]
    split
    · exact h.1
    · exact blwS_lk n h.2 t
theorem blwH_get (n : Nat) : ∀ {l : List Ent} {i : Nat} {e : Ent}, blwH n l = true → l[i]? = some e → blwE n e = true
  | [], i, e, _, h => by simp at h
  | x :: l, 0, e, h, he => by simp [blwH] at h; simp at he; exact he ▸ h.1
  | x :: l, i + 1, e, h, he => by simp [blwH] at h; simp at he; exact blwH_get n h.2 he

/-- fewer entries -/
theorem Wk.trunc {l : List (Nat × AV)} {hp hp' : List Ent} (h : hp'.length ≤ hp.length) (e : hp.take hp'.length = hp') (hn : n0 ≤ hp'.length) (h1 : blwS hp'.length l = true) (h2 : blwH hp'.length hp' = true) :
    Wk n0 ⟨l, hp⟩ ⟨l, hp'⟩ := fun B m F N a w hB r => by
  have hlen : m.length = hp.length := r.hp.len
  have get : ∀ {id : Nat} {y : Option (Nat × Nat)}, (m.take hp'.length)[id]? = some y → m[id]? = some y ∧ id < hp'.length := by
    intro id y h
    rw [List.getElem?_take] at h
    split at h
    · rename_i hlt; exact ⟨h, hlt⟩
    · cases h
  have ge : ∀ {id : Nat} {x : Ent}, hp'[id]? = some x → hp[id]? = some x := by
    intro id x hx
    have hlt := lt_of_some hx
    rw [← e, List.getElem?_take, if_pos hlt] at hx
    exact hx
  refine ⟨m.take hp'.length, F, ⟨by simp; omega, r.hp.stable, ?_, ?_, ?_⟩, fun t => (r.sl t).take (blwS_lk _ h1 t), r.size, r.defers, ?_⟩
  · intro id x hx
    have hx' := r.hp.ent id x (ge hx)
    have hlt := lt_of_some hx
    cases x with
    | dead => trivial
    | box cells =>
      obtain ⟨b, sz, vs, T, hm, hb, hl, hc⟩ := hx'
      exact ⟨b, sz, vs, T, by rw [List.getElem?_take, if_pos hlt]; exact hm, hb, hl, fun o c v e1 e2 => (hc o c v e1 e2).take (blwL_get _ (by simpa [blwE] using blwH_get _ h2 hx) e1)⟩
    | arr sz elems =>
      rcases hx' with ⟨hm, he⟩ | ⟨b, cur, T, cs, hm, rest⟩
      · exact .inl ⟨by rw [List.getElem?_take, if_pos hlt]; exact hm, he⟩
      · exact .inr ⟨b, cur, T, cs, by rw [List.getElem?_take, if_pos hlt]; exact hm, rest⟩
  · intro i j ei ej bi si bj sj hi hj ai aj hne hmi hmj
    exact r.hp.inj i j ei ej bi si bj sj (ge hi) (ge hj) ai aj hne (get hmi).1 (get hmj).1
  · intro i x b s hx ha hm
    exact r.hp.own i x b s (ge hx) ha (get hm).1
  · have t := r.base
    refine ⟨t.os, t.tape, t.output, t.size, t.blk, t.sub, t.sup, ?_, by simp; omega, t.shp, ?_⟩
    · intro id hid
      rw [List.getElem?_take, if_pos (by omega)]
      exact t.mid id hid
    · intro id b z hid hm
      exact t.mb id b z hid (get hm).1

/-- a call as it stands -/
theorem acall_of {k : FuncId} {as : List Operand} {dst : Option Nat} {K : St → Prop} {s : St} (h : GC P k (as.map (ev s)) s.hp (callK dst K s.sl)) : acall P n0 k as dst K s :=
  ⟨s, Wk.refl, h⟩

theorem fin_nil {r : AV} {hp : List Ent} {K : AV → List Ent → Prop} (h : K (rn n0 [] r) ((hp.take n0).map (rnE n0 []))) : fin n0 r hp K :=
  ⟨[], List.nodup_nil, by simp, by simpa using h⟩

end Eng
end Go.Proofs.Ytbfonmedgcemjaa
