/-
An abstract interpreter of the program's code on plain data, with its proof of soundness: part A, the relation between plain data and the model's worlds.
No condition: everything here is stated over any program.
-/
import Derived.WalkKit
import Derived.ProofKit
import Derived.Deep.Quiet
namespace Go.Proofs.Ytbfonmedgcemjaa
namespace Eng
set_option linter.unusedVariables false
set_option linter.unusedSimpArgs false

/-- plain data of one cell -/
inductive D where
  | v (x : Value)
  | sl (sz : Nat) (xs : List (List D))

/-- what a slot holds -/
inductive AV where
  | d (x : D)
  | agg (cs : List AV)
  | tup (cs : List AV)
  | ref (id lo len : Nat)
  | bx (id o : Nat)
  | ptr (id i o : Nat)
  | ep (e : List D) (o : Nat)
  | top

/-- a block of memory that the function itself has made -/
inductive Ent where
  | dead
  | box (cells : List AV)
  | arr (sz : Nat) (elems : List (List D))

abbrev Mp := List (Option (Nat × Nat))

/-- the value reads as the datum, in blocks of F -/
inductive RepD (w : World) (F : Nat → Prop) : D → Value → Prop
  | v (x : Value) : RepD w F (.v x) x
  | nil (sz : Nat) (a : Option Addr) (cap : Nat) : RepD w F (.sl sz []) (.slice a 0 cap)
  | sl (sz : Nat) (xs : List (List D)) (b off cap : Nat) (cur : Array Value) (T : TypeId) (fz : Nat × Nat) (cs : Nat → Nat → Value)
      (hF : F b) (hb : w.heap[b]? = some (.cells cur T fz)) (hcap : xs.length ≤ cap) (hmax : cap ≤ maxLen)
      (hsz : ∀ e ∈ xs, e.length = sz)
      (hcell : ∀ i o, i < xs.length → o < sz → cur[off + i * sz + o]? = some (cs i o))
      (hrep : ∀ (i o : Nat) (e : List D) (d : D), xs[i]? = some e → e[o]? = some d → RepD w F d (cs i o)) :
      RepD w F (.sl sz xs) (.slice (some ⟨b, off, none⟩) xs.length cap)

inductive RepA (m : Mp) (w : World) (F : Nat → Prop) : AV → Value → Prop
  | d {x : D} {v : Value} (h : RepD w F x v) : RepA m w F (.d x) v
  | top (v : Value) : RepA m w F .top v
  | agg (cs : List AV) (vs : List Value) (hl : vs.length = cs.length)
      (h : ∀ (i : Nat) (c : AV) (v : Value), cs[i]? = some c → vs[i]? = some v → RepA m w F c v) : RepA m w F (.agg cs) (.agg vs.toArray)
  | tup (cs : List AV) (vs : List Value) (hl : vs.length = cs.length)
      (h : ∀ (i : Nat) (c : AV) (v : Value), cs[i]? = some c → vs[i]? = some v → RepA m w F c v) : RepA m w F (.tup cs) (.tuple vs.toArray)
  | refNil (id : Nat) (hm : m[id]? = some none) : RepA m w F (.ref id 0 0) (.slice none 0 0)
  | ref (id lo len b sz cap : Nat) (cur : Array Value) (T : TypeId) (hm : m[id]? = some (some (b, sz)))
      (hb : w.heap[b]? = some (.cells cur T (0, 0))) (hs : cur.size = (lo + cap) * sz) (hl : len ≤ cap) (hmax : lo + cap ≤ maxLen) :
      RepA m w F (.ref id lo len) (.slice (some ⟨b, lo * sz, none⟩) len cap)
  | bx (id o b sz : Nat) (hm : m[id]? = some (some (b, sz))) : RepA m w F (.bx id o) (.pointer (some ⟨b, o, none⟩))
  | ptr (id i o b sz : Nat) (hm : m[id]? = some (some (b, sz))) : RepA m w F (.ptr id i o) (.pointer (some ⟨b, i * sz + o, none⟩))
  | ep (e : List D) (o b off : Nat) (cur : Array Value) (T : TypeId) (fz : Nat × Nat) (cs : Nat → Value)
      (hF : F b) (hb : w.heap[b]? = some (.cells cur T fz))
      (hcell : ∀ j, j < e.length → cur[off + j]? = some (cs j))
      (hrep : ∀ (j : Nat) (d : D), e[j]? = some d → RepD w F d (cs j)) :
      RepA m w F (.ep e o) (.pointer (some ⟨b, off + o, none⟩))

/-- a list of slots' contents -/
def RepL (m : Mp) (w : World) (F : Nat → Prop) (xs : List AV) (vs : List Value) : Prop :=
  vs.length = xs.length ∧ ∀ (i : Nat) (c : AV) (v : Value), xs[i]? = some c → vs[i]? = some v → RepA m w F c v

def Ent.alive : Ent → Bool
  | .dead => false
  | _ => true

def RepE (m : Mp) (w : World) (F : Nat → Prop) (id : Nat) : Ent → Prop
  | .dead => True
  | .box cells => ∃ b sz vs T, m[id]? = some (some (b, sz)) ∧ w.heap[b]? = some (.cells vs T (0, 0)) ∧ vs.size = cells.length ∧
      ∀ (o : Nat) (c : AV) (v : Value), cells[o]? = some c → vs[o]? = some v → RepA m w F c v
  | .arr sz elems => (m[id]? = some none ∧ elems = []) ∨ ∃ (b : Nat) (cur : Array Value) (T : TypeId) (cs : Nat → Nat → Value), m[id]? = some (some (b, sz)) ∧ w.heap[b]? = some (.cells cur T (0, 0)) ∧
      (∀ e ∈ elems, e.length = sz) ∧ (∀ i o, i < elems.length → o < sz → cur[i * sz + o]? = some (cs i o)) ∧
      ∀ (i o : Nat) (e : List D) (d : D), elems[i]? = some e → e[o]? = some d → RepD w F d (cs i o)

structure RelH (m : Mp) (w : World) (F : Nat → Prop) (hp : List Ent) : Prop where
  len : m.length = hp.length
  stable : ∀ b, F b → b < w.heap.size
  ent : ∀ (id : Nat) (e : Ent), hp[id]? = some e → RepE m w F id e
  inj : ∀ (i j : Nat) (ei ej : Ent) (bi si bj sj : Nat), hp[i]? = some ei → hp[j]? = some ej → ei.alive = true → ej.alive = true → i ≠ j →
    m[i]? = some (some (bi, si)) → m[j]? = some (some (bj, sj)) → bi ≠ bj
  own : ∀ (i : Nat) (e : Ent) (b s : Nat), hp[i]? = some e → e.alive = true → m[i]? = some (some (b, s)) → ¬ F b ∧ b < w.heap.size

/-- how worlds go on -/
structure Tr (m0 : Mp) (w0 : World) (F0 : Nat → Prop) (m : Mp) (w : World) (F : Nat → Prop) : Prop where
  os : w.os = w0.os
  tape : w.tape = w0.tape
  output : w.output = w0.output
  size : w0.heap.size ≤ w.heap.size
  blk : ∀ b, F0 b → w.heap[b]? = w0.heap[b]?
  sub : ∀ b, F0 b → F b
  sup : ∀ b, F b → F0 b ∨ w0.heap.size ≤ b
  mid : ∀ id, id < m0.length → m[id]? = m0[id]?
  mlen : m0.length ≤ m.length
  shp : ∀ (b : Nat) (c : Array Value) (T : TypeId) (f : Nat × Nat), w0.heap[b]? = some (.cells c T f) → ∃ c', w.heap[b]? = some (.cells c' T f) ∧ c'.size = c.size
  mb : ∀ (id b z : Nat), m0.length ≤ id → m[id]? = some (some (b, z)) → w0.heap.size ≤ b

theorem Tr.refl (m : Mp) (w : World) (F : Nat → Prop) : Tr m w F m w F where
  os := rfl
  tape := rfl
  output := rfl
  size := Nat.le_refl _
  blk := fun _ _ => rfl
  sub := fun _ h => h
  sup := fun _ h => .inl h
  mid := fun _ _ => rfl
  mlen := Nat.le_refl _
  shp := fun b c T f h => ⟨c, h, rfl⟩
  mb := fun id b z h hm => by
    rw [List.getElem?_eq_none h] at hm; cases hm

theorem Tr.trans {m0 w0 F0 m1 w1 F1 m2 w2 F2} (h1 : Tr m0 w0 F0 m1 w1 F1) (h2 : Tr m1 w1 F1 m2 w2 F2) : Tr m0 w0 F0 m2 w2 F2 where
  os := h2.os.trans h1.os
  tape := h2.tape.trans h1.tape
  output := h2.output.trans h1.output
  size := Nat.le_trans h1.size h2.size
  blk := fun b hb => (h2.blk b (h1.sub b hb)).trans (h1.blk b hb)
  sub := fun b hb => h2.sub b (h1.sub b hb)
  sup := fun b hb => by
    rcases h2.sup b hb with h | h
    · exact h1.sup b h
    · exact .inr (Nat.le_trans h1.size h)
  mid := fun id h => (h2.mid id (Nat.lt_of_lt_of_le h h1.mlen)).trans (h1.mid id h)
  mlen := Nat.le_trans h1.mlen h2.mlen
  shp := fun b c T f h => by
    obtain ⟨c1, e1, s1⟩ := h1.shp b c T f h
    obtain ⟨c2, e2, s2⟩ := h2.shp b c1 T f e1
    exact ⟨c2, e2, s2.trans s1⟩
  mb := fun id b z h hm => by
    by_cases hl : id < m1.length
    · rw [h2.mid id hl] at hm
      exact h1.mb id b z h hm
    · exact Nat.le_trans h1.size (h2.mb id b z (Nat.le_of_not_lt hl) hm)

theorem RepD.tr {w w' : World} {F F' : Nat → Prop} {d : D} {v : Value} (h : RepD w F d v)
    (hb : ∀ b, F b → w'.heap[b]? = w.heap[b]?) (hs : ∀ b, F b → F' b) : RepD w' F' d v := by
  induction h with
  | v x => exact .v x
  | nil sz a cap => exact .nil sz a cap
  | sl sz xs b off cap cur T fz cs hF hb' hcap hmax hsz hcell hrep ih =>
    exact .sl sz xs b off cap cur T fz cs (hs b hF) ((hb b hF).trans hb') hcap hmax hsz hcell ih

theorem lt_of_some {α : Type} {l : List α} {i : Nat} {x : α} (h : l[i]? = some x) : i < l.length := by
  rcases Nat.lt_or_ge i l.length with h' | h'
  · exact h'
  · rw [List.getElem?_eq_none h'] at h; cases h

theorem RepA.tr {m0 w0 F0 m w F} (t : Tr m0 w0 F0 m w F) {x : AV} {v : Value} (h : RepA m0 w0 F0 x v) : RepA m w F x v := by
  induction h with
  | d h => exact .d (h.tr t.blk t.sub)
  | top v => exact .top v
  | agg cs vs hl h ih => exact .agg cs vs hl ih
  | tup cs vs hl h ih => exact .tup cs vs hl ih
  | refNil id hm => exact .refNil id ((t.mid id (lt_of_some hm)).trans hm)
  | ref id lo len b sz cap cur T hm hb hs hl hmax =>
    obtain ⟨c', e, s⟩ := t.shp b cur T (0, 0) hb
    exact .ref id lo len b sz cap c' T ((t.mid id (lt_of_some hm)).trans hm) e (s.trans hs) hl hmax
  | bx id o b sz hm => exact .bx id o b sz ((t.mid id (lt_of_some hm)).trans hm)
  | ptr id i o b sz hm => exact .ptr id i o b sz ((t.mid id (lt_of_some hm)).trans hm)
  | ep e o b off cur T fz cs hF hb hcell hrep =>
    exact .ep e o b off cur T fz cs (t.sub b hF) ((t.blk b hF).trans hb) hcell (fun j d hd => (hrep j d hd).tr t.blk t.sub)

/-- all entries but id stay what they are, if the world's other blocks stay -/
theorem RepE.tr {m0 w0 F0 m w F} (t : Tr m0 w0 F0 m w F) {id : Nat} {e : Ent} (h : RepE m0 w0 F0 id e)
    (hb : e.alive = true → ∀ b z, m0[id]? = some (some (b, z)) → w.heap[b]? = w0.heap[b]?) : RepE m w F id e := by
  cases e with
  | dead => trivial
  | box cells =>
    obtain ⟨b, sz, vs, T, hm, hh, hl, hc⟩ := h
    exact ⟨b, sz, vs, T, (t.mid id (lt_of_some hm)).trans hm, (hb rfl b sz hm).trans hh, hl, fun o c v h1 h2 => (hc o c v h1 h2).tr t⟩
  | arr sz elems =>
    rcases h with ⟨hm, he⟩ | ⟨b, cur, T, cs, hm, hh, hsz, hcell, hrep⟩
    · exact .inl ⟨(t.mid id (lt_of_some hm)).trans hm, he⟩
    · exact .inr ⟨b, cur, T, cs, (t.mid id (lt_of_some hm)).trans hm, (hb rfl b sz hm).trans hh, hsz, hcell,
        fun i o e d h1 h2 => (hrep i o e d h1 h2).tr t.blk t.sub⟩

/-- a new block -/
theorem Tr.alloc (m : Mp) (w : World) (F : Nat → Prop) (hF : ∀ b, F b → b < w.heap.size) (o : Obj) (z : Nat) :
    Tr m w F (m ++ [some (w.heap.size, z)]) (w.alloc o) F where
  os := rfl
  tape := rfl
  output := rfl
  size := by simp
  blk := fun b hb => heap_alloc_old w o (hF b hb)
  sub := fun _ h => h
  sup := fun _ h => .inl h
  mid := fun id h => by rw [List.getElem?_append_left h]
  mlen := by simp
  shp := fun b c T f h => by
    have hb : b < w.heap.size := by
      rcases Nat.lt_or_ge b w.heap.size with h' | h'
      · exact h'
      · rw [Array.getElem?_eq_none h'] at h; cases h
    exact ⟨c, (heap_alloc_old w o hb).trans h, rfl⟩
  mb := fun id b z' h hm => by
    rw [List.getElem?_append_right h] at hm
    cases hk : id - m.length with
    | zero => rw [hk] at hm; simp at hm; omega
    | succ k => rw [hk] at hm; simp at hm

/-- an entry more, in a new block -/
theorem RelH.alloc {m w F hp} (h : RelH m w F hp) (o : Obj) (z : Nat) (e : Ent)
    (he : RepE (m ++ [some (w.heap.size, z)]) (w.alloc o) F m.length e) : RelH (m ++ [some (w.heap.size, z)]) (w.alloc o) F (hp ++ [e]) := by
  have t := Tr.alloc m w F h.stable o z
  have old : ∀ (i : Nat) (x : Ent) (b s : Nat), hp[i]? = some x → x.alive = true → (m ++ [some (w.heap.size, z)])[i]? = some (some (b, s)) → ¬ F b ∧ b < w.heap.size := by
    intro i x b s hx ha hm
    have hi : i < m.length := by rw [h.len]; exact lt_of_some hx
    rw [List.getElem?_append_left hi] at hm
    exact h.own i x b s hx ha hm
  have new : ∀ (i : Nat) (x : Ent), (hp ++ [e])[i]? = some x → (i < hp.length ∧ hp[i]? = some x) ∨ (i = hp.length ∧ x = e) := by
    intro i x hx
    rcases Nat.lt_or_ge i hp.length with hi | hi
    · rw [List.getElem?_append_left hi] at hx; exact .inl ⟨hi, hx⟩
    · rw [List.getElem?_append_right hi] at hx
      cases hk : i - hp.length with
      | zero => rw [hk] at hx; simp at hx; exact .inr ⟨by omega, hx.symm⟩
      | succ k => rw [hk] at hx; simp at hx
  have last : ∀ (b s : Nat), (m ++ [some (w.heap.size, z)])[hp.length]? = some (some (b, s)) → b = w.heap.size := by
    intro b s hm
    rw [← h.len] at hm
    simp at hm
    exact hm.1.symm
  refine ⟨by simp [h.len], fun b hb => Nat.lt_of_lt_of_le (h.stable b hb) t.size, ?_, ?_, ?_⟩
  · intro id x hx
    rcases new id x hx with ⟨hi, hx'⟩ | ⟨rfl, rfl⟩
    · refine (h.ent id x hx').tr t ?_
      intro ha b s hm
      exact heap_alloc_old w o (h.own id x b s hx' ha hm).2
    · rw [← h.len]; exact he
  · intro i j ei ej bi si bj sj hi hj ai aj hne hmi hmj
    rcases new i ei hi with ⟨hi', hx⟩ | ⟨rfl, rfl⟩
    · rcases new j ej hj with ⟨hj', hy⟩ | ⟨rfl, rfl⟩
      · have h1 : i < m.length := by rw [h.len]; exact hi'
        have h2 : j < m.length := by rw [h.len]; exact hj'
        rw [List.getElem?_append_left h1] at hmi
        rw [List.getElem?_append_left h2] at hmj
        exact h.inj i j ei ej bi si bj sj hx hy ai aj hne hmi hmj
      · have := (old i ei bi si hx ai hmi).2
        have := last bj sj hmj
        omega
    · rcases new j ej hj with ⟨hj', hy⟩ | ⟨rfl, rfl⟩
      · have := (old j ej bj sj hy aj hmj).2
        have := last bi si hmi
        omega
      · exact absurd rfl hne
  · intro i x b s hx ha hm
    rcases new i x hx with ⟨hi, hx'⟩ | ⟨rfl, rfl⟩
    · have := old i x b s hx' ha hm
      exact ⟨this.1, Nat.lt_of_lt_of_le this.2 t.size⟩
    · have := last b s hm
      subst this
      exact ⟨fun hF => Nat.lt_irrefl _ (h.stable _ hF), by simp⟩

end Eng
end Go.Proofs.Ytbfonmedgcemjaa
