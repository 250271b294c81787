/-
An abstract interpreter of the program's code on plain data: part A, plain data and how it is tied to the model's worlds.
No condition: everything here is stated over any program.
-/
import Derived.WalkKit
import Derived.ProofKit
import Derived.Deep.Quiet
import Derived.Laws.Tables
namespace Go.Proofs.Ytgcmahhejblpkaa
namespace Eng
set_option linter.unusedVariables false
set_option linter.unusedSimpArgs false

/-- what a slot or a cell holds: a value; a slice that nobody writes any more, with all that it holds; a struct; several results; a slice of an own block from its beginning; a view of an own block; a pointer into an own block; a pointer to an element that nobody writes any more -/
inductive AV where
  | v (x : Value)
  | sl (sz : Nat) (xs : List (List AV))
  | agg (cs : List AV)
  | tup (cs : List AV)
  | ref (id len : Nat)
  | rs (id lo len : Nat)
  | ptr (id i o : Nat)
  | ep (e : List AV) (o : Nat)
  | top

/-- an own block of memory: elements of sz cells each -/
inductive Ent where
  | dead
  | arr (sz : Nat) (elems : List (List AV))

abbrev Mp := List (Option (Nat × Nat))

/-- what a cell of frozen memory holds -/
def pln : AV → Bool
  | .v x => x.oneCell'
  | .sl _ _ => true
  | _ => false

/-- what fits into one cell -/
def one : AV → Bool
  | .v x => x.oneCell'
  | .sl _ _ | .ref _ _ | .rs _ _ _ | .ptr _ _ _ | .ep _ _ => true
  | _ => false
def oneL : List AV → Bool
  | [] => true
  | x :: l => one x && oneL l

inductive RepA (m : Mp) (w : World) (F : Nat → Prop) : AV → Value → Prop
  | v (x : Value) : RepA m w F (.v x) x
  | top (v : Value) : RepA m w F .top v
  | agg (cs : List AV) (vs : List Value) (hl : vs.length = cs.length)
      (h : ∀ (i : Nat) (c : AV) (v : Value), cs[i]? = some c → vs[i]? = some v → RepA m w F c v) : RepA m w F (.agg cs) (.agg vs.toArray)
  | tup (cs : List AV) (vs : List Value) (hl : vs.length = cs.length)
      (h : ∀ (i : Nat) (c : AV) (v : Value), cs[i]? = some c → vs[i]? = some v → RepA m w F c v) : RepA m w F (.tup cs) (.tuple vs.toArray)
  | nil (sz : Nat) (a : Option Addr) (cap : Nat) : RepA m w F (.sl sz []) (.slice a 0 cap)
  | sl (sz : Nat) (xs : List (List AV)) (b off cap : Nat) (cur : Array Value) (T : TypeId) (fz : Nat × Nat) (cs : Nat → Nat → Value)
      (hF : F b) (hb : w.heap[b]? = some (.cells cur T fz)) (hcap : xs.length ≤ cap) (hmax : cap ≤ maxLen)
      (hsz : ∀ e ∈ xs, e.length = sz) (hpl : ∀ e ∈ xs, ∀ d ∈ e, pln d = true)
      (hcell : ∀ i o, i < xs.length → o < sz → cur[off + i * sz + o]? = some (cs i o))
      (hrep : ∀ (i o : Nat) (e : List AV) (d : AV), xs[i]? = some e → e[o]? = some d → RepA m w F d (cs i o)) :
      RepA m w F (.sl sz xs) (.slice (some ⟨b, off, none⟩) xs.length cap)
  | refNil (id : Nat) (hm : m[id]? = some none) : RepA m w F (.ref id 0) (.slice none 0 0)
  | ref (id len b sz cap : Nat) (cur : Array Value) (T : TypeId) (hm : m[id]? = some (some (b, sz)))
      (hb : w.heap[b]? = some (.cells cur T (0, 0))) (hs : cur.size = cap * sz) (hl : len ≤ cap) (hmax : cap ≤ maxLen) :
      RepA m w F (.ref id len) (.slice (some ⟨b, 0, none⟩) len cap)
  | rsNil (id lo : Nat) (a : Option Addr) (cap : Nat) : RepA m w F (.rs id lo 0) (.slice a 0 cap)
  | rs (id lo len b sz cap : Nat) (hm : m[id]? = some (some (b, sz))) (hl : len ≤ cap) (hmax : cap ≤ maxLen) : RepA m w F (.rs id lo len) (.slice (some ⟨b, lo * sz, none⟩) len cap)
  | ptr (id i o b sz : Nat) (hm : m[id]? = some (some (b, sz))) : RepA m w F (.ptr id i o) (.pointer (some ⟨b, i * sz + o, none⟩))
  | ep (e : List AV) (o b off : Nat) (cur : Array Value) (T : TypeId) (fz : Nat × Nat) (cs : Nat → Value)
      (hF : F b) (hb : w.heap[b]? = some (.cells cur T fz)) (hpl : ∀ d ∈ e, pln d = true)
      (hcell : ∀ j, j < e.length → cur[off + j]? = some (cs j))
      (hrep : ∀ (j : Nat) (d : AV), e[j]? = some d → RepA m w F d (cs j)) :
      RepA m w F (.ep e o) (.pointer (some ⟨b, off + o, none⟩))

/-- a list of contents -/
def RepL (m : Mp) (w : World) (F : Nat → Prop) (xs : List AV) (vs : List Value) : Prop :=
  vs.length = xs.length ∧ ∀ (i : Nat) (c : AV) (v : Value), xs[i]? = some c → vs[i]? = some v → RepA m w F c v

def Ent.alive : Ent → Bool
  | .dead => false
  | _ => true

def RepE (m : Mp) (w : World) (F : Nat → Prop) (id : Nat) : Ent → Prop
  | .dead => True
  | .arr sz elems => (m[id]? = some none ∧ elems = []) ∨ ∃ (b : Nat) (cur : Array Value) (T : TypeId) (cs : Nat → Nat → Value), m[id]? = some (some (b, sz)) ∧ w.heap[b]? = some (.cells cur T (0, 0)) ∧
      (∀ e ∈ elems, e.length = sz ∧ oneL e = true) ∧ (∀ i o, i < elems.length → o < sz → cur[i * sz + o]? = some (cs i o)) ∧
      ∀ (i o : Nat) (e : List AV) (d : AV), elems[i]? = some e → e[o]? = some d → RepA m w F d (cs i o)

structure RelH (m : Mp) (w : World) (F : Nat → Prop) (hp : List Ent) : Prop where
  len : m.length = hp.length
  stable : ∀ b, F b → b < w.heap.size
  ent : ∀ (id : Nat) (e : Ent), hp[id]? = some e → RepE m w F id e
  inj : ∀ (i j : Nat) (ei ej : Ent) (bi si bj sj : Nat), hp[i]? = some ei → hp[j]? = some ej → ei.alive = true → ej.alive = true → i ≠ j →
    m[i]? = some (some (bi, si)) → m[j]? = some (some (bj, sj)) → bi ≠ bj
  own : ∀ (i : Nat) (e : Ent) (b s : Nat), hp[i]? = some e → e.alive = true → m[i]? = some (some (b, s)) → ¬ F b ∧ b < w.heap.size

/-- the blocks that the entries stand for -/
def Own (m : Mp) (hp : List Ent) (b : Nat) : Prop := ∃ (id : Nat) (e : Ent) (s : Nat), hp[id]? = some e ∧ e.alive = true ∧ m[id]? = some (some (b, s))

/-- how worlds go on -/
structure Tr (m0 : Mp) (w0 : World) (F0 : Nat → Prop) (h0 : List Ent) (m : Mp) (w : World) (F : Nat → Prop) (h : List Ent) : Prop where
  os : w.os = w0.os
  tape : w.tape = w0.tape
  output : w.output = w0.output
  size : w0.heap.size ≤ w.heap.size
  blk : ∀ b, F0 b → w.heap[b]? = w0.heap[b]?
  sub : ∀ b, F0 b → F b
  mid : ∀ id, id < m0.length → m[id]? = m0[id]?
  mlen : m0.length ≤ m.length
  shp : ∀ (b : Nat) (c : Array Value) (T : TypeId) (f : Nat × Nat), w0.heap[b]? = some (.cells c T f) → ∃ c', w.heap[b]? = some (.cells c' T f) ∧ c'.size = c.size
  fix : ∀ b, b < w0.heap.size → ¬ Own m0 h0 b → w.heap[b]? = w0.heap[b]?
  own : ∀ b, Own m h b → Own m0 h0 b ∨ w0.heap.size ≤ b
  frz : ∀ b, F b → F0 b ∨ w0.heap.size ≤ b ∨ Own m0 h0 b

theorem Tr.refl (m : Mp) (w : World) (F : Nat → Prop) (h : List Ent) : Tr m w F h m w F h where
  os := rfl
  tape := rfl
  output := rfl
  size := Nat.le_refl _
  blk := fun _ _ => rfl
  sub := fun _ h => h
  mid := fun _ _ => rfl
  mlen := Nat.le_refl _
  shp := fun b c T f h => ⟨c, h, rfl⟩
  fix := fun _ _ _ => rfl
  own := fun _ h => .inl h
  frz := fun _ h => .inl h

theorem Tr.trans {m0 w0 F0 h0 m1 w1 F1 h1 m2 w2 F2 h2} (t1 : Tr m0 w0 F0 h0 m1 w1 F1 h1) (t2 : Tr m1 w1 F1 h1 m2 w2 F2 h2) : Tr m0 w0 F0 h0 m2 w2 F2 h2 where
  os := t2.os.trans t1.os
  tape := t2.tape.trans t1.tape
  output := t2.output.trans t1.output
  size := Nat.le_trans t1.size t2.size
  blk := fun b hb => (t2.blk b (t1.sub b hb)).trans (t1.blk b hb)
  sub := fun b hb => t2.sub b (t1.sub b hb)
  mid := fun id h => (t2.mid id (Nat.lt_of_lt_of_le h t1.mlen)).trans (t1.mid id h)
  mlen := Nat.le_trans t1.mlen t2.mlen
  shp := fun b c T f h => by
    obtain ⟨c1, e1, s1⟩ := t1.shp b c T f h
    obtain ⟨c2, e2, s2⟩ := t2.shp b c1 T f e1
    exact ⟨c2, e2, s2.trans s1⟩
  fix := fun b hb ho => (t2.fix b (Nat.lt_of_lt_of_le hb t1.size) (fun h => by
    rcases t1.own b h with h' | h'
    · exact ho h'
    · omega)).trans (t1.fix b hb ho)
  own := fun b h => by
    rcases t2.own b h with h' | h'
    · exact t1.own b h'
    · exact .inr (Nat.le_trans t1.size h')
  frz := fun b h => by
    rcases t2.frz b h with h' | h' | h'
    · exact t1.frz b h'
    · exact .inr (.inl (Nat.le_trans t1.size h'))
    · rcases t1.own b h' with h'' | h''
      · exact .inr (.inr h'')
      · exact .inr (.inl h'')

theorem lt_of_some {α : Type} {l : List α} {i : Nat} {x : α} (h : l[i]? = some x) : i < l.length := by
  rcases Nat.lt_or_ge i l.length with h' | h'
  · exact h'
  · rw [List.getElem?_eq_none h'] at h; cases h
theorem lt_of_block {w : World} {b : Nat} {o : Obj} (h : w.heap[b]? = some o) : b < w.heap.size := (Array.getElem?_eq_some_iff.1 h).1

/-- what transports contents -/
structure Go1 (m0 : Mp) (w0 : World) (F0 : Nat → Prop) (m : Mp) (w : World) (F : Nat → Prop) : Prop where
  blk : ∀ b, F0 b → w.heap[b]? = w0.heap[b]?
  sub : ∀ b, F0 b → F b
  mid : ∀ (id : Nat) (x : Option (Nat × Nat)), m0[id]? = some x → m[id]? = some x
  shp : ∀ (b : Nat) (c : Array Value) (T : TypeId) (f : Nat × Nat), w0.heap[b]? = some (.cells c T f) → ∃ c', w.heap[b]? = some (.cells c' T f) ∧ c'.size = c.size

theorem Tr.go1 {m0 w0 F0 h0 m w F h} (t : Tr m0 w0 F0 h0 m w F h) : Go1 m0 w0 F0 m w F := ⟨t.blk, t.sub, fun id x hx => (t.mid id (lt_of_some hx)).trans hx, t.shp⟩

theorem RepA.go {m0 w0 F0 m w F} (t : Go1 m0 w0 F0 m w F) {x : AV} {v : Value} (h : RepA m0 w0 F0 x v) : RepA m w F x v := by
  induction h with
  | v x => exact .v x
  | top v => exact .top v
  | agg cs vs hl h ih => exact .agg cs vs hl ih
  | tup cs vs hl h ih => exact .tup cs vs hl ih
  | nil sz a cap => exact .nil sz a cap
  | sl sz xs b off cap cur T fz cs hF hb hcap hmax hsz hpl hcell hrep ih =>
    exact .sl sz xs b off cap cur T fz cs (t.sub b hF) ((t.blk b hF).trans hb) hcap hmax hsz hpl hcell ih
  | refNil id hm => exact .refNil id (t.mid id _ hm)
  | ref id len b sz cap cur T hm hb hs hl hmax =>
    obtain ⟨c', e, s⟩ := t.shp b cur T (0, 0) hb
    exact .ref id len b sz cap c' T (t.mid id _ hm) e (s.trans hs) hl hmax
  | rsNil id lo a cap => exact .rsNil id lo a cap
  | rs id lo len b sz cap hm hl hmax => exact .rs id lo len b sz cap (t.mid id _ hm) hl hmax
  | ptr id i o b sz hm => exact .ptr id i o b sz (t.mid id _ hm)
  | ep e o b off cur T fz cs hF hb hpl hcell hrep ih => exact .ep e o b off cur T fz cs (t.sub b hF) ((t.blk b hF).trans hb) hpl hcell ih

theorem RepA.tr {m0 w0 F0 h0 m w F h} (t : Tr m0 w0 F0 h0 m w F h) {x : AV} {v : Value} (hx : RepA m0 w0 F0 x v) : RepA m w F x v := hx.go t.go1

theorem RepE.go {m0 w0 F0 m w F} (t : Go1 m0 w0 F0 m w F) {id : Nat} {e : Ent} (h : RepE m0 w0 F0 id e)
    (hb : e.alive = true → ∀ b z, m0[id]? = some (some (b, z)) → w.heap[b]? = w0.heap[b]?) : RepE m w F id e := by
  cases e with
  | dead => trivial
  | arr sz elems =>
    rcases h with ⟨hm, he⟩ | ⟨b, cur, T, cs, hm, hh, hsz, hcell, hrep⟩
    · exact .inl ⟨t.mid id _ hm, he⟩
    · exact .inr ⟨b, cur, T, cs, t.mid id _ hm, (hb rfl b sz hm).trans hh, hsz, hcell,
        fun i o e d h1 h2 => (hrep i o e d h1 h2).go t⟩

theorem RepE.tr {m0 w0 F0 h0 m w F h} (t : Tr m0 w0 F0 h0 m w F h) {id : Nat} {e : Ent} (hx : RepE m0 w0 F0 id e)
    (hb : e.alive = true → ∀ b z, m0[id]? = some (some (b, z)) → w.heap[b]? = w0.heap[b]?) : RepE m w F id e := hx.go t.go1 hb

theorem Own.lt {m w F hp} (hh : RelH m w F hp) {b : Nat} (h : Own m hp b) : b < w.heap.size := by
  obtain ⟨id, e, s, h1, h2, h3⟩ := h
  exact (hh.own id e b s h1 h2 h3).2
theorem Own.notF {m w F hp} (hh : RelH m w F hp) {b : Nat} (h : Own m hp b) : ¬ F b := by
  obtain ⟨id, e, s, h1, h2, h3⟩ := h
  exact (hh.own id e b s h1 h2 h3).1

/-- an entry of a list one longer -/
theorem snoc_get {α : Type} {l : List α} {x y : α} {i : Nat} (h : (l ++ [x])[i]? = some y) : (i < l.length ∧ l[i]? = some y) ∨ (i = l.length ∧ y = x) := by
  rcases Nat.lt_or_ge i l.length with hi | hi
  · rw [List.getElem?_append_left hi] at h; exact .inl ⟨hi, h⟩
  · rw [List.getElem?_append_right hi] at h
    cases hk : i - l.length with
    | zero => rw [hk] at h; simp at h; exact .inr ⟨by omega, h.symm⟩
    | succ k => rw [hk] at h; simp at h

/-- a block more -/
structure Al (w w' : World) (o : Obj) : Prop where
  heap : w'.heap = w.heap.push o
  os : w'.os = w.os
  tape : w'.tape = w.tape
  output : w'.output = w.output

theorem Al.of (w : World) (o : Obj) : Al w (w.alloc o) o := ⟨rfl, rfl, rfl, rfl⟩
theorem Al.drew (w : World) (o : Obj) : Al w (w.drew.alloc o) o := ⟨rfl, rfl, rfl, rfl⟩
theorem Al.old {w w' : World} {o : Obj} (h : Al w w' o) {b : Nat} (hb : b < w.heap.size) : w'.heap[b]? = w.heap[b]? := by
  rw [h.heap, Array.getElem?_push_lt hb, Array.getElem?_eq_getElem hb]
theorem Al.new {w w' : World} {o : Obj} (h : Al w w' o) : w'.heap[w.heap.size]? = some o := by
  rw [h.heap]; simp
theorem Al.size {w w' : World} {o : Obj} (h : Al w w' o) : w'.heap.size = w.heap.size + 1 := by rw [h.heap]; simp

theorem Al.tr {m : Mp} {w w' : World} {F : Nat → Prop} {hp : List Ent} {o : Obj} (h : Al w w' o) (hh : RelH m w F hp) : Tr m w F hp m w' F hp where
  os := h.os
  tape := h.tape
  output := h.output
  size := by rw [h.size]; omega
  blk := fun b hb => h.old (hh.stable b hb)
  sub := fun _ h => h
  mid := fun _ _ => rfl
  mlen := Nat.le_refl _
  shp := fun b c T f hb => ⟨c, (h.old (lt_of_block hb)).trans hb, rfl⟩
  fix := fun b hb _ => h.old hb
  own := fun _ h => .inl h
  frz := fun _ h => .inl h

theorem Al.relH {m : Mp} {w w' : World} {F : Nat → Prop} {hp : List Ent} {o : Obj} (h : Al w w' o) (hh : RelH m w F hp) : RelH m w' F hp :=
  ⟨hh.len, fun b hb => Nat.lt_of_lt_of_le (hh.stable b hb) (h.tr hh).size, fun id e he => (hh.ent id e he).tr (h.tr hh) (fun ha b z hm => h.old (hh.own id e b z he ha hm).2), hh.inj,
    fun i e b s he ha hm => ⟨(hh.own i e b s he ha hm).1, Nat.lt_of_lt_of_le (hh.own i e b s he ha hm).2 (h.tr hh).size⟩⟩

/-- an entry more, for a block that none stands for -/
theorem RelH.snoc {m w F hp} (h : RelH m w F hp) {b z : Nat} {e : Ent} (hb : b < w.heap.size) (hF : ¬ F b) (ho : ¬ Own m hp b)
    (he : RepE (m ++ [some (b, z)]) w F m.length e) : RelH (m ++ [some (b, z)]) w F (hp ++ [e]) := by
  have g : Go1 m w F (m ++ [some (b, z)]) w F := ⟨fun _ _ => rfl, fun _ h => h, fun id x hx => by rw [List.getElem?_append_left (lt_of_some hx)]; exact hx, fun b c T f h => ⟨c, h, rfl⟩⟩
  have last : ∀ (b' s : Nat), (m ++ [some (b, z)])[hp.length]? = some (some (b', s)) → b' = b := by
    intro b' s hm
    rw [← h.len] at hm
    simp at hm
    exact hm.1.symm
  have old : ∀ {i : Nat} {y : Option (Nat × Nat)}, i < hp.length → (m ++ [some (b, z)])[i]? = some y → m[i]? = some y := by
    intro i y hi hm
    rw [List.getElem?_append_left (by rw [h.len]; exact hi)] at hm
    exact hm
  refine ⟨by simp [h.len], h.stable, ?_, ?_, ?_⟩
  · intro id x hx
    rcases snoc_get hx with ⟨hi, hx'⟩ | ⟨rfl, rfl⟩
    · exact (h.ent id x hx').go g (fun _ _ _ _ => rfl)
    · rw [← h.len]; exact he
  · intro i j ei ej bi si bj sj hi hj ai aj hne hmi hmj
    rcases snoc_get hi with ⟨hi', hx⟩ | ⟨rfl, rfl⟩
    · rcases snoc_get hj with ⟨hj', hy⟩ | ⟨rfl, rfl⟩
      · exact h.inj i j ei ej bi si bj sj hx hy ai aj hne (old hi' hmi) (old hj' hmj)
      · rw [last bj sj hmj]
        rintro rfl
        exact ho ⟨i, ei, si, hx, ai, old hi' hmi⟩
    · rcases snoc_get hj with ⟨hj', hy⟩ | ⟨rfl, rfl⟩
      · rw [last bi si hmi]
        rintro rfl
        exact ho ⟨j, ej, sj, hy, aj, old hj' hmj⟩
      · exact absurd rfl hne
  · intro i x b' s hx ha hm
    rcases snoc_get hx with ⟨hi, hx'⟩ | ⟨rfl, rfl⟩
    · exact h.own i x b' s hx' ha (old hi hm)
    · rw [last b' s hm]; exact ⟨hF, hb⟩

theorem Tr.snoc {m0 w0 F0 h0 m w F hp} (t : Tr m0 w0 F0 h0 m w F hp) (hl : m.length = hp.length) {b z : Nat} {e : Ent} (hb : Own m0 h0 b ∨ w0.heap.size ≤ b) : Tr m0 w0 F0 h0 (m ++ [some (b, z)]) w F (hp ++ [e]) :=
  { t with
    mid := fun id h => by rw [List.getElem?_append_left (Nat.lt_of_lt_of_le h t.mlen)]; exact t.mid id h
    mlen := by have := t.mlen; simp; omega
    own := fun b' h => by
      obtain ⟨id, x, s, h1, h2, h3⟩ := h
      rcases snoc_get h1 with ⟨hi, h1'⟩ | ⟨rfl, rfl⟩
      · rw [List.getElem?_append_left (by rw [hl]; exact hi)] at h3
        exact t.own b' ⟨id, x, s, h1', h2, h3⟩
      · rw [← hl] at h3
        simp at h3
        rw [← h3.1]; exact hb }

/-- an entry more, in a new block -/
theorem RelH.alloc {m w F hp} (h : RelH m w F hp) {w' : World} {o : Obj} (al : Al w w' o) (z : Nat) (e : Ent)
    (he : RepE (m ++ [some (w.heap.size, z)]) w' F m.length e) : RelH (m ++ [some (w.heap.size, z)]) w' F (hp ++ [e]) ∧ Tr m w F hp (m ++ [some (w.heap.size, z)]) w' F (hp ++ [e]) :=
  ⟨(al.relH h).snoc (by rw [al.size]; omega) (fun hF => Nat.lt_irrefl _ (h.stable _ hF)) (fun ho => Nat.lt_irrefl _ (Own.lt h ho)) he, (al.tr h).snoc h.len (.inr (Nat.le_refl _))⟩

/-- an entry without a block -/
theorem RelH.nilEnt {m w F hp} (h : RelH m w F hp) (sz : Nat) : RelH (m ++ [none]) w F (hp ++ [.arr sz []]) ∧ Tr m w F hp (m ++ [none]) w F (hp ++ [.arr sz []]) := by
  have t : Tr m w F hp (m ++ [none]) w F (hp ++ [.arr sz []]) := {
    os := rfl, tape := rfl, output := rfl, size := Nat.le_refl _, blk := fun _ _ => rfl, sub := fun _ h => h
    mid := fun id h => by rw [List.getElem?_append_left h]
    mlen := by simp
    shp := fun b c T f h => ⟨c, h, rfl⟩
    fix := fun _ _ _ => rfl
    own := fun b hb => by
      obtain ⟨id, x, s, h1, h2, h3⟩ := hb
      rcases snoc_get h1 with ⟨hi, h1'⟩ | ⟨rfl, rfl⟩
      · rw [List.getElem?_append_left (by rw [h.len]; exact hi)] at h3
        exact .inl ⟨id, x, s, h1', h2, h3⟩
      · rw [← h.len] at h3; simp at h3
    frz := fun _ h => .inl h }
  have none_last : ∀ (b s : Nat), (m ++ [none])[hp.length]? ≠ some (some (b, s)) := by
    intro b s hm; rw [← h.len] at hm; simp at hm
  refine ⟨⟨by simp [h.len], h.stable, ?_, ?_, ?_⟩, t⟩
  · intro id x hx
    rcases snoc_get hx with ⟨hi, hx'⟩ | ⟨rfl, rfl⟩
    · exact (h.ent id x hx').tr t (fun _ _ _ _ => rfl)
    · exact .inl ⟨by rw [← h.len]; simp, rfl⟩
  · intro i j ei ej bi si bj sj hi hj ai aj hne hmi hmj
    rcases snoc_get hi with ⟨hi', hx⟩ | ⟨rfl, rfl⟩
    · rcases snoc_get hj with ⟨hj', hy⟩ | ⟨rfl, rfl⟩
      · rw [List.getElem?_append_left (by rw [h.len]; exact hi')] at hmi
        rw [List.getElem?_append_left (by rw [h.len]; exact hj')] at hmj
        exact h.inj i j ei ej bi si bj sj hx hy ai aj hne hmi hmj
      · exact absurd hmj (none_last _ _)
    · exact absurd hmi (none_last _ _)
  · intro i x b s hx ha hm
    rcases snoc_get hx with ⟨hi, hx'⟩ | ⟨rfl, rfl⟩
    · rw [List.getElem?_append_left (by rw [h.len]; exact hi)] at hm
      exact h.own i x b s hx' ha hm
    · exact absurd hm (none_last _ _)

/-- a block that is written, which an entry stands for -/
structure Sto (w w' : World) (b : Nat) (cur' : Array Value) (T : TypeId) : Prop where
  blk : w'.heap[b]? = some (.cells cur' T (0, 0))
  oth : ∀ k, k ≠ b → w'.heap[k]? = w.heap[k]?
  size : w'.heap.size = w.heap.size
  os : w'.os = w.os
  tape : w'.tape = w.tape
  output : w'.output = w.output

theorem Sto.go1 {m : Mp} {F : Nat → Prop} {w w' : World} {b : Nat} {cur cur' : Array Value} {T : TypeId} (h : Sto w w' b cur' T) (hb : w.heap[b]? = some (.cells cur T (0, 0)))
    (hs : cur'.size = cur.size) (hF : ¬ F b) : Go1 m w F m w' F where
  blk := fun k hk => h.oth k (fun e => hF (e ▸ hk))
  sub := fun _ h => h
  mid := fun _ _ h => h
  shp := fun k c T' f hk => by
    by_cases e : k = b
    · subst e
      rw [hb] at hk; cases hk
      exact ⟨cur', h.blk, hs⟩
    · exact ⟨c, (h.oth k e).trans hk, rfl⟩

theorem Sto.tr {m : Mp} {F : Nat → Prop} {w w' : World} {b : Nat} {cur cur' : Array Value} {T : TypeId} {hp : List Ent} (h : Sto w w' b cur' T) (hb : w.heap[b]? = some (.cells cur T (0, 0)))
    (hs : cur'.size = cur.size) (hF : ¬ F b) {id sz : Nat} {e e' : Ent} (he : hp[id]? = some e) (ha : e.alive = true) (hm : m[id]? = some (some (b, sz))) : Tr m w F hp m w' F (hp.set id e') where
  os := h.os
  tape := h.tape
  output := h.output
  size := by rw [h.size]; exact Nat.le_refl _
  blk := (h.go1 (m := m) hb hs hF).blk
  sub := fun _ h => h
  mid := fun _ _ => rfl
  mlen := Nat.le_refl _
  shp := (h.go1 (m := m) hb hs hF).shp
  fix := fun k hk ho => h.oth k (fun e1 => ho (e1 ▸ ⟨id, e, sz, he, ha, hm⟩))
  own := fun k hk => by
    obtain ⟨j, x, s, h1, h2, h3⟩ := hk
    rw [List.getElem?_set] at h1
    split at h1
    · rename_i hj; subst hj
      exact .inl ⟨id, e, s, he, ha, h3⟩
    · exact .inl ⟨j, x, s, h1, h2, h3⟩
  frz := fun _ h => .inl h

theorem RelH.upd {m : Mp} {w : World} {F : Nat → Prop} {hp : List Ent} (hh : RelH m w F hp) {w' : World} {id b sz : Nat} {e e' : Ent} (t : Go1 m w F m w' F) (hw : w.heap.size ≤ w'.heap.size) (he : hp[id]? = some e) (ha : e.alive = true)
    (hm : m[id]? = some (some (b, sz))) (ho : ∀ k, k ≠ b → w'.heap[k]? = w.heap[k]?) (h' : RepE m w' F id e') : RelH m w' F (hp.set id e') := by
  have hid := lt_of_some he
  have get : ∀ (j : Nat) (x : Ent), (hp.set id e')[j]? = some x → x.alive = true → ∃ y, hp[j]? = some y ∧ y.alive = true := by
    intro j x hx hxa
    rw [List.getElem?_set] at hx
    split at hx
    · rename_i hj; subst hj; exact ⟨e, he, ha⟩
    · exact ⟨x, hx, hxa⟩
  refine ⟨by simp [hh.len], fun k hk => Nat.lt_of_lt_of_le (hh.stable k hk) hw, ?_, ?_, ?_⟩
  · intro j x hx
    rw [List.getElem?_set] at hx
    split at hx
    · rename_i hj
      subst hj
      simp [hid] at hx
      subst hx
      exact h'
    · rename_i hj
      refine (hh.ent j x hx).go t ?_
      intro hxa b' z hb'
      refine ho b' ?_
      exact hh.inj j id x e b' z b sz hx he hxa ha (fun e => hj e.symm) hb' hm
  · intro i j ei ej bi si bj sj hi hj ai aj hne hmi hmj
    obtain ⟨yi, h1, h2⟩ := get i ei hi ai
    obtain ⟨yj, h3, h4⟩ := get j ej hj aj
    exact hh.inj i j yi yj bi si bj sj h1 h3 h2 h4 hne hmi hmj
  · intro i x b s hx hxa hm
    obtain ⟨y, h1, h2⟩ := get i x hx hxa
    exact ⟨(hh.own i y b s h1 h2 hm).1, Nat.lt_of_lt_of_le (hh.own i y b s h1 h2 hm).2 hw⟩

/-- an entry that is no longer needed -/
theorem RelH.kill {m : Mp} {w : World} {F : Nat → Prop} {hp : List Ent} (hh : RelH m w F hp) (id : Nat) : RelH m w F (hp.set id .dead) ∧ Tr m w F hp m w F (hp.set id .dead) := by
  have get : ∀ (j : Nat) (x : Ent), (hp.set id .dead)[j]? = some x → x.alive = true → hp[j]? = some x := by
    intro j x hx hxa
    rw [List.getElem?_set] at hx
    split at hx
    · split at hx
      · cases hx; cases hxa
      · cases hx
    · exact hx
  refine ⟨⟨by simp [hh.len], hh.stable, ?_, ?_, ?_⟩, ?_⟩
  · intro j x hx
    cases hxa : x.alive with
    | true => exact hh.ent j x (get j x hx hxa)
    | false => cases x with
      | dead => trivial
      | arr => cases hxa
  · intro i j ei ej bi si bj sj hi hj ai aj hne hmi hmj
    exact hh.inj i j ei ej bi si bj sj (get i ei hi ai) (get j ej hj aj) ai aj hne hmi hmj
  · intro i x b s hx hxa hm
    exact hh.own i x b s (get i x hx hxa) hxa hm
  · exact { Tr.refl m w F hp with own := fun b ⟨j, x, s, h1, h2, h3⟩ => .inl ⟨j, x, s, get j x h1 h2, h2, h3⟩ }

end Eng
end Go.Proofs.Ytgcmahhejblpkaa
