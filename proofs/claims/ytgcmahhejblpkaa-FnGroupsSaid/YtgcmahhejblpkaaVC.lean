/-
An abstract interpreter of the program's code on plain data: part C, soundness of the operations that only read.
No condition: everything here is stated over any program.
-/
import Derived.Test.YtgcmahhejblpkaaVB
import Derived.Laws.StructEq
namespace Go.Proofs.Ytgcmahhejblpkaa
namespace Eng
set_option linter.unusedVariables false
set_option linter.unusedSimpArgs false

variable {P : Program} {n0 N : Nat} {B : Bs} {m : Mp} {F : Nat → Prop} {s : St} {a : Act} {w : World} {hp : List Ent}

theorem RepA.inv_v {x v : Value} (h : RepA m w F (.v x) v) : v = x := by cases h; rfl
theorem RepA.inv_tup {cs : List AV} {v : Value} (h : RepA m w F (.tup cs) v) : ∃ vs : List Value, v = .tuple vs.toArray ∧ vs.length = cs.length ∧
    ∀ (i : Nat) (c : AV) (v : Value), cs[i]? = some c → vs[i]? = some v → RepA m w F c v := by
  cases h with | tup cs vs hl h => exact ⟨vs, rfl, hl, h⟩
theorem RepA.inv_agg {cs : List AV} {v : Value} (h : RepA m w F (.agg cs) v) : ∃ vs : List Value, v = .agg vs.toArray ∧ vs.length = cs.length ∧
    ∀ (i : Nat) (c : AV) (v : Value), cs[i]? = some c → vs[i]? = some v → RepA m w F c v := by
  cases h with | agg cs vs hl h => exact ⟨vs, rfl, hl, h⟩
theorem RepA.inv_ptr {id i o' : Nat} {v : Value} (h : RepA m w F (.ptr id i o') v) : ∃ b sz, m[id]? = some (some (b, sz)) ∧ v = .pointer (some ⟨b, i * sz + o', none⟩) := by
  cases h with | ptr id i o b sz hm => exact ⟨b, sz, hm, rfl⟩
theorem RepA.inv_ep {e : List AV} {o' : Nat} {v : Value} (h : RepA m w F (.ep e o') v) : ∃ (b off : Nat) (cur : Array Value) (T : TypeId) (fz : Nat × Nat) (cs : Nat → Value),
    F b ∧ w.heap[b]? = some (.cells cur T fz) ∧ (∀ d ∈ e, pln d = true) ∧ (∀ j, j < e.length → cur[off + j]? = some (cs j)) ∧ (∀ (j : Nat) (d : AV), e[j]? = some d → RepA m w F d (cs j)) ∧
    v = .pointer (some ⟨b, off + o', none⟩) := by
  cases h with | ep e o b off cur T fz cs hF hb hpl hcell hrep => exact ⟨b, off, cur, T, fz, cs, hF, hb, hpl, hcell, hrep, rfl⟩

structure SlAt (m : Mp) (w : World) (F : Nat → Prop) (sz : Nat) (xs : List (List AV)) (b off cap : Nat) (cur : Array Value) (T : TypeId) (fz : Nat × Nat) (cs : Nat → Nat → Value) : Prop where
  hF : F b
  hb : w.heap[b]? = some (.cells cur T fz)
  hcap : xs.length ≤ cap
  hmax : cap ≤ maxLen
  hsz : ∀ e ∈ xs, e.length = sz
  hpl : ∀ e ∈ xs, ∀ d ∈ e, pln d = true
  hcell : ∀ i o, i < xs.length → o < sz → cur[off + i * sz + o]? = some (cs i o)
  hrep : ∀ (i o : Nat) (e : List AV) (d : AV), xs[i]? = some e → e[o]? = some d → RepA m w F d (cs i o)

theorem RepA.inv_sl {sz : Nat} {xs : List (List AV)} {v : Value} (h : RepA m w F (.sl sz xs) v) :
    (xs = [] ∧ ∃ a cap, v = .slice a 0 cap) ∨ ∃ b off cap cur T fz cs, v = .slice (some ⟨b, off, none⟩) xs.length cap ∧ SlAt m w F sz xs b off cap cur T fz cs := by
  cases h with
  | nil sz a cap => exact .inl ⟨rfl, a, cap, rfl⟩
  | sl sz xs b off cap cur T fz cs hF hb hcap hmax hsz hpl hcell hrep => exact .inr ⟨b, off, cap, cur, T, fz, cs, rfl, hF, hb, hcap, hmax, hsz, hpl, hcell, hrep⟩

theorem RepA.inv_ref {id len : Nat} {v : Value} (h : RepA m w F (.ref id len) v) :
    (m[id]? = some none ∧ len = 0 ∧ v = .slice none 0 0) ∨ ∃ (b sz cap : Nat) (cur : Array Value) (T : TypeId), v = .slice (some ⟨b, 0, none⟩) len cap ∧
      m[id]? = some (some (b, sz)) ∧ w.heap[b]? = some (.cells cur T (0, 0)) ∧ cur.size = cap * sz ∧ len ≤ cap ∧ cap ≤ maxLen := by
  cases h with
  | refNil id hm => exact .inl ⟨hm, rfl, rfl⟩
  | ref id len b sz cap cur T hm hb hs hl hmax => exact .inr ⟨b, sz, cap, cur, T, rfl, hm, hb, hs, hl, hmax⟩

theorem RepA.inv_rs {id lo len : Nat} {v : Value} (h : RepA m w F (.rs id lo len) v) :
    (len = 0 ∧ ∃ a cap, v = .slice a 0 cap) ∨ ∃ b sz cap, v = .slice (some ⟨b, lo * sz, none⟩) len cap ∧ m[id]? = some (some (b, sz)) ∧ len ≤ cap ∧ cap ≤ maxLen := by
  cases h with
  | rsNil id lo a cap => exact .inl ⟨rfl, a, cap, rfl⟩
  | rs id lo len b sz cap hm hl hmax => exact .inr ⟨b, sz, cap, rfl, hm, hl, hmax⟩

/-- an entry that stands for a block -/
structure ArAt (m : Mp) (w : World) (F : Nat → Prop) (sz : Nat) (elems : List (List AV)) (b : Nat) (cur : Array Value) (T : TypeId) (cs : Nat → Nat → Value) : Prop where
  hb : w.heap[b]? = some (.cells cur T (0, 0))
  hsz : ∀ e ∈ elems, e.length = sz ∧ oneL e = true
  hcell : ∀ i o, i < elems.length → o < sz → cur[i * sz + o]? = some (cs i o)
  hrep : ∀ (i o : Nat) (e : List AV) (d : AV), elems[i]? = some e → e[o]? = some d → RepA m w F d (cs i o)

theorem RelH.at_ (hh : RelH m w F hp) {id b s sz : Nat} {elems : List (List AV)} (he : hp[id]? = some (.arr sz elems)) (hm : m[id]? = some (some (b, s))) :
    s = sz ∧ ∃ cur T cs, ArAt m w F sz elems b cur T cs := by
  rcases hh.ent id _ he with ⟨hm', _⟩ | ⟨b', cur, T, cs, hm', h1, h2, h3, h4⟩
  · rw [hm'] at hm; cases hm
  · rw [hm'] at hm; cases hm
    exact ⟨rfl, cur, T, cs, h1, h2, h3, h4⟩
theorem RelH.none_ (hh : RelH m w F hp) {id sz : Nat} {elems : List (List AV)} (he : hp[id]? = some (.arr sz elems)) (hm : m[id]? = some none) : elems = [] := by
  rcases hh.ent id _ he with ⟨_, h⟩ | ⟨b', cur, T, cs, hm', _⟩
  · exact h
  · rw [hm'] at hm; cases hm

theorem rep_lit (v : Value) : RepA m w F (AV.lit v) v := by
  cases v <;> try exact .v _
  rename_i cs
  refine .agg _ cs.toList (by simp) ?_
  intro i c v h1 h2
  simp at h1 h2
  obtain ⟨x, hx, rfl⟩ := h1
  rw [h2] at hx
  cases hx
  exact .v _

theorem R.ev (r : R B m F N s a w) (x : Operand) : RepA m w F (evS s.sl x) (a.eval x) := by
  cases x with
  | tmp t => exact r.sl t
  | const v => exact rep_lit v
  | global g => exact .top _
  | func f => exact .top _

/- runs -/
theorem run_size {t : TypeId} {n : Nat} (h : tsz P t = some n) (w : World) : (sizeOf t).run P w = .ok n w := by
  unfold tsz at h
  cases hi : P.info? t with
  | none => rw [hi] at h; cases h
  | some i => rw [hi] at h; simp at h; simp [sizeOf, typeInfo, hi, h]

theorem run_agg {t : TypeId} {g : Bool} (h : tagg P t = some g) (w : World) : (isAgg t).run P w = .ok g w := by
  unfold tagg at h
  cases hi : P.underlying t with
  | none => rw [hi] at h; cases h
  | some d => rw [hi] at h; cases d <;> simp at h <;> subst h <;> simp [isAgg, underlying, hi]

theorem cell_at {b o : Nat} {cur : Array Value} {T : TypeId} {fz : Nat × Nat} (hb : w.heap[b]? = some (.cells cur T fz)) : w.cell? ⟨b, o, none⟩ = cur[o]? := by
  simp [World.cell?, hb]

theorem addr_add (b o k : Nat) : (⟨b, o, none⟩ : Addr).add k = ⟨b, o + k, none⟩ := by
  unfold Addr.add; split <;> simp_all

theorem run_cellsFrom {b o : Nat} {cur : Array Value} {T : TypeId} {fz : Nat × Nat} (hb : w.heap[b]? = some (.cells cur T fz)) :
    ∀ (n i : Nat) (acc : Array Value), o + i + n ≤ cur.size →
      (loadCellsFrom ⟨b, o, none⟩ i n acc).run P w = .ok (acc ++ (((cur.toList.drop (o + i)).take n).toArray)) w
  | 0, i, acc, _ => by simp [loadCellsFrom]
  | n + 1, i, acc, h => by
    have hlt : o + i < cur.size := by omega
    have hc : w.cell? ⟨b, o + i, none⟩ = some cur[o + i] := by rw [cell_at hb]; exact Array.getElem?_eq_getElem hlt
    have ih := run_cellsFrom (o := o) hb n (i + 1) (acc.push cur[o + i]) (by omega)
    have hd : (cur.toList.drop (o + i)).take (n + 1) = cur[o + i] :: (cur.toList.drop (o + (i + 1))).take n := by
      have e : cur.toList.drop (o + i) = cur[o + i] :: cur.toList.drop (o + i + 1) := by
        rw [List.drop_eq_getElem_cons (i := o + i) (by simpa using hlt)]; simp
      rw [e, List.take_succ_cons, Nat.add_assoc]
    simp only [loadCellsFrom, addr_add, Sem.run_bind, run_load, hc, Result.andThen_ok]
    rw [ih, hd]
    simp

theorem run_loadVar_agg {b o n : Nat} {cur : Array Value} {T : TypeId} {fz : Nat × Nat} {t : TypeId} (hb : w.heap[b]? = some (.cells cur T fz))
    (hs : tsz P t = some n) (hg : tagg P t = some true) (hle : o + n ≤ cur.size) :
    (loadVar t ⟨b, o, none⟩).run P w = .ok (.agg ((cur.toList.drop o).take n).toArray) w := by
  have := run_cellsFrom (P := P) hb n 0 #[] (by simpa using hle)
  simp [loadVar, run_agg hg, run_size hs, loadCells, this]

theorem run_loadVar_one {b o : Nat} {cur : Array Value} {T : TypeId} {fz : Nat × Nat} {t : TypeId} {v : Value} (hb : w.heap[b]? = some (.cells cur T fz))
    (hg : tagg P t = some false) (hv : cur[o]? = some v) : (loadVar t ⟨b, o, none⟩).run P w = .ok v w := by
  have hc : w.cell? ⟨b, o, none⟩ = some v := by rw [cell_at hb]; exact hv
  simp [loadVar, run_agg hg, hc]

/-- an element's cells, read -/
theorem rd_rep {g : Bool} {n b off o' : Nat} {t : TypeId} {e : List AV} {vs : Array Value} {T : TypeId} {fz : Nat × Nat} {c : AV → Prop} {cs : Nat → Value}
    (hs : tsz P t = some n) (hg : tagg P t = some g) (hb : w.heap[b]? = some (.cells vs T fz))
    (hcell : ∀ j, j < e.length → vs[off + j]? = some (cs j)) (hc : ∀ (j : Nat) (d : AV), e[j]? = some d → RepA m w F d (cs j)) (h : rd g n o' e c) :
    ∃ x v, c x ∧ RepA m w F x v ∧ (loadVar t ⟨b, off + o', none⟩).run P w = .ok v w := by
  cases g with
  | true =>
    simp only [rd, if_true] at h
    have hle : off + o' + n ≤ vs.size := by
      have := hcell (o' + n - 1) (by omega)
      have h2 : off + (o' + n - 1) < vs.size := by
        rcases Nat.lt_or_ge (off + (o' + n - 1)) vs.size with h' | h'
        · exact h'
        · rw [Array.getElem?_eq_none h'] at this; cases this
      omega
    refine ⟨_, _, h.2, ?_, run_loadVar_agg hb hs hg hle⟩
    refine .agg _ _ (by simp; omega) ?_
    intro i c v h1 h2
    rw [List.getElem?_take] at h2
    rw [List.getElem?_take] at h1
    split at h1
    · rename_i hi
      simp only [hi, if_true, List.getElem?_drop, Array.getElem?_toList] at h1 h2
      have := hcell (o' + i) (lt_of_some h1)
      rw [← Nat.add_assoc, h2] at this
      cases this
      exact hc _ _ h1
    · simp at h1
  | false =>
    simp only [rd, Bool.false_eq_true, if_false] at h
    split at h
    · rename_i x hx
      have hv := hcell o' (lt_of_some hx)
      exact ⟨x, _, h, hc o' x hx, run_loadVar_one hb hg hv⟩
    · exact h.elim

theorem aload_rep {t : TypeId} {x : AV} {vx : Value} {c : AV → Prop} (hh : RelH m w F hp) (hx : RepA m w F x vx) (h : aload P t hp x c) :
    ∃ y v b o', c y ∧ RepA m w F y v ∧ vx = .pointer (some ⟨b, o', none⟩) ∧ (loadVar t ⟨b, o', none⟩).run P w = .ok v w := by
  unfold aload at h
  split at h
  · rename_i n g hs hg
    split at h
    · rename_i e o'
      obtain ⟨b, off, cur, T, fz, cs, hF, hb, hpl, hcell, hrep, rfl⟩ := hx.inv_ep
      obtain ⟨y, v, h1, h2, h3⟩ := rd_rep (m := m) hs hg hb hcell hrep h
      exact ⟨y, v, b, off + o', h1, h2, rfl, h3⟩
    · rename_i id i o'
      obtain ⟨b, sz, hm, rfl⟩ := hx.inv_ptr
      split at h
      · rename_i sz' elems hc
        obtain ⟨hi, h⟩ := h
        obtain ⟨rfl, cur, T, cs, hA⟩ := hh.at_ hc hm
        have he := List.getElem?_eq_getElem hi
        rw [he, Option.getD_some] at h
        have hlen := (hA.hsz elems[i] (List.getElem_mem hi)).1
        obtain ⟨y, v, h1, h2, h3⟩ := rd_rep (m := m) (off := i * sz) (cs := fun j => cs i j) hs hg hA.hb (fun j hj => hA.hcell i j hi (by omega)) (fun j d hd => hA.hrep i j _ d he hd) h
        exact ⟨y, v, b, i * sz + o', h1, h2, rfl, h3⟩
      · exact h.elim
    · exact h.elim
  · exact h.elim

theorem run_fld {t : TypeId} {f off : Nat} (h : tfo P t f = some off) (w : World) (b o' : Nat) :
    (Instr.fieldAt t (.pointer (some ⟨b, o', none⟩)) f).run P w = .ok (.pointer (some ⟨b, o' + off, none⟩)) w := by
  unfold tfo tfld at h
  cases hu : P.underlying t with
  | none => simp [hu] at h
  | some d =>
    cases d <;> simp [hu] at h
    rename_i fs
    cases hf : fs[f]? with
    | none => simp [hf] at h
    | some x =>
      simp [hf] at h
      cases hs : tsz P x.type with
      | none => simp [hs] at h
      | some n =>
        cases n with
        | zero => simp [hs] at h
        | succ n =>
          simp [hs] at h
          subst h
          simp [Instr.fieldAt, run_underlying hu, hf, Instr.sureAddr, fieldPlace, run_size hs, addr_add]

theorem tel_und {t et : TypeId} (h : tel P t = some et) : P.underlying t = some (.slice et) := by
  unfold tel at h
  cases hu : P.underlying t with
  | none => simp [hu] at h
  | some d => cases d <;> simp [hu] at h; subst h; rfl

theorem run_idx {t et : TypeId} {k : IntKind} {n : Int} {b off len cap z : Nat} (ht : tel P t = some et) (hz : tsz P et = some z) (h0 : 0 ≤ n) (h1 : n < len) (w : World) :
    (Instr.indexAt t (.slice (some ⟨b, off, none⟩) len cap) (.int k n)).run P w = .ok (.pointer (some ⟨b, off + n.toNat * z, none⟩)) w := by
  simp [Instr.indexAt, asIntOf, run_underlying (tel_und ht), h0, h1, run_size hz, addr_add]

theorem SlAt.elem {sz b off cap : Nat} {xs : List (List AV)} {cur : Array Value} {T : TypeId} {fz : Nat × Nat} {cs : Nat → Nat → Value} (h : SlAt m w F sz xs b off cap cur T fz cs)
    {i : Nat} {e : List AV} (he : xs[i]? = some e) : RepA m w F (.ep e 0) (.pointer (some ⟨b, off + i * sz, none⟩)) := by
  have hl := h.hsz e (List.mem_of_getElem? he)
  exact .ep e 0 b (off + i * sz) cur T fz (cs i) h.hF h.hb (h.hpl e (List.mem_of_getElem? he)) (fun j hj => h.hcell i j (lt_of_some he) (by omega)) (fun j d hd => h.hrep i j e d he hd)

theorem tkd_slice {t : TypeId} (h : tkd P t = some .slice) : ∃ e, P.underlying t = some (.slice e) ∧ tel P t = some e := by
  unfold tkd at h
  cases hu : P.underlying t with
  | none => simp [hu] at h
  | some d => cases d <;> simp [hu] at h; exact ⟨_, rfl, by simp [tel, hu]⟩
theorem tkd_string {t : TypeId} (h : tkd P t = some .string) : P.underlying t = some .string := by
  unfold tkd at h
  cases hu : P.underlying t with
  | none => simp [hu] at h
  | some d => cases d <;> simp [hu] at h; rfl
theorem tkd_int {t : TypeId} {k : IntKind} (h : tkd P t = some (.int k)) : P.underlying t = some (.int k) := by
  unfold tkd at h
  cases hu : P.underlying t with
  | none => simp [hu] at h
  | some d => cases d <;> simp [hu] at h; subst h; rfl

/- structs of integers, compared -/
theorem part_int {xs : Array Value} {t off : Nat} {v : Value} (hg : tagg P t = some false) (hv : xs[off]? = some v) (w : World) : (part t xs off).run P w = .ok v w := by
  simp [part, run_agg hg, hv]
theorem part_agg {xs : Array Value} {t off n : Nat} (hg : tagg P t = some true) (hs : tsz P t = some n) (w : World) : (part t xs off).run P w = .ok (.agg (xs.extract off (off + n))) w := by
  simp [part, run_agg hg, run_size hs]

theorem aeq_length : ∀ {xs ys : List AV} {r : Bool}, aeq xs ys = some r → xs.length = ys.length
  | [], [], r, _ => rfl
  | .v (.int k a) :: xs, .v (.int k' b) :: ys, r, h => by
    simp only [aeq] at h
    split at h
    · cases hq : aeq xs ys with
      | none => simp [hq] at h
      | some q => simp [aeq_length hq]
    · cases h
  | [], y :: ys, r, h => by cases y <;> simp [aeq] at h
  | .v x :: xs, [], r, h => by cases x <;> simp [aeq] at h
  | .v x :: xs, y :: ys, r, h => by
    cases x <;> first | (simp [aeq] at h; done) | skip
    cases y <;> first | (simp [aeq] at h; done) | skip
    rename_i k a z
    cases z <;> first | (simp [aeq] at h; done) | skip
    rename_i k' b
    simp only [aeq] at h
    split at h
    · cases hq : aeq xs ys with
      | none => simp [hq] at h
      | some q => simp [aeq_length hq]
    · cases h
  | .sl _ _ :: _, _, r, h | .agg _ :: _, _, r, h | .tup _ :: _, _, r, h | .ref _ _ :: _, _, r, h | .rs _ _ _ :: _, _, r, h | .ptr _ _ _ :: _, _, r, h | .ep _ _ :: _, _, r, h | .top :: _, _, r, h => by simp [aeq] at h

/-- two lists of integers of one sort -/
inductive IntsEq : List Value → List Value → Bool → Prop
  | nil : IntsEq [] [] true
  | cons (k : IntKind) (a b : Int) (xs ys : List Value) (r : Bool) (h : IntsEq xs ys r) : IntsEq (.int k a :: xs) (.int k b :: ys) (a == b && r)

theorem IntsEq.length {xs ys : List Value} {r : Bool} (h : IntsEq xs ys r) : xs.length = ys.length := by
  induction h with
  | nil => rfl
  | cons k a b xs ys r h ih => simp [ih]

theorem aeq_ints : ∀ {xs ys : List AV} {r : Bool} {us vs : List Value}, aeq xs ys = some r → us.length = xs.length → vs.length = ys.length →
    (∀ (i : Nat) (c : AV) (v : Value), xs[i]? = some c → us[i]? = some v → RepA m w F c v) → (∀ (i : Nat) (c : AV) (v : Value), ys[i]? = some c → vs[i]? = some v → RepA m w F c v) → IntsEq us vs r
  | [], [], r, us, vs, h, hu, hv, _, _ => by
    have e1 : us = [] := List.eq_nil_of_length_eq_zero hu
    have e2 : vs = [] := List.eq_nil_of_length_eq_zero hv
    subst e1; subst e2
    simp [aeq] at h; subst h; exact .nil
  | .v x :: xs, y :: ys, r, us, vs, h, hu, hv, h1, h2 => by
    cases x <;> first | (simp [aeq] at h; done) | skip
    cases y <;> first | (simp [aeq] at h; done) | skip
    rename_i k a z
    cases z <;> first | (simp [aeq] at h; done) | skip
    rename_i k' b
    simp only [aeq] at h
    split at h
    · rename_i hk
      subst hk
      cases hq : aeq xs ys with
      | none => simp [hq] at h
      | some q =>
        simp [hq] at h
        subst h
        cases us with
        | nil => simp at hu
        | cons u us =>
          cases vs with
          | nil => simp at hv
          | cons v vs =>
            have e1 := (h1 0 _ u rfl rfl).inv_v
            have e2 := (h2 0 _ v rfl rfl).inv_v
            subst e1; subst e2
            exact .cons k a b us vs q (aeq_ints hq (by simpa using hu) (by simpa using hv) (fun i c v e1 e2 => h1 (i + 1) c v (by simpa using e1) (by simpa using e2)) (fun i c v e1 e2 => h2 (i + 1) c v (by simpa using e1) (by simpa using e2)))
    · cases h
  | [], y :: ys, r, us, vs, h, _, _, _, _ => by cases y <;> simp [aeq] at h
  | .v x :: xs, [], r, us, vs, h, _, _, _, _ => by cases x <;> simp [aeq] at h
  | .sl _ _ :: _, _, r, _, _, h, _, _, _, _ | .agg _ :: _, _, r, _, _, h, _, _, _, _ | .tup _ :: _, _, r, _, _, h, _, _, _, _ | .ref _ _ :: _, _, r, _, _, h, _, _, _, _ | .rs _ _ _ :: _, _, r, _, _, h, _, _, _, _ | .ptr _ _ _ :: _, _, r, _, _, h, _, _, _, _ | .ep _ _ :: _, _, r, _, _, h, _, _, _, _ | .top :: _, _, r, _, _, h, _, _, _, _ => by simp [aeq] at h

theorem IntsEq.split {xs ys : List Value} {r : Bool} (h : IntsEq xs ys r) : ∀ (n : Nat), n ≤ xs.length → ∃ r1 r2, IntsEq (xs.take n) (ys.take n) r1 ∧ IntsEq (xs.drop n) (ys.drop n) r2 ∧ r = (r1 && r2) := by
  induction h with
  | nil => intro n hn; exact ⟨true, true, by simpa using IntsEq.nil, by simpa using IntsEq.nil, rfl⟩
  | cons k a b xs ys r h ih =>
    intro n hn
    cases n with
    | zero => exact ⟨true, _, .nil, .cons k a b xs ys r h, by simp⟩
    | succ n =>
      obtain ⟨r1, r2, h1, h2, rfl⟩ := ih n (by simpa using hn)
      exact ⟨_, r2, .cons k a b _ _ r1 h1, by simpa using h2, by rw [Bool.and_assoc]⟩

theorem extract_list (vs : List Value) (o n : Nat) : vs.toArray.extract o (o + n) = ((vs.drop o).take n).toArray := by
  apply Array.ext'
  simp [List.extract_eq_take_drop]

theorem und_fields {t : TypeId} {fs : Array Field} (h : P.underlying t = some (.struct fs)) : P.fieldsOf t = fs := by
  simp [Program.fieldsOf, h]

/-- a value of a type with its cells -/
def CellsV (P : Program) (t : TypeId) (v : Value) (cs : List Value) : Prop := (tagg P t = some false ∧ cs = [v]) ∨ (tagg P t = some true ∧ v = .agg cs.toArray)

theorem teqF_off {g : TypeId → Option Nat} : ∀ {fs : List Field} {off n : Nat}, teqF g P fs off = some n → off ≤ n
  | [], off, n, h => by simp [teqF] at h; omega
  | f :: fs, off, n, h => by
    simp only [teqF] at h
    split at h
    · split at h
      · have := teqF_off h; omega
      · cases h
    · cases h

theorem eqFields_run {d : Nat} {g : TypeId → Option Nat}
    (ih : ∀ (t : TypeId) (n : Nat) (x y : Value) (xs ys : List Value) (r : Bool) (w : World), g t = some n → CellsV P t x xs → CellsV P t y ys → xs.length = n → IntsEq xs ys r → (Op.equalIn d t x y).run P w = .ok r w)
    (hsh : ∀ t n, g t = some n → (tagg P t = some false ∧ n = 1) ∨ tagg P t = some true) (xs ys : List Value) :
    ∀ (fs : List Field) (off n : Nat) (r : Bool) (w : World), teqF g P fs off = some n → xs.length = n → IntsEq (xs.drop off) (ys.drop off) r → (Op.eqFields d xs.toArray ys.toArray fs).run P w = .ok r w
  | [], off, n, r, w, h, hn, hr => by
    simp [teqF] at h
    have e : xs.drop off = [] := by rw [List.drop_eq_nil_iff]; omega
    rw [e] at hr
    generalize ys.drop off = z at hr
    cases hr
    simp [Op.eqFields]
  | f :: fs, off, n, r, w, h, hn, hr => by
    simp only [teqF] at h
    split at h
    · rename_i k hk
      split at h
      · rename_i hc
        obtain ⟨h1, h2, h3, h4⟩ := hc
        have hle := teqF_off h
        obtain ⟨r1, r2, g1, g2, rfl⟩ := hr.split k (by rw [List.length_drop]; omega)
        rw [List.drop_drop, List.drop_drop] at g2
        have key : ∀ (zs : List Value), zs.length = xs.length → ∃ z, (∀ w : World, (part f.type zs.toArray f.offset).run P w = .ok z w) ∧ CellsV P f.type z ((zs.drop off).take k) := by
          intro zs hz
          rcases hsh _ _ hk with ⟨hg, rfl⟩ | hg
          · have hlt : off < zs.length := by omega
            have e0 : (zs.drop off).take 1 = [zs[off]] := by rw [List.drop_eq_getElem_cons hlt]; rfl
            exact ⟨zs[off], fun w => part_int hg (by rw [h1]; simp [hlt]) w, .inl ⟨hg, e0⟩⟩
          · exact ⟨_, fun w => by rw [part_agg hg h3, h1, extract_list], .inr ⟨hg, rfl⟩⟩
        have hl : ys.length = xs.length := by
          have := hr.length
          rw [List.length_drop, List.length_drop] at this
          omega
        obtain ⟨zx, p1, q1⟩ := key xs rfl
        obtain ⟨zy, p2, q2⟩ := key ys hl
        have e1 := ih f.type k zx zy _ _ r1 w hk q1 q2 (by simp; omega) g1
        have e2 := eqFields_run ih hsh xs ys fs (off + k) n r2 w h hn g2
        simp only [Op.eqFields, Sem.run_bind, Sem.run_ite, h2, ne_eq, not_false_eq_true, if_true, p1, p2, e1, Result.andThen_ok]
        cases r1
        · simp
        · simpa using e2
      · cases h
    · cases h

theorem teq_shape : ∀ (d : Nat) (t n : Nat), teq P d t = some n → (tagg P t = some false ∧ n = 1) ∨ tagg P t = some true
  | 0, t, n, h => by simp [teq] at h
  | d + 1, t, n, h => by
    simp only [teq] at h
    split at h
    · rename_i k hu; cases h; exact .inl ⟨by simp [tagg, hu], rfl⟩
    · rename_i fs hu; exact .inr (by simp [tagg, hu])
    · cases h

theorem equalIn_run : ∀ (d e : Nat) (t n : Nat) (x y : Value) (xs ys : List Value) (r : Bool) (w : World), teq P d t = some n → CellsV P t x xs → CellsV P t y ys → xs.length = n → IntsEq xs ys r →
    (Op.equalIn (d + e) t x y).run P w = .ok r w
  | 0, e, t, n, x, y, xs, ys, r, w, h, _, _, _, _ => by simp [teq] at h
  | d + 1, e, t, n, x, y, xs, ys, r, w, h, hx, hy, hn, hr => by
    simp only [teq] at h
    split at h
    · rename_i k hu
      cases h
      have hg : tagg P t = some false := by simp [tagg, hu]
      rcases hx with ⟨_, rfl⟩ | ⟨h', _⟩
      · rcases hy with ⟨_, rfl⟩ | ⟨h', _⟩
        · cases hr with
          | cons k' a b _ _ r h =>
            cases h
            rw [show d + 1 + e = (d + e) + 1 by omega, run_equalIn_int w (d + e) t k' k a b hu]
            simp
        · rw [hg] at h'; cases h'
      · rw [hg] at h'; cases h'
    · rename_i fs hu
      split at h
      · rename_i hst
        have hg : tagg P t = some true := by simp [tagg, hu]
        rcases hx with ⟨h', _⟩ | ⟨_, rfl⟩
        · rw [hg] at h'; cases h'
        · rcases hy with ⟨h', _⟩ | ⟨_, rfl⟩
          · rw [hg] at h'; cases h'
          · rw [show d + 1 + e = (d + e) + 1 by omega, run_equalIn_struct w (d + e) t _ _ (by rw [und_fields hu]; exact hu) hst, und_fields hu]
            exact eqFields_run (g := teq P d) (fun t n x y xs ys r w h1 h2 h3 h4 h5 => equalIn_run d e t n x y xs ys r w h1 h2 h3 h4 h5) (teq_shape d) xs ys fs.toList 0 n r w h hn (by simpa using hr)
      · cases h
    · cases h

/- the parts of structs, laid over cells -/
theorem oneCell_of {x : AV} {v : Value} (h : RepA m w F x v) (ho : one x = true) : v.oneCell' = true := by
  cases h <;> first | exact ho | rfl | (simp [one] at ho; done)

theorem oneL_mem : ∀ {l : List AV} {i : Nat} {x : AV}, oneL l = true → l[i]? = some x → one x = true
  | [], i, x, _, h => by simp at h
  | y :: l, 0, x, h, hx => by simp [oneL] at h; simp at hx; exact hx ▸ h.1
  | y :: l, i + 1, x, h, hx => by simp [oneL] at h; simp at hx; exact oneL_mem h.2 hx
theorem oneL_of : ∀ {l : List AV}, (∀ x ∈ l, one x = true) → oneL l = true
  | [], _ => rfl
  | y :: l, h => by simp only [oneL, Bool.and_eq_true]; exact ⟨h y (by simp), oneL_of fun x hx => h x (by simp [hx])⟩
theorem oneL_all {l : List AV} (h : oneL l = true) : ∀ x ∈ l, one x = true := fun x hx => by
  obtain ⟨i, hi, rfl⟩ := List.getElem_of_mem hx
  exact oneL_mem h (List.getElem?_eq_getElem hi)

/-- a value's cells -/
theorem acells_rep {x : AV} {v : Value} (h : RepA m w F x v) (h1 : oneL (acells x) = true) :
    v.cells.toList.length = (acells x).length ∧ (∀ u ∈ v.cells.toList, u.oneCell' = true) ∧
    ∀ (i : Nat) (c : AV) (u : Value), (acells x)[i]? = some c → v.cells.toList[i]? = some u → RepA m w F c u := by
  have single : (∀ cs, x ≠ .agg cs) → v.oneCell' = true → v.cells.toList.length = (acells x).length ∧ (∀ u ∈ v.cells.toList, u.oneCell' = true) ∧
    ∀ (i : Nat) (c : AV) (u : Value), (acells x)[i]? = some c → v.cells.toList[i]? = some u → RepA m w F c u := by
    intro hx hv
    have e1 : acells x = [x] := by cases x <;> first | rfl | exact absurd rfl (hx _)
    have e2 : v.cells.toList = [v] := by cases v <;> first | rfl | simp [Value.oneCell'] at hv
    rw [e1, e2]
    refine ⟨rfl, by simpa using hv, ?_⟩
    intro i c u h1 h2
    cases i with
    | zero => simp at h1 h2; subst h1; subst h2; exact h
    | succ i => simp at h1
  by_cases hx : ∃ cs, x = .agg cs
  · obtain ⟨cs, rfl⟩ := hx
    obtain ⟨vs, rfl, hl, hr⟩ := h.inv_agg
    refine ⟨by simpa [Value.cells, acells] using hl, ?_, by simpa [Value.cells, acells] using hr⟩
    intro u hu
    simp [Value.cells] at hu
    obtain ⟨i, hi, rfl⟩ := List.getElem_of_mem hu
    have hc : cs[i]? = some (cs[i]'(by omega)) := List.getElem?_eq_getElem (by omega)
    exact oneCell_of (hr i _ _ hc (List.getElem?_eq_getElem hi)) (oneL_mem h1 hc)
  · refine single (fun cs e => hx ⟨cs, e⟩) (oneCell_of h ?_)
    have e1 : acells x = [x] := by cases x <;> first | rfl | exact absurd ⟨_, rfl⟩ hx
    rw [e1] at h1
    simpa [oneL] using h1

theorem wr_length {l : List AV} {o : Nat} {vs : List AV} (h : o + vs.length ≤ l.length) : (wr l o vs).length = l.length := by
  simp [wr]; omega

theorem get_splice {α : Type} {l vs : List α} {o i : Nat} (h : o + vs.length ≤ l.length) :
    (l.take o ++ vs ++ l.drop (o + vs.length))[i]? = if o ≤ i ∧ i < o + vs.length then vs[i - o]? else l[i]? := by
  have hto : (l.take o).length = o := by simp; omega
  by_cases h1 : i < o
  · rw [if_neg (by omega), List.append_assoc, List.getElem?_append_left (by omega), List.getElem?_take, if_pos h1]
  · by_cases h2 : i < o + vs.length
    · rw [if_pos (by omega), List.append_assoc, List.getElem?_append_right (by omega), hto, List.getElem?_append_left (by omega)]
    · rw [if_neg (by omega), List.getElem?_append_right (by simp; omega), List.getElem?_drop]
      congr 1
      simp
      omega

theorem lay_get (off : Nat) : ∀ (l : List Value) (k : Nat) (cs : Array Value), off + k + l.length ≤ cs.size →
    ((l.zipIdx k).foldl (fun cs p => cs.setIfInBounds (off + p.2) p.1) cs).toList = cs.toList.take (off + k) ++ l ++ cs.toList.drop (off + k + l.length)
  | [], k, cs, _ => by simp
  | v :: l, k, cs, h => by
    simp only [List.length_cons] at h
    simp only [List.zipIdx_cons, List.foldl_cons]
    rw [lay_get off l (k + 1) _ (by simp; omega)]
    rw [Array.toList_setIfInBounds]
    have hlt : off + k < cs.toList.length := by simp; omega
    have e1 : (cs.toList.set (off + k) v).take (off + (k + 1)) = cs.toList.take (off + k) ++ [v] := by
      rw [← Nat.add_assoc, List.take_add_one, List.take_set_of_le (Nat.le_refl _), List.getElem?_set_self hlt]
      rfl
    have e2 : (cs.toList.set (off + k) v).drop (off + (k + 1) + l.length) = cs.toList.drop (off + k + (l.length + 1)) := by
      rw [List.drop_set_of_lt (by omega)]
      congr 1; omega
    rw [e1, e2]
    simp

theorem lay_arr {off : Nat} {v : Value} {cs : Array Value} {n : Nat} (hv : v.cells.toList.length = n) (h : off + n ≤ cs.size) :
    (v.cells.zipIdx.foldl (fun cs p => cs.setIfInBounds (off + p.2) p.1) cs).toList = cs.toList.take off ++ v.cells.toList ++ cs.toList.drop (off + n) := by
  have hg := lay_get off v.cells.toList 0 cs (by rw [hv]; simpa using h)
  simp only [Nat.add_zero, hv] at hg
  rw [← hg, ← Array.foldl_toList, Array.toList_zipIdx]

theorem fill_rep {pl : List (Nat × Nat)} : ∀ (ps : List (Nat × AV)) (vps : List (Nat × Value)) (cells : List AV) (vs : Array Value) (c : AV → Prop),
    vps.length = ps.length → (∀ (i : Nat) (p : Nat × AV) (q : Nat × Value), ps[i]? = some p → vps[i]? = some q → p.1 = q.1 ∧ RepA m w F p.2 q.2) →
    vs.size = cells.length → (∀ (i : Nat) (x : AV) (v : Value), cells[i]? = some x → vs[i]? = some v → RepA m w F x v) →
    abld pl ps cells c → ∃ x vs', c x ∧ Instr.fill (pl.toArray[·]?) vs vps = some vs' ∧ RepA m w F x (.agg vs')
  | [], vps, cells, vs, c, hl, _, hs, hr, h => by
    have : vps = [] := by cases vps <;> simp_all
    subst this
    exact ⟨_, vs, h, rfl, by have := RepA.agg (m := m) (w := w) (F := F) cells vs.toList (by simpa using hs) (fun i c v h1 h2 => hr i c v h1 (by simpa using h2)); simpa using this⟩
  | (f, x) :: ps, vps, cells, vs, c, hl, hp, hs, hr, h => by
    cases vps with
    | nil => simp at hl
    | cons q vps =>
      obtain ⟨g, v⟩ := q
      obtain ⟨e0, hrep⟩ := hp 0 (f, x) (g, v) rfl rfl
      simp only at e0 hrep
      subst e0
      simp only [abld] at h
      split at h
      · rename_i off n hpl
        obtain ⟨⟨h1, hn, hle⟩, h⟩ := h
        obtain ⟨g1, g2, g3⟩ := acells_rep hrep h1
        have hvn : v.cells.toList.length = n := g1.trans hn
        have hvs : v.cells.size = n := by rw [← hvn]; simp
        have hz := lay_arr (off := off) (v := v) (cs := vs) hvn (by rw [hs]; exact hle)
        generalize hv1 : v.cells.zipIdx.foldl (fun cs p => cs.setIfInBounds (off + p.2) p.1) vs = vs1 at hz
        obtain ⟨y, vs', hc, hf, hy⟩ := fill_rep ps vps (wr cells off (acells x)) vs1 c (by simpa using hl)
          (fun i p q h1 h2 => hp (i + 1) p q (by simpa using h1) (by simpa using h2)) (by
            have := congrArg List.length hz
            simp at this
            rw [this, wr_length (by omega)]
            omega) (by
            intro i x' v' h1 h2
            rw [← Array.getElem?_toList, hz] at h2
            have e := get_splice (l := vs.toList) (vs := v.cells.toList) (o := off) (i := i) (by rw [hvn]; simp; omega)
            rw [hvn] at e
            rw [e] at h2
            unfold wr at h1
            rw [get_splice (by omega), hn] at h1
            split at h1
            · rename_i hi
              rw [if_pos hi] at h2
              exact g3 _ _ _ h1 h2
            · rename_i hi
              rw [if_neg hi] at h2
              exact hr i x' v' h1 (by simpa using h2)) h
        refine ⟨y, vs', hc, ?_, hy⟩
        have hpl' : pl.toArray[f]? = some (off, n) := by simpa using hpl
        simp only [Instr.fill, hpl', hvs]
        rw [if_neg]
        · rw [← hv1] at hf; exact hf
        · simp; omega
      · exact h.elim

variable {e : Operand → AV}
theorem evps_get : ∀ {l : List (Nat × Operand)} {i : Nat} {p : Nat × AV}, (evps e l)[i]? = some p → ∃ q, l[i]? = some q ∧ p = (q.1, e q.2)
  | [], i, p, h => by simp [evps] at h
  | (f, x) :: l, 0, p, h => by simp [evps] at h; exact ⟨(f, x), rfl, h.symm⟩
  | (f, x) :: l, i + 1, p, h => by simp [evps] at h; obtain ⟨q, h1, h2⟩ := evps_get h; exact ⟨q, by simpa using h1, h2⟩
theorem evps_length : ∀ (l : List (Nat × Operand)), (evps e l).length = l.length
  | [] => rfl
  | (f, x) :: l => by simp [evps, evps_length l]

/- what reads as a slice -/
structure Src (m : Mp) (w : World) (F : Nat → Prop) (sz : Nat) (ys : List (List AV)) (a : Option Addr) (news : List Value) : Prop where
  none_ : a = none → ys = []
  len : news.length = ys.length * sz
  cell : ∀ ad, a = some ad → ∀ (j : Nat) (u : Value), news[j]? = some u → w.cell? (ad.add j) = some u
  one : ∀ u ∈ news, u.oneCell' = true
  hsz : ∀ e ∈ ys, e.length = sz ∧ oneL e = true
  hrep : ∀ (i o : Nat) (e : List AV) (d : AV), ys[i]? = some e → e[o]? = some d → ∃ u, news[i * sz + o]? = some u ∧ RepA m w F d u

theorem Src.take {sz : Nat} {ys : List (List AV)} {a : Option Addr} {news : List Value} (h : Src m w F sz ys a news) (n : Nat) : Src m w F sz (ys.take n) a (news.take ((ys.take n).length * sz)) := by
  have hk : (ys.take n).length * sz ≤ news.length := by rw [h.len]; exact Nat.mul_le_mul_right _ (by simp; omega)
  refine ⟨fun e => by rw [h.none_ e]; simp, by rw [List.length_take, Nat.min_eq_left hk], ?_, fun u hu => h.one u (List.mem_of_mem_take hu), fun e he => h.hsz e (List.mem_of_mem_take he), ?_⟩
  · intro ad had j u hu
    rw [List.getElem?_take] at hu
    split at hu
    · exact h.cell ad had j u hu
    · cases hu
  · intro i o e d he hd
    have hi := lt_of_some he
    have ho : o < sz := by
      have := lt_of_some hd
      rw [(h.hsz e (List.mem_of_mem_take (List.mem_of_getElem? he))).1] at this
      exact this
    have hlt : i * sz + o < (ys.take n).length * sz := by
      have := Nat.mul_le_mul_right sz (show i + 1 ≤ (ys.take n).length by omega)
      rw [Nat.succ_mul] at this
      omega
    rw [List.getElem?_take] at he
    split at he
    · obtain ⟨u, h1, h2⟩ := h.hrep i o e d he hd
      exact ⟨u, by rw [List.getElem?_take, if_pos hlt]; exact h1, h2⟩
    · cases he

theorem flat_get {sz len : Nat} (f : Nat → Nat → Value) (hz : 0 < sz) {i o : Nat} (hi : i < len) (ho : o < sz) :
    ((List.range (len * sz)).map (fun j => f (j / sz) (j % sz)))[i * sz + o]? = some (f i o) := by
  have hlt : i * sz + o < len * sz := by
    have := Nat.mul_le_mul_right sz (show i + 1 ≤ len by omega)
    rw [Nat.succ_mul] at this
    omega
  have h1 : (i * sz + o) / sz = i := by rw [Nat.mul_comm, Nat.mul_add_div hz]; simp [Nat.div_eq_of_lt ho]
  have h2 : (i * sz + o) % sz = o := by rw [Nat.mul_comm, Nat.mul_add_mod]; exact Nat.mod_eq_of_lt ho
  rw [List.getElem?_map, List.getElem?_range hlt]
  simp [h1, h2]

theorem Src.of {sz : Nat} {ys : List (List AV)} {b off : Nat} {cur : Array Value} {T : TypeId} {fz : Nat × Nat} {cs : Nat → Nat → Value} (hz : 0 < sz)
    (hb : w.heap[b]? = some (.cells cur T fz)) (hsz : ∀ e ∈ ys, e.length = sz ∧ oneL e = true)
    (hcell : ∀ i o, i < ys.length → o < sz → cur[off + i * sz + o]? = some (cs i o))
    (hrep : ∀ (i o : Nat) (e : List AV) (d : AV), ys[i]? = some e → e[o]? = some d → RepA m w F d (cs i o)) : ∃ news, Src m w F sz ys (some ⟨b, off, none⟩) news := by
  refine ⟨(List.range (ys.length * sz)).map (fun j => cs (j / sz) (j % sz)), (fun h => by cases h), by simp, ?_, ?_, hsz, ?_⟩
  · intro ad had j u hu
    cases had
    rw [addr_add, cell_at hb]
    have hj : j < ys.length * sz := by have := lt_of_some hu; simpa using this
    rw [List.getElem?_map, List.getElem?_range hj] at hu
    simp at hu
    have h1 : j / sz < ys.length := by rw [Nat.div_lt_iff_lt_mul hz]; exact hj
    have := hcell (j / sz) (j % sz) h1 (Nat.mod_lt _ hz)
    rw [Nat.add_assoc, Nat.mul_comm (j / sz) sz, Nat.div_add_mod] at this
    rw [this, hu]
  · intro u hu
    simp at hu
    obtain ⟨j, hj, rfl⟩ := hu
    have h1 : j / sz < ys.length := by rw [Nat.div_lt_iff_lt_mul hz]; exact hj
    have he := List.getElem?_eq_getElem h1
    have h2 := hsz _ (List.getElem_mem h1)
    have ho : j % sz < (ys[j / sz]).length := by rw [h2.1]; exact Nat.mod_lt _ hz
    have hd := List.getElem?_eq_getElem ho
    exact oneCell_of (hrep _ _ _ _ he hd) (oneL_mem h2.2 hd)
  · intro i o e d he hd
    have hi := lt_of_some he
    have ho : o < sz := by
      have := lt_of_some hd
      rw [(hsz e (List.mem_of_getElem? he)).1] at this
      exact this
    exact ⟨cs i o, flat_get cs hz hi ho, hrep i o e d he hd⟩

theorem srd_rep (hh : RelH m w F hp) {sz : Nat} (hz : 0 < sz) {y : AV} {v : Value} {ys : List (List AV)} (hy : RepA m w F y v) (h : srd hp sz y = some ys) :
    ∃ a c news, v = .slice a ys.length c ∧ ys.length ≤ maxLen ∧ Src m w F sz ys a news := by
  have nil_ : ∀ a, Src m w F sz [] a [] := fun a => ⟨fun _ => rfl, by simp, fun ad _ j u hu => by simp at hu, by simp, by simp, fun i o e d he => by simp at he⟩
  unfold srd at h
  split at h
  · cases h
    rw [hy.inv_v]
    exact ⟨none, 0, [], rfl, Nat.zero_le _, nil_ _⟩
  · rename_i s xs
    split at h
    · rename_i hs
      subst hs
      cases h
      rcases hy.inv_sl with ⟨rfl, a, cap, rfl⟩ | ⟨b, off, cap, cur, T, fz, cs, rfl, hS⟩
      · exact ⟨a, cap, [], rfl, Nat.zero_le _, nil_ _⟩
      · obtain ⟨news, hn⟩ := Src.of hz hS.hb (fun e he => ⟨hS.hsz e he, oneL_of fun x hx => by
          have := hS.hpl e he x hx
          cases x <;> first | exact this | rfl | (simp [pln] at this; done)⟩) hS.hcell hS.hrep
        exact ⟨_, cap, news, rfl, Nat.le_trans hS.hcap hS.hmax, hn⟩
    · cases h
  · rename_i id len
    split at h
    · rename_i s elems he
      split at h
      · rename_i hc
        obtain ⟨rfl, hle⟩ := hc
        cases h
        have hlen : (elems.take len).length = len := by simp; omega
        rcases hy.inv_ref with ⟨hm, rfl, rfl⟩ | ⟨b, s', cap, cur, T, rfl, hm, hb, hsz, hlc, hmax⟩
        · have e0 : elems.take 0 = [] := by simp
          rw [e0]
          exact ⟨none, 0, [], rfl, Nat.zero_le _, nil_ _⟩
        · obtain ⟨rfl, cur', T', cs, hA⟩ := hh.at_ he hm
          obtain ⟨news, hn⟩ := Src.of (ys := elems.take len) (off := 0) (cs := cs) (m := m) (F := F) hz hA.hb (fun e he => hA.hsz e (List.mem_of_mem_take he)) (fun i o hi ho => by
              rw [hlen] at hi
              simpa using hA.hcell i o (by omega) ho) (fun i o e d h1 h2 => by
              rw [List.getElem?_take] at h1
              split at h1
              · exact hA.hrep i o e d h1 h2
              · cases h1)
          rw [hlen]
          exact ⟨_, cap, news, rfl, by omega, hn⟩
      · cases h
    · cases h
  · rename_i id lo len
    split at h
    · rename_i s elems he
      split at h
      · rename_i hc
        obtain ⟨rfl, hle⟩ := hc
        cases h
        have hlen : ((elems.drop lo).take len).length = len := by simp; omega
        rcases hy.inv_rs with ⟨rfl, a, cap, rfl⟩ | ⟨b, s', cap, rfl, hm, hlc, hmax⟩
        · have e0 : (elems.drop lo).take 0 = [] := by simp
          rw [e0]
          exact ⟨a, cap, [], rfl, Nat.zero_le _, nil_ _⟩
        · obtain ⟨rfl, cur', T', cs, hA⟩ := hh.at_ he hm
          obtain ⟨news, hn⟩ := Src.of (ys := (elems.drop lo).take len) (off := lo * s') (cs := fun i o => cs (lo + i) o) (m := m) (F := F) hz hA.hb
            (fun e he => hA.hsz e (List.mem_of_mem_drop (List.mem_of_mem_take he))) (fun i o hi ho => by
              rw [hlen] at hi
              have := hA.hcell (lo + i) o (by omega) ho
              rw [Nat.add_mul] at this
              exact this) (fun i o e d h1 h2 => by
              rw [List.getElem?_take] at h1
              split at h1
              · rw [List.getElem?_drop] at h1
                exact hA.hrep (lo + i) o e d h1 h2
              · cases h1)
          rw [hlen]
          exact ⟨_, cap, news, rfl, by omega, hn⟩
      · cases h
    · cases h
  · cases h

theorem byts_news {ys : List (List AV)} : ∀ {bs : List UInt8} {news : List Value}, byts ys = some bs → news.length = ys.length → (∀ (i : Nat) (e : List AV) (d : AV), ys[i]? = some e → e[0]? = some d → ∃ u, news[i]? = some u ∧ RepA m w F d u) →
    ∃ ns : List Int, news = ns.map (.int .u8) ∧ bs = ns.map fun n => UInt8.ofNat n.toNat := by
  induction ys with
  | nil => intro bs news h hl _; simp [byts] at h; subst h; exact ⟨[], by simpa using hl, rfl⟩
  | cons e l ih =>
    intro bs news h hl hr
    unfold byts at h
    split at h
    · rename_i heq; cases heq
    · rename_i n l' heq
      cases heq
      cases hq : byts l with
      | none => simp [hq] at h
      | some q =>
        simp [hq] at h
        subst h
        cases news with
        | nil => simp at hl
        | cons u news =>
          obtain ⟨u', hu, hru⟩ := hr 0 _ _ rfl rfl
          simp at hu
          subst hu
          have := hru.inv_v
          subst this
          obtain ⟨ns, rfl, rfl⟩ := ih (news := news) hq (by simpa using hl) (fun i e d h1 h2 => by
            obtain ⟨u, h3, h4⟩ := hr (i + 1) e d (by simpa using h1) h2
            exact ⟨u, by simpa using h3, h4⟩)
          exact ⟨n :: ns, rfl, rfl⟩
    · cases h

theorem loop_bytes {P : Program} {w : World} : ∀ (ns : List Int) (s : ByteArray),
    ((do
      let mut s := s
      for c in (ns.map (Value.int .u8)) do
        let .int .u8 n := c | stuck "bytesToString: byte expected"
        s := s.push (UInt8.ofNat n.toNat)
      pure s : Sem ByteArray)).run P w = .ok ⟨s.data ++ (ns.map fun n => UInt8.ofNat n.toNat).toArray⟩ w
  | [], s => by simp
  | n :: ns, s => by
    have ih := loop_bytes (P := P) (w := w) ns (s.push (UInt8.ofNat n.toNat))
    simp only [List.map_cons, List.forIn_cons, Sem.run_bind, Sem.run_pure, Result.andThen_ok] at ih ⊢
    rw [ih]
    simp [ByteArray.push, Array.append_assoc]

end Eng
end Go.Proofs.Ytgcmahhejblpkaa
