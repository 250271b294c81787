/-
An abstract interpreter of the program's code on plain data: part E, soundness of the operations on memory.
No condition: everything here is stated over any program.
-/
import Derived.Test.YtbfonmedgcemjaaEngD
namespace Go.Proofs.Ytbfonmedgcemjaa
namespace Eng
set_option linter.unusedVariables false
set_option linter.unusedSimpArgs false

variable {P : Program} {n0 N : Nat} {B : Bs} {m : Mp} {F : Nat → Prop} {s : St} {a : Act} {w : World} {K : St → Prop} {Q : Exit → Act → World → Prop} {o : Oper}

theorem run_size {t : TypeId} {n : Nat} (h : tsz P t = some n) (w : World) : (sizeOf t).run P w = .ok n w := by
  unfold tsz at h
  cases hi : P.info? t with
  | none => rw [hi] at h; cases h
  | some i => rw [hi] at h; simp at h; simp [sizeOf, typeInfo, hi, h]

theorem run_agg {t : TypeId} {g : Bool} (h : tagg P t = some g) (w : World) : (isAgg t).run P w = .ok g w := by
  unfold tagg at h
  cases hi : P.underlying t with
  | none => rw [hi] at h; cases h
  | some d => rw [hi] at h; cases d <;> simp at h <;> subst h <;> simp [isAgg, underlying, hi]

theorem cell_at {b o : Nat} {cur : Array Value} {T : TypeId} {fz : Nat × Nat} (hb : w.heap[b]? = some (.cells cur T fz)) : w.cell? ⟨b, o, none⟩ = cur[o]? := by
  simp [World.cell?, hb]

theorem addr_add (b o k : Nat) : (⟨b, o, none⟩ : Addr).add k = ⟨b, o + k, none⟩ := by
  unfold Addr.add; split <;> simp_all

theorem run_cellsFrom {b o : Nat} {cur : Array Value} {T : TypeId} {fz : Nat × Nat} (hb : w.heap[b]? = some (.cells cur T fz)) :
    ∀ (n i : Nat) (acc : Array Value), o + i + n ≤ cur.size →
      (loadCellsFrom ⟨b, o, none⟩ i n acc).run P w = .ok (acc ++ (((cur.toList.drop (o + i)).take n).toArray)) w
  | 0, i, acc, _ => by simp [loadCellsFrom]
  | n + 1, i, acc, h => by
    have hlt : o + i < cur.size := by omega
    have hc : w.cell? ⟨b, o + i, none⟩ = some cur[o + i] := by rw [cell_at hb]; exact Array.getElem?_eq_getElem hlt
    have ih := run_cellsFrom (o := o) hb n (i + 1) (acc.push cur[o + i]) (by omega)
    have hd : (cur.toList.drop (o + i)).take (n + 1) = cur[o + i] :: (cur.toList.drop (o + (i + 1))).take n := by
      have e : cur.toList.drop (o + i) = cur[o + i] :: cur.toList.drop (o + i + 1) := by
        rw [List.drop_eq_getElem_cons (i := o + i) (by simpa using hlt)]; simp
      rw [e, List.take_succ_cons, Nat.add_assoc]
    simp only [loadCellsFrom, addr_add, Sem.run_bind, run_load, hc, Result.andThen_ok]
    rw [ih, hd]
    simp

theorem run_loadVar_agg {b o n : Nat} {cur : Array Value} {T : TypeId} {fz : Nat × Nat} {t : TypeId} (hb : w.heap[b]? = some (.cells cur T fz))
    (hs : tsz P t = some n) (hg : tagg P t = some true) (hle : o + n ≤ cur.size) :
    (loadVar t ⟨b, o, none⟩).run P w = .ok (.agg ((cur.toList.drop o).take n).toArray) w := by
  have := run_cellsFrom (P := P) hb n 0 #[] (by simpa using hle)
  simp [loadVar, run_agg hg, run_size hs, loadCells, this]

theorem run_loadVar_one {b o : Nat} {cur : Array Value} {T : TypeId} {fz : Nat × Nat} {t : TypeId} {v : Value} (hb : w.heap[b]? = some (.cells cur T fz))
    (hg : tagg P t = some false) (hv : cur[o]? = some v) : (loadVar t ⟨b, o, none⟩).run P w = .ok v w := by
  have hc : w.cell? ⟨b, o, none⟩ = some v := by rw [cell_at hb]; exact hv
  simp [loadVar, run_agg hg, hc]

theorem rd_rep {g : Bool} {n b o' : Nat} {t : TypeId} {cells : List AV} {vs : Array Value} {T : TypeId} {fz : Nat × Nat} {c : AV → Prop}
    (hs : tsz P t = some n) (hg : tagg P t = some g) (hb : w.heap[b]? = some (.cells vs T fz)) (hl : vs.size = cells.length)
    (hc : ∀ (o : Nat) (c : AV) (v : Value), cells[o]? = some c → vs[o]? = some v → RepA m w F c v) (h : rd g n o' cells c) :
    ∃ x v, c x ∧ RepA m w F x v ∧ (loadVar t ⟨b, o', none⟩).run P w = .ok v w := by
  cases g with
  | true =>
    simp only [rd, if_true] at h
    refine ⟨_, _, h.2, ?_, run_loadVar_agg hb hs hg (by rw [hl]; exact h.1.2)⟩
    refine .agg _ _ (by simp [hl]) ?_
    intro i c v h1 h2
    rw [List.getElem?_take] at h1 h2
    split at h1 <;> simp_all
    exact hc _ _ _ h1 h2
  | false =>
    simp only [rd, Bool.false_eq_true, if_false] at h
    split at h
    · rename_i x hx
      have hlt : o' < vs.size := by rw [hl]; exact lt_of_some hx
      have hv : vs[o']? = some vs[o'] := Array.getElem?_eq_getElem hlt
      exact ⟨x, _, h, hc o' x _ hx hv, run_loadVar_one hb hg hv⟩
    · exact h.elim

/-- an element's cells, read -/
theorem rdD_rep {g : Bool} {n b off o' : Nat} {t : TypeId} {e : List D} {vs : Array Value} {T : TypeId} {fz : Nat × Nat} {c : AV → Prop} {cs : Nat → Value}
    (hs : tsz P t = some n) (hg : tagg P t = some g) (hb : w.heap[b]? = some (.cells vs T fz))
    (hcell : ∀ j, j < e.length → vs[off + j]? = some (cs j)) (hc : ∀ (j : Nat) (d : D), e[j]? = some d → RepD w F d (cs j)) (h : rdD g n o' e c) :
    ∃ x v, c x ∧ RepA m w F x v ∧ (loadVar t ⟨b, off + o', none⟩).run P w = .ok v w := by
  cases g with
  | true =>
    simp only [rdD, if_true] at h
    have hle : off + o' + n ≤ vs.size := by
      have := hcell (o' + n - 1) (by omega)
      have h2 : off + (o' + n - 1) < vs.size := by
        rcases Nat.lt_or_ge (off + (o' + n - 1)) vs.size with h' | h'
        · exact h'
        · rw [Array.getElem?_eq_none h'] at this; cases this
      omega
    refine ⟨_, _, h.2, ?_, run_loadVar_agg hb hs hg hle⟩
    refine .agg _ _ (by simp; omega) ?_
    intro i c v h1 h2
    rw [List.getElem?_map] at h1
    rw [List.getElem?_take] at h2
    rw [List.getElem?_take] at h1
    split at h1
    · rename_i hi
      simp only [hi, if_true, List.getElem?_drop, Array.getElem?_toList] at h1 h2
      simp only [Option.map_eq_some_iff] at h1
      obtain ⟨d, hd, rfl⟩ := h1
      have := hcell (o' + i) (lt_of_some hd)
      rw [← Nat.add_assoc, h2] at this
      cases this
      exact .d (hc _ _ hd)
    · simp at h1
  | false =>
    simp only [rdD, Bool.false_eq_true, if_false] at h
    split at h
    · rename_i x hx
      have hv := hcell o' (lt_of_some hx)
      exact ⟨.d x, _, h, .d (hc o' x hx), run_loadVar_one hb hg hv⟩
    · exact h.elim

theorem exec_load {t : TypeId} {x : Operand} {b o' : Nat} {v : Value} (ho : o.op = .load t x) (hv : a.eval x = .pointer (some ⟨b, o', none⟩))
    (hr : (loadVar t ⟨b, o', none⟩).run P w = .ok v w) : (execOp a.eval o).run P w = .ok (.value v) w := by
  simp [execOp, ho, hv, Instr.loadAt, Instr.sureAddr, hr]

theorem aload_rep {t : TypeId} {hp : List Ent} {x : AV} {vx : Value} {c : AV → Prop} (hh : RelH m w F hp) (hx : RepA m w F x vx) (h : aload P t hp x c) :
    ∃ y v b o', c y ∧ RepA m w F y v ∧ vx = .pointer (some ⟨b, o', none⟩) ∧ (loadVar t ⟨b, o', none⟩).run P w = .ok v w := by
  unfold aload at h
  split at h
  · rename_i n g hs hg
    split at h
    · rename_i id o'
      obtain ⟨b, sz, hm, rfl⟩ := hx.inv_bx
      unfold entBox at h
      split at h
      · rename_i cells hc
        obtain ⟨b', sz', vs, T, hm', hb, hl, hcell⟩ := hh.ent id _ hc
        rw [hm'] at hm; cases hm
        obtain ⟨y, v, h1, h2, h3⟩ := rd_rep hs hg hb hl hcell h
        exact ⟨y, v, b, o', h1, h2, rfl, h3⟩
      · exact h.elim
    · rename_i e o'
      obtain ⟨b, off, cur, T, fz, cs, hF, hb, hcell, hrep, rfl⟩ := hx.inv_ep
      obtain ⟨y, v, h1, h2, h3⟩ := rdD_rep (m := m) hs hg hb hcell hrep h
      exact ⟨y, v, b, off + o', h1, h2, rfl, h3⟩
    · rename_i id i o'
      obtain ⟨b, sz, hm, rfl⟩ := hx.inv_ptr
      split at h
      · rename_i sz' elems hc
        obtain ⟨hi, h⟩ := h
        rcases hh.ent id _ hc with ⟨hm', he⟩ | ⟨b', cur, T, cs, hm', hb, hsz, hcell, hrep⟩
        · subst he; simp at hi
        · rw [hm'] at hm; cases hm
          have he := List.getElem?_eq_getElem hi
          have hlen := hsz elems[i] (List.getElem_mem hi)
          obtain ⟨y, v, h1, h2, h3⟩ := rdD_rep (m := m) (off := i * sz) (cs := fun j => cs i j) hs hg hb (fun j hj => hcell i j hi (by omega)) (fun j d hd => hrep i j _ d he hd) (h _ he)
          exact ⟨y, v, b, i * sz + o', h1, h2, rfl, h3⟩
      · exact h.elim
    · exact h.elim
  · exact h.elim

theorem op_load (r : R B m F N s a w) (hd : ∀ d, o.dst = some d → d < N) {t : TypeId} {x : Operand} (ho : o.op = .load t x)
    (h : aload P t s.hp (ev s x) (kv o.dst K s s.hp)) : o.wp P a w (Nx B N K) Q := by
  obtain ⟨y, v, b, o', h1, h2, h3, h4⟩ := aload_rep r.hp (r.ev x) h
  exact op_pure r hd (exec_load ho h3 h4) h2 h1

end Eng
end Go.Proofs.Ytbfonmedgcemjaa
