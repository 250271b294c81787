/-
An abstract interpreter of the program's code on plain data: part D, soundness of its operations.
No condition: everything here is stated over any program.
-/
import Derived.Test.YtbfonmedgcemjaaEngC
namespace Go.Proofs.Ytbfonmedgcemjaa
namespace Eng
set_option linter.unusedVariables false
set_option linter.unusedSimpArgs false

/-- what the next operation finds -/
def Nx (B : Bs) (N : Nat) (K : St → Prop) (a' : Act) (w' : World) : Prop :=
  ∃ s' m' F', K s' ∧ R B m' F' N s' a' w'

variable {P : Program} {n0 N : Nat} {B : Bs} {m : Mp} {F : Nat → Prop} {s : St} {a : Act} {w : World} {K : St → Prop} {Q : Exit → Act → World → Prop} {o : Oper}

theorem rep_lit (v : Value) : RepA m w F (AV.lit v) v := by
  cases v <;> try exact .d (.v _)
  rename_i cs
  refine .agg _ cs.toList (by simp) ?_
  intro i c v h1 h2
  simp at h1 h2
  obtain ⟨x, hx, rfl⟩ := h1
  rw [h2] at hx
  cases hx
  exact .d (.v _)

theorem R.ev (r : R B m F N s a w) (x : Operand) : RepA m w F (ev s x) (a.eval x) := by
  cases x with
  | tmp t => exact r.sl t
  | const v => exact rep_lit v
  | global g => exact .top _
  | func f => exact .top _

theorem getD_set (l : Array Value) (d t : Nat) (v : Value) (hd : d < l.size) : (l.setIfInBounds d v).getD t undef = if d = t then v else l.getD t undef := by
  simp only [Array.getD_eq_getD_getElem?, Array.getElem?_setIfInBounds]
  by_cases h : d = t
  · subst h; simp [hd]
  · simp [h]

/-- a slot is written -/
theorem R.put (r : R B m F N s a w) {m' : Mp} {w' : World} {F' : Nat → Prop} {hp' : List Ent} {x : AV} {v : Value} {dst : Option Nat}
    (t : Tr m w F m' w' F') (hh : RelH m' w' F' hp') (hx : RepA m' w' F' x v) (hd : ∀ d, dst = some d → d < N) :
    R B m' F' N (put ⟨s.sl, hp'⟩ dst x) (a.put dst v) w' := by
  cases dst with
  | none => exact ⟨hh, fun k => (r.sl k).tr t, r.size, r.defers, r.base.trans t⟩
  | some d =>
    refine ⟨hh, fun k => ?_, by simp [Act.put, r.size], r.defers, r.base.trans t⟩
    have hlt : d < a.tmps.size := by rw [r.size]; exact hd d rfl
    simp only [Act.put, Eng.put, lk, getD_set _ _ _ _ hlt]
    by_cases h : d = k
    · simp only [if_pos h]; exact hx
    · simp only [if_neg h]; exact (r.sl k).tr t

theorem op_value (r : R B m F N s a w) {m' : Mp} {w' : World} {F' : Nat → Prop} {hp' : List Ent} {x : AV} {v : Value}
    (hd : ∀ d, o.dst = some d → d < N) (hrun : (execOp a.eval o).run P w = .ok (.value v) w')
    (t : Tr m w F m' w' F') (hh : RelH m' w' F' hp') (hx : RepA m' w' F' x v) (hK : kv o.dst K s hp' x) :
    o.wp P a w (Nx B N K) Q := by
  unfold Oper.wp
  rw [hrun]
  exact ⟨_, m', F', hK, r.put t hh hx hd⟩

/-- nothing in memory turns -/
theorem op_pure (r : R B m F N s a w) {x : AV} {v : Value}
    (hd : ∀ d, o.dst = some d → d < N) (hrun : (execOp a.eval o).run P w = .ok (.value v) w)
    (hx : RepA m w F x v) (hK : kv o.dst K s s.hp x) : o.wp P a w (Nx B N K) Q :=
  op_value r hd hrun (Tr.refl m w F) r.hp hx hK

theorem RepD.inv_v {x v : Value} (h : RepD w F (.v x) v) : v = x := by cases h; rfl
theorem RepA.inv_v {x v : Value} (h : RepA m w F (.d (.v x)) v) : v = x := by cases h with | d h => exact h.inv_v

theorem RepA.inv_tup {cs : List AV} {v : Value} (h : RepA m w F (.tup cs) v) : ∃ vs : List Value, v = .tuple vs.toArray ∧ vs.length = cs.length ∧
    ∀ (i : Nat) (c : AV) (v : Value), cs[i]? = some c → vs[i]? = some v → RepA m w F c v := by
  cases h with | tup cs vs hl h => exact ⟨vs, rfl, hl, h⟩
theorem RepA.inv_agg {cs : List AV} {v : Value} (h : RepA m w F (.agg cs) v) : ∃ vs : List Value, v = .agg vs.toArray ∧ vs.length = cs.length ∧
    ∀ (i : Nat) (c : AV) (v : Value), cs[i]? = some c → vs[i]? = some v → RepA m w F c v := by
  cases h with | agg cs vs hl h => exact ⟨vs, rfl, hl, h⟩
theorem RepA.inv_bx {id o' : Nat} {v : Value} (h : RepA m w F (.bx id o') v) : ∃ b sz, m[id]? = some (some (b, sz)) ∧ v = .pointer (some ⟨b, o', none⟩) := by
  cases h with | bx id o b sz hm => exact ⟨b, sz, hm, rfl⟩
theorem RepA.inv_ptr {id i o' : Nat} {v : Value} (h : RepA m w F (.ptr id i o') v) : ∃ b sz, m[id]? = some (some (b, sz)) ∧ v = .pointer (some ⟨b, i * sz + o', none⟩) := by
  cases h with | ptr id i o b sz hm => exact ⟨b, sz, hm, rfl⟩
theorem RepA.inv_ep {e : List D} {o' : Nat} {v : Value} (h : RepA m w F (.ep e o') v) : ∃ (b off : Nat) (cur : Array Value) (T : TypeId) (fz : Nat × Nat) (cs : Nat → Value),
    F b ∧ w.heap[b]? = some (.cells cur T fz) ∧ (∀ j, j < e.length → cur[off + j]? = some (cs j)) ∧ (∀ (j : Nat) (d : D), e[j]? = some d → RepD w F d (cs j)) ∧
    v = .pointer (some ⟨b, off + o', none⟩) := by
  cases h with | ep e o b off cur T fz cs hF hb hcell hrep => exact ⟨b, off, cur, T, fz, cs, hF, hb, hcell, hrep, rfl⟩

/-- move, assign -/
theorem op_move (r : R B m F N s a w) (hd : ∀ d, o.dst = some d → d < N) {x : Operand} (ho : o.op = .move x ∨ o.op = .assign x)
    (h : kv o.dst K s s.hp (ev s x)) : o.wp P a w (Nx B N K) Q := by
  refine op_pure r hd (v := a.eval x) ?_ (r.ev x) h
  rcases ho with ho | ho <;> simp [execOp, ho]

theorem op_pick (r : R B m F N s a w) (hd : ∀ d, o.dst = some d → d < N) {c x y : Operand} (ho : o.op = .pick c x y)
    (h : apick (ev s c) (ev s x) (ev s y) (kv o.dst K s s.hp)) : o.wp P a w (Nx B N K) Q := by
  unfold apick at h
  split at h
  · rename_i t hc
    have hv : a.eval c = .bool t := (hc ▸ r.ev c).inv_v
    cases t with
    | true => exact op_pure r hd (v := a.eval x) (by simp [execOp, ho, hv, asBool]) (r.ev x) (h.1 rfl)
    | false => exact op_pure r hd (v := a.eval y) (by simp [execOp, ho, hv, asBool]) (r.ev y) (h.2 rfl)
  · exact h.elim

theorem op_extract (r : R B m F N s a w) (hd : ∀ d, o.dst = some d → d < N) {t : Operand} {i : Nat} (ho : o.op = .extract t i)
    (h : aext (ev s t) i (kv o.dst K s s.hp)) : o.wp P a w (Nx B N K) Q := by
  unfold aext at h
  split at h
  · rename_i l hc
    obtain ⟨vs, hv, hl, hrep⟩ := (hc ▸ r.ev t).inv_tup
    split at h
    · rename_i x hx
      have hi : i < vs.length := by rw [hl]; exact lt_of_some hx
      have hvi : vs[i]? = some vs[i] := List.getElem?_eq_getElem hi
      exact op_pure r hd (v := vs[i]) (by simp [execOp, ho, hv, Instr.extract, hvi]) (hrep i x _ hx hvi) h
    · exact h.elim
  · exact h.elim

theorem run_ibin {op : BinOp} {t : TypeId} {k : IntKind} {x y : Int} {c : AV → Prop} {u v : Operand} (h : ibin op k x y c) :
    ∃ r, c (.d (.v r)) ∧ (do eqGuard op t u v (.int k x) (.int k y); binOp op t (.int k x) (.int k y) : Sem Value).run P w = .ok r w := by
  cases op <;> simp only [ibin] at h <;> try exact h.elim
  case quo => exact ⟨_, h.2, by simp [eqGuard, binOp, Op.intDiv, h.1]⟩
  case rem => exact ⟨_, h.2, by simp [eqGuard, binOp, Op.intDiv, h.1]⟩
  all_goals exact ⟨_, h, by simp [eqGuard, binOp, Op.intArith, Op.intCmp]⟩

theorem run_sbin {op : BinOp} {t : TypeId} {x y : ByteArray} {c : AV → Prop} {u v : Operand} (h : sbin op x y c) :
    ∃ r, c (.d (.v r)) ∧ (do eqGuard op t u v (.string x) (.string y); binOp op t (.string x) (.string y) : Sem Value).run P w = .ok r w := by
  cases op <;> simp only [sbin] at h <;> try exact h.elim
  case add => exact ⟨_, h.2, by simp only [eqGuard, binOp, Op.stringOp]; have := h.1; simp at this; simp; omega⟩
  all_goals exact ⟨_, h, by simp [eqGuard, binOp, Op.stringOp]⟩

theorem run_bbin {op : BinOp} {t : TypeId} {x y : Bool} {c : AV → Prop} {u v : Operand} (ht : P.underlying t = some .bool) (h : bbin op x y c) :
    ∃ r, c (.d (.v r)) ∧ (do eqGuard op t u v (.bool x) (.bool y); binOp op t (.bool x) (.bool y) : Sem Value).run P w = .ok r w := by
  cases op <;> simp only [bbin] at h <;> try exact h.elim
  · exact ⟨_, h, by simp [eqGuard, run_eql_bool w t x y ht]⟩
  · exact ⟨_, h, by simp [eqGuard, run_neq_bool w t x y ht]⟩

theorem op_bin (r : R B m F N s a w) (hd : ∀ d, o.dst = some d → d < N) {op : BinOp} {t t' : TypeId} {x y : Operand} (ho : o.op = .binOp op t x y t')
    (h : abin P op t (ev s x) (ev s y) (kv o.dst K s s.hp)) : o.wp P a w (Nx B N K) Q := by
  unfold abin at h
  split at h
  · rename_i k1 x1 k2 y1 hx hy
    have h1 := (hx ▸ r.ev x).inv_v
    have h2 := (hy ▸ r.ev y).inv_v
    obtain ⟨rfl, h⟩ := h
    obtain ⟨u, hc, hr⟩ := run_ibin (P := P) (w := w) (t := t) (u := x) (v := y) h
    exact op_pure r hd (v := u) (by simp only [execOp, ho, h1, h2, Sem.run_bind, Sem.run_pure] at hr ⊢; rw [hr]; rfl) (.d (.v _)) hc
  · rename_i x1 y1 hx hy
    have h1 := (hx ▸ r.ev x).inv_v
    have h2 := (hy ▸ r.ev y).inv_v
    obtain ⟨u, hc, hr⟩ := run_sbin (P := P) (w := w) (t := t) (u := x) (v := y) h
    exact op_pure r hd (v := u) (by simp only [execOp, ho, h1, h2, Sem.run_bind, Sem.run_pure] at hr ⊢; rw [hr]; rfl) (.d (.v _)) hc
  · rename_i x1 y1 hx hy
    have h1 := (hx ▸ r.ev x).inv_v
    have h2 := (hy ▸ r.ev y).inv_v
    obtain ⟨u, hc, hr⟩ := run_bbin (P := P) (w := w) (t := t) (u := x) (v := y) h.1 h.2
    exact op_pure r hd (v := u) (by simp only [execOp, ho, h1, h2, Sem.run_bind, Sem.run_pure] at hr ⊢; rw [hr]; rfl) (.d (.v _)) hc
  · exact h.elim

theorem op_un (r : R B m F N s a w) (hd : ∀ d, o.dst = some d → d < N) {op : UnOp} {t : TypeId} {x : Operand} (ho : o.op = .unOp op t x)
    (h : aun op (ev s x) (kv o.dst K s s.hp)) : o.wp P a w (Nx B N K) Q := by
  unfold aun at h
  split at h
  · rename_i k n hx
    have h1 := (hx ▸ r.ev x).inv_v
    exact op_pure r hd (v := _) (by simp [execOp, ho, h1, Op.unary, Op.intArith]) (.d (.v _)) h
  · rename_i k hx
    have h1 := (hx ▸ r.ev x).inv_v
    exact op_pure r hd (v := _) (by simp [execOp, ho, h1, Op.unary]) (.d (.v _)) h
  · exact h.elim

end Eng
end Go.Proofs.Ytbfonmedgcemjaa
