/-
An abstract interpreter of the program's code on plain data: part M, what is read as plain data; regions that draw their order.
No condition: everything here is stated over any program.
-/
import Derived.Test.YtbfonmedgcemjaaEngH
namespace Go.Proofs.Ytbfonmedgcemjaa
namespace Eng
set_option linter.unusedVariables false
set_option linter.unusedSimpArgs false

variable {P : Program} {n0 N : Nat} {B : Bs} {m : Mp} {F : Nat → Prop} {s : St} {a : Act} {w : World}

theorem flatL_get : ∀ {l : List AV} {i : Nat} {c : AV}, flat.flatL l = true → l[i]? = some c → flat c = true
  | [], i, c, _, h => by simp at h
  | x :: l, 0, c, h, hc => by simp [flat.flatL] at h; simp at hc; exact hc ▸ h.1
  | x :: l, i + 1, c, h, hc => by simp [flat.flatL] at h; simp at hc; exact flatL_get h.2 hc
theorem noidL_get : ∀ {l : List AV} {i : Nat} {c : AV}, noid.noidL l = true → l[i]? = some c → noid c = true
  | [], i, c, _, h => by simp at h
  | x :: l, 0, c, h, hc => by simp [noid.noidL] at h; simp at hc; exact hc ▸ h.1
  | x :: l, i + 1, c, h, hc => by simp [noid.noidL] at h; simp at hc; exact noidL_get h.2 hc

theorem RepA.flat {m' : Mp} {w' : World} {F' : Nat → Prop} {x : AV} {v : Value} (h : RepA m w F x v) (hf : flat x = true) : RepA m' w' F' x v := by
  induction h with
  | d h => cases h <;> first | exact .d (.v _) | simp [Eng.flat] at hf
  | agg cs vs hl h ih => exact .agg cs vs hl fun i c v h1 h2 => ih i c v h1 h2 (flatL_get (by simpa [Eng.flat] using hf) h1)
  | tup cs vs hl h ih => exact .tup cs vs hl fun i c v h1 h2 => ih i c v h1 h2 (flatL_get (by simpa [Eng.flat] using hf) h1)
  | _ => simp [Eng.flat] at hf

theorem RepA.noid {m' : Mp} {F' : Nat → Prop} {x : AV} {v : Value} (h : RepA m w F x v) (hf : noid x = true) (hF : ∀ b, F b → F' b) : RepA m' w F' x v := by
  induction h with
  | d h => exact .d (h.tr (fun _ _ => rfl) hF)
  | top v => exact .top v
  | agg cs vs hl h ih => exact .agg cs vs hl fun i c v h1 h2 => ih i c v h1 h2 (noidL_get (by simpa [Eng.noid] using hf) h1)
  | tup cs vs hl h ih => exact .tup cs vs hl fun i c v h1 h2 => ih i c v h1 h2 (noidL_get (by simpa [Eng.noid] using hf) h1)
  | ep e o b off cur T fz cs hFb hb hcell hrep => exact .ep e o b off cur T fz cs (hF b hFb) hb hcell (fun j d hd => (hrep j d hd).tr (fun _ _ => rfl) hF)
  | _ => simp [Eng.noid] at hf

theorem RdL.get {hp : List Ent} : ∀ {xs ds : List AV}, RdL hp xs ds → ds.length = xs.length ∧ ∀ (i : Nat) (x d : AV), xs[i]? = some x → ds[i]? = some d → Rd hp x d
  | [], [], _ => ⟨rfl, fun i c v h => by simp at h⟩
  | x :: xs, v :: vs, h => by
    obtain ⟨h1, h2⟩ := h.2.get
    refine ⟨by simp [h1], ?_⟩
    intro i c u e1 e2
    cases i with
    | zero => simp at e1 e2; subst e1; subst e2; exact h.1
    | succ i => exact h2 i c u (by simpa using e1) (by simpa using e2)

/-- the blocks that stay, and those that the caller owns -/
def allF (m : Mp) (F : Nat → Prop) (hp : List Ent) (b : Nat) : Prop := F b ∨ ∃ (id : Nat) (e : Ent) (s : Nat), hp[id]? = some e ∧ e.alive = true ∧ m[id]? = some (some (b, s))

theorem Rd.rep {hp : List Ent} (hh : RelH m w F hp) {x d : AV} {v : Value} (hr : Rd hp x d) (h : RepA m w F x v) : RepA [] w (allF m F hp) d v := by
  induction hr generalizing v with
  | same x hx => exact h.noid hx (fun b hb => .inl hb)
  | ref id lo len sz elems he hl =>
    rcases h.inv_ref with ⟨hm, rfl, rfl, rfl⟩ | ⟨b, sz', cap, cur, T, rfl, hm, hb, hs, hlc, hmax⟩
    · simp; exact .d (.nil sz none 0)
    · have hE := hh.ent id _ he
      rcases hE with ⟨hm', _⟩ | ⟨b', cur', T', cs, hm', hb', hsz, hcell, hrep⟩
      · rw [hm'] at hm; cases hm
      · rw [hm'] at hm; cases hm
        rw [hb'] at hb; cases hb
        have hlen : ((elems.drop lo).take len).length = len := by simp; omega
        have := RepD.sl (w := w) (F := allF m F hp) sz ((elems.drop lo).take len) b (lo * sz) cap cur T (0, 0) (fun i o => cs (lo + i) o)
          (.inr ⟨id, _, sz, he, rfl, hm'⟩) hb' (by rw [hlen]; exact hlc) (by omega) (fun e h1 => hsz e (List.mem_of_mem_drop (List.mem_of_mem_take h1)))
          (by
            intro i o hi ho
            rw [hlen] at hi
            have := hcell (lo + i) o (by omega) ho
            rw [Nat.add_mul] at this
            exact this)
          (by
            intro i o e d h1 h2
            rw [List.getElem?_take] at h1
            split at h1
            · rw [List.getElem?_drop] at h1
              exact (hrep (lo + i) o e d h1 h2).tr (fun _ _ => rfl) (fun b hb => .inl hb)
            · cases h1)
        rw [hlen] at this
        exact .d this
  | nil sz =>
    rw [h.inv_v]
    exact .d (.nil sz none 0)
  | agg cs ds hl hh' ih =>
    obtain ⟨vs, rfl, hlv, hrv⟩ := h.inv_agg
    refine .agg ds vs (by rw [hlv, hl]) ?_
    intro i d u h1 h2
    have hi : i < cs.length := by rw [← hl]; exact lt_of_some h1
    have hc := List.getElem?_eq_getElem hi
    exact ih i _ d hc h1 (hrv i _ u hc h2)

theorem allF_lt {hp : List Ent} (hh : RelH m w F hp) : ∀ b, allF m F hp b → b < w.heap.size := by
  rintro b (h | ⟨id, e, s, h1, h2, h3⟩)
  · exact hh.stable b h
  · exact (hh.own id e b s h1 h2 h3).2

/-- what a caller knows goes on, where nothing of his has turned -/
theorem after_pure {hp : List Ent} {m' : Mp} {w' : World} {F' : Nat → Prop} (hh : RelH m w F hp) (t : Tr [] w (allF m F hp) m' w' F') : RelH m w' F hp ∧ Tr m w F m w' F := by
  have t' : Tr m w F m w' F := ⟨t.os, t.tape, t.output, t.size, fun b hb => t.blk b (.inl hb), fun _ h => h, fun _ h => .inl h, fun _ _ => rfl, Nat.le_refl _, t.shp,
    fun id b z h hm => by rw [List.getElem?_eq_none h] at hm; cases hm⟩
  refine ⟨⟨hh.len, fun b hb => Nat.lt_of_lt_of_le (hh.stable b hb) t.size, ?_, hh.inj, ?_⟩, t'⟩
  · intro id e he
    exact (hh.ent id e he).tr t' (fun ha b z hm => t.blk b (.inr ⟨id, e, z, he, ha, hm⟩))
  · intro i e b s he ha hm
    have := hh.own i e b s he ha hm
    exact ⟨this.1, Nat.lt_of_lt_of_le this.2 t.size⟩

/- regions that draw their order -/
structure Cw (w w1 : World) : Prop where
  os : w1.os = w.os
  tape : w1.tape = w.tape
  output : w1.output = w.output
  size : w.heap.size ≤ w1.heap.size
  blk : ∀ b, b < w.heap.size → w1.heap[b]? = w.heap[b]?

theorem Cw.refl (w : World) : Cw w w := ⟨rfl, rfl, rfl, Nat.le_refl _, fun _ _ => rfl⟩
theorem Cw.block {w w1 : World} (h : Cw w w1) {b : Nat} {o : Obj} (hb : w.heap[b]? = some o) : w1.heap[b]? = some o :=
  (h.blk b (Array.getElem?_eq_some_iff.1 hb).1).trans hb
theorem Cw.tr {w w1 : World} (h : Cw w w1) (hF : ∀ b, F b → b < w.heap.size) : Tr m w F m w1 F :=
  ⟨h.os, h.tape, h.output, h.size, fun b hb => h.blk b (hF b hb), fun _ h => h, fun _ h => .inl h, fun _ _ => rfl, Nat.le_refl _, fun b c T f hb => ⟨c, h.block hb, rfl⟩,
    fun id b z h hm => by rw [List.getElem?_eq_none h] at hm; cases hm⟩
theorem Cw.relH {hp : List Ent} {w w1 : World} (h : Cw w w1) (hh : RelH m w F hp) : RelH m w1 F hp :=
  ⟨hh.len, fun b hb => Nat.lt_of_lt_of_le (hh.stable b hb) h.size, fun id e he => (hh.ent id e he).tr (h.tr hh.stable) (fun ha b z hm => h.blk b (hh.own id e b z he ha hm).2), hh.inj,
    fun i e b s he ha hm => ⟨(hh.own i e b s he ha hm).1, Nat.lt_of_lt_of_le (hh.own i e b s he ha hm).2 h.size⟩⟩
theorem R.cw {w1 : World} (r : R B m F N s a w) (h : Cw w w1) : R B m F N s a w1 :=
  ⟨h.relH r.hp, fun t => (r.sl t).tr (h.tr r.hp.stable), r.size, r.defers, r.base.trans (h.tr r.hp.stable)⟩

/-- what an operation that only reads leaves, in whatever world of the class -/
def Pu (P : Program) (m : Mp) (F : Nat → Prop) (o : Oper) (s : St) (a : Act) (w : World) (K : St → Prop) : Prop :=
  ∃ x v, K (put s o.dst x) ∧ RepA m w F x v ∧ ∀ w1, Cw w w1 → (execOp a.eval o).run P w1 = .ok (.value v) w1

variable {K : St → Prop} {o : Oper}

theorem pu_move (r : R B m F N s a w) {x : Operand} (ho : o.op = .move x ∨ o.op = .assign x) (h : kv o.dst K s s.hp (ev s x)) : Pu P m F o s a w K :=
  ⟨_, a.eval x, h, r.ev x, fun w1 _ => by rcases ho with ho | ho <;> simp [execOp, ho]⟩

theorem pu_pick (r : R B m F N s a w) {c x y : Operand} (ho : o.op = .pick c x y) (h : apick (ev s c) (ev s x) (ev s y) (kv o.dst K s s.hp)) : Pu P m F o s a w K := by
  unfold apick at h
  split at h
  · rename_i t hc
    have hv : a.eval c = .bool t := (hc ▸ r.ev c).inv_v
    cases t with
    | true => exact ⟨_, a.eval x, h.1 rfl, r.ev x, fun w1 _ => by simp [execOp, ho, hv, asBool]⟩
    | false => exact ⟨_, a.eval y, h.2 rfl, r.ev y, fun w1 _ => by simp [execOp, ho, hv, asBool]⟩
  · exact h.elim

theorem pu_extract (r : R B m F N s a w) {t : Operand} {i : Nat} (ho : o.op = .extract t i) (h : aext (ev s t) i (kv o.dst K s s.hp)) : Pu P m F o s a w K := by
  unfold aext at h
  split at h
  · rename_i l hc
    obtain ⟨vs, hv, hl, hrep⟩ := (hc ▸ r.ev t).inv_tup
    split at h
    · rename_i x hx
      have hi : i < vs.length := by rw [hl]; exact lt_of_some hx
      have hvi : vs[i]? = some vs[i] := List.getElem?_eq_getElem hi
      exact ⟨x, vs[i], h, hrep i x _ hx hvi, fun w1 _ => by simp [execOp, ho, hv, Instr.extract, hvi]⟩
    · exact h.elim
  · exact h.elim

theorem pu_bin (r : R B m F N s a w) {op : BinOp} {t t' : TypeId} {x y : Operand} (ho : o.op = .binOp op t x y t') (h : abin P op t (ev s x) (ev s y) (kv o.dst K s s.hp)) : Pu P m F o s a w K := by
  have same : ∀ {u v : Value} {r1 : Value}, a.eval x = u → a.eval y = v → (∀ w1 : World, (do eqGuard op t x y u v; binOp op t u v : Sem Value).run P w1 = .ok r1 w1) →
      ∀ w1, Cw w w1 → (execOp a.eval o).run P w1 = .ok (.value r1) w1 := by
    intro u v r1 h1 h2 hr w1 _
    have := hr w1
    simp only [execOp, ho, h1, h2, Sem.run_bind, Sem.run_pure] at this ⊢
    rw [this]; rfl
  unfold abin at h
  split at h
  · rename_i k1 x1 k2 y1 hx hy
    have h1 := (hx ▸ r.ev x).inv_v
    have h2 := (hy ▸ r.ev y).inv_v
    obtain ⟨rfl, h⟩ := h
    cases op <;> simp only [ibin] at h <;> try exact h.elim
    case quo => exact ⟨_, _, h.2, .d (.v _), same h1 h2 (fun w1 => by simp [eqGuard, binOp, Op.intDiv, h.1])⟩
    case rem => exact ⟨_, _, h.2, .d (.v _), same h1 h2 (fun w1 => by simp [eqGuard, binOp, Op.intDiv, h.1])⟩
    all_goals exact ⟨_, _, h, .d (.v _), same h1 h2 (fun w1 => by simp [eqGuard, binOp, Op.intArith, Op.intCmp])⟩
  · rename_i x1 y1 hx hy
    have h1 := (hx ▸ r.ev x).inv_v
    have h2 := (hy ▸ r.ev y).inv_v
    cases op <;> simp only [sbin] at h <;> try exact h.elim
    case add => exact ⟨_, _, h.2, .d (.v _), same h1 h2 (fun w1 => by simp only [eqGuard, binOp, Op.stringOp]; have := h.1; simp at this; simp; omega)⟩
    all_goals exact ⟨_, _, h, .d (.v _), same h1 h2 (fun w1 => by simp [eqGuard, binOp, Op.stringOp])⟩
  · rename_i x1 y1 hx hy
    have h1 := (hx ▸ r.ev x).inv_v
    have h2 := (hy ▸ r.ev y).inv_v
    obtain ⟨ht, h⟩ := h
    cases op <;> simp only [bbin] at h <;> try exact h.elim
    · exact ⟨_, _, h, .d (.v _), same h1 h2 (fun w1 => by simp [eqGuard, run_eql_bool w1 t x1 y1 ht])⟩
    · exact ⟨_, _, h, .d (.v _), same h1 h2 (fun w1 => by simp [eqGuard, run_neq_bool w1 t x1 y1 ht])⟩
  · exact h.elim

theorem pu_un (r : R B m F N s a w) {op : UnOp} {t : TypeId} {x : Operand} (ho : o.op = .unOp op t x) (h : aun op (ev s x) (kv o.dst K s s.hp)) : Pu P m F o s a w K := by
  unfold aun at h
  split at h
  · rename_i k n hx
    have h1 := (hx ▸ r.ev x).inv_v
    exact ⟨_, _, h, .d (.v _), fun w1 _ => by simp [execOp, ho, h1, Op.unary, Op.intArith]⟩
  · rename_i k hx
    have h1 := (hx ▸ r.ev x).inv_v
    exact ⟨_, _, h, .d (.v _), fun w1 _ => by simp [execOp, ho, h1, Op.unary]⟩
  · exact h.elim

/-- a load gives the same in whatever world of the class -/
theorem load_cw {t : TypeId} {b o' n : Nat} {g : Bool} {v : Value} {w1 : World} {cur : Array Value} {T : TypeId} {fz : Nat × Nat} (hs : tsz P t = some n) (hg : tagg P t = some g)
    (hb : w.heap[b]? = some (.cells cur T fz)) (hC : Cw w w1) (h : (loadVar t ⟨b, o', none⟩).run P w = .ok v w) : (loadVar t ⟨b, o', none⟩).run P w1 = .ok v w1 := by
  have hb1 := hC.block hb
  have hcell : ∀ k, w1.cell? ⟨b, k, none⟩ = w.cell? ⟨b, k, none⟩ := fun k => by rw [cell_at hb, cell_at hb1]
  cases g with
  | false =>
    simp only [loadVar, Sem.run_bind, run_agg hg, Result.andThen_ok, Bool.false_eq_true, if_false, run_load] at h ⊢
    rw [hcell]
    cases hc : w.cell? ⟨b, o', none⟩ with
    | some u => rw [hc] at h; simp at h ⊢; exact h
    | none =>
      rw [hc] at h
      simp [World.farLoad, hb, World.noCell] at h
  | true =>
    have far : ∀ (n i : Nat) (acc r : Array Value), (loadCellsFrom ⟨b, o', none⟩ i n acc).run P w = .ok r w → (loadCellsFrom ⟨b, o', none⟩ i n acc).run P w1 = .ok r w1 := by
      intro n
      induction n with
      | zero => intro i acc r h; simp [loadCellsFrom] at h ⊢; exact h
      | succ n ih =>
        intro i acc r h
        simp only [loadCellsFrom, addr_add, Sem.run_bind, run_load] at h ⊢
        rw [hcell]
        cases hc : w.cell? ⟨b, o' + i, none⟩ with
        | some u => rw [hc] at h; simp only [Result.andThen_ok] at h ⊢; exact ih _ _ _ h
        | none => rw [hc] at h; simp [World.farLoad, hb, World.noCell] at h
    simp only [loadVar, Sem.run_bind, run_agg hg, Result.andThen_ok, if_true, run_size hs, loadCells] at h ⊢
    generalize hr : (loadCellsFrom ⟨b, o', none⟩ 0 n #[]).run P w = r at h
    cases r with
    | ok x w2 =>
      simp at h
      obtain ⟨hx, rfl⟩ := h
      rw [far n 0 #[] x hr]
      simp [hx]
    | halt x w2 => simp at h

theorem pu_load (r : R B m F N s a w) {t : TypeId} {x : Operand} (ho : o.op = .load t x) (h : aload P t s.hp (ev s x) (kv o.dst K s s.hp)) : Pu P m F o s a w K := by
  have hh := h
  obtain ⟨y, v, b, o', h1, h2, h3, h4⟩ := aload_rep r.hp (r.ev x) h
  refine ⟨y, v, h1, h2, fun w1 hC => exec_load ho h3 ?_⟩
  unfold aload at hh
  cases hs : tsz P t with
  | none => simp [hs] at hh
  | some n =>
    cases hg : tagg P t with
    | none => simp [hs, hg] at hh
    | some g =>
      have : ∃ cur T fz, w.heap[b]? = some (.cells cur T fz) := by
        have hre := r.ev x
        rw [h3] at hre
        rw [hs, hg] at hh
        simp only at hh
        split at hh
        · rename_i id o2 hx
          rw [hx] at hre
          obtain ⟨b', sz, hm, e⟩ := hre.inv_bx
          cases e
          unfold entBox at hh
          split at hh
          · rename_i cells hc
            obtain ⟨b', sz', vs, T, hm', hb, _⟩ := r.hp.ent id _ hc
            rw [hm'] at hm; cases hm
            exact ⟨_, _, _, hb⟩
          · exact hh.elim
        · rename_i e o2 hx
          rw [hx] at hre
          obtain ⟨b', off, cur, T, fz, cs, hF, hb, _, _, e⟩ := hre.inv_ep
          cases e
          exact ⟨_, _, _, hb⟩
        · rename_i id i o2 hx
          rw [hx] at hre
          obtain ⟨b', sz, hm, e⟩ := hre.inv_ptr
          cases e
          split at hh
          · rename_i sz' elems hc
            rcases r.hp.ent id _ hc with ⟨hm', _⟩ | ⟨b', cur, T, cs, hm', hb, _⟩
            · rw [hm'] at hm; cases hm
            · rw [hm'] at hm; cases hm
              exact ⟨_, _, _, hb⟩
          · exact hh.elim
        · exact hh.elim
      obtain ⟨cur, T, fz, hb⟩ := this
      exact load_cw hs hg hb hC h4

theorem pu_fld (r : R B m F N s a w) {t : TypeId} {x : Operand} {f : Nat} (ho : o.op = .fieldAddr t x f) (h : afld P t f (ev s x) (kv o.dst K s s.hp)) : Pu P m F o s a w K := by
  unfold afld at h
  split at h
  · rename_i off hf
    have ex : ∀ b o', a.eval x = .pointer (some ⟨b, o', none⟩) → ∀ w1, Cw w w1 → (execOp a.eval o).run P w1 = .ok (.value (.pointer (some ⟨b, o' + off, none⟩))) w1 := by
      intro b o' hv w1 _
      simp [execOp, ho, hv, run_fld hf]
    split at h
    · rename_i id o' hx
      obtain ⟨b, sz, hm, hv⟩ := (hx ▸ r.ev x).inv_bx
      exact ⟨_, _, h, .bx id (o' + off) b sz hm, ex _ _ hv⟩
    · rename_i e o' hx
      obtain ⟨b, off', cur, T, fz, cs, hF, hb, hcell, hrep, hv⟩ := (hx ▸ r.ev x).inv_ep
      exact ⟨_, _, h, by rw [Nat.add_assoc]; exact .ep e (o' + off) b off' cur T fz cs hF hb hcell hrep, ex _ _ hv⟩
    · rename_i id i o' hx
      obtain ⟨b, sz, hm, hv⟩ := (hx ▸ r.ev x).inv_ptr
      exact ⟨_, _, h, by rw [Nat.add_assoc]; exact .ptr id i (o' + off) b sz hm, ex _ _ hv⟩
    · exact h.elim
  · exact h.elim

theorem pu_idx (r : R B m F N s a w) {t : TypeId} {x i : Operand} (ho : o.op = .indexAddr t x i) (h : aidx P t s.hp (ev s x) (ev s i) (kv o.dst K s s.hp)) : Pu P m F o s a w K := by
  unfold aidx at h
  split at h
  · rename_i et k n ht hi
    have hvi := (hi ▸ r.ev i).inv_v
    split at h
    · rename_i z sz xs hz hx
      obtain ⟨h0, h1, rfl, h⟩ := h
      have hlt : n.toNat < xs.length := by omega
      have he := List.getElem?_eq_getElem hlt
      rcases (hx ▸ r.ev x).inv_sl with ⟨hxs, _⟩ | ⟨b, off, cap, cur, T, fz, cs, hv, hs⟩
      · subst hxs; simp at hlt
      · exact ⟨_, _, h _ he, hs.elem he, fun w1 _ => by simp [execOp, ho, hv, hvi, run_idx ht hz h0 h1]⟩
    · rename_i z id lo len hz hx
      obtain ⟨h0, h1, h⟩ := h
      split at h
      · rename_i sz elems hc
        obtain ⟨rfl, h⟩ := h
        rcases (hx ▸ r.ev x).inv_ref with ⟨_, _, hl, _⟩ | ⟨b, sz', cap, cur, T, hv, hm, hb, hsz, hlc, hmax⟩
        · omega
        · have : sz' = sz := by
            rcases r.hp.ent id _ hc with ⟨hm', _⟩ | ⟨b', cur', T', cs, hm', _⟩
            · rw [hm'] at hm; cases hm
            · rw [hm'] at hm; cases hm; rfl
          subst this
          exact ⟨_, .pointer (some ⟨b, (lo + n.toNat) * sz' + 0, none⟩), h, .ptr id (lo + n.toNat) 0 b sz' hm, fun w1 _ => by simp [execOp, ho, hv, hvi, run_idx ht hz h0 h1, Nat.add_mul]⟩
      · exact h.elim
    · exact h.elim
  · exact h.elim

theorem pu_len (r : R B m F N s a w) {x : Operand} {as : Array Operand} {ts : Array TypeId} {t : TypeId} (ho : o.op = .call { callee := .builtin .len, args := as, argTypes := ts }) (has : as = #[x]) (hts : ts[0]? = some t)
    (h : alen P t (ev s x) (kv o.dst K s s.hp)) : Pu P m F o s a w K := by
  have kd : ∀ k, tkd P t = some k → ∃ t1, P.underlying t = some t1 ∧ (k = .slice → ∃ e, t1 = .slice e) ∧ (k = .string → t1 = .string) := by
    intro k hk
    unfold tkd at hk
    cases hp : P.underlying t with
    | none => simp [hp] at hk
    | some d =>
      rw [hp] at hk
      refine ⟨d, rfl, ?_, ?_⟩
      · intro hs; subst hs; cases d <;> simp at hk; exact ⟨_, rfl⟩
      · intro hs; subst hs; cases d <;> simp at hk; rfl
  unfold alen at h
  split at h
  · rename_i sz xs hk hx
    obtain ⟨t1, hp, h1, _⟩ := kd _ hk
    obtain ⟨e, rfl⟩ := h1 rfl
    rcases (hx ▸ r.ev x).inv_sl with ⟨rfl, b, cap, hv⟩ | ⟨b, off, cap, cur, T, fz, cs, hv, hs⟩
    · exact ⟨_, _, h, .d (.v _), fun w1 _ => by simp [execOp, ho, resolve, invoke, builtin, Builtin.len_, has, hts, hv, run_underlying hp, goInt]⟩
    · exact ⟨_, _, h, .d (.v _), fun w1 _ => by simp [execOp, ho, resolve, invoke, builtin, Builtin.len_, has, hts, hv, run_underlying hp, goInt]⟩
  · rename_i x1 hk hx
    obtain ⟨t1, hp, _, h1⟩ := kd _ hk
    have := h1 rfl; subst this
    have hv := (hx ▸ r.ev x).inv_v
    exact ⟨_, _, h, .d (.v _), fun w1 _ => by simp [execOp, ho, resolve, invoke, builtin, Builtin.len_, has, hts, hv, run_underlying hp, goInt]⟩
  · rename_i x1 n c hk hx
    obtain ⟨t1, hp, h1, _⟩ := kd _ hk
    obtain ⟨e, rfl⟩ := h1 rfl
    have hv := (hx ▸ r.ev x).inv_v
    exact ⟨_, _, h, .d (.v _), fun w1 _ => by simp [execOp, ho, resolve, invoke, builtin, Builtin.len_, has, hts, hv, run_underlying hp, goInt]⟩
  · rename_i id lo n hk hx
    obtain ⟨t1, hp, h1, _⟩ := kd _ hk
    obtain ⟨e, rfl⟩ := h1 rfl
    rcases (hx ▸ r.ev x).inv_ref with ⟨_, _, rfl, hv⟩ | ⟨b, sz', cap, cur, T, hv, _⟩
    · exact ⟨_, _, h, .d (.v _), fun w1 _ => by simp [execOp, ho, resolve, invoke, builtin, Builtin.len_, has, hts, hv, run_underlying hp, goInt]⟩
    · exact ⟨_, _, h, .d (.v _), fun w1 _ => by simp [execOp, ho, resolve, invoke, builtin, Builtin.len_, has, hts, hv, run_underlying hp, goInt]⟩
  · exact h.elim

theorem pu_field (r : R B m F N s a w) {t : TypeId} {x : Operand} {f : Nat} (ho : o.op = .field t x f)
    (h : afval P t f (ev s x) (kv o.dst K s s.hp)) : Pu P m F o s a w K := by
  unfold afval at h
  split at h
  · rename_i off ft cs hf hx
    obtain ⟨vs, hv, hl, hrep⟩ := (hx ▸ r.ev x).inv_agg
    split at h
    · rename_i n g hs hg
      unfold tfld at hf
      cases hu : P.underlying t with
      | none => simp [hu] at hf
      | some d =>
        cases d <;> simp [hu] at hf
        rename_i fs
        obtain ⟨x', hx', rfl, rfl⟩ := hf
        cases g with
        | true =>
          simp only [rd, if_true] at h
          refine ⟨_, .agg ((vs.drop x'.offset).take n).toArray, h.2, .agg _ _ (by simp [hl]) ?_, fun w1 _ => ?_⟩
          · intro i c v h1 h2
            rw [List.getElem?_take] at h1 h2
            split at h1 <;> simp_all
            exact hrep _ _ _ h1 h2
          · simp only [execOp, ho, hv, Instr.field, Sem.run_bind, run_underlying hu, Result.andThen_ok, hx', asAgg, Sem.run_pure, part, run_agg hg, if_true, run_size hs, extract_list]
        | false =>
          simp only [rd, Bool.false_eq_true, if_false] at h
          split at h
          · rename_i y hy
            have hlt : x'.offset < vs.length := by rw [hl]; exact lt_of_some hy
            have hvv : vs[x'.offset]? = some vs[x'.offset] := List.getElem?_eq_getElem hlt
            refine ⟨_, vs[x'.offset], h, hrep _ _ _ hy hvv, fun w1 _ => ?_⟩
            simp [execOp, ho, hv, Instr.field, run_underlying hu, hx', asAgg, part, run_agg hg, hvv]
          · exact h.elim
    · exact h.elim
  · exact h.elim

theorem pu_build (r : R B m F N s a w) {t : TypeId} {ps : Array (Nat × Operand)} (ho : o.op = .build t ps)
    (h : abuild P t (evps s ps.toList) (kv o.dst K s s.hp)) : Pu P m F o s a w K := by
  unfold abuild at h
  split at h
  · rename_i z pl hz hpl
    obtain ⟨x, vs', hc, hf, hx⟩ := fill_rep (m := m) (w := w) (F := F) (pl := pl) (evps s ps.toList) (ps.map fun p => (p.1, a.eval p.2)).toList _ z _ (by simp [evps_length])
      (by
        intro i p q h1 h2
        obtain ⟨q', h3, rfl⟩ := evps_get h1
        simp only [Array.toList_map, List.getElem?_map, h3] at h2
        simp at h2
        subst h2
        exact ⟨rfl, r.ev _⟩) (by simp) (by
        intro i x v h1 h2
        simp at h1
        obtain ⟨y, hy, rfl⟩ := h1
        rw [h2] at hy; cases hy
        exact .d (.v _)) h
    have hb : P.built t (ps.map fun p => (p.1, a.eval p.2)).toList = some vs' := by
      unfold tpl at hpl
      unfold tzero at hz
      unfold Program.built
      cases hi : P.info? t with
      | none => simp [hi] at hz
      | some it =>
        cases hu : P.underlying t with
        | none => simp [hu] at hpl
        | some d =>
          cases d <;> simp only [hu] at hpl <;> try (cases hpl; done)
          simp only [hi, Option.bind_some] at hz
          simp only [hz, hpl]
          exact hf
    exact ⟨_, _, hc, hx, fun w1 _ => by simp only [execOp, ho, Sem.run_bind]; rw [run_build w1 t _ vs' hb]; rfl⟩
  · exact h.elim


/-- an operation of a quiet region, in every world of the class -/
def QuietIn (P : Program) (o : Oper) (a : Act) (w : World) (v : Value) : Prop := ∀ w1, Cw w w1 → o.quietAt P a (Cw w) w1 v

theorem Pu.quiet (h : Pu P m F o s a w K) : ∃ x v, K (put s o.dst x) ∧ RepA m w F x v ∧ QuietIn P o a w v := by
  obtain ⟨x, v, h1, h2, h3⟩ := h
  refine ⟨x, v, h1, h2, fun w1 hC => ?_⟩
  unfold Oper.quietAt
  rw [h3 w1 hC]
  exact ⟨rfl, rfl⟩

theorem RepA.monoF {F' : Nat → Prop} {x : AV} {v : Value} (h : RepA m w F x v) (hF : ∀ b, F b → F' b) : RepA m w F' x v := by
  induction h with
  | d h => exact .d (h.tr (fun _ _ => rfl) hF)
  | top v => exact .top v
  | agg cs vs hl h ih => exact .agg cs vs hl ih
  | tup cs vs hl h ih => exact .tup cs vs hl ih
  | refNil id hm => exact .refNil id hm
  | ref id lo len b sz cap cur T hm hb hs hl hmax => exact .ref id lo len b sz cap cur T hm hb hs hl hmax
  | bx id o b sz hm => exact .bx id o b sz hm
  | ptr id i o b sz hm => exact .ptr id i o b sz hm
  | ep e o b off cur T fz cs hFb hb hcell hrep => exact .ep e o b off cur T fz cs (hF b hFb) hb hcell (fun j d hd => (hrep j d hd).tr (fun _ _ => rfl) hF)

/-- the one value that such a datum describes -/
def fval : AV → Value
  | .d (.v x) => x
  | .agg cs => .agg (fvalL cs).toArray
  | .tup cs => .tuple (fvalL cs).toArray
  | _ => undef
where
  fvalL : List AV → List Value
    | [] => []
    | c :: cs => fval c :: fvalL cs

theorem fvalL_get : ∀ (l : List AV) (i : Nat), (fval.fvalL l)[i]? = (l[i]?).map fval
  | [], i => by simp [fval.fvalL]
  | c :: cs, 0 => by simp [fval.fvalL]
  | c :: cs, i + 1 => by simp [fval.fvalL, fvalL_get cs i]

theorem flat_val {x : AV} {v : Value} (h : RepA m w F x v) (hf : flat x = true) : v = fval x := by
  have lists : ∀ (cs : List AV) (vs : List Value), vs.length = cs.length → (∀ (i : Nat) (c : AV) (v : Value), cs[i]? = some c → vs[i]? = some v → v = fval c) → vs = fval.fvalL cs := by
    intro cs vs hl h
    apply List.ext_getElem?
    intro i
    rw [fvalL_get]
    rcases Nat.lt_or_ge i cs.length with hi | hi
    · have h1 := List.getElem?_eq_getElem hi
      have h2 := List.getElem?_eq_getElem (show i < vs.length by omega)
      rw [h1, h2, h i _ _ h1 h2]; rfl
    · rw [List.getElem?_eq_none hi, List.getElem?_eq_none (by omega)]; rfl
  induction h with
  | d h => cases h <;> first | rfl | simp [Eng.flat] at hf
  | agg cs vs hl h ih =>
    rw [lists cs vs hl (fun i c v h1 h2 => ih i c v h1 h2 (flatL_get (by simpa [Eng.flat] using hf) h1))]; rfl
  | tup cs vs hl h ih =>
    rw [lists cs vs hl (fun i c v h1 h2 => ih i c v h1 h2 (flatL_get (by simpa [Eng.flat] using hf) h1))]; rfl
  | _ => simp [Eng.flat] at hf

theorem flat_rep {x : AV} (hf : flat x = true) : RepA m w F x (fval x) := by
  have key : ∀ (n : Nat) (x : AV), SizeOf.sizeOf x ≤ n → flat x = true → RepA m w F x (fval x) := by
    intro n
    induction n with
    | zero => intro x hx; cases x <;> simp at hx
    | succ n ih =>
      intro x hx hf
      have mem : ∀ (cs : List AV), SizeOf.sizeOf cs ≤ n → flat.flatL cs = true → ∀ (i : Nat) (c : AV) (v : Value), cs[i]? = some c → (fval.fvalL cs)[i]? = some v → RepA m w F c v := by
        intro cs hs hfl i c v h1 h2
        rw [fvalL_get, h1] at h2
        cases h2
        have : SizeOf.sizeOf c < SizeOf.sizeOf cs := List.sizeOf_lt_of_mem (List.mem_of_getElem? h1)
        exact ih c (by omega) (flatL_get hfl h1)
      have len : ∀ (cs : List AV), (fval.fvalL cs).length = cs.length := by
        intro cs; induction cs with
        | nil => rfl
        | cons c cs ih => simp [fval.fvalL, ih]
      cases x with
      | d d => cases d <;> first | exact .d (.v _) | simp [Eng.flat] at hf
      | agg cs => exact .agg cs _ (len cs) (mem cs (by simp at hx; omega) (by simpa [Eng.flat] using hf))
      | tup cs => exact .tup cs _ (len cs) (mem cs (by simp at hx; omega) (by simpa [Eng.flat] using hf))
      | _ => simp [Eng.flat] at hf
  exact key _ x (Nat.le_refl _) hf

theorem qcall_quiet (r : R B m F N s a w) {k : FuncId} {as : Array Operand} {ts : Array TypeId} (ho : o.op = .call { callee := .value (.func k), args := as, argTypes := ts })
    (h : qcall P k as.toList o.dst K s) : ∃ x v, K (put s o.dst x) ∧ RepA m w F x v ∧ QuietIn P o a w v := by
  obtain ⟨dargs, x, hr, hG, hf, hK⟩ := h
  refine ⟨x, fval x, hK, flat_rep hf, fun w1 hC => ?_⟩
  have r1 := r.cw hC
  have hrun : (execOp a.eval o).run P w1 = .ok (.enter k (as.map a.eval)) w1 := by
    simp [execOp, ho, resolve, Act.eval, Deferred.ofValue, invoke, hG.1]
  unfold Oper.quietAt
  rw [hrun]
  refine ⟨rfl, ?_⟩
  obtain ⟨hl, hg⟩ := hr.get
  have up : ∀ {d : AV} {v : Value}, RepA [] w1 (allF m F s.hp) d v → RepA [] w1 (fun b => b < w1.heap.size) d v := by
    intro d v hd
    exact hd.monoF (allF_lt r1.hp)
  have hc := hG.2 [] w1 (fun b => b < w1.heap.size) (as.map a.eval).toList ⟨rfl, fun b h => h, fun id e he => by simp at he, fun i j ei ej bi si bj sj hi => by simp at hi, fun i e b s he => by simp at he⟩
    ⟨by rw [hl]; simp, fun i d v h1 h2 => by
      simp at h2
      obtain ⟨y, hy, rfl⟩ := h2
      have hx : (as.toList.map (ev s))[i]? = some (ev s y) := by simp [hy]
      exact up ((hg i _ d hx h1).rep r1.hp (r1.ev y))⟩
  rw [Array.toArray_toList] at hc
  refine hc.mono ?_
  rintro e w' ⟨v, r', hp', m', F', rfl, rfl, _, hx, t⟩
  refine ⟨by rw [flat_val hx hf], t.os.trans hC.os, t.tape.trans hC.tape, t.output.trans hC.output, Nat.le_trans hC.size t.size, fun b hb => ?_⟩
  exact (t.blk b (Nat.lt_of_lt_of_le hb hC.size)).trans (hC.blk b hb)

theorem qop_quiet (r : R B m F N s a w) (h : qop P n0 o s K) : ∃ x v, K (put s o.dst x) ∧ RepA m w F x v ∧ QuietIn P o a w v := by
  unfold qop at h
  split at h
  · rename_i x ho; exact (pu_move r (.inl ho) (by unfold aop at h; rw [ho] at h; exact h)).quiet
  · rename_i x ho; exact (pu_move r (.inr ho) (by unfold aop at h; rw [ho] at h; exact h)).quiet
  · rename_i c x y ho; exact (pu_pick r ho (by unfold aop at h; rw [ho] at h; exact h)).quiet
  · rename_i t i ho; exact (pu_extract r ho (by unfold aop at h; rw [ho] at h; exact h)).quiet
  · rename_i op t x y t' ho; exact (pu_bin r ho (by unfold aop at h; rw [ho] at h; exact h)).quiet
  · rename_i op t x ho; exact (pu_un r ho (by unfold aop at h; rw [ho] at h; exact h)).quiet
  · rename_i t x ho; exact (pu_load r ho (by unfold aop at h; rw [ho] at h; exact h)).quiet
  · rename_i t x f ho; exact (pu_fld r ho (by unfold aop at h; rw [ho] at h; exact h)).quiet
  · rename_i t x i ho; exact (pu_idx r ho (by unfold aop at h; rw [ho] at h; exact h)).quiet
  · rename_i t p ho; exact (pu_build r ho (by unfold aop at h; rw [ho] at h; exact h)).quiet
  · rename_i t x f ho; exact (pu_field r ho (by unfold aop at h; rw [ho] at h; exact h)).quiet
  · rename_i as ts ho
    unfold aop at h
    rw [ho] at h
    simp only at h
    split at h
    · rename_i x t tr has hts
      exact (pu_len r (x := x) ho (by cases as; simp_all) (by cases ts; simp_all) h).quiet
    · exact h.elim
  · rename_i k as ts ho; exact qcall_quiet r ho h
  · exact h.elim

end Eng
end Go.Proofs.Ytbfonmedgcemjaa
