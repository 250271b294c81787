/-
An abstract interpreter of the program's code on plain data: part F, operations in a frame; calls; regions in the text's order.
No condition: everything here is stated over any program.
-/
import Derived.Test.YtgcmahhejblpkaaVE
namespace Go.Proofs.Ytgcmahhejblpkaa
namespace Eng
set_option linter.unusedVariables false
set_option linter.unusedSimpArgs false

variable {P : Program} {n0 N : Nat} {B : Bs} {m : Mp} {F : Nat → Prop} {s : St} {a : Act} {w : World} {hp : List Ent} {K : St → Prop} {Q : Exit → Act → World → Prop} {o : Oper}

/-- what the next operation finds -/
def Nx (B : Bs) (N : Nat) (K : St → Prop) (a' : Act) (w' : World) : Prop :=
  ∃ s' m' F', K s' ∧ R B m' F' N s' a' w'

theorem getD_set (l : Array Value) (d t : Nat) (v : Value) (hd : d < l.size) : (l.setIfInBounds d v).getD t undef = if d = t then v else l.getD t undef := by
  simp only [Array.getD_eq_getD_getElem?, Array.getElem?_setIfInBounds]
  by_cases h : d = t
  · subst h; simp [hd]
  · simp [h]

/-- a slot is written -/
theorem R.put (r : R B m F N s a w) {m' : Mp} {w' : World} {F' : Nat → Prop} {hp' : List Ent} {x : AV} {v : Value} {dst : Option Nat}
    (t : Tr m w F s.hp m' w' F' hp') (hh : RelH m' w' F' hp') (hx : RepA m' w' F' x v) (hd : ∀ d, dst = some d → d < N) :
    R B m' F' N (put ⟨s.sl, hp'⟩ dst x) (a.put dst v) w' := by
  cases dst with
  | none => exact ⟨hh, fun k => (r.sl k).tr t, r.size, r.defers, r.base.trans t⟩
  | some d =>
    refine ⟨hh, fun k => ?_, by simp [Act.put, r.size], r.defers, r.base.trans t⟩
    have hlt : d < a.tmps.size := by rw [r.size]; exact hd d rfl
    simp only [Act.put, Eng.put, lk, getD_set _ _ _ _ hlt]
    by_cases h : d = k
    · simp only [if_pos h]; exact hx
    · simp only [if_neg h]; exact (r.sl k).tr t

/- what only computes -/
theorem flatL_get : ∀ {l : List AV} {i : Nat} {c : AV}, flat.flatL l = true → l[i]? = some c → flat c = true
  | [], i, c, _, h => by simp at h
  | x :: l, 0, c, h, hc => by simp [flat.flatL] at h; simp at hc; exact hc ▸ h.1
  | x :: l, i + 1, c, h, hc => by simp [flat.flatL] at h; simp at hc; exact flatL_get h.2 hc
theorem noidL_get : ∀ {l : List AV} {i : Nat} {c : AV}, noid.noidL l = true → l[i]? = some c → noid c = true
  | [], i, c, _, h => by simp at h
  | x :: l, 0, c, h, hc => by simp [noid.noidL] at h; simp at hc; exact hc ▸ h.1
  | x :: l, i + 1, c, h, hc => by simp [noid.noidL] at h; simp at hc; exact noidL_get h.2 hc

theorem RepA.flat {m' : Mp} {w' : World} {F' : Nat → Prop} {x : AV} {v : Value} (h : RepA m w F x v) (hf : flat x = true) : RepA m' w' F' x v := by
  induction h with
  | v x => exact .v x
  | agg cs vs hl h ih => exact .agg cs vs hl fun i c v h1 h2 => ih i c v h1 h2 (flatL_get (by simpa [Eng.flat] using hf) h1)
  | tup cs vs hl h ih => exact .tup cs vs hl fun i c v h1 h2 => ih i c v h1 h2 (flatL_get (by simpa [Eng.flat] using hf) h1)
  | _ => simp [Eng.flat] at hf

theorem pln_noid {x : AV} (h : pln x = true) : noid x = true := by cases x <;> simp [pln] at h <;> rfl

/-- contents without a name of an own block, in another map, with more frozen blocks -/
theorem RepA.noid {m' : Mp} {F' : Nat → Prop} {x : AV} {v : Value} (h : RepA m w F x v) (hf : noid x = true) (hF : ∀ b, F b → F' b) : RepA m' w F' x v := by
  induction h with
  | v x => exact .v x
  | top v => exact .top v
  | agg cs vs hl h ih => exact .agg cs vs hl fun i c v h1 h2 => ih i c v h1 h2 (noidL_get (by simpa [Eng.noid] using hf) h1)
  | tup cs vs hl h ih => exact .tup cs vs hl fun i c v h1 h2 => ih i c v h1 h2 (noidL_get (by simpa [Eng.noid] using hf) h1)
  | nil sz a cap => exact .nil sz a cap
  | sl sz xs b off cap cur T fz cs hFb hb hcap hmax hsz hpl hcell hrep ih =>
    exact .sl sz xs b off cap cur T fz cs (hF b hFb) hb hcap hmax hsz hpl hcell fun i o e d h1 h2 => ih i o e d h1 h2 (pln_noid (hpl e (List.mem_of_getElem? h1) d (List.mem_of_getElem? h2)))
  | ep e o b off cur T fz cs hFb hb hpl hcell hrep ih => exact .ep e o b off cur T fz cs (hF b hFb) hb hpl hcell fun j d hd => ih j d hd (pln_noid (hpl d (List.mem_of_getElem? hd)))
  | _ => simp [Eng.noid] at hf

theorem RdL.get {hp : List Ent} : ∀ {xs ds : List AV}, RdL hp xs ds → ds.length = xs.length ∧ ∀ (i : Nat) (x d : AV), xs[i]? = some x → ds[i]? = some d → Rd hp x d
  | [], [], _ => ⟨rfl, fun i c v h => by simp at h⟩
  | x :: xs, v :: vs, h => by
    obtain ⟨h1, h2⟩ := h.2.get
    refine ⟨by simp [h1], ?_⟩
    intro i c u e1 e2
    cases i with
    | zero => simp at e1 e2; subst e1; subst e2; exact h.1
    | succ i => exact h2 i c u (by simpa using e1) (by simpa using e2)

/-- the blocks that stay, and those that the caller owns -/
def allF (m : Mp) (F : Nat → Prop) (hp : List Ent) (b : Nat) : Prop := F b ∨ Own m hp b

theorem plnLL_get : ∀ {l : List (List AV)} {e : List AV} {d : AV}, plnLL l = true → e ∈ l → d ∈ e → pln d = true
  | [], e, d, _, h, _ => by simp at h
  | x :: l, e, d, h, he, hd => by
    simp only [plnLL, Bool.and_eq_true, List.all_eq_true] at h
    rcases List.mem_cons.1 he with rfl | he'
    · exact h.1 d hd
    · exact plnLL_get h.2 he' hd

theorem Rd.rep {hp : List Ent} (hh : RelH m w F hp) {x d : AV} {v : Value} (hr : Rd hp x d) (h : RepA m w F x v) : RepA [] w (allF m F hp) d v := by
  induction hr generalizing v with
  | same x hx => exact h.noid hx (fun b hb => .inl hb)
  | ref id len sz elems he hl hq =>
    rcases h.inv_ref with ⟨hm, rfl, rfl⟩ | ⟨b, s', cap, cur, T, rfl, hm, hb, hsz, hlc, hmax⟩
    · simp; exact .nil sz none 0
    · obtain ⟨rfl, cur', T', cs, hA⟩ := hh.at_ he hm
      have hlen : (elems.take len).length = len := by simp; omega
      have := RepA.sl (m := []) (w := w) (F := allF m F hp) s' (elems.take len) b 0 cap cur' T' (0, 0) cs (.inr ⟨id, _, s', he, rfl, hm⟩) hA.hb (by rw [hlen]; exact hlc) hmax
        (fun e h1 => (hA.hsz e (List.mem_of_mem_take h1)).1) (fun e h1 d h2 => plnLL_get hq (List.mem_of_mem_take h1) h2)
        (by intro i o hi ho; rw [hlen] at hi; simpa using hA.hcell i o (by omega) ho)
        (by
          intro i o e d h1 h2
          rw [List.getElem?_take] at h1
          split at h1
          · exact (hA.hrep i o e d h1 h2).noid (pln_noid (plnLL_get hq (List.mem_of_getElem? h1) (List.mem_of_getElem? h2))) (fun b hb => .inl hb)
          · cases h1)
      rw [hlen] at this
      exact this
  | rs id lo len sz elems he hl hq =>
    rcases h.inv_rs with ⟨rfl, a', cap, rfl⟩ | ⟨b, s', cap, rfl, hm, hlc, hmax⟩
    · simp; exact .nil sz a' cap
    · obtain ⟨rfl, cur', T', cs, hA⟩ := hh.at_ he hm
      have hlen : ((elems.drop lo).take len).length = len := by simp; omega
      have := RepA.sl (m := []) (w := w) (F := allF m F hp) s' ((elems.drop lo).take len) b (lo * s') cap cur' T' (0, 0) (fun i o => cs (lo + i) o) (.inr ⟨id, _, s', he, rfl, hm⟩) hA.hb (by rw [hlen]; exact hlc) hmax
        (fun e h1 => (hA.hsz e (List.mem_of_mem_drop (List.mem_of_mem_take h1))).1) (fun e h1 d h2 => plnLL_get hq (List.mem_of_mem_drop (List.mem_of_mem_take h1)) h2)
        (by
          intro i o hi ho
          rw [hlen] at hi
          have := hA.hcell (lo + i) o (by omega) ho
          rw [Nat.add_mul] at this
          exact this)
        (by
          intro i o e d h1 h2
          rw [List.getElem?_take] at h1
          split at h1
          · rw [List.getElem?_drop] at h1
            exact (hA.hrep (lo + i) o e d h1 h2).noid (pln_noid (plnLL_get hq (List.mem_of_getElem? h1) (List.mem_of_getElem? h2))) (fun b hb => .inl hb)
          · cases h1)
      rw [hlen] at this
      exact this
  | nil sz =>
    rw [h.inv_v]
    exact .nil sz none 0
  | agg cs ds hl hh' ih =>
    obtain ⟨vs, rfl, hlv, hrv⟩ := h.inv_agg
    refine .agg ds vs (by rw [hlv, hl]) ?_
    intro i d u h1 h2
    have hi : i < cs.length := by rw [← hl]; exact lt_of_some h1
    have hc := List.getElem?_eq_getElem hi
    exact ih i _ d hc h1 (hrv i _ u hc h2)

theorem allF_lt {hp : List Ent} (hh : RelH m w F hp) : ∀ b, allF m F hp b → b < w.heap.size := by
  rintro b (h | h)
  · exact hh.stable b h
  · exact Own.lt hh h

theorem notOwn_nil {b : Nat} : ¬ Own [] [] b := by rintro ⟨id, e, s, h, _⟩; simp at h

/-- what a caller knows goes on, where nothing of his has turned -/
theorem after_pure {hp hp' : List Ent} {m' : Mp} {w' : World} {F0 F' : Nat → Prop} (hh : RelH m w F hp) (t : Tr [] w F0 [] m' w' F' hp') : RelH m w' F hp ∧ Tr m w F hp m w' F hp := by
  have t' : Tr m w F hp m w' F hp := { os := t.os, tape := t.tape, output := t.output, size := t.size, blk := fun b hb => t.fix b (hh.stable b hb) notOwn_nil, sub := fun _ h => h, mid := fun _ _ => rfl, mlen := Nat.le_refl _, shp := t.shp, fix := fun b hb _ => t.fix b hb notOwn_nil, own := fun _ h => .inl h, frz := fun _ h => .inl h }
  exact ⟨⟨hh.len, fun b hb => Nat.lt_of_lt_of_le (hh.stable b hb) t.size, fun id e he => (hh.ent id e he).tr t' (fun ha b z hm => t.fix b (hh.own id e b z he ha hm).2 notOwn_nil), hh.inj,
    fun i e b s he ha hm => ⟨(hh.own i e b s he ha hm).1, Nat.lt_of_lt_of_le (hh.own i e b s he ha hm).2 t.size⟩⟩, t'⟩

theorem relH_nil (w : World) {F : Nat → Prop} (hF : ∀ b, F b → b < w.heap.size) : RelH [] w F [] :=
  ⟨rfl, hF, fun id e he => by simp at he, fun i j ei ej bi si bj sj hi => by simp at hi, fun i e b s he => by simp at he⟩

/-- A FUNCTION THAT ONLY COMPUTES: its contract over no entries serves over any -/
theorem GC.pure {k : FuncId} {args dargs : List AV} {hp : List Ent} {K : AV → List Ent → Prop} {K0 : AV → Prop}
    (h : GC P k dargs [] (fun r' _ => K0 r' ∧ Eng.flat r' = true)) (hr : RdL hp args dargs) (hK : ∀ r, K0 r → K r hp) : GC P k args hp K := by
  refine ⟨h.1, ?_⟩
  intro m w F vals hh hv
  obtain ⟨hl, hg⟩ := hr.get
  have := h.2 [] w (allF m F hp) vals (relH_nil w (allF_lt hh))
    ⟨by rw [hv.1, hl], fun i d v h1 h2 => by
      have hi : i < args.length := by rw [← hl]; exact lt_of_some h1
      have hx := List.getElem?_eq_getElem hi
      exact (hg i _ d hx h1).rep hh (hv.2 i _ v hx h2)⟩
  refine this.mono ?_
  rintro e w' ⟨v, r', hp', m', F', he, ⟨hK0, hf⟩, hh', hx, t⟩
  obtain ⟨h1, h2⟩ := after_pure hh t
  exact ⟨v, r', hp, m, F, he, hK r' hK0, h1, hx.flat hf, h2⟩

theorem GC.mono {k : FuncId} {args : List AV} {K1 K2 : AV → List Ent → Prop} (h : GC P k args hp K1) (hK : ∀ r hp, K1 r hp → K2 r hp) : GC P k args hp K2 :=
  ⟨h.1, fun m w F vals hh hv => (h.2 m w F vals hh hv).mono fun e w' ⟨v, r, hp', m', F', he, hk, rest⟩ => ⟨v, r, hp', m', F', he, hK r hp' hk, rest⟩⟩

/- operations in a frame -/
theorem call_wp (r : R B m F N s a w) (hd : ∀ d, o.dst = some d → d < N) {k : FuncId} {as : Array Operand} {ts : Array TypeId} (ho : o.op = .call { callee := .value (.func k), args := as, argTypes := ts })
    (h : GC P k (as.toList.map (evS s.sl)) s.hp (ke o.dst K s.sl)) : o.wp P a w (Nx B N K) Q := by
  have hrun : (execOp a.eval o).run P w = .ok (.enter k (as.map a.eval)) w := by
    simp [execOp, ho, resolve, Act.eval, Deferred.ofValue, invoke, h.1]
  unfold Oper.wp
  rw [hrun]
  have hc := h.2 m w F (as.map a.eval).toList r.hp ⟨by simp, ?_⟩
  · rw [Array.toArray_toList] at hc
    refine hc.mono ?_
    rintro e w' ⟨v, rr, hp', m', F', rfl, hK, hh, hv, t⟩
    exact ⟨_, m', F', hK, r.put t hh hv hd⟩
  · intro i c v h1 h2
    simp at h1 h2
    obtain ⟨y, hy, rfl⟩ := h1
    obtain ⟨z, hz, rfl⟩ := h2
    rw [hy] at hz; cases hz
    exact r.ev _

theorem qcall_gc {k : FuncId} {args : List AV} {hp : List Ent} {c : AV → Prop} (h : qcall P k args hp c) : GC P k args hp (fun r hp' => c r ∧ hp' = hp) := by
  obtain ⟨dargs, x, hr, hG, hf, hc⟩ := h
  exact GC.pure (K0 := fun r => r = x) (hG.mono fun r hp h => by subst h; exact ⟨rfl, hf⟩) hr (fun r hr => by subst hr; exact ⟨hc, rfl⟩)

theorem aval_wp (r : R B m F N s a w) (hd : ∀ d, o.dst = some d → d < N) (h : aval P o.op (evS s.sl) s.hp (kv o.dst K s)) : o.wp P a w (Nx B N K) Q := by
  by_cases hq : ∃ k as ts, o.op = .call { callee := .value (.func k), args := as, argTypes := ts }
  · obtain ⟨k, as, ts, ho⟩ := hq
    rw [ho] at h
    simp only [aval] at h
    refine call_wp r hd ho ((qcall_gc h).mono ?_)
    rintro x hp' ⟨hx, rfl⟩
    exact hx
  · obtain ⟨x, v, hc, hx, hrun⟩ := aval_gives r.hp r.ev (fun k as ts ho => hq ⟨k, as, ts, ho⟩) h
    unfold Oper.wp
    rw [hrun]
    exact ⟨_, m, F, hc, r.put (Tr.refl m w F s.hp) r.hp hx hd⟩

theorem aeff_wp (r : R B m F N s a w) (hd : ∀ d, o.dst = some d → d < N) (h : aeff P o.op (evS s.sl) s.hp (ke o.dst K s.sl)) : o.wp P a w (Nx B N K) Q := by
  by_cases hq : ∃ k as ts, o.op = .call { callee := .value (.func k), args := as, argTypes := ts }
  · obtain ⟨k, as, ts, ho⟩ := hq
    rw [ho] at h
    simp only [aeff] at h
    exact call_wp r hd ho h
  · obtain ⟨x, v, hp', m', w', F', hc, hx, hh, t, hrun⟩ := aeff_does r.hp r.ev (fun k as ts ho => hq ⟨k, as, ts, ho⟩) h
    unfold Oper.wp
    rcases hrun with hrun | ⟨hrun, rfl⟩
    · rw [hrun]
      exact ⟨_, m', F', hc, r.put t hh hx hd⟩
    · rw [hrun]
      exact ⟨_, m', F', hc, r.put t hh hx hd⟩

theorem aop_wp (r : R B m F N s a w) (hd : ∀ d, o.dst = some d → d < N) (h : aop P o s K) : o.wp P a w (Nx B N K) Q := by
  unfold aop at h
  split at h
  · exact aeff_wp r hd h
  · exact aval_wp r hd h

theorem op_wp_mono {n1 n2 : Act → World → Prop} (h : ∀ a w, n1 a w → n2 a w) (hw : o.wp P a w n1 Q) : o.wp P a w n2 Q := by
  unfold Oper.wp at *
  generalize (execOp a.eval o).run P w = r at *
  cases r with
  | ok x w' =>
    cases x <;> simp only [Oper.upon] at hw ⊢ <;> try exact hw.elim
    case value v => exact h _ _ hw
    case skip => exact h _ _ hw
    case defer d => exact h _ _ hw
    case enter f args =>
      refine hw.mono ?_
      intro e w'' he
      cases e <;> first | exact h _ _ he | exact he
    case row row args => exact hw.mono fun v w'' h' => h _ _ h'
  | halt x w' => cases x <;> first | exact hw | exact hw.elim

/-- every slot that is written lies in the frame -/
def dstL (N : Nat) : List Oper → Bool
  | [] => true
  | o :: l => (match o.dst with | some d => decide (d < N) | none => true) && dstL N l
def dstOk (N : Nat) : Code → Bool
  | .seq x y => dstOk N x && dstOk N y
  | .cond _ x y => dstOk N x && dstOk N y
  | .block _ c => dstOk N c
  | .loop c => dstOk N c
  | .region _ ops _ => dstL N ops.toList
  | _ => true

theorem dstL_mem : ∀ {l : List Oper} {o : Oper}, dstL N l = true → o ∈ l → ∀ d, o.dst = some d → d < N
  | [], _, _, h, _, _ => by simp at h
  | x :: l, o, hl, h, d, hd => by
    simp only [dstL, Bool.and_eq_true] at hl
    rcases List.mem_cons.1 h with rfl | h'
    · rw [hd] at hl; simpa using hl.1
    · exact dstL_mem hl.2 h' d hd

def LQ (B : Bs) (N : Nat) (Q : Exit → St → Prop) (e : Exit) (a : Act) (w : World) : Prop := ∃ s m F, Q e s ∧ R B m F N s a w

theorem yielded_tup {ops : Array Oper} {j d : Nat} {q : Array Value} (r : R B m F N s a w) (hg : gslot ops j = some d) (hl : lk s.sl d = .v (.tuple q)) :
    yielded ops a.tmps j = none := by
  have hv := (hl ▸ r.sl d : RepA m w F (.v (.tuple q)) _).inv_v
  unfold gslot at hg
  unfold yielded
  rw [hg]
  simp only [Option.bind_some]
  rw [Array.getD_eq_getD_getElem?] at hv
  cases hh : a.tmps[d]? with
  | none => rfl
  | some x => rw [hh] at hv; simp at hv; rw [hv]
theorem yielded_of {ops : Array Oper} {j d : Nat} {b : Bool} (r : R B m F N s a w) (hg : gslot ops j = some d) (hl : lk s.sl d = .v (.bool b)) :
    yielded ops a.tmps j = some b := by
  have hv := (hl ▸ r.sl d : RepA m w F (.v (.bool b)) _).inv_v
  have hv' : a.tmps[d]? = some (.bool b) := by
    rw [Array.getD_eq_getD_getElem?] at hv
    cases hh : a.tmps[d]? with
    | none => rw [hh] at hv; simp [undef] at hv
    | some x => rw [hh] at hv; simp at hv; rw [hv]
  unfold gslot at hg
  simp [yielded, hg, hv']

theorem R.know (r : R B m F N s a w) {d : Nat} {b : Bool} (hl : lk s.sl d = .v (.bool b)) : R B m F N ⟨(d, vb b) :: s.sl, s.hp⟩ a w := by
  refine ⟨r.hp, fun t => ?_, r.size, r.defers, r.base⟩
  simp only [lk]
  split
  · rename_i h; subst h; have := r.sl d; rw [hl] at this; exact this
  · exact r.sl t

/-- an operation with its guard -/
theorem gd_wp {ops : Array Oper} {yes no : St → Prop} {K : Act → World → Prop} (r : R B m F N s a w) (hd : ∀ d, o.dst = some d → d < N) (h : gd ops o s yes no)
    (hy : ∀ s', R B m F N s' a w → yes s' → o.wp P a w K Q) (hn : ∀ s' m' F' a' w', R B m' F' N s' a' w' → no s' → K a' w') :
    if Region.wanted o (yielded ops a.tmps) = true then o.wp P a w K Q else K (a.put o.dst undef) w := by
  unfold gd at h
  split at h
  · rename_i hg
    rw [if_pos (by simp [Region.wanted, hg])]
    exact hy s r h
  · rename_i j want hg
    split at h
    · rename_i d hgs
      split at h
      · rename_i b hl
        have hy' := yielded_of (ops := ops) r hgs hl
        by_cases hb : b = want
        · rw [if_pos (by simp [Region.wanted, hg, hy', hb])]
          subst hb
          exact hy _ (r.know hl) (h.1 rfl)
        · have hb' : b = !want := by cases b <;> cases want <;> simp_all
          rw [if_neg (by simp [Region.wanted, hg, hy', hb])]
          have r2 := r.know hl
          rw [hb'] at r2
          have r3 := r2.put (x := ud) (v := undef) (dst := o.dst) (Tr.refl m w F s.hp) r2.hp (.v _) hd
          exact hn _ m F _ w r3 (h.2 hb')
      · rename_i tu hl
        have hy' := yielded_tup (ops := ops) r hgs hl
        rw [if_neg (by simp [Region.wanted, hg, hy'])]
        have r3 := r.put (x := ud) (v := undef) (dst := o.dst) (Tr.refl m w F s.hp) r.hp (.v _) hd
        exact hn _ m F _ w r3 h
      · exact h.elim
    · exact h.elim

theorem aops_sound {ops : Array Oper} {Q : Exit → St → Prop} : ∀ (l : List Oper) (m : Mp) (F : Nat → Prop) (s : St) (a : Act) (w : World), dstL N l = true → R B m F N s a w →
    aops P ops l (Q .normal) s → wpList P ops (LQ B N Q) l a w
  | [], m, F, s, a, w, _, r, h => ⟨s, m, F, h, r⟩
  | o :: rest, m, F, s, a, w, hd, r, h => by
    have hd1 := dstL_mem hd (List.mem_cons_self)
    have hd2 : dstL N rest = true := by simp only [dstL, Bool.and_eq_true] at hd; exact hd.2
    have next : ∀ a' w', Nx B N (aops P ops rest (Q .normal)) a' w' → wpList P ops (LQ B N Q) rest a' w' := by
      rintro a' w' ⟨s', m', F', hk, r'⟩
      exact aops_sound rest m' F' s' a' w' hd2 r' hk
    simp only [aops, gop] at h
    simp only [wpList]
    have := gd_wp (P := P) (Q := LQ B N Q) (K := wpList P ops (LQ B N Q) rest) r hd1 h (fun s' r' h' => op_wp_mono next (aop_wp r' hd1 h')) (fun s' m' F' a' w' r' h' => next a' w' ⟨s', m', F', h', r'⟩)
    split
    · rename_i hw; rw [if_pos hw] at this; exact .inl this
    · rename_i hw; rw [if_neg hw] at this; exact this

end Eng
end Go.Proofs.Ytgcmahhejblpkaa
