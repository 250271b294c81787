/-
An abstract interpreter of the program's code on plain data: part R, the rules by which it is run. Each is stated over any program and any data, so that nothing of a program is unfolded where it is used.
No condition.
-/
import Derived.Test.YtbfonmedgcemjaaEngQ
namespace Go.Proofs.Ytbfonmedgcemjaa
namespace Eng
set_option linter.unusedVariables false
set_option linter.unusedSimpArgs false

section
variable {P : Program} {n0 : Nat} {s : St} {K : St → Prop} {c : AV → Prop} {ops : Array Oper} {dst : Option Tmp} {ty : TypeId} {ps : String} {af : Array Edge} {gd : Option (Nat × Bool)} {l : List (Nat × AV)} {hp : List Ent} {t t' : TypeId} {x y : Operand}

/-- a guard's outcome -/
def gopV (P : Program) (n0 : Nat) (o : Oper) (s : St) (K : St → Prop) (d : Nat) (want : Bool) : AV → Prop
  | .d (.v (.bool b)) => (b = want → aop P n0 o ⟨(d, vb want) :: s.sl, s.hp⟩ K) ∧ (b = !want → K (put ⟨(d, vb (!want)) :: s.sl, s.hp⟩ o.dst .top))
  | _ => False
def gopO (P : Program) (n0 : Nat) (o : Oper) (s : St) (K : St → Prop) (want : Bool) : Option Nat → Prop
  | some d => gopV P n0 o s K d want (lk s.sl d)
  | none => False
theorem gop_none {op : Op} : gop P n0 ops ⟨dst, op, ty, ps, af, none⟩ s K = aop P n0 ⟨dst, op, ty, ps, af, none⟩ s K := rfl
theorem gop_some {op : Op} {j : Nat} {want : Bool} : gop P n0 ops ⟨dst, op, ty, ps, af, some (j, want)⟩ s K = gopO P n0 ⟨dst, op, ty, ps, af, some (j, want)⟩ s K want (gslot ops j) := by
  simp only [gop]
  cases gslot ops j with
  | none => rfl
  | some d =>
    simp only [gopO]
    generalize lk s.sl d = x
    cases x <;> rfl
theorem gopO_some {o : Oper} {want : Bool} {d : Nat} : gopO P n0 o s K want (some d) = gopV P n0 o s K d want (lk s.sl d) := rfl
theorem gopV_b {o : Oper} {want b : Bool} {d : Nat} : gopV P n0 o ⟨l, hp⟩ K d want (.d (.v (.bool b))) =
    ((b = want → aop P n0 o ⟨(d, vb want) :: l, hp⟩ K) ∧ (b = !want → K (put ⟨(d, vb (!want)) :: l, hp⟩ o.dst .top))) := rfl
theorem gslot_lit {l : List Oper} {j : Nat} : gslot l.toArray j = (l[j]?).bind (·.dst) := by simp [gslot]

/- regions that draw their order -/
def gqV (P : Program) (n0 : Nat) (o : Oper) (s : St) (K : St → Prop) (d : Nat) (want : Bool) : AV → Prop
  | .d (.v (.bool b)) => (b = want → qop P n0 o ⟨(d, vb want) :: s.sl, s.hp⟩ K) ∧ (b = !want → K (put ⟨(d, vb (!want)) :: s.sl, s.hp⟩ o.dst .top))
  | _ => False
def gqO (P : Program) (n0 : Nat) (o : Oper) (s : St) (K : St → Prop) (want : Bool) : Option Nat → Prop
  | some d => gqV P n0 o s K d want (lk s.sl d)
  | none => False
theorem acode_draw {id : Nat} {Q : Exit → St → Prop} {l : List Oper} : acode P n0 (.region id l.toArray true) Q s = ((Region.lexB .any l.toArray = true ∧ P.follows .mixedOrders = true) ∧ qops P n0 l.toArray l (Q .normal) s) := by simp [acode]
theorem qops_nil : qops P n0 ops [] K s = K s := rfl
theorem qops_cons {o : Oper} {rest : List Oper} : qops P n0 ops (o :: rest) K s = gqop P n0 ops o s (qops P n0 ops rest K) := rfl
theorem gqop_none {op : Op} : gqop P n0 ops ⟨dst, op, ty, ps, af, none⟩ s K = qop P n0 ⟨dst, op, ty, ps, af, none⟩ s K := rfl
theorem gqop_some {op : Op} {j : Nat} {want : Bool} : gqop P n0 ops ⟨dst, op, ty, ps, af, some (j, want)⟩ s K = gqO P n0 ⟨dst, op, ty, ps, af, some (j, want)⟩ s K want (gslot ops j) := by
  simp only [gqop]
  cases gslot ops j with
  | none => rfl
  | some d =>
    simp only [gqO]
    generalize lk s.sl d = x
    cases x <;> rfl
theorem gqO_some {o : Oper} {want : Bool} {d : Nat} : gqO P n0 o s K want (some d) = gqV P n0 o s K d want (lk s.sl d) := rfl
theorem gqV_b {o : Oper} {want b : Bool} {d : Nat} : gqV P n0 o ⟨l, hp⟩ K d want (.d (.v (.bool b))) =
    ((b = want → qop P n0 o ⟨(d, vb want) :: l, hp⟩ K) ∧ (b = !want → K (put ⟨(d, vb (!want)) :: l, hp⟩ o.dst .top))) := rfl
theorem qop_move : qop P n0 ⟨dst, .move x, ty, ps, af, gd⟩ s K = kv dst K s s.hp (ev s x) := rfl
theorem qop_assign : qop P n0 ⟨dst, .assign x, ty, ps, af, gd⟩ s K = kv dst K s s.hp (ev s x) := rfl
theorem qop_pick {z : Operand} : qop P n0 ⟨dst, .pick z x y, ty, ps, af, gd⟩ s K = apick (ev s z) (ev s x) (ev s y) (kv dst K s s.hp) := rfl
theorem qop_extract {i : Nat} : qop P n0 ⟨dst, .extract x i, ty, ps, af, gd⟩ s K = aext (ev s x) i (kv dst K s s.hp) := rfl
theorem qop_bin {op : BinOp} : qop P n0 ⟨dst, .binOp op t x y t', ty, ps, af, gd⟩ s K = abin P op t (ev s x) (ev s y) (kv dst K s s.hp) := rfl
theorem qop_un {op : UnOp} : qop P n0 ⟨dst, .unOp op t x, ty, ps, af, gd⟩ s K = aun op (ev s x) (kv dst K s s.hp) := rfl
theorem qop_fld {f : Nat} : qop P n0 ⟨dst, .fieldAddr t x f, ty, ps, af, gd⟩ s K = afld P t f (ev s x) (kv dst K s s.hp) := rfl
theorem qop_idx : qop P n0 ⟨dst, .indexAddr t x y, ty, ps, af, gd⟩ s K = aidx P t s.hp (ev s x) (ev s y) (kv dst K s s.hp) := rfl
theorem qop_build {p : List (Nat × Operand)} : qop P n0 ⟨dst, .build t p.toArray, ty, ps, af, gd⟩ s K = abuild P t (evps s p) (kv dst K s s.hp) := by simp [qop, aop]
theorem qop_field {f : Nat} : qop P n0 ⟨dst, .field t x f, ty, ps, af, gd⟩ s K = afval P t f (ev s x) (kv dst K s s.hp) := rfl
theorem qop_call {k : FuncId} {as : List Operand} {ts : Array TypeId} : qop P n0 ⟨dst, .call ⟨.value (.func k), as.toArray, ts⟩, ty, ps, af, gd⟩ s K = qcall P k as dst K s := by simp [qop]
theorem qcall_eq {k : FuncId} {as : List Operand} : qcall P k as dst K s = qcx P k (as.map (ev s)) dst K s := (rfl)
theorem noid_rd : ∀ {args : List AV}, noid.noidL args = true → RdL hp args args
  | [], _ => trivial
  | x :: xs, h => by simp only [noid.noidL, Bool.and_eq_true] at h; exact ⟨.same x h.1, noid_rd h.2⟩
/-- a call in such a region, where no argument names an entry -/
theorem qcx_same {k : FuncId} {args : List AV} {r : AV} (hn : noid.noidL args = true) (h : GC P k args [] (fun r' _ => r' = r)) (hf : flat r = true) (hK : K (put s dst r)) : qcx P k args dst K s :=
  ⟨args, r, noid_rd hn, h, hf, hK⟩
theorem qop_len {ts : List TypeId} : qop P n0 ⟨dst, .call ⟨.builtin .len, [x].toArray, (t :: ts).toArray⟩, ty, ps, af, gd⟩ s K = alen P t (ev s x) (kv dst K s s.hp) := by simp [qop, aop]

theorem aop_move : aop P n0 ⟨dst, .move x, ty, ps, af, gd⟩ s K = kv dst K s s.hp (ev s x) := rfl
theorem aop_assign : aop P n0 ⟨dst, .assign x, ty, ps, af, gd⟩ s K = kv dst K s s.hp (ev s x) := rfl
theorem aop_pick {z : Operand} : aop P n0 ⟨dst, .pick z x y, ty, ps, af, gd⟩ s K = apick (ev s z) (ev s x) (ev s y) (kv dst K s s.hp) := rfl
theorem aop_extract {i : Nat} : aop P n0 ⟨dst, .extract x i, ty, ps, af, gd⟩ s K = aext (ev s x) i (kv dst K s s.hp) := rfl
theorem aop_bin {op : BinOp} : aop P n0 ⟨dst, .binOp op t x y t', ty, ps, af, gd⟩ s K = abin P op t (ev s x) (ev s y) (kv dst K s s.hp) := rfl
theorem aop_un {op : UnOp} : aop P n0 ⟨dst, .unOp op t x, ty, ps, af, gd⟩ s K = aun op (ev s x) (kv dst K s s.hp) := rfl
theorem aop_fld {f : Nat} : aop P n0 ⟨dst, .fieldAddr t x f, ty, ps, af, gd⟩ s K = afld P t f (ev s x) (kv dst K s s.hp) := rfl
theorem aop_idx : aop P n0 ⟨dst, .indexAddr t x y, ty, ps, af, gd⟩ s K = aidx P t s.hp (ev s x) (ev s y) (kv dst K s s.hp) := rfl
theorem aop_build {p : List (Nat × Operand)} : aop P n0 ⟨dst, .build t p.toArray, ty, ps, af, gd⟩ s K = abuild P t (evps s p) (kv dst K s s.hp) := by simp [aop]
theorem aop_field {f : Nat} : aop P n0 ⟨dst, .field t x f, ty, ps, af, gd⟩ s K = afval P t f (ev s x) (kv dst K s s.hp) := rfl
theorem aop_call {k : FuncId} {as : List Operand} {ts : Array TypeId} : aop P n0 ⟨dst, .call ⟨.value (.func k), as.toArray, ts⟩, ty, ps, af, gd⟩ s K = acall P n0 k as dst K s := by simp [aop]
theorem aop_len {ts : List TypeId} : aop P n0 ⟨dst, .call ⟨.builtin .len, [x].toArray, (t :: ts).toArray⟩, ty, ps, af, gd⟩ s K = alen P t (ev s x) (kv dst K s s.hp) := by simp [aop]

/- loads -/
def loadE (g : Bool) (n o : Nat) (c : AV → Prop) : Option Ent → Prop
  | some (.box cells) => rd g n o cells c
  | _ => False
def loadP (g : Bool) (n i o : Nat) (c : AV → Prop) : Option Ent → Prop
  | some (.arr _ elems) => i < elems.length ∧ ∀ e, elems[i]? = some e → rdD g n o e c
  | _ => False
def loadO (hp : List Ent) (x : AV) (c : AV → Prop) : Option Nat → Option Bool → Prop
  | some n, some g => match x with
    | .bx id o => loadE g n o c hp[id]?
    | .ep e o => rdD g n o e c
    | .ptr id i o => loadP g n i o c hp[id]?
    | _ => False
  | _, _ => False
theorem aload_eq {x : AV} : aload P t hp x c = loadO hp x c (tsz P t) (tagg P t) := by
  unfold aload loadO
  cases tsz P t <;> cases tagg P t <;> rfl
theorem aop_load : aop P n0 ⟨dst, .load t x, ty, ps, af, gd⟩ s K = loadO s.hp (ev s x) (kv dst K s s.hp) (tsz P t) (tagg P t) := aload_eq
theorem qop_load : qop P n0 ⟨dst, .load t x, ty, ps, af, gd⟩ s K = loadO s.hp (ev s x) (kv dst K s s.hp) (tsz P t) (tagg P t) := aload_eq
theorem loadO_bx {n : Nat} {g : Bool} {id o : Nat} : loadO hp (.bx id o) c (some n) (some g) = loadE g n o c hp[id]? := rfl
theorem loadO_ep {n : Nat} {g : Bool} {e : List D} {o : Nat} : loadO hp (.ep e o) c (some n) (some g) = rdD g n o e c := rfl
theorem loadO_ptr {n : Nat} {g : Bool} {id i o : Nat} : loadO hp (.ptr id i o) c (some n) (some g) = loadP g n i o c hp[id]? := rfl
theorem loadE_box {n : Nat} {g : Bool} {o : Nat} {cells : List AV} : loadE g n o c (some (.box cells)) = rd g n o cells c := rfl
theorem loadP_arr {n : Nat} {g : Bool} {i o sz : Nat} {elems : List (List D)} : loadP g n i o c (some (.arr sz elems)) = (i < elems.length ∧ ∀ e, elems[i]? = some e → rdD g n o e c) := rfl
def rdO (c : AV → Prop) : Option AV → Prop
  | some x => c x
  | none => False
def rdDO (c : AV → Prop) : Option D → Prop
  | some x => c (.d x)
  | none => False
theorem rd_true {n o : Nat} {cells : List AV} : rd true n o cells c = ((0 < n ∧ o + n ≤ cells.length) ∧ c (.agg ((cells.drop o).take n))) := rfl
theorem rd_false {n o : Nat} {cells : List AV} : rd false n o cells c = rdO c cells[o]? := by
  simp only [rd, Bool.false_eq_true, if_false]; cases cells[o]? <;> rfl
theorem rdO_some {x : AV} : rdO c (some x) = c x := rfl
theorem rdD_true {n o : Nat} {e : List D} : rdD true n o e c = ((0 < n ∧ o + n ≤ e.length) ∧ c (.agg (((e.drop o).take n).map .d))) := rfl
theorem rdD_false {n o : Nat} {e : List D} : rdD false n o e c = rdDO c e[o]? := by
  simp only [rdD, Bool.false_eq_true, if_false]; cases e[o]? <;> rfl
theorem rdDO_some {x : D} : rdDO c (some x) = c (.d x) := rfl

/- stores -/
def stoE (id o n : Nat) (v : List AV) (hp : List Ent) (K : List Ent → Prop) : Option Ent → Prop
  | some (.box cells) => o + n ≤ cells.length ∧ K (hp.set id (.box (wr cells o v)))
  | _ => False
def stoP (id i o n : Nat) (hp : List Ent) (K : List Ent → Prop) : Option Ent → Option (List D) → Prop
  | some (.arr sz elems), some ds => i < elems.length ∧ ∀ e, elems[i]? = some e → o + n ≤ e.length ∧ K (hp.set id (.arr sz (elems.set i (wrD e o ds))))
  | _, _ => False
def stoX (n : Nat) (v : List AV) (hp : List Ent) (K : List Ent → Prop) : AV → Prop
  | .bx id o => stoE id o n v hp K hp[id]?
  | .ptr id i o => stoP id i o n hp K hp[id]? (toDs v)
  | _ => False
def stoO (v : List AV) (x : AV) (hp : List Ent) (K : List Ent → Prop) : Option Nat → Prop
  | some n => (v.length = n ∧ oneL v = true) ∧ stoX n v hp K x
  | none => False
/-- what follows a store -/
def kst (dst : Option Tmp) (K : St → Prop) (l : List (Nat × AV)) (hp : List Ent) : Prop := K ⟨match dst with | some d => (d, .top) :: l | none => l, hp⟩
theorem kst_none : kst none K l hp = K ⟨l, hp⟩ := rfl
theorem astore_eq {x v : AV} {K : List Ent → Prop} : astore P t hp x v K = stoO (acells v) x hp K (tsz P t) := by
  unfold astore stoO
  cases tsz P t <;> rfl
theorem aop_store : aop P n0 ⟨dst, .store t x y, ty, ps, af, gd⟩ s K = stoO (acells (ev s y)) (ev s x) s.hp (kst dst K s.sl) (tsz P t) := by
  show astore P t s.hp (ev s x) (ev s y) (kst dst K s.sl) = _
  exact astore_eq
theorem stoO_some {v : List AV} {x : AV} {K : List Ent → Prop} {n : Nat} : stoO v x hp K (some n) = ((v.length = n ∧ oneL v = true) ∧ stoX n v hp K x) := rfl
theorem stoX_bx {v : List AV} {K : List Ent → Prop} {n id o : Nat} : stoX n v hp K (.bx id o) = stoE id o n v hp K hp[id]? := rfl
theorem stoX_ptr {v : List AV} {K : List Ent → Prop} {n id i o : Nat} : stoX n v hp K (.ptr id i o) = stoP id i o n hp K hp[id]? (toDs v) := rfl
theorem stoE_box {v : List AV} {K : List Ent → Prop} {n id o : Nat} {cells : List AV} : stoE id o n v hp K (some (.box cells)) = (o + n ≤ cells.length ∧ K (hp.set id (.box (wr cells o v)))) := rfl
theorem stoP_arr {K : List Ent → Prop} {n id i o sz : Nat} {elems : List (List D)} {ds : List D} : stoP id i o n hp K (some (.arr sz elems)) (some ds) =
    (i < elems.length ∧ ∀ e, elems[i]? = some e → o + n ≤ e.length ∧ K (hp.set id (.arr sz (elems.set i (wrD e o ds))))) := rfl
theorem oneL_nil : oneL [] = true := rfl
theorem oneL_cons {x : AV} {l : List AV} : oneL (x :: l) = (one x && oneL l) := rfl
theorem one_int {k : IntKind} {n : Int} : one (.d (.v (.int k n))) = true := rfl
theorem one_bool {b : Bool} : one (.d (.v (.bool b))) = true := rfl
theorem one_str {b : ByteArray} : one (.d (.v (.string b))) = true := rfl
theorem one_slc {a : Option Addr} {n k : Nat} : one (.d (.v (.slice a n k))) = true := rfl
theorem one_sl {z : Nat} {xs : List (List D)} : one (.d (.sl z xs)) = true := rfl
theorem one_ref {i j k : Nat} : one (.ref i j k) = true := rfl
theorem one_bx {i j : Nat} : one (.bx i j) = true := rfl
theorem toDs_nil : toDs [] = some [] := rfl
def toDsO (x : D) : Option (List D) → Option (List D)
  | some r => some (x :: r)
  | none => none
theorem toDs_cons {x : D} {l : List AV} : toDs (.d x :: l) = toDsO x (toDs l) := by simp only [toDs]; cases toDs l <;> rfl
theorem toDsO_some {x : D} {r : List D} : toDsO x (some r) = some (x :: r) := rfl
theorem acells_agg {cs : List AV} : acells (.agg cs) = cs := rfl
theorem acells_d {x : D} : acells (.d x) = [.d x] := rfl
theorem acells_ref {i j k : Nat} : acells (.ref i j k) = [.ref i j k] := rfl
theorem acells_bx {i j : Nat} : acells (.bx i j) = [.bx i j] := rfl
theorem wr_eq {l : List AV} {o : Nat} {v : List AV} : wr l o v = l.take o ++ v ++ l.drop (o + v.length) := rfl
theorem wrD_eq {l : List D} {o : Nat} {v : List D} : wrD l o v = l.take o ++ v ++ l.drop (o + v.length) := rfl

/- addresses -/
def fldO (x : AV) (c : AV → Prop) : Option Nat → Prop
  | some off => match x with
    | .bx id o => c (.bx id (o + off))
    | .ep e o => c (.ep e (o + off))
    | .ptr id i o => c (.ptr id i (o + off))
    | _ => False
  | none => False
theorem afld_eq {f : Nat} {x : AV} : afld P t f x c = fldO x c (tfo P t f) := by
  unfold afld fldO; cases tfo P t f <;> rfl
theorem fldO_bx {id o off : Nat} : fldO (.bx id o) c (some off) = c (.bx id (o + off)) := rfl
theorem fldO_ep {e : List D} {o off : Nat} : fldO (.ep e o) c (some off) = c (.ep e (o + off)) := rfl
theorem fldO_ptr {id i o off : Nat} : fldO (.ptr id i o) c (some off) = c (.ptr id i (o + off)) := rfl
def idxE (z lo : Nat) (n : Int) (id : Nat) (c : AV → Prop) : Option Ent → Prop
  | some (.arr sz _) => sz = z ∧ c (.ptr id (lo + n.toNat) 0)
  | _ => False
def idxZ (hp : List Ent) (x : AV) (n : Int) (c : AV → Prop) : Option Nat → Prop
  | some z => match x with
    | .d (.sl sz xs) => 0 ≤ n ∧ n < xs.length ∧ (sz = z ∧ ∀ e, xs[n.toNat]? = some e → c (.ep e 0))
    | .ref id lo len => 0 ≤ n ∧ n < len ∧ idxE z lo n id c hp[id]?
    | _ => False
  | none => False
def idxO (P : Program) (hp : List Ent) (x i : AV) (c : AV → Prop) : Option TypeId → Prop
  | some et => match i with
    | .d (.v (.int _ n)) => idxZ hp x n c (tsz P et)
    | _ => False
  | none => False
theorem aidx_eq {x i : AV} : aidx P t hp x i c = idxO P hp x i c (tel P t) := by
  unfold aidx idxO
  cases tel P t <;> try rfl
  rename_i et
  cases i <;> try rfl
  rename_i v; cases v <;> try rfl
  rename_i v; cases v <;> try rfl
  simp only [idxZ]
  cases tsz P et with
  | none => rfl
  | some z =>
    cases x with
    | d d => cases d <;> rfl
    | ref id lo len =>
      simp only [idxE]
      cases hp[id]? with
      | none => rfl
      | some e => cases e <;> rfl
    | _ => rfl
theorem idxO_some {x : AV} {k : IntKind} {n : Int} {et : TypeId} : idxO P hp x (.d (.v (.int k n))) c (some et) = idxZ hp x n c (tsz P et) := rfl
theorem idxZ_sl {z sz : Nat} {xs : List (List D)} {n : Int} : idxZ hp (.d (.sl sz xs)) n c (some z) = (0 ≤ n ∧ n < xs.length ∧ (sz = z ∧ ∀ e, xs[n.toNat]? = some e → c (.ep e 0))) := rfl
theorem idxZ_ref {z id lo len : Nat} {n : Int} : idxZ hp (.ref id lo len) n c (some z) = (0 ≤ n ∧ n < len ∧ idxE z lo n id c hp[id]?) := rfl
theorem idxE_arr {z id lo sz : Nat} {n : Int} {elems : List (List D)} : idxE z lo n id c (some (.arr sz elems)) = (sz = z ∧ c (.ptr id (lo + n.toNat) 0)) := rfl

/- new blocks -/
/-- what follows a new block -/
def knew (dst : Option Tmp) (K : St → Prop) (l : List (Nat × AV)) (v : AV) (hp : List Ent) : Prop := K (put ⟨l, hp⟩ dst v)
theorem knew_some {d : Nat} {v : AV} : knew (some d) K l v hp = K ⟨(d, v) :: l, hp⟩ := rfl
theorem aop_box : aop P n0 ⟨dst, .box t x, ty, ps, af, gd⟩ s K = (oneL (acells (ev s x)) = true ∧ knew dst K s.sl (.bx s.hp.length 0) (s.hp ++ [.box (acells (ev s x))])) := rfl
def allocO (dst : Option Tmp) (K : St → Prop) (s : St) : Option Value → Prop
  | some z => knew dst K s.sl (.bx s.hp.length 0) (s.hp ++ [.box (acells (AV.lit z))])
  | none => False
theorem aop_alloc : aop P n0 ⟨dst, .alloc t, ty, ps, af, gd⟩ s K = allocO dst K s (tzero P t) := by
  show azero P t s.hp (fun r hp => kv dst K s hp r) = _
  unfold azero allocO
  cases tzero P t <;> rfl
theorem allocO_some {z : Value} : allocO dst K ⟨l, hp⟩ (some z) = knew dst K l (.bx hp.length 0) (hp ++ [.box (acells (AV.lit z))]) := rfl
def makeO (dst : Option Tmp) (K : St → Prop) (s : St) (n : Int) : Option Value → Option Nat → Option TypeInfo → Prop
  | some z, some sz, some i => 0 ≤ n ∧ n ≤ 1099511627776 ∧ (0 < sz ∧ i.bytes ≤ 64) ∧ z.cells.size = sz ∧
      knew dst K s.sl (.ref s.hp.length 0 n.toNat) (s.hp ++ [.arr sz (List.replicate n.toNat (z.cells.toList.map .v))])
  | _, _, _ => False

/- structs by value -/
def bldO (pl : List (Nat × Nat)) (rest : List (Nat × AV)) (x : AV) (cells : List AV) (c : AV → Prop) : Option (Nat × Nat) → Prop
  | some (off, n) => (oneL (acells x) = true ∧ (acells x).length = n ∧ off + n ≤ cells.length) ∧ abld pl rest (wr cells off (acells x)) c
  | none => False
theorem abld_nil {pl : List (Nat × Nat)} {cells : List AV} : abld pl [] cells c = c (.agg cells) := rfl
theorem abld_cons {pl : List (Nat × Nat)} {rest : List (Nat × AV)} {f : Nat} {x : AV} {cells : List AV} : abld pl ((f, x) :: rest) cells c = bldO pl rest x cells c pl[f]? := by
  simp only [abld]; cases pl[f]? <;> rfl
theorem bldO_some {pl : List (Nat × Nat)} {rest : List (Nat × AV)} {x : AV} {cells : List AV} {off n : Nat} :
    bldO pl rest x cells c (some (off, n)) = ((oneL (acells x) = true ∧ (acells x).length = n ∧ off + n ≤ cells.length) ∧ abld pl rest (wr cells off (acells x)) c) := rfl
def buildO (ps : List (Nat × AV)) (c : AV → Prop) : Option Value → Option (List (Nat × Nat)) → Prop
  | some (.agg z), some pl => abld pl ps (z.toList.map fun c => .d (.v c)) c
  | _, _ => False
theorem abuild_eq {p : List (Nat × AV)} : abuild P t p c = buildO p c (tzero P t) (tpl P t) := by
  unfold abuild buildO
  cases tzero P t with
  | none => cases tpl P t <;> rfl
  | some z => cases z <;> cases tpl P t <;> rfl
theorem buildO_some {p : List (Nat × AV)} {z : List Value} {pl : List (Nat × Nat)} : buildO p c (some (.agg z.toArray)) (some pl) = abld pl p (z.map fun c => .d (.v c)) c := by simp [buildO]
def fvalO (P : Program) (cs : List AV) (c : AV → Prop) : Option (Nat × TypeId) → Prop
  | some (off, ft) => match tsz P ft, tagg P ft with
    | some n, some g => rd g n off cs c
    | _, _ => False
  | none => False
def fvalR (cs : List AV) (off : Nat) (c : AV → Prop) : Option Nat → Option Bool → Prop
  | some n, some g => rd g n off cs c
  | _, _ => False
theorem afval_eq {f : Nat} {cs : List AV} : afval P t f (.agg cs) c = fvalO P cs c (tfld P t f) := by
  unfold afval fvalO; cases tfld P t f <;> rfl
theorem fvalO_some {cs : List AV} {off : Nat} {ft : TypeId} : fvalO P cs c (some (off, ft)) = fvalR cs off c (tsz P ft) (tagg P ft) := by
  simp only [fvalO]; cases tsz P ft <;> cases tagg P ft <;> rfl
theorem fvalR_some {cs : List AV} {off n : Nat} {g : Bool} : fvalR cs off c (some n) (some g) = rd g n off cs c := rfl

theorem sle_nil : sle l [] = True := rfl
theorem sle_cons {k : Nat} {v : AV} {r : List (Nat × AV)} : sle l ((k, v) :: r) = (lk l k = v ∧ sle l r) := rfl
/- slots and values -/
theorem ev_tmp {k : Nat} : ev ⟨l, hp⟩ (.tmp k) = lk l k := rfl
theorem ev_const {v : Value} : ev s (.const v) = AV.lit v := rfl
theorem evps_nil : evps s [] = [] := rfl
theorem evps_cons {i : Nat} {p : List (Nat × Operand)} : evps s ((i, x) :: p) = (i, ev s x) :: evps s p := rfl
theorem lk_cons {k j : Nat} {v : AV} : lk ((k, v) :: l) j = if k = j then v else lk l j := rfl
theorem lit_int {k : IntKind} {n : Int} : AV.lit (.int k n) = .d (.v (.int k n)) := rfl
theorem lit_bool {b : Bool} : AV.lit (.bool b) = .d (.v (.bool b)) := rfl
theorem lit_str {b : ByteArray} : AV.lit (.string b) = .d (.v (.string b)) := rfl
theorem lit_slice {a : Option Addr} {n k : Nat} : AV.lit (.slice a n k) = .d (.v (.slice a n k)) := rfl
theorem lit_agg {z : List Value} : AV.lit (.agg z.toArray) = .agg (z.map fun c => .d (.v c)) := by simp [AV.lit]
theorem put_some {d : Nat} {v : AV} : put ⟨l, hp⟩ (some d) v = ⟨(d, v) :: l, hp⟩ := rfl
theorem put_none {v : AV} : put ⟨l, hp⟩ none v = ⟨l, hp⟩ := rfl
theorem kv_some {d : Nat} {v : AV} {hp' : List Ent} : kv (some d) K ⟨l, hp⟩ hp' v = K ⟨(d, v) :: l, hp'⟩ := rfl
theorem callK_some {d : Nat} {v : AV} : callK (some d) K l v hp = K ⟨(d, v) :: l, hp⟩ := rfl
theorem callK_none {v : AV} : callK none K l v hp = K ⟨l, hp⟩ := rfl

/- computing -/
theorem abin_int {op : BinOp} {k : IntKind} {a b : Int} : abin P op t (.d (.v (.int k a))) (.d (.v (.int k b))) c = ibin op k a b c := by simp [abin]
theorem abin_str {op : BinOp} {a b : ByteArray} : abin P op t (.d (.v (.string a))) (.d (.v (.string b))) c = sbin op a b c := rfl
theorem abin_bool {op : BinOp} {a b : Bool} : abin P op t (.d (.v (.bool a))) (.d (.v (.bool b))) c = (P.underlying t = some .bool ∧ bbin op a b c) := rfl
theorem ibin_add {k : IntKind} {a b : Int} : ibin .add k a b c = c (.d (.v (.int k (k.wrap (a + b))))) := rfl
theorem ibin_sub {k : IntKind} {a b : Int} : ibin .sub k a b c = c (.d (.v (.int k (k.wrap (a - b))))) := rfl
theorem ibin_mul {k : IntKind} {a b : Int} : ibin .mul k a b c = c (.d (.v (.int k (k.wrap (a * b))))) := rfl
theorem ibin_quo {k : IntKind} {a b : Int} : ibin .quo k a b c = (b ≠ 0 ∧ c (.d (.v (.int k (k.wrap (a.tdiv b)))))) := rfl
theorem ibin_rem {k : IntKind} {a b : Int} : ibin .rem k a b c = (b ≠ 0 ∧ c (.d (.v (.int k (a.tmod b))))) := rfl
theorem ibin_eql {k : IntKind} {a b : Int} : ibin .eql k a b c = c (vb (a == b)) := rfl
theorem ibin_neq {k : IntKind} {a b : Int} : ibin .neq k a b c = c (vb (a != b)) := rfl
theorem ibin_lss {k : IntKind} {a b : Int} : ibin .lss k a b c = c (vb (decide (a < b))) := rfl
theorem ibin_leq {k : IntKind} {a b : Int} : ibin .leq k a b c = c (vb (decide (a ≤ b))) := rfl
theorem ibin_gtr {k : IntKind} {a b : Int} : ibin .gtr k a b c = c (vb (decide (b < a))) := rfl
theorem ibin_geq {k : IntKind} {a b : Int} : ibin .geq k a b c = c (vb (decide (b ≤ a))) := rfl
theorem sbin_add {a b : ByteArray} : sbin .add a b c = (((a.size + b.size : Nat) : Int) ≤ IntKind.i64.max ∧ c (vs (a ++ b))) := rfl
theorem sbin_eql {a b : ByteArray} : sbin .eql a b c = c (vb (a.toList == b.toList)) := rfl
theorem sbin_neq {a b : ByteArray} : sbin .neq a b c = c (vb (!(a.toList == b.toList))) := rfl
theorem bbin_eql {a b : Bool} : bbin .eql a b c = c (vb (a == b)) := rfl
theorem bbin_neq {a b : Bool} : bbin .neq a b c = c (vb (!(a == b))) := rfl
theorem aun_neg {k : IntKind} {n : Int} : aun .neg (.d (.v (.int k n))) c = c (.d (.v (.int k (k.wrap (0 - n))))) := rfl
theorem aun_not {b : Bool} : aun .not (.d (.v (.bool b))) c = c (vb (!b)) := rfl
theorem apick_b {b : Bool} {u v : AV} : apick (.d (.v (.bool b))) u v c = ((b = true → c u) ∧ (b = false → c v)) := rfl
theorem aext_zero {u : AV} {r : List AV} : aext (.tup (u :: r)) 0 c = c u := rfl
theorem aext_succ {u : AV} {r : List AV} {i : Nat} : aext (.tup (u :: r)) (i + 1) c = aext (.tup r) i c := rfl
def lenK (x : AV) (c : AV → Prop) : Option Kd → Prop
  | some .slice => match x with
    | .d (.sl _ xs) => c (vi xs.length)
    | .d (.v (.slice _ n _)) => c (vi n)
    | .ref _ _ n => c (vi n)
    | _ => False
  | some .string => match x with
    | .d (.v (.string s)) => c (vi s.size)
    | _ => False
  | _ => False
theorem alen_eq {x : AV} : alen P t x c = lenK x c (tkd P t) := by
  unfold alen lenK
  cases tkd P t with
  | none => rfl
  | some k =>
    cases k <;> try rfl
    all_goals (cases x <;> try rfl)
    all_goals (rename_i d; cases d <;> try rfl)
    all_goals (rename_i v; cases v <;> rfl)
theorem lenK_sl {z : Nat} {xs : List (List D)} : lenK (.d (.sl z xs)) c (some .slice) = c (vi xs.length) := rfl
theorem lenK_nil {a : Option Addr} {n k : Nat} : lenK (.d (.v (.slice a n k))) c (some .slice) = c (vi n) := rfl
theorem lenK_ref {i j n : Nat} : lenK (.ref i j n) c (some .slice) = c (vi n) := rfl
theorem lenK_str {b : ByteArray} : lenK (.d (.v (.string b))) c (some .string) = c (vi b.size) := rfl

/- the end -/
theorem endq_normal {rs : List ResultVar} {K : AV → List Ent → Prop} : endq P rs n0 K .normal s = ares P s rs (fun r => fin n0 r s.hp K) := rfl
theorem endq_ret {rs : List ResultVar} {K : AV → List Ent → Prop} : endq P rs n0 K .ret s = ares P s rs (fun r => fin n0 r s.hp K) := rfl
theorem ares_one {r : ResultVar} : ares P s [r] c = ares1 P s r c := rfl
theorem ares_two {r r2 : ResultVar} : ares P s [r, r2] c = ares1 P s r (fun u => ares1 P s r2 (fun v => c (.tup [u, v]))) := rfl
theorem ares_three {r r2 r3 : ResultVar} : ares P s [r, r2, r3] c = ares1 P s r (fun u => ares1 P s r2 (fun v => ares1 P s r3 (fun w => c (.tup [u, v, w])))) := rfl
theorem ares_four {r r2 r3 r4 : ResultVar} : ares P s [r, r2, r3, r4] c = ares1 P s r (fun u => ares1 P s r2 (fun v => ares1 P s r3 (fun w => ares1 P s r4 (fun z => c (.tup [u, v, w, z]))))) := rfl
theorem ares1_tmp {k : Nat} : ares1 P ⟨l, hp⟩ (.tmp k) c = c (lk l k) := rfl
theorem ares1_cell {k : Nat} : ares1 P ⟨l, hp⟩ (.cell k t) c = loadO hp (lk l k) c (tsz P t) (tagg P t) := aload_eq
theorem argSl_nil {k : Nat} : argSl k [] = [] := rfl
theorem argSl_cons {k : Nat} {u : AV} {us : List AV} : argSl k (u :: us) = (k, u) :: argSl (k + 1) us := rfl
end

section
variable {P : Program} {n0 : Nat}
@[congr] theorem qops_congr {ops l K s s'} (h : s = s') : qops P n0 ops l K s = qops P n0 ops l K s' := by rw [h]
@[congr] theorem gqop_congr {ops o K s s'} (h : s = s') : gqop P n0 ops o s K = gqop P n0 ops o s' K := by rw [h]
@[congr] theorem qop_congr {o K s s'} (h : s = s') : qop P n0 o s K = qop P n0 o s' K := by rw [h]
@[congr] theorem gqV_congr {o K d w x x' s s'} (h : s = s') (h2 : x = x') : gqV P n0 o s K d w x = gqV P n0 o s' K d w x' := by rw [h, h2]
@[congr] theorem gqO_congr {o K w x x' s s'} (h : s = s') (h2 : x = x') : gqO P n0 o s K w x = gqO P n0 o s' K w x' := by rw [h, h2]
@[congr] theorem qcx_congr {k as as' dst K s s'} (h2 : as = as') (h : s = s') : qcx P k as dst K s = qcx P k as' dst K s' := by rw [h, h2]
@[congr] theorem qcall_congr {k as dst K s s'} (h : s = s') : qcall P k as dst K s = qcall P k as dst K s' := by rw [h]
@[congr] theorem gop_congr {ops o K s s'} (h : s = s') : gop P n0 ops o s K = gop P n0 ops o s' K := by rw [h]
@[congr] theorem aop_congr {o K s s'} (h : s = s') : aop P n0 o s K = aop P n0 o s' K := by rw [h]
@[congr] theorem gopV_congr {o K d w x x' s s'} (h : s = s') (h2 : x = x') : gopV P n0 o s K d w x = gopV P n0 o s' K d w x' := by rw [h, h2]
@[congr] theorem gopO_congr {o K w x x' s s'} (h : s = s') (h2 : x = x') : gopO P n0 o s K w x = gopO P n0 o s' K w x' := by rw [h, h2]
@[congr] theorem endq_congr {rs K e s s'} (h : s = s') : endq P rs n0 K e s = endq P rs n0 K e s' := by rw [h]
@[congr] theorem fin_congr {r r' hp hp' K} (h : r = r') (h2 : hp = hp') : fin n0 r hp K = fin n0 r' hp' K := by rw [h, h2]
end
end Eng
end Go.Proofs.Ytbfonmedgcemjaa
