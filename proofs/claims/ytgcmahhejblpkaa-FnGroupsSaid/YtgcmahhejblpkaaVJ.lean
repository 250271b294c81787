/-
An abstract interpreter of the program's code on plain data: part J, the rules by which it is run. Each is stated over any program and any data, so that nothing of a program is unfolded where it is used.
No condition.
-/
import Derived.Test.YtgcmahhejblpkaaVI
namespace Go.Proofs.Ytgcmahhejblpkaa
namespace Eng
set_option linter.unusedVariables false
set_option linter.unusedSimpArgs false

section
variable {P : Program} {n0 : Nat} {pl : List (Nat × Plan)} {s : St} {K : St → Prop} {c : AV → Prop} {ce : AV → List Ent → Prop} {ops : Array Oper} {dst : Option Tmp} {ty : TypeId} {ps : String} {af : Array Edge} {g : Option (Nat × Bool)} {l : List (Nat × AV)} {hp : List Ent} {t t' : TypeId} {x y z : Operand} {e : Operand → AV}

/- code -/
theorem acode_skip {Q : Exit → St → Prop} : acode P n0 pl .skip Q s = Q .normal s := (rfl)
theorem acode_seq {a b : Code} {Q : Exit → St → Prop} : acode P n0 pl (.seq a b) Q s = acode P n0 pl a (thn (acode P n0 pl b Q) Q) s := (rfl)
theorem acode_cond {c : Operand} {x y : Code} {Q : Exit → St → Prop} : acode P n0 pl (.cond c x y) Q s = acnd (evS s.sl c) (acode P n0 pl x Q s) (acode P n0 pl y Q s) := (rfl)
theorem acode_block {id : Nat} {c : Code} {Q : Exit → St → Prop} : acode P n0 pl (.block id c) Q s = acode P n0 pl c (blq id Q) s := (rfl)
theorem acode_exit {id : Nat} {Q : Exit → St → Prop} : acode P n0 pl (.exit id) Q s = Q (.exit id) s := (rfl)
theorem acode_ret {Q : Exit → St → Prop} : acode P n0 pl .ret Q s = Q .ret s := (rfl)
theorem acode_region {id : Nat} {Q : Exit → St → Prop} {l : List Oper} : acode P n0 pl (.region id l.toArray false) Q s = aops P l.toArray l (Q .normal) s := by simp [acode]
theorem acode_draw {id : Nat} {Q : Exit → St → Prop} {l : List Oper} : acode P n0 pl (.region id l.toArray true) Q s = apl P l.toArray (Q .normal) (lkp pl id) [] s := (rfl)
theorem lkp_cons {k j : Nat} {p : Plan} {r : List (Nat × Plan)} : lkp ((k, p) :: r) j = if k = j then p else lkp r j := (rfl)
theorem thn_normal {n : St → Prop} {Q : Exit → St → Prop} : thn n Q .normal s = n s := (rfl)
theorem thn_ret {n : St → Prop} {Q : Exit → St → Prop} : thn n Q .ret s = Q .ret s := (rfl)
theorem thn_exit {n : St → Prop} {Q : Exit → St → Prop} {id : Nat} : thn n Q (.exit id) s = Q (.exit id) s := (rfl)
theorem blq_normal {id : Nat} {Q : Exit → St → Prop} : blq id Q .normal s = Q .normal s := (rfl)
theorem blq_ret {id : Nat} {Q : Exit → St → Prop} : blq id Q .ret s = Q .ret s := (rfl)
theorem blq_exit {id i : Nat} {Q : Exit → St → Prop} : blq id Q (.exit i) s = if i = id then Q .normal s else Q (.exit i) s := (rfl)
theorem lpt_ret {α : Type} {T : α → St} {J : α → Prop} {ν : α → Nat} {a : α} {Q : Exit → St → Prop} : lpt n0 T J ν a Q .ret s = Q .ret s := (rfl)
theorem lpt_exit {α : Type} {T : α → St} {J : α → Prop} {ν : α → Nat} {a : α} {Q : Exit → St → Prop} {id : Nat} : lpt n0 T J ν a Q (.exit id) s = Q (.exit id) s := (rfl)
theorem acnd_b {b : Bool} {A B : Prop} : acnd (.v (.bool b)) A B = if b = true then A else B := by cases b <;> simp [acnd]

/- regions -/
theorem aops_nil : aops P ops [] K s = K s := (rfl)
theorem aops_cons {o : Oper} {rest : List Oper} : aops P ops (o :: rest) K s = gd ops o s (fun s => aop P o s (aops P ops rest K)) (aops P ops rest K) := (rfl)
def gdV (dst : Option Tmp) (l : List (Nat × AV)) (hp : List Ent) (yes no : St → Prop) (d : Nat) (want : Bool) : AV → Prop
  | .v (.bool b) => (b = want → yes ⟨(d, vb want) :: l, hp⟩) ∧ (b = !want → no (put ⟨(d, vb (!want)) :: l, hp⟩ dst ud))
  | .v (.tuple _) => no (put ⟨l, hp⟩ dst ud)
  | _ => False
def gdO (dst : Option Tmp) (s : St) (yes no : St → Prop) (want : Bool) : Option Nat → Prop
  | some d => gdV dst s.sl s.hp yes no d want (lk s.sl d)
  | none => False
theorem gd_none {op : Op} {yes no : St → Prop} : gd ops ⟨dst, op, ty, ps, af, none⟩ s yes no = yes s := (rfl)
theorem gd_some {op : Op} {yes no : St → Prop} {j : Nat} {want : Bool} : gd ops ⟨dst, op, ty, ps, af, some (j, want)⟩ s yes no = gdO dst s yes no want (gslot ops j) := by
  simp only [gd]
  cases gslot ops j with
  | none => rfl
  | some d =>
    simp only [gdO]
    generalize lk s.sl d = x
    cases x with
    | v y => cases y <;> rfl
    | _ => rfl
theorem gdO_some {yes no : St → Prop} {want : Bool} {d : Nat} : gdO dst ⟨l, hp⟩ yes no want (some d) = gdV dst l hp yes no d want (lk l d) := (rfl)
theorem gdV_t {yes no : St → Prop} {b : Bool} {d : Nat} : gdV dst l hp yes no d true (.v (.bool b)) = if b = true then yes ⟨(d, vb true) :: l, hp⟩ else no (put ⟨(d, vb false) :: l, hp⟩ dst ud) := by cases b <;> simp [gdV]
theorem gdV_u {yes no : St → Prop} {d : Nat} {want : Bool} : gdV dst l hp yes no d want ud = no (put ⟨l, hp⟩ dst ud) := (rfl)
theorem gdV_f {yes no : St → Prop} {b : Bool} {d : Nat} : gdV dst l hp yes no d false (.v (.bool b)) = if b = true then no (put ⟨(d, vb true) :: l, hp⟩ dst ud) else yes ⟨(d, vb false) :: l, hp⟩ := by cases b <;> simp [gdV]
theorem gslot_lit {l : List Oper} {j : Nat} : gslot l.toArray j = (l[j]?).bind (·.dst) := by simp [gslot]

def aplV (P : Program) (ops : Array Oper) (K : St → Prop) (rest : Plan) (i : Nat) (is : List (Nat × List Nat)) (s : St) : Option Oper → Prop
  | some o => gd ops o s (fun s' => aval P o.op (evS s'.sl) s'.hp (kv o.dst (apl P ops K rest ((i, rids (evS s.sl) o.op) :: is)) s')) (apl P ops K rest ((i, rids (evS s.sl) o.op) :: is))
  | none => False
def aplE (P : Program) (ops : Array Oper) (K : St → Prop) (p : Plan) (cs : List Nat) (is : List (Nat × List Nat)) (s : St) : Option Oper → Prop
  | some o => gd ops o s (fun s' => aeff P o.op (evS s'.sl) s'.hp (keep (pids cs is) s'.hp (ke o.dst (apl P ops K p is) s'.sl))) (apl P ops K p is)
  | none => False
theorem apl_done {is : List (Nat × List Nat)} : apl P ops K .done is s = K s := by simp only [apl]
theorem apl_val {is : List (Nat × List Nat)} {i : Nat} {rest : Plan} {l : List Oper} : apl P l.toArray K (.val i rest) is s = aplV P l.toArray K rest i is s l[i]? := by
  simp only [apl, List.getElem?_toArray]
  cases l[i]? <;> rfl
theorem aplV_some {is : List (Nat × List Nat)} {i : Nat} {rest : Plan} {op : Op} : aplV P ops K rest i is ⟨l, hp⟩ (some ⟨dst, op, ty, ps, af, g⟩) =
    gd ops ⟨dst, op, ty, ps, af, g⟩ ⟨l, hp⟩ (fun s' => aval P op (evS s'.sl) s'.hp (kv dst (apl P ops K rest ((i, rids (evS l) op) :: is)) s')) (apl P ops K rest ((i, rids (evS l) op) :: is)) := (rfl)
theorem apl_eff {is : List (Nat × List Nat)} {brs : List (Nat × List Nat × Plan)} : apl P ops K (.eff brs) is s = apls P ops K brs is s := by simp only [apl]
theorem apls_nil {is : List (Nat × List Nat)} : apls P ops K [] is s = True := by simp only [apls]
theorem apls_cons {is : List (Nat × List Nat)} {j : Nat} {cs : List Nat} {p : Plan} {r : List (Nat × List Nat × Plan)} {l : List Oper} : apls P l.toArray K ((j, cs, p) :: r) is s = (aplE P l.toArray K p cs is s l[j]? ∧ apls P l.toArray K r is s) := by
  simp only [apls, List.getElem?_toArray]
  cases l[j]? <;> rfl
theorem aplE_some {is : List (Nat × List Nat)} {cs : List Nat} {p : Plan} {op : Op} : aplE P ops K p cs is s (some ⟨dst, op, ty, ps, af, g⟩) =
    gd ops ⟨dst, op, ty, ps, af, g⟩ s (fun s' => aeff P op (evS s'.sl) s'.hp (keep (pids cs is) s'.hp (ke dst (apl P ops K p is) s'.sl))) (apl P ops K p is) := (rfl)
theorem pids_none : ∀ {is : List (Nat × List Nat)}, pids [] is = []
  | [] => rfl
  | (i, l) :: r => by simp [pids, pids_none (is := r)]
theorem pids_nil {cs : List Nat} : pids cs [] = [] := (rfl)
theorem pids_e {cs : List Nat} {i : Nat} {r : List (Nat × List Nat)} : pids cs ((i, []) :: r) = pids cs r := by simp [pids]
theorem pids_cons {cs : List Nat} {i j : Nat} {b : List Nat} {r : List (Nat × List Nat)} : pids cs ((i, j :: b) :: r) = (if cs.contains i then j :: b else []) ++ pids cs r := (rfl)
theorem keep_nil {v : AV} {hp' : List Ent} : keep [] hp ce v hp' = ce v hp' := by simp [keep]
theorem keep_cons {i : Nat} {is : List Nat} {v : AV} {hp' : List Ent} : keep (i :: is) hp ce v hp' = (hp'[i]? = hp[i]? ∧ keep is hp ce v hp') := by
  simp [keep, and_assoc]

/- operations -/
theorem kv_some {d : Nat} {v : AV} : kv (some d) K ⟨l, hp⟩ v = K ⟨(d, v) :: l, hp⟩ := (rfl)
theorem kv_none {v : AV} : kv none K s v = K s := (rfl)
theorem ke_some {d : Nat} {v : AV} : ke (some d) K l v hp = K ⟨(d, v) :: l, hp⟩ := (rfl)
theorem ke_none {v : AV} : ke none K l v hp = K ⟨l, hp⟩ := (rfl)
theorem put_some {d : Nat} {v : AV} : put ⟨l, hp⟩ (some d) v = ⟨(d, v) :: l, hp⟩ := (rfl)
theorem put_none {v : AV} : put s none v = s := (rfl)
theorem aop_move : aop P ⟨dst, .move x, ty, ps, af, g⟩ s K = aval P (.move x) (evS s.sl) s.hp (kv dst K s) := (rfl)
theorem aop_assign : aop P ⟨dst, .assign x, ty, ps, af, g⟩ s K = aval P (.assign x) (evS s.sl) s.hp (kv dst K s) := (rfl)
theorem aop_pick : aop P ⟨dst, .pick x y z, ty, ps, af, g⟩ s K = aval P (.pick x y z) (evS s.sl) s.hp (kv dst K s) := (rfl)
theorem aop_extract {i : Nat} : aop P ⟨dst, .extract x i, ty, ps, af, g⟩ s K = aval P (.extract x i) (evS s.sl) s.hp (kv dst K s) := (rfl)
theorem aop_bin {op : BinOp} : aop P ⟨dst, .binOp op t x y t', ty, ps, af, g⟩ s K = aval P (.binOp op t x y t') (evS s.sl) s.hp (kv dst K s) := (rfl)
theorem aop_un {op : UnOp} : aop P ⟨dst, .unOp op t x, ty, ps, af, g⟩ s K = aval P (.unOp op t x) (evS s.sl) s.hp (kv dst K s) := (rfl)
theorem aop_load : aop P ⟨dst, .load t x, ty, ps, af, g⟩ s K = aval P (.load t x) (evS s.sl) s.hp (kv dst K s) := (rfl)
theorem aop_fld {f : Nat} : aop P ⟨dst, .fieldAddr t x f, ty, ps, af, g⟩ s K = aval P (.fieldAddr t x f) (evS s.sl) s.hp (kv dst K s) := (rfl)
theorem aop_idx : aop P ⟨dst, .indexAddr t x y, ty, ps, af, g⟩ s K = aval P (.indexAddr t x y) (evS s.sl) s.hp (kv dst K s) := (rfl)
theorem aop_ind : aop P ⟨dst, .index t x y, ty, ps, af, g⟩ s K = aval P (.index t x y) (evS s.sl) s.hp (kv dst K s) := (rfl)
theorem aop_slice {lo hi : Option Operand} : aop P ⟨dst, .slice t x lo hi none, ty, ps, af, g⟩ s K = aval P (.slice t x lo hi none) (evS s.sl) s.hp (kv dst K s) := (rfl)
theorem aop_conv : aop P ⟨dst, .convert t t' x, ty, ps, af, g⟩ s K = aval P (.convert t t' x) (evS s.sl) s.hp (kv dst K s) := (rfl)
theorem aop_nilc : aop P ⟨dst, .nilCheck x, ty, ps, af, g⟩ s K = aval P (.nilCheck x) (evS s.sl) s.hp (kv dst K s) := (rfl)
theorem aop_build {p : Array (Nat × Operand)} : aop P ⟨dst, .build t p, ty, ps, af, g⟩ s K = aval P (.build t p) (evS s.sl) s.hp (kv dst K s) := (rfl)
theorem aop_field {f : Nat} : aop P ⟨dst, .field t x f, ty, ps, af, g⟩ s K = aval P (.field t x f) (evS s.sl) s.hp (kv dst K s) := (rfl)
theorem aop_len {as : Array Operand} {ts : Array TypeId} : aop P ⟨dst, .call ⟨.builtin .len, as, ts⟩, ty, ps, af, g⟩ s K = aval P (.call ⟨.builtin .len, as, ts⟩) (evS s.sl) s.hp (kv dst K s) := (rfl)
theorem aop_max {as : Array Operand} {ts : Array TypeId} : aop P ⟨dst, .call ⟨.builtin .max, as, ts⟩, ty, ps, af, g⟩ s K = aval P (.call ⟨.builtin .max, as, ts⟩) (evS s.sl) s.hp (kv dst K s) := (rfl)
theorem aop_min {as : Array Operand} {ts : Array TypeId} : aop P ⟨dst, .call ⟨.builtin .min, as, ts⟩, ty, ps, af, g⟩ s K = aval P (.call ⟨.builtin .min, as, ts⟩) (evS s.sl) s.hp (kv dst K s) := (rfl)
theorem aop_box : aop P ⟨dst, .box t x, ty, ps, af, g⟩ s K = aeff P (.box t x) (evS s.sl) s.hp (ke dst K s.sl) := (rfl)
theorem aop_alloc : aop P ⟨dst, .alloc t, ty, ps, af, g⟩ s K = aeff P (.alloc t) (evS s.sl) s.hp (ke dst K s.sl) := (rfl)
theorem aop_make : aop P ⟨dst, .makeSlice t x y, ty, ps, af, g⟩ s K = aeff P (.makeSlice t x y) (evS s.sl) s.hp (ke dst K s.sl) := (rfl)
theorem aop_lit {n : Nat} {p : Array (Nat × Operand)} : aop P ⟨dst, .buildSlice t n p, ty, ps, af, g⟩ s K = aeff P (.buildSlice t n p) (evS s.sl) s.hp (ke dst K s.sl) := (rfl)
theorem aop_store : aop P ⟨dst, .store t x y, ty, ps, af, g⟩ s K = aeff P (.store t x y) (evS s.sl) s.hp (ke dst K s.sl) := (rfl)
theorem aop_call {k : FuncId} {as : Array Operand} {ts : Array TypeId} : aop P ⟨dst, .call ⟨.value (.func k), as, ts⟩, ty, ps, af, g⟩ s K = aeff P (.call ⟨.value (.func k), as, ts⟩) (evS s.sl) s.hp (ke dst K s.sl) := (rfl)
theorem aop_append {as : Array Operand} {ts : Array TypeId} : aop P ⟨dst, .call ⟨.builtin .append, as, ts⟩, ty, ps, af, g⟩ s K = aeff P (.call ⟨.builtin .append, as, ts⟩) (evS s.sl) s.hp (ke dst K s.sl) := (rfl)
theorem aop_copy {as : Array Operand} {ts : Array TypeId} : aop P ⟨dst, .call ⟨.builtin .copy, as, ts⟩, ty, ps, af, g⟩ s K = aeff P (.call ⟨.builtin .copy, as, ts⟩) (evS s.sl) s.hp (ke dst K s.sl) := (rfl)

/- operations that only read -/
theorem v_move : aval P (.move x) e hp c = c (e x) := (rfl)
theorem v_assign : aval P (.assign x) e hp c = c (e x) := (rfl)
theorem v_pick : aval P (.pick x y z) e hp c = apick (e x) (e y) (e z) c := (rfl)
theorem v_extract {i : Nat} : aval P (.extract x i) e hp c = aext (e x) i c := (rfl)
theorem v_bin {op : BinOp} : aval P (.binOp op t x y t') e hp c = abin P op t (e x) (e y) c := (rfl)
theorem v_un {op : UnOp} : aval P (.unOp op t x) e hp c = aun op (e x) c := (rfl)
def loadS (gg : Bool) (n i o : Nat) (c : AV → Prop) (elems : List (List AV)) : Prop := i < elems.length ∧ rd gg n o ((elems[i]?).getD []) c
def loadP (gg : Bool) (n i o : Nat) (c : AV → Prop) : Option Ent → Prop
  | some (.arr _ elems) => loadS gg n i o c elems
  | _ => False
def loadO (hp : List Ent) (x : AV) (c : AV → Prop) : Option Nat → Option Bool → Prop
  | some n, some gg => match x with
    | .ep e o => rd gg n o e c
    | .ptr id i o => loadP gg n i o c hp[id]?
    | _ => False
  | _, _ => False
theorem aload_eq {u : AV} : aload P t hp u c = loadO hp u c (tsz P t) (tagg P t) := by
  unfold aload loadO
  cases tsz P t with
  | none => rfl
  | some n =>
    cases tagg P t with
    | none => rfl
    | some gg =>
      cases u <;> rfl
theorem v_load : aval P (.load t x) e hp c = loadO hp (e x) c (tsz P t) (tagg P t) := aload_eq
theorem loadO_ep {n o : Nat} {gg : Bool} {b : List AV} : loadO hp (.ep b o) c (some n) (some gg) = rd gg n o b c := (rfl)
theorem loadO_ptr {n id i o : Nat} {gg : Bool} : loadO hp (.ptr id i o) c (some n) (some gg) = loadP gg n i o c hp[id]? := (rfl)
theorem loadP_arr {n i o sz : Nat} {gg : Bool} {elems : List (List AV)} : loadP gg n i o c (some (.arr sz elems)) = loadS gg n i o c elems := (rfl)
theorem loadS_one {n o : Nat} {gg : Bool} {b : List AV} : loadS gg n 0 o c [b] = rd gg n o b c := by simp [loadS]
theorem loadS_map {α : Type} [Inhabited α] {n i o : Nat} {gg : Bool} {f : α → List AV} {ts : List α} : loadS gg n i o c (ts.map f) = (i < ts.length ∧ rd gg n o (f (ts.getD i default)) c) := by
  unfold loadS
  rw [List.length_map]
  by_cases h : i < ts.length
  · simp [h, List.getD]
  · simp [h]
def rdO (c : AV → Prop) : Option AV → Prop
  | some x => c x
  | none => False
theorem rd_true {n o : Nat} {cells : List AV} : rd true n o cells c = ((0 < n ∧ o + n ≤ cells.length) ∧ c (.agg ((cells.drop o).take n))) := (rfl)
theorem rd_false {n o : Nat} {cells : List AV} : rd false n o cells c = rdO c cells[o]? := by
  simp only [rd, Bool.false_eq_true, if_false]; cases cells[o]? <;> rfl
theorem rdO_some {u : AV} : rdO c (some u) = c u := (rfl)

def fldO (u : AV) (c : AV → Prop) : Option Nat → Prop
  | some off => match u with
    | .ep e o => c (.ep e (o + off))
    | .ptr id i o => c (.ptr id i (o + off))
    | _ => False
  | none => False
theorem v_fld {f : Nat} : aval P (.fieldAddr t x f) e hp c = fldO (e x) c (tfo P t f) := by
  show afld P t f (e x) c = _
  unfold afld fldO; cases tfo P t f <;> rfl
theorem fldO_ep {b : List AV} {o off : Nat} : fldO (.ep b o) c (some off) = c (.ep b (o + off)) := (rfl)
theorem fldO_ptr {id i o off : Nat} : fldO (.ptr id i o) c (some off) = c (.ptr id i (o + off)) := (rfl)

/- indices -/
def idxS (z sz : Nat) (n : Int) (c : AV → Prop) (xs : List (List AV)) : Prop := (0 ≤ n ∧ n < xs.length) ∧ sz = z ∧ c (.ep ((xs[n.toNat]?).getD []) 0)
def idxE (z lo : Nat) (n : Int) (id : Nat) (c : AV → Prop) : Option Ent → Prop
  | some (.arr sz _) => sz = z ∧ c (.ptr id (lo + n.toNat) 0)
  | _ => False
def idxE0 (z : Nat) (n : Int) (id : Nat) (c : AV → Prop) : Option Ent → Prop
  | some (.arr sz _) => sz = z ∧ c (.ptr id n.toNat 0)
  | _ => False
def idxZ (hp : List Ent) (u : AV) (n : Int) (c : AV → Prop) : Option Nat → Prop
  | some z => match u with
    | .sl sz xs => idxS z sz n c xs
    | .ref id len => (0 ≤ n ∧ n < len) ∧ idxE0 z n id c hp[id]?
    | .rs id lo len => (0 ≤ n ∧ n < len) ∧ idxE z lo n id c hp[id]?
    | _ => False
  | none => False
def idxO (P : Program) (hp : List Ent) (u i : AV) (c : AV → Prop) : Option TypeId → Prop
  | some et => match i with
    | .v (.int _ n) => idxZ hp u n c (tsz P et)
    | _ => False
  | none => False
theorem v_idx : aval P (.indexAddr t x y) e hp c = idxO P hp (e x) (e y) c (tel P t) := by
  show aidx P t hp (e x) (e y) c = _
  unfold aidx idxO
  cases tel P t with
  | none => rfl
  | some et =>
    generalize e y = i
    generalize e x = u
    cases i <;> try rfl
    rename_i v
    cases v <;> try rfl
    rename_i k n
    simp only
    cases tsz P et with
    | none => rfl
    | some z =>
      cases u <;> rfl
theorem idxO_some {u : AV} {k : IntKind} {n : Int} {et : TypeId} : idxO P hp u (.v (.int k n)) c (some et) = idxZ hp u n c (tsz P et) := (rfl)
theorem idxZ_sl {z sz : Nat} {n : Int} {xs : List (List AV)} : idxZ hp (.sl sz xs) n c (some z) = idxS z sz n c xs := (rfl)
theorem idxZ_ref {z id len : Nat} {n : Int} : idxZ hp (.ref id len) n c (some z) = ((0 ≤ n ∧ n < len) ∧ idxE0 z n id c hp[id]?) := (rfl)
theorem idxZ_rs {z id lo len : Nat} {n : Int} : idxZ hp (.rs id lo len) n c (some z) = ((0 ≤ n ∧ n < len) ∧ idxE z lo n id c hp[id]?) := (rfl)
theorem idxE_arr {z lo sz id : Nat} {n : Int} {elems : List (List AV)} : idxE z lo n id c (some (.arr sz elems)) = (sz = z ∧ c (.ptr id (lo + n.toNat) 0)) := (rfl)
theorem idxE0_arr {z sz id : Nat} {n : Int} {elems : List (List AV)} : idxE0 z n id c (some (.arr sz elems)) = (sz = z ∧ c (.ptr id n.toNat 0)) := (rfl)
theorem idxS_map {α : Type} [Inhabited α] {z sz : Nat} {n : Int} {f : α → List AV} {ts : List α} : idxS z sz n c (ts.map f) = ((0 ≤ n ∧ n < ts.length) ∧ sz = z ∧ c (.ep (f (ts.getD n.toNat default)) 0)) := by
  unfold idxS
  rw [List.length_map]
  by_cases h : 0 ≤ n ∧ n < ts.length
  · have h' : n.toNat < ts.length := by omega
    simp [h, h', List.getD]
  · simp [h]

theorem v_ind : aval P (.index t x y) e hp c = aind P t (e x) (e y) c := (rfl)
def indK (u i : AV) (c : AV → Prop) : Option Kd → Prop
  | some .string => match u, i with
    | .v (.string s), .v (.int _ n) => (0 ≤ n ∧ n < s.size) ∧ c (.v (.int .u8 ((s.data.toList[n.toNat]?).getD 0).toNat))
    | _, _ => False
  | _ => False
theorem aind_eq {u i : AV} : aind P t u i c = indK u i c (tkd P t) := by
  unfold aind indK
  cases tkd P t with
  | none => rfl
  | some k =>
    cases k <;> try rfl
    cases u <;> try rfl
    rename_i a
    cases a <;> try rfl
    cases i <;> try rfl
    rename_i b
    cases b <;> rfl
theorem indK_s {s : ByteArray} {k : IntKind} {n : Int} : indK (.v (.string s)) (.v (.int k n)) c (some .string) = ((0 ≤ n ∧ n < s.size) ∧ c (.v (.int .u8 ((s.data.toList[n.toNat]?).getD 0).toNat))) := (rfl)

/- slicing -/
def slP (P : Program) (t : TypeId) (hp : List Ent) (l h : Int) (u : AV) (c : AV → Prop) : Option Kd → Prop
  | some .string => match u with
    | .v (.string s) => c (vs (s.extract l.toNat h.toNat))
    | _ => False
  | some .slice => match u with
    | .sl sz xs => (tel P t).bind (tsz P) = some sz ∧ c (.sl sz ((xs.take h.toNat).drop l.toNat))
    | .v (.slice none 0 0) => (tel P t).bind (tsz P) ≠ none ∧ c (.v (.slice none 0 0))
    | .ref id _ => match hp[id]? with
      | some (.arr sz _) => (tel P t).bind (tsz P) = some sz ∧ c (.rs id l.toNat (h.toNat - l.toNat))
      | _ => False
    | .rs id lo _ => match hp[id]? with
      | some (.arr sz _) => (tel P t).bind (tsz P) = some sz ∧ c (.rs id (lo + l.toNat) (h.toNat - l.toNat))
      | _ => False
    | _ => False
  | _ => False
def slB (P : Program) (t : TypeId) (hp : List Ent) (len : Nat) (u : AV) (c : AV → Prop) : Option Int → Option Int → Prop
  | some l, some h => (0 ≤ l ∧ l ≤ h ∧ h ≤ (len : Int)) ∧ slP P t hp l h u c (tkd P t)
  | _, _ => False
def slL (P : Program) (t : TypeId) (hp : List Ent) (u : AV) (lo hi : Option AV) (c : AV → Prop) : Option Nat → Prop
  | some len => slB P t hp len u c (sbd 0 lo) (sbd len hi)
  | none => False
theorem v_slice {lo hi : Option Operand} : aval P (.slice t x lo hi none) e hp c = slL P t hp (e x) (lo.map e) (hi.map e) c (slen (e x)) := by
  show aslice P t hp (e x) (lo.map e) (hi.map e) c = _
  unfold aslice slL
  cases slen (e x) with
  | none => rfl
  | some len =>
    simp only
    generalize sbd 0 (lo.map e) = a
    generalize sbd len (hi.map e) = b
    cases a <;> cases b <;> try rfl
    simp only [slB, slP]
    generalize e x = u
    cases tkd P t with
    | none => rfl
    | some k =>
      cases k <;> try rfl
      · cases u <;> try rfl
        rename_i v
        cases v <;> rfl
      · cases u <;> try rfl
        rename_i v
        cases v <;> try rfl
        rename_i a n k
        cases a <;> try rfl
        cases n <;> try rfl
        cases k <;> rfl
theorem slL_some {u : AV} {lo hi : Option AV} {len : Nat} : slL P t hp u lo hi c (some len) = slB P t hp len u c (sbd 0 lo) (sbd len hi) := (rfl)
theorem slB_some {u : AV} {len : Nat} {l h : Int} : slB P t hp len u c (some l) (some h) = ((0 ≤ l ∧ l ≤ h ∧ h ≤ (len : Int)) ∧ slP P t hp l h u c (tkd P t)) := (rfl)
theorem sbd_none {d : Int} : sbd d none = some d := (rfl)
theorem sbd_some {d n : Int} {k : IntKind} : sbd d (some (.v (.int k n))) = some n := (rfl)
theorem slen_sl {sz : Nat} {xs : List (List AV)} : slen (.sl sz xs) = some xs.length := (rfl)
theorem slen_str {s : ByteArray} : slen (.v (.string s)) = some s.size := (rfl)
theorem slen_nil : slen (.v (.slice none 0 0)) = some 0 := (rfl)
theorem slen_ref {id n : Nat} : slen (.ref id n) = some n := (rfl)
theorem slen_rs {id lo n : Nat} : slen (.rs id lo n) = some n := (rfl)
theorem slP_str {s : ByteArray} {l h : Int} : slP P t hp l h (.v (.string s)) c (some .string) = c (vs (s.extract l.toNat h.toNat)) := (rfl)
theorem slP_sl {sz : Nat} {xs : List (List AV)} {l h : Int} : slP P t hp l h (.sl sz xs) c (some .slice) = ((tel P t).bind (tsz P) = some sz ∧ c (.sl sz ((xs.take h.toNat).drop l.toNat))) := (rfl)
theorem slP_nil {l h : Int} : slP P t hp l h (.v (.slice none 0 0)) c (some .slice) = ((tel P t).bind (tsz P) ≠ none ∧ c (.v (.slice none 0 0))) := (rfl)
def slR (P : Program) (t : TypeId) (id lo n : Nat) (c : AV → Prop) : Option Ent → Prop
  | some (.arr sz _) => (tel P t).bind (tsz P) = some sz ∧ c (.rs id lo n)
  | _ => False
theorem slP_ref {id n : Nat} {l h : Int} : slP P t hp l h (.ref id n) c (some .slice) = slR P t id l.toNat (h.toNat - l.toNat) c hp[id]? := by
  simp only [slP]
  cases hp[id]? with
  | none => rfl
  | some e => cases e <;> rfl
theorem slP_rs {id lo n : Nat} {l h : Int} : slP P t hp l h (.rs id lo n) c (some .slice) = slR P t id (lo + l.toNat) (h.toNat - l.toNat) c hp[id]? := by
  simp only [slP]
  cases hp[id]? with
  | none => rfl
  | some e => cases e <;> rfl
theorem slR_arr {id lo n sz : Nat} {elems : List (List AV)} : slR P t id lo n c (some (.arr sz elems)) = ((tel P t).bind (tsz P) = some sz ∧ c (.rs id lo n)) := (rfl)

/- conversions -/
theorem v_conv : aval P (.convert t t' x) e hp c = aconv P t t' hp (e x) c := (rfl)
def convK (P : Program) (t : TypeId) (hp : List Ent) (u : AV) (c : AV → Prop) : Option Kd → Option Kd → Prop
  | some (.int _), some (.int k) => match u with
    | .v (.int _ n) => c (.v (.int k (k.wrap n)))
    | _ => False
  | some .slice, some .string => (tel P t).bind (tkd P) matches some (.int .u8) ∧ match (srd hp 1 u).bind byts with
    | some bs => c (vs ⟨bs.toArray⟩)
    | none => False
  | _, _ => False
theorem aconv_eq {u : AV} : aconv P t t' hp u c = convK P t hp u c (tkd P t) (tkd P t') := by
  unfold aconv convK
  cases tkd P t with
  | none => cases tkd P t' <;> rfl
  | some k =>
    cases tkd P t' with
    | none => cases k <;> rfl
    | some k' =>
      cases k <;> cases k' <;> try rfl
      cases u <;> try rfl
      rename_i a
      cases a <;> rfl
theorem convK_int {k1 k2 k : IntKind} {n : Int} : convK P t hp (.v (.int k2 n)) c (some (.int k1)) (some (.int k)) = c (.v (.int k (k.wrap n))) := (rfl)
def bytO (c : AV → Prop) : Option (List UInt8) → Prop
  | some bs => c (vs ⟨bs.toArray⟩)
  | none => False
def isU8 : Option Kd → Prop
  | some (.int .u8) => True
  | _ => False
theorem convK_str {u : AV} : convK P t hp u c (some .slice) (some .string) = (isU8 ((tel P t).bind (tkd P)) ∧ bytO c ((srd hp 1 u).bind byts)) := by
  simp only [convK]
  congr 1
  · generalize (tel P t).bind (tkd P) = q
    cases q with
    | none => simp [isU8]
    | some k =>
      cases k <;> try (simp [isU8]; done)
      rename_i k
      cases k <;> simp [isU8]
theorem isU8_yes : isU8 (some (.int .u8)) = True := (rfl)
theorem bytO_some {bs : List UInt8} : bytO c (some bs) = c (vs ⟨bs.toArray⟩) := (rfl)
theorem byts_nil : byts [] = some [] := (rfl)
theorem byts_cons {n : Int} {r : List (List AV)} : byts ([.v (.int .u8 n)] :: r) = (byts r).map (UInt8.ofNat n.toNat :: ·) := (rfl)
theorem srd_sl {sz : Nat} {xs : List (List AV)} : srd hp sz (.sl sz xs) = some xs := by simp [srd]
theorem srd_nil {sz : Nat} : srd hp sz (.v (.slice none 0 0)) = some [] := (rfl)
def srdR (sz len : Nat) : Option Ent → Option (List (List AV))
  | some (.arr s elems) => if s = sz ∧ len ≤ elems.length then some (elems.take len) else none
  | _ => none
theorem srd_ref {sz id len : Nat} : srd hp sz (.ref id len) = srdR sz len hp[id]? := by
  simp only [srd]
  cases hp[id]? with
  | none => rfl
  | some e => cases e <;> rfl
theorem srdR_full {sz : Nat} {elems : List (List AV)} : srdR sz elems.length (some (.arr sz elems)) = some elems := by simp [srdR]

theorem v_nilc : aval P (.nilCheck x) e hp c = (match e x with | .ptr id i o => c (.ptr id i o) | .ep l o => c (.ep l o) | _ => False) := (rfl)

/- structs by value -/
theorem v_build {p : List (Nat × Operand)} : aval P (.build t p.toArray) e hp c = abuild P t (evps e p) c := by simp [aval]
def bldO (pl : List (Nat × Nat)) (rest : List (Nat × AV)) (x : AV) (cells : List AV) (c : AV → Prop) : Option (Nat × Nat) → Prop
  | some (off, n) => (oneL (acells x) = true ∧ (acells x).length = n ∧ off + n ≤ cells.length) ∧ abld pl rest (wr cells off (acells x)) c
  | none => False
theorem abld_nil {q : List (Nat × Nat)} {cells : List AV} : abld q [] cells c = c (.agg cells) := (rfl)
theorem abld_cons {q : List (Nat × Nat)} {rest : List (Nat × AV)} {f : Nat} {u : AV} {cells : List AV} : abld q ((f, u) :: rest) cells c = bldO q rest u cells c q[f]? := by
  simp only [abld]; cases q[f]? <;> rfl
theorem bldO_some {q : List (Nat × Nat)} {rest : List (Nat × AV)} {u : AV} {cells : List AV} {off n : Nat} :
    bldO q rest u cells c (some (off, n)) = ((oneL (acells u) = true ∧ (acells u).length = n ∧ off + n ≤ cells.length) ∧ abld q rest (wr cells off (acells u)) c) := (rfl)
def buildO (ps : List (Nat × AV)) (c : AV → Prop) : Option Value → Option (List (Nat × Nat)) → Prop
  | some (.agg z), some pl => abld pl ps (z.toList.map .v) c
  | _, _ => False
theorem abuild_eq {p : List (Nat × AV)} : abuild P t p c = buildO p c (tzero P t) (tpl P t) := by
  unfold abuild buildO
  cases tzero P t with
  | none => cases tpl P t <;> rfl
  | some z => cases z <;> cases tpl P t <;> rfl
theorem buildO_some {p : List (Nat × AV)} {z : List Value} {q : List (Nat × Nat)} : buildO p c (some (.agg z.toArray)) (some q) = abld q p (z.map .v) c := by simp [buildO]
theorem evps_nil : evps e [] = [] := (rfl)
theorem evps_cons {i : Nat} {p : List (Nat × Operand)} : evps e ((i, x) :: p) = (i, e x) :: evps e p := (rfl)
theorem v_field {f : Nat} : aval P (.field t x f) e hp c = afval P t f (e x) c := (rfl)
def fvalO (P : Program) (cs : List AV) (c : AV → Prop) : Option (Nat × TypeId) → Prop
  | some (off, ft) => match tsz P ft, tagg P ft with
    | some n, some g => rd g n off cs c
    | _, _ => False
  | none => False
def fvalR (cs : List AV) (off : Nat) (c : AV → Prop) : Option Nat → Option Bool → Prop
  | some n, some g => rd g n off cs c
  | _, _ => False
theorem afval_eq {f : Nat} {cs : List AV} : afval P t f (.agg cs) c = fvalO P cs c (tfld P t f) := by
  unfold afval fvalO; cases tfld P t f <;> rfl
theorem fvalO_some {cs : List AV} {off : Nat} {ft : TypeId} : fvalO P cs c (some (off, ft)) = fvalR cs off c (tsz P ft) (tagg P ft) := by
  simp only [fvalO]; cases tsz P ft <;> cases tagg P ft <;> rfl
theorem fvalR_some {cs : List AV} {off n : Nat} {gg : Bool} : fvalR cs off c (some n) (some gg) = rd gg n off cs c := (rfl)

/- builtins -/
theorem v_len {ts : List TypeId} : aval P (.call ⟨.builtin .len, [x].toArray, (t :: ts).toArray⟩) e hp c = alen P t (e x) c := by simp [aval]
theorem v_max {ts : Array TypeId} : aval P (.call ⟨.builtin .max, [x, y].toArray, ts⟩) e hp c = amm true (e x) (e y) c := by simp [aval]
theorem v_min {ts : Array TypeId} : aval P (.call ⟨.builtin .min, [x, y].toArray, ts⟩) e hp c = amm false (e x) (e y) c := by simp [aval]
theorem amm_max {k k' : IntKind} {a b : Int} : amm true (.v (.int k a)) (.v (.int k' b)) c = c (.v (.int k (if a < b then b else a))) := (rfl)
theorem amm_min {k k' : IntKind} {a b : Int} : amm false (.v (.int k a)) (.v (.int k' b)) c = c (.v (.int k (if b < a then b else a))) := (rfl)
theorem v_call {k : FuncId} {as : List Operand} {ts : Array TypeId} : aval P (.call ⟨.value (.func k), as.toArray, ts⟩) e hp c = qcall P k (as.map e) hp c := by simp [aval]
def lenK (x : AV) (c : AV → Prop) : Option Kd → Prop
  | some .slice => match x with
    | .sl _ xs => c (vi xs.length)
    | .v (.slice _ n _) => c (vi n)
    | .ref _ n => c (vi n)
    | .rs _ _ n => c (vi n)
    | _ => False
  | some .string => match x with
    | .v (.string s) => c (vi s.size)
    | _ => False
  | _ => False
theorem alen_eq {u : AV} : alen P t u c = lenK u c (tkd P t) := by
  unfold alen lenK
  cases tkd P t with
  | none => rfl
  | some k =>
    cases k <;> try rfl
    all_goals (cases u <;> try rfl)
    all_goals (rename_i v; cases v <;> rfl)
theorem lenK_sl {z : Nat} {xs : List (List AV)} : lenK (.sl z xs) c (some .slice) = c (vi xs.length) := (rfl)
theorem lenK_nil {a : Option Addr} {n k : Nat} : lenK (.v (.slice a n k)) c (some .slice) = c (vi n) := (rfl)
theorem lenK_ref {i n : Nat} : lenK (.ref i n) c (some .slice) = c (vi n) := (rfl)
theorem lenK_rs {i j n : Nat} : lenK (.rs i j n) c (some .slice) = c (vi n) := (rfl)
theorem lenK_str {b : ByteArray} : lenK (.v (.string b)) c (some .string) = c (vi b.size) := (rfl)

/- computing -/
theorem abin_int {op : BinOp} {k k' : IntKind} {a b : Int} : abin P op t (.v (.int k a)) (.v (.int k' b)) c = ((k = k' ∨ op = .shr) ∧ ibin op k a b c) := (rfl)
theorem abin_str {op : BinOp} {a b : ByteArray} : abin P op t (.v (.string a)) (.v (.string b)) c = sbin op a b c := (rfl)
theorem abin_bool {op : BinOp} {a b : Bool} : abin P op t (.v (.bool a)) (.v (.bool b)) c = (P.underlying t = some .bool ∧ bbin op a b c) := (rfl)
def eqO (op : BinOp) (c : AV → Prop) : Option Bool → Prop
  | some r => match op with
    | .eql => c (vb r)
    | .neq => c (vb (!r))
    | _ => False
  | none => False
theorem abin_agg {op : BinOp} {xs ys : List AV} : abin P op t (.agg xs) (.agg ys) c = (teqs P t = some xs.length ∧ eqO op c (aeq xs ys)) := by
  simp only [abin]
  congr 1
theorem eqO_eql {r : Bool} : eqO .eql c (some r) = c (vb r) := (rfl)
theorem eqO_neq {r : Bool} : eqO .neq c (some r) = c (vb (!r)) := (rfl)
theorem aeq_nil : aeq [] [] = some true := (rfl)
theorem aeq_cons {k : IntKind} {a b : Int} {xs ys : List AV} : aeq (.v (.int k a) :: xs) (.v (.int k b) :: ys) = (aeq xs ys).map (a == b && ·) := by simp [aeq]
theorem ibin_add {k : IntKind} {a b : Int} : ibin .add k a b c = c (.v (.int k (k.wrap (a + b)))) := (rfl)
theorem ibin_sub {k : IntKind} {a b : Int} : ibin .sub k a b c = c (.v (.int k (k.wrap (a - b)))) := (rfl)
theorem ibin_mul {k : IntKind} {a b : Int} : ibin .mul k a b c = c (.v (.int k (k.wrap (a * b)))) := (rfl)
theorem ibin_quo {k : IntKind} {a b : Int} : ibin .quo k a b c = (b ≠ 0 ∧ c (.v (.int k (k.wrap (a.tdiv b))))) := (rfl)
theorem ibin_rem {k : IntKind} {a b : Int} : ibin .rem k a b c = (b ≠ 0 ∧ c (.v (.int k (a.tmod b)))) := (rfl)
theorem ibin_eql {k : IntKind} {a b : Int} : ibin .eql k a b c = c (vb (a == b)) := (rfl)
theorem ibin_neq {k : IntKind} {a b : Int} : ibin .neq k a b c = c (vb (a != b)) := (rfl)
theorem ibin_lss {k : IntKind} {a b : Int} : ibin .lss k a b c = c (vb (decide (a < b))) := (rfl)
theorem ibin_leq {k : IntKind} {a b : Int} : ibin .leq k a b c = c (vb (decide (a ≤ b))) := (rfl)
theorem ibin_gtr {k : IntKind} {a b : Int} : ibin .gtr k a b c = c (vb (decide (b < a))) := (rfl)
theorem ibin_geq {k : IntKind} {a b : Int} : ibin .geq k a b c = c (vb (decide (b ≤ a))) := (rfl)
theorem sbin_add {a b : ByteArray} : sbin .add a b c = (((a.size + b.size : Nat) : Int) ≤ IntKind.i64.max ∧ c (vs (a ++ b))) := (rfl)
theorem sbin_eql {a b : ByteArray} : sbin .eql a b c = c (vb (a.toList == b.toList)) := (rfl)
theorem sbin_neq {a b : ByteArray} : sbin .neq a b c = c (vb (!(a.toList == b.toList))) := (rfl)
theorem bbin_eql {a b : Bool} : bbin .eql a b c = c (vb (a == b)) := (rfl)
theorem bbin_neq {a b : Bool} : bbin .neq a b c = c (vb (!(a == b))) := (rfl)
theorem aun_neg {k : IntKind} {n : Int} : aun .neg (.v (.int k n)) c = c (.v (.int k (k.wrap (0 - n)))) := (rfl)
theorem aun_not {b : Bool} : aun .not (.v (.bool b)) c = c (vb (!b)) := (rfl)
theorem apick_b {b : Bool} {u v : AV} : apick (.v (.bool b)) u v c = if b = true then c u else c v := by cases b <;> simp [apick]
theorem aext_zero {u : AV} {r : List AV} : aext (.tup (u :: r)) 0 c = c u := (rfl)
theorem aext_succ {u : AV} {r : List AV} {i : Nat} : aext (.tup (u :: r)) (i + 1) c = aext (.tup r) i c := (rfl)

/- operations that make or write -/
theorem e_box : aeff P (.box t x) e hp ce = (oneL (acells (e x)) = true ∧ ce (.ptr hp.length 0 0) (hp ++ [.arr (acells (e x)).length [acells (e x)]])) := (rfl)
def allocO (hp : List Ent) (ce : AV → List Ent → Prop) : Option Value → Prop
  | some z => oneL (acells (AV.lit z)) = true ∧ ce (.ptr hp.length 0 0) (hp ++ [.arr (acells (AV.lit z)).length [acells (AV.lit z)]])
  | none => False
theorem e_alloc : aeff P (.alloc t) e hp ce = allocO hp ce (tzero P t) := by
  show azero P t hp ce = _
  unfold azero allocO
  cases tzero P t <;> rfl
theorem allocO_some {z : Value} : allocO hp ce (some z) = (oneL (acells (AV.lit z)) = true ∧ ce (.ptr hp.length 0 0) (hp ++ [.arr (acells (AV.lit z)).length [acells (AV.lit z)]])) := (rfl)
def makeO (n n' : Int) (hp : List Ent) (ce : AV → List Ent → Prop) : Option Value → Option Nat → Option Nat → Prop
  | some z, some sz, some b => n = n' ∧ (0 ≤ n ∧ n ≤ 1099511627776) ∧ (0 < sz ∧ b ≤ 64) ∧ z.cells.toList.length = sz ∧ oneL (z.cells.toList.map .v) = true ∧
      ce (.ref hp.length n.toNat) (hp ++ [.arr sz (List.replicate n.toNat (z.cells.toList.map .v))])
  | _, _, _ => False
def makeT (P : Program) (n n' : Int) (hp : List Ent) (ce : AV → List Ent → Prop) : Option TypeId → Prop
  | some et => makeO n n' hp ce (tzero P et) (tsz P et) (tby P et)
  | none => False
def makeV (P : Program) (t : TypeId) (hp : List Ent) (ce : AV → List Ent → Prop) : AV → AV → Prop
  | .v (.int _ n), .v (.int _ n') => makeT P n n' hp ce (tel P t)
  | _, _ => False
theorem e_make : aeff P (.makeSlice t x y) e hp ce = makeV P t hp ce (e x) (e y) := by
  show amake P t hp (e x) (e y) ce = _
  unfold amake makeV
  generalize e x = u
  generalize e y = v
  cases u <;> try (cases tel P t <;> rfl)
  rename_i a
  cases a <;> try (cases tel P t <;> rfl)
  cases v <;> try (cases tel P t <;> rfl)
  rename_i b
  cases b <;> try (cases tel P t <;> rfl)
theorem makeV_int {k k' : IntKind} {n n' : Int} : makeV P t hp ce (.v (.int k n)) (.v (.int k' n')) = makeT P n n' hp ce (tel P t) := (rfl)
theorem makeT_some {n n' : Int} {et : TypeId} : makeT P n n' hp ce (some et) = makeO n n' hp ce (tzero P et) (tsz P et) (tby P et) := (rfl)
theorem makeO_some {n n' : Int} {z : Value} {sz b : Nat} : makeO n n' hp ce (some z) (some sz) (some b) = (n = n' ∧ (0 ≤ n ∧ n ≤ 1099511627776) ∧ (0 < sz ∧ b ≤ 64) ∧ z.cells.toList.length = sz ∧ oneL (z.cells.toList.map .v) = true ∧
      ce (.ref hp.length n.toNat) (hp ++ [.arr sz (List.replicate n.toNat (z.cells.toList.map .v))])) := (rfl)
def litO (len : Nat) (hp : List Ent) (ce : AV → List Ent → Prop) (sz : Nat) : Option (List (List AV)) → Prop
  | some els => ce (.ref hp.length len) (hp ++ [.arr sz els])
  | none => False
def litS (len : Nat) (ps : List (Nat × AV)) (hp : List Ent) (ce : AV → List Ent → Prop) : Option Nat → Option Value → Prop
  | some sz, some z => (0 < sz ∧ len * sz ≤ 16777216 ∧ ps.length = len ∧ z.cells.toList.length = sz) ∧ litO len hp ce sz (bparts sz 0 ps)
  | _, _ => False
theorem e_lit {n : Nat} {p : List (Nat × Operand)} : aeff P (.buildSlice t n p.toArray) e hp ce = litS n (evps e p) hp ce ((tel P t).bind (tsz P)) ((tel P t).bind (tzero P)) := by
  show abldS P t n (evps e p) hp ce = _
  unfold abldS litS
  cases (tel P t).bind (tsz P) with
  | none => cases (tel P t).bind (tzero P) <;> rfl
  | some sz =>
    cases (tel P t).bind (tzero P) with
    | none => rfl
    | some z =>
      simp only
      cases bparts sz 0 (evps e p) <;> rfl
theorem litS_some {n : Nat} {p : List (Nat × AV)} {sz : Nat} {z : Value} : litS n p hp ce (some sz) (some z) = ((0 < sz ∧ n * sz ≤ 16777216 ∧ p.length = n ∧ z.cells.toList.length = sz) ∧ litO n hp ce sz (bparts sz 0 p)) := (rfl)
theorem litO_some {n sz : Nat} {els : List (List AV)} : litO n hp ce sz (some els) = ce (.ref hp.length n) (hp ++ [.arr sz els]) := (rfl)
theorem bparts_nil {sz k : Nat} : bparts sz k [] = some [] := (rfl)
theorem bparts_cons {sz k i : Nat} {u : AV} {r : List (Nat × AV)} : bparts sz k ((i, u) :: r) = if i = k ∧ (acells u).length = sz ∧ oneL (acells u) = true then (bparts sz (k + 1) r).map (acells u :: ·) else none := (rfl)

def stoS (id o n sz i : Nat) (v : List AV) (hp : List Ent) (ce : List Ent → Prop) (elems : List (List AV)) : Prop := i < elems.length ∧ o + n ≤ ((elems[i]?).getD []).length ∧ ce (hp.set id (.arr sz (elems.set i (wr ((elems[i]?).getD []) o v))))
def stoP (id i o n : Nat) (v : List AV) (hp : List Ent) (ce : List Ent → Prop) : Option Ent → Prop
  | some (.arr sz elems) => stoS id o n sz i v hp ce elems
  | _ => False
def stoX (n : Nat) (v : List AV) (hp : List Ent) (ce : List Ent → Prop) : AV → Prop
  | .ptr id i o => stoP id i o n v hp ce hp[id]?
  | _ => False
def stoO (v : List AV) (u : AV) (hp : List Ent) (ce : List Ent → Prop) : Option Nat → Prop
  | some n => (v.length = n ∧ oneL v = true) ∧ stoX n v hp ce u
  | none => False
theorem e_store : aeff P (.store t x y) e hp ce = stoO (acells (e y)) (e x) hp (ce .top) (tsz P t) := by
  show astore P t hp (e x) (e y) (ce .top) = _
  unfold astore stoO
  cases tsz P t with
  | none => rfl
  | some n =>
    simp only
    congr 1
theorem stoO_some {v : List AV} {u : AV} {n : Nat} {c0 : List Ent → Prop} : stoO v u hp c0 (some n) = ((v.length = n ∧ oneL v = true) ∧ stoX n v hp c0 u) := (rfl)
theorem stoX_ptr {v : List AV} {n id i o : Nat} {c0 : List Ent → Prop} : stoX n v hp c0 (.ptr id i o) = stoP id i o n v hp c0 hp[id]? := (rfl)
theorem stoP_arr {v : List AV} {n id i o sz : Nat} {c0 : List Ent → Prop} {elems : List (List AV)} : stoP id i o n v hp c0 (some (.arr sz elems)) = stoS id o n sz i v hp c0 elems := (rfl)
theorem stoS_one {v : List AV} {n id o sz : Nat} {c0 : List Ent → Prop} {b : List AV} : stoS id o n sz 0 v hp c0 [b] = (o + n ≤ b.length ∧ c0 (hp.set id (.arr sz [wr b o v]))) := by simp [stoS]
theorem stoS_map {α : Type} [Inhabited α] {v : List AV} {n id o sz i : Nat} {c0 : List Ent → Prop} {f : α → List AV} {ts : List α} :
    stoS id o n sz i v hp c0 (ts.map f) = (i < ts.length ∧ o + n ≤ (f (ts.getD i default)).length ∧ c0 (hp.set id (.arr sz ((ts.map f).set i (wr (f (ts.getD i default)) o v))))) := by
  unfold stoS
  rw [List.length_map]
  by_cases h : i < ts.length
  · simp [h, List.getD]
  · simp [h]
theorem e_call {k : FuncId} {as : List Operand} {ts : Array TypeId} : aeff P (.call ⟨.value (.func k), as.toArray, ts⟩) e hp ce = GC P k (as.map e) hp ce := by simp [aeff]

/- append -/
def appX (hp : List Ent) (ce : AV → List Ent → Prop) (sz : Nat) (ys : List (List AV)) : AV → Prop
  | .v (.slice none 0 0) => ys.length ≤ 1099511627776 ∧ ce (.ref hp.length ys.length) (hp ++ [.arr sz ys])
  | .ref id len => match hp[id]? with
    | some (.arr s elems) => (s = sz ∧ len = elems.length ∧ len + ys.length ≤ 1099511627776) ∧ ce (.ref hp.length (len + ys.length)) (hp.set id .dead ++ [.arr sz (elems ++ ys)])
    | _ => False
  | _ => False
/-- what reads as a slice, and what follows -/
def srdK (hp : List Ent) (sz : Nat) (A : List (List AV) → Prop) (u : AV) : Prop :=
  match srd hp sz u with
  | some ys => A ys
  | none => False
def appO (hp : List Ent) (u v : AV) (ce : AV → List Ent → Prop) : Option Nat → Option Nat → Option Value → Prop
  | some sz, some b, some z => (0 < sz ∧ b ≤ 64 ∧ z.cells.toList.length = sz) ∧ srdK hp sz (fun ys => appX hp ce sz ys u) v
  | _, _, _ => False
theorem e_append : aeff P (.call ⟨.builtin .append, [x, y].toArray, [t, t'].toArray⟩) e hp ce = (t = t' ∧ appO hp (e x) (e y) ce ((tel P t).bind (tsz P)) ((tel P t).bind (tby P)) ((tel P t).bind (tzero P))) := by
  show (t = t' ∧ aappend P t hp (e x) (e y) ce) = _
  congr 1
theorem appO_some {u v : AV} {sz b : Nat} {z : Value} : appO hp u v ce (some sz) (some b) (some z) = ((0 < sz ∧ b ≤ 64 ∧ z.cells.toList.length = sz) ∧ srdK hp sz (fun ys => appX hp ce sz ys u) v) := (rfl)
theorem srdK_nil {sz : Nat} {A : List (List AV) → Prop} : srdK hp sz A (.v (.slice none 0 0)) = A [] := (rfl)
theorem srdK_sl {sz s : Nat} {xs : List (List AV)} {A : List (List AV) → Prop} : srdK hp sz A (.sl s xs) = (s = sz ∧ A xs) := by
  simp only [srdK, srd]
  by_cases h : s = sz <;> simp [h]
def srdE (len sz : Nat) (A : List (List AV) → Prop) : Option Ent → Prop
  | some (.arr s elems) => (s = sz ∧ len ≤ elems.length) ∧ A (elems.take len)
  | _ => False
def srdE2 (lo len sz : Nat) (A : List (List AV) → Prop) : Option Ent → Prop
  | some (.arr s elems) => (s = sz ∧ lo + len ≤ elems.length) ∧ A ((elems.drop lo).take len)
  | _ => False
theorem srdK_ref {sz id len : Nat} {A : List (List AV) → Prop} : srdK hp sz A (.ref id len) = srdE len sz A hp[id]? := by
  simp only [srdK, srd, srdE]
  cases hp[id]? with
  | none => rfl
  | some en =>
    cases en with
    | dead => rfl
    | arr s elems => by_cases h : s = sz ∧ len ≤ elems.length <;> simp [h]
theorem srdK_rs {sz id lo len : Nat} {A : List (List AV) → Prop} : srdK hp sz A (.rs id lo len) = srdE2 lo len sz A hp[id]? := by
  simp only [srdK, srd, srdE2]
  cases hp[id]? with
  | none => rfl
  | some en =>
    cases en with
    | dead => rfl
    | arr s elems => by_cases h : s = sz ∧ lo + len ≤ elems.length <;> simp [h]
theorem srdE_arr {len sz s : Nat} {elems : List (List AV)} {A : List (List AV) → Prop} : srdE len sz A (some (.arr s elems)) = ((s = sz ∧ len ≤ elems.length) ∧ A (elems.take len)) := (rfl)
theorem srdE2_arr {lo len sz s : Nat} {elems : List (List AV)} {A : List (List AV) → Prop} : srdE2 lo len sz A (some (.arr s elems)) = ((s = sz ∧ lo + len ≤ elems.length) ∧ A ((elems.drop lo).take len)) := (rfl)
theorem appX_nil {sz : Nat} {ys : List (List AV)} : appX hp ce sz ys (.v (.slice none 0 0)) = (ys.length ≤ 1099511627776 ∧ ce (.ref hp.length ys.length) (hp ++ [.arr sz ys])) := (rfl)
def appE (hp : List Ent) (id len sz : Nat) (ys : List (List AV)) (ce : AV → List Ent → Prop) : Option Ent → Prop
  | some (.arr s elems) => (s = sz ∧ len = elems.length ∧ len + ys.length ≤ 1099511627776) ∧ ce (.ref hp.length (len + ys.length)) (hp.set id .dead ++ [.arr sz (elems ++ ys)])
  | _ => False
theorem appX_ref {sz id len : Nat} {ys : List (List AV)} : appX hp ce sz ys (.ref id len) = appE hp id len sz ys ce hp[id]? := by
  simp only [appX]
  cases hp[id]? with
  | none => rfl
  | some en => cases en <;> rfl
theorem appE_arr {id len sz s : Nat} {ys elems : List (List AV)} : appE hp id len sz ys ce (some (.arr s elems)) = ((s = sz ∧ len = elems.length ∧ len + ys.length ≤ 1099511627776) ∧ ce (.ref hp.length (len + ys.length)) (hp.set id .dead ++ [.arr sz (elems ++ ys)])) := (rfl)

/- copy -/
def cpyE (hp : List Ent) (id lo len sz : Nat) (ys : List (List AV)) (ce : AV → List Ent → Prop) : Option Ent → Prop
  | some (.arr s elems) => (s = sz ∧ lo + len ≤ elems.length) ∧ ce (vi (ys.take len).length) (hp.set id (.arr sz (elems.take lo ++ ys.take len ++ elems.drop (lo + (ys.take len).length))))
  | _ => False
def cpyX (hp : List Ent) (sz : Nat) (ce : AV → List Ent → Prop) (u : AV) (ys : List (List AV)) : Prop :=
  match u with
  | .rs id lo len => cpyE hp id lo len sz ys ce hp[id]?
  | _ => False
def cpyO (hp : List Ent) (u v : AV) (ce : AV → List Ent → Prop) : Option Nat → Prop
  | some sz => 0 < sz ∧ srdK hp sz (cpyX hp sz ce u) v
  | none => False
theorem e_copy {ts : List TypeId} : aeff P (.call ⟨.builtin .copy, [x, y].toArray, (t :: ts).toArray⟩) e hp ce = cpyO hp (e x) (e y) ce ((tel P t).bind (tsz P)) := by
  show acopy P t hp (e x) (e y) ce = _
  unfold acopy cpyO srdK cpyX
  cases (tel P t).bind (tsz P) with
  | none => rfl
  | some sz =>
    simp only
    congr 1
theorem cpyO_some {u v : AV} {sz : Nat} : cpyO hp u v ce (some sz) = (0 < sz ∧ srdK hp sz (cpyX hp sz ce u) v) := (rfl)
theorem cpyX_rs {sz id lo len : Nat} {ys : List (List AV)} : cpyX hp sz ce (.rs id lo len) ys = cpyE hp id lo len sz ys ce hp[id]? := (rfl)
theorem cpyE_arr {id lo len sz s : Nat} {ys elems : List (List AV)} : cpyE hp id lo len sz ys ce (some (.arr s elems)) = ((s = sz ∧ lo + len ≤ elems.length) ∧ ce (vi (ys.take len).length) (hp.set id (.arr sz (elems.take lo ++ ys.take len ++ elems.drop (lo + (ys.take len).length))))) := (rfl)

/- slots and values -/
theorem ev_tmp {k : Nat} : evS l (.tmp k) = lk l k := (rfl)
theorem ev_const {v : Value} : evS l (.const v) = AV.lit v := (rfl)
theorem lk_cons {k j : Nat} {v : AV} : lk ((k, v) :: l) j = if k = j then v else lk l j := (rfl)
theorem lit_int {k : IntKind} {n : Int} : AV.lit (.int k n) = .v (.int k n) := (rfl)
theorem lit_bool {b : Bool} : AV.lit (.bool b) = .v (.bool b) := (rfl)
theorem lit_str {b : ByteArray} : AV.lit (.string b) = .v (.string b) := (rfl)
theorem lit_slice {a : Option Addr} {n k : Nat} : AV.lit (.slice a n k) = .v (.slice a n k) := (rfl)
theorem lit_agg {z : List Value} : AV.lit (.agg z.toArray) = .agg (z.map .v) := by simp [AV.lit]
theorem oneL_nil : oneL [] = true := (rfl)
theorem oneL_cons {u : AV} {r : List AV} : oneL (u :: r) = (one u && oneL r) := (rfl)
theorem one_int {k : IntKind} {n : Int} : one (.v (.int k n)) = true := (rfl)
theorem one_bool {b : Bool} : one (.v (.bool b)) = true := (rfl)
theorem one_str {b : ByteArray} : one (.v (.string b)) = true := (rfl)
theorem one_slc {a : Option Addr} {n k : Nat} : one (.v (.slice a n k)) = true := (rfl)
theorem one_sl {z : Nat} {xs : List (List AV)} : one (.sl z xs) = true := (rfl)
theorem one_ref {i k : Nat} : one (.ref i k) = true := (rfl)
theorem one_ptr {i j k : Nat} : one (.ptr i j k) = true := (rfl)
theorem acells_agg {cs : List AV} : acells (.agg cs) = cs := (rfl)
theorem acells_v {u : Value} : acells (.v u) = [.v u] := (rfl)
theorem acells_sl {z : Nat} {xs : List (List AV)} : acells (.sl z xs) = [.sl z xs] := (rfl)
theorem acells_ref {i k : Nat} : acells (.ref i k) = [.ref i k] := (rfl)
theorem acells_ptr {i j k : Nat} : acells (.ptr i j k) = [.ptr i j k] := (rfl)
theorem wr_eq {b : List AV} {o : Nat} {v : List AV} : wr b o v = b.take o ++ v ++ b.drop (o + v.length) := (rfl)
theorem cells_int {k : IntKind} {n : Int} : (Value.int k n).cells.toList = [.int k n] := (rfl)
theorem cells_str {b : ByteArray} : (Value.string b).cells.toList = [.string b] := (rfl)
theorem cells_slc {a : Option Addr} {n k : Nat} : (Value.slice a n k).cells.toList = [.slice a n k] := (rfl)
theorem cells_agg {z : List Value} : (Value.agg z.toArray).cells.toList = z := (rfl)

/- what has been read -/
theorem rids_move : rids e (.move x) = [] := (rfl)
theorem rids_assign : rids e (.assign x) = [] := (rfl)
theorem rids_pick : rids e (.pick x y z) = [] := (rfl)
theorem rids_extract {i : Nat} : rids e (.extract x i) = [] := (rfl)
theorem rids_bin {op : BinOp} : rids e (.binOp op t x y t') = [] := (rfl)
theorem rids_un {op : UnOp} : rids e (.unOp op t x) = [] := (rfl)
theorem rids_fld {f : Nat} : rids e (.fieldAddr t x f) = [] := (rfl)
theorem rids_ind : rids e (.index t x y) = [] := (rfl)
theorem rids_nilc : rids e (.nilCheck x) = [] := (rfl)
theorem rids_build {p : Array (Nat × Operand)} : rids e (.build t p) = [] := (rfl)
theorem rids_field {f : Nat} : rids e (.field t x f) = [] := (rfl)
theorem rids_bi {b : Builtin} {as : Array Operand} {ts : Array TypeId} : rids e (.call ⟨.builtin b, as, ts⟩) = [] := (rfl)
theorem rids_load : rids e (.load t x) = ids (e x) := by simp [rids, rops, ids.idsL]
theorem rids_idx : rids e (.indexAddr t x y) = ids (e x) := by simp [rids, rops, ids.idsL]
theorem rids_slice {lo hi m : Option Operand} : rids e (.slice t x lo hi m) = ids (e x) := by simp [rids, rops, ids.idsL]
theorem rids_conv : rids e (.convert t t' x) = ids (e x) := by simp [rids, rops, ids.idsL]
theorem rids_call {k : FuncId} {as : List Operand} {ts : Array TypeId} : rids e (.call ⟨.value (.func k), as.toArray, ts⟩) = ids.idsL (as.map e) := by simp [rids, rops]
theorem ids_v {u : Value} : ids (.v u) = [] := (rfl)
theorem ids_sl {zz : Nat} {xs : List (List AV)} : ids (.sl zz xs) = [] := (rfl)
theorem ids_ep {b : List AV} {o : Nat} : ids (.ep b o) = [] := (rfl)
theorem ids_ref {i k : Nat} : ids (.ref i k) = [i] := (rfl)
theorem ids_rs {i j k : Nat} : ids (.rs i j k) = [i] := (rfl)
theorem ids_ptr {i j k : Nat} : ids (.ptr i j k) = [i] := (rfl)
theorem ids_agg {cs : List AV} : ids (.agg cs) = ids.idsL cs := (rfl)
theorem idsL_nil : ids.idsL [] = [] := (rfl)
theorem idsL_cons {u : AV} {cs : List AV} : ids.idsL (u :: cs) = ids u ++ ids.idsL cs := (rfl)

/- the end -/
theorem endq_normal {rs : List ResultVar} {KK : AV → List Ent → Prop} : endq P rs n0 KK .normal s = ares P s rs (fun r => fin n0 r s.hp KK) := (rfl)
theorem endq_ret {rs : List ResultVar} {KK : AV → List Ent → Prop} : endq P rs n0 KK .ret s = ares P s rs (fun r => fin n0 r s.hp KK) := (rfl)
theorem ares_one {r : ResultVar} : ares P s [r] c = ares1 P s r c := (rfl)
theorem ares_two {r r2 : ResultVar} : ares P s [r, r2] c = ares1 P s r (fun u => ares1 P s r2 (fun v => c (.tup [u, v]))) := (rfl)
theorem ares_three {r r2 r3 : ResultVar} : ares P s [r, r2, r3] c = ares1 P s r (fun u => ares1 P s r2 (fun v => ares1 P s r3 (fun w => c (.tup [u, v, w])))) := (rfl)
theorem ares_four {r r2 r3 r4 : ResultVar} : ares P s [r, r2, r3, r4] c = ares1 P s r (fun u => ares1 P s r2 (fun v => ares1 P s r3 (fun w => ares1 P s r4 (fun z => c (.tup [u, v, w, z]))))) := (rfl)
theorem ares1_tmp {k : Nat} : ares1 P ⟨l, hp⟩ (.tmp k) c = c (lk l k) := (rfl)
theorem ares1_cell {k : Nat} : ares1 P ⟨l, hp⟩ (.cell k t) c = loadO hp (lk l k) c (tsz P t) (tagg P t) := aload_eq
theorem argSl_nil {k : Nat} : argSl k [] = [] := (rfl)
theorem argSl_cons {k : Nat} {u : AV} {us : List AV} : argSl k (u :: us) = (k, u) :: argSl (k + 1) us := (rfl)
theorem ne_z (n : Nat) : (n + 1 = 0) = False := by simp
theorem z_ne (n : Nat) : (0 = n + 1) = False := by simp
end

/- only the state is worked on -/
section
variable {P : Program} {n0 : Nat} {pl : List (Nat × Plan)}
@[congr] theorem acode_congr {c Q s s'} (h : s = s') : acode P n0 pl c Q s = acode P n0 pl c Q s' := by rw [h]
@[congr] theorem aops_congr {ops l K s s'} (h : s = s') : aops P ops l K s = aops P ops l K s' := by rw [h]
@[congr] theorem thn_congr {n Q e s s'} (h : s = s') : thn n Q e s = thn n Q e s' := by rw [h]
@[congr] theorem blq_congr {id Q e s s'} (h : s = s') : blq id Q e s = blq id Q e s' := by rw [h]
@[congr] theorem lpt_congr {α : Type} {T : α → St} {J : α → Prop} {ν : α → Nat} {a : α} {Q e s s'} (h : s = s') : lpt n0 T J ν a Q e s = lpt n0 T J ν a Q e s' := by rw [h]
@[congr] theorem kv_congr {dst K s v s' v'} (h : s = s') (h3 : v = v') : kv dst K s v = kv dst K s' v' := by rw [h, h3]
@[congr] theorem ke_congr {dst K l v hp l' v' hp'} (h : l = l') (h2 : hp = hp') (h3 : v = v') : ke dst K l v hp = ke dst K l' v' hp' := by rw [h, h2, h3]
@[congr] theorem keep_congr {is is' hp hp' c v v' q q'} (h0 : is = is') (h : hp = hp') (h2 : v = v') (h3 : q = q') : keep is hp c v q = keep is' hp' c v' q' := by rw [h0, h, h2, h3]
@[congr] theorem aop_congr {o K s s'} (h : s = s') : aop P o s K = aop P o s' K := by rw [h]
@[congr] theorem gd_congr {ops o s s' y n} (h : s = s') : gd ops o s y n = gd ops o s' y n := by rw [h]
@[congr] theorem gdO_congr {dst s s' y n w d d'} (h : s = s') (h2 : d = d') : gdO dst s y n w d = gdO dst s' y n w d' := by rw [h, h2]
@[congr] theorem gdV_congr {dst l l' hp hp' y n d w x x'} (h : l = l') (h2 : hp = hp') (h3 : x = x') : gdV dst l hp y n d w x = gdV dst l' hp' y n d w x' := by rw [h, h2, h3]
@[congr] theorem aval_congr {op e e' hp hp' c} (h : e = e') (h2 : hp = hp') : aval P op e hp c = aval P op e' hp' c := by rw [h, h2]
@[congr] theorem aeff_congr {op e e' hp hp' c} (h : e = e') (h2 : hp = hp') : aeff P op e hp c = aeff P op e' hp' c := by rw [h, h2]
@[congr] theorem apl_congr {ops K p is is' s s'} (h : s = s') (h2 : is = is') : apl P ops K p is s = apl P ops K p is' s' := by rw [h, h2]
@[congr] theorem apls_congr {ops K p is is' s s'} (h : s = s') (h2 : is = is') : apls P ops K p is s = apls P ops K p is' s' := by rw [h, h2]
@[congr] theorem aplV_congr {ops K rest i is is' s s' o o'} (h : s = s') (h2 : is = is') (h3 : o = o') : aplV P ops K rest i is s o = aplV P ops K rest i is' s' o' := by rw [h, h2, h3]
@[congr] theorem aplE_congr {ops K p cs is is' s s' o o'} (h : s = s') (h2 : is = is') (h3 : o = o') : aplE P ops K p cs is s o = aplE P ops K p cs is' s' o' := by rw [h, h2, h3]
@[congr] theorem GC_congr {k as as' hp hp' K} (h : as = as') (h2 : hp = hp') : GC P k as hp K = GC P k as' hp' K := by rw [h, h2]
@[congr] theorem qcall_congr {k as as' hp hp' c} (h : as = as') (h2 : hp = hp') : qcall P k as hp c = qcall P k as' hp' c := by rw [h, h2]
@[congr] theorem endq_congr {rs K e s s'} (h : s = s') : endq P rs n0 K e s = endq P rs n0 K e s' := by rw [h]
@[congr] theorem ares_congr {rs c s s'} (h : s = s') : ares P s rs c = ares P s' rs c := by rw [h]
@[congr] theorem ares1_congr {r c s s'} (h : s = s') : ares1 P s r c = ares1 P s' r c := by rw [h]
@[congr] theorem fin_congr {r r' hp hp' K} (h : r = r') (h2 : hp = hp') : fin n0 r hp K = fin n0 r' hp' K := by rw [h, h2]
@[congr] theorem apick_congr {x x' a a' b b' c} (h : x = x') (h2 : a = a') (h3 : b = b') : apick x a b c = apick x' a' b' c := by rw [h, h2, h3]
@[congr] theorem aext_congr {x x' i c} (h : x = x') : aext x i c = aext x' i c := by rw [h]
@[congr] theorem abin_congr {op t x x' y y' c} (h : x = x') (h2 : y = y') : abin P op t x y c = abin P op t x' y' c := by rw [h, h2]
@[congr] theorem aun_congr {op x x' c} (h : x = x') : aun op x c = aun op x' c := by rw [h]
@[congr] theorem loadO_congr {hp hp' x x' c n n' b b'} (h : hp = hp') (h2 : x = x') (h3 : n = n') (h4 : b = b') : loadO hp x c n b = loadO hp' x' c n' b' := by rw [h, h2, h3, h4]
@[congr] theorem loadP_congr {g n i o c e e'} (h : e = e') : loadP g n i o c e = loadP g n i o c e' := by rw [h]
@[congr] theorem loadS_congr {g n i i' o c e e'} (h : e = e') (h2 : i = i') : loadS g n i o c e = loadS g n i' o c e' := by rw [h, h2]
@[congr] theorem rd_congr {g n o o' c e e'} (h : e = e') (h2 : o = o') : rd g n o e c = rd g n o' e' c := by rw [h, h2]
@[congr] theorem rdO_congr {c e e'} (h : e = e') : rdO c e = rdO c e' := by rw [h]
@[congr] theorem fldO_congr {x x' c o o'} (h : x = x') (h2 : o = o') : fldO x c o = fldO x' c o' := by rw [h, h2]
@[congr] theorem idxO_congr {hp hp' x x' i i' c o o'} (h0 : hp = hp') (h : x = x') (h1 : i = i') (h2 : o = o') : idxO P hp x i c o = idxO P hp' x' i' c o' := by rw [h0, h, h1, h2]
@[congr] theorem idxZ_congr {hp hp' x x' n n' c o o'} (h0 : hp = hp') (h : x = x') (h1 : n = n') (h2 : o = o') : idxZ hp x n c o = idxZ hp' x' n' c o' := by rw [h0, h, h1, h2]
@[congr] theorem idxS_congr {z sz n n' c x x'} (h : x = x') (h1 : n = n') : idxS z sz n c x = idxS z sz n' c x' := by rw [h, h1]
@[congr] theorem idxE_congr {z lo lo' n n' id c x x'} (h : x = x') (h1 : n = n') (h2 : lo = lo') : idxE z lo n id c x = idxE z lo' n' id c x' := by rw [h, h1, h2]
@[congr] theorem idxE0_congr {z n n' id c x x'} (h : x = x') (h1 : n = n') : idxE0 z n id c x = idxE0 z n' id c x' := by rw [h, h1]
@[congr] theorem aind_congr {t x x' y y' c} (h : x = x') (h2 : y = y') : aind P t x y c = aind P t x' y' c := by rw [h, h2]
@[congr] theorem indK_congr {x x' y y' c k k'} (h : x = x') (h2 : y = y') (h3 : k = k') : indK x y c k = indK x' y' c k' := by rw [h, h2, h3]
@[congr] theorem slL_congr {t hp hp' u u' lo lo' hi hi' c n n'} (h0 : hp = hp') (h : u = u') (h1 : lo = lo') (h2 : hi = hi') (h3 : n = n') : slL P t hp u lo hi c n = slL P t hp' u' lo' hi' c n' := by rw [h0, h, h1, h2, h3]
@[congr] theorem slB_congr {t hp hp' n n' u u' c lo lo' hi hi'} (h0 : hp = hp') (h : u = u') (h1 : lo = lo') (h2 : hi = hi') (h3 : n = n') : slB P t hp n u c lo hi = slB P t hp' n' u' c lo' hi' := by rw [h0, h, h1, h2, h3]
@[congr] theorem slP_congr {t hp hp' l l' h h' u u' c k k'} (h0 : hp = hp') (h1 : l = l') (h2 : h = h') (h3 : u = u') (h4 : k = k') : slP P t hp l h u c k = slP P t hp' l' h' u' c k' := by rw [h0, h1, h2, h3, h4]
@[congr] theorem slR_congr {t id lo lo' n n' c e e'} (h0 : lo = lo') (h1 : n = n') (h2 : e = e') : slR P t id lo n c e = slR P t id lo' n' c e' := by rw [h0, h1, h2]
@[congr] theorem aconv_congr {t u hp hp' x x' c} (h : hp = hp') (h2 : x = x') : aconv P t u hp x c = aconv P t u hp' x' c := by rw [h, h2]
@[congr] theorem convK_congr {t hp hp' x x' c k k' q q'} (h : hp = hp') (h2 : x = x') (h3 : k = k') (h4 : q = q') : convK P t hp x c k q = convK P t hp' x' c k' q' := by rw [h, h2, h3, h4]
@[congr] theorem bytO_congr {c e e'} (h : e = e') : bytO c e = bytO c e' := by rw [h]
@[congr] theorem abuild_congr {t p p' c} (h : p = p') : abuild P t p c = abuild P t p' c := by rw [h]
@[congr] theorem buildO_congr {p p' c z z' q q'} (h : p = p') (h2 : z = z') (h3 : q = q') : buildO p c z q = buildO p' c z' q' := by rw [h, h2, h3]
@[congr] theorem abld_congr {q q' p p' c e e'} (h0 : q = q') (h : p = p') (h2 : e = e') : abld q p e c = abld q' p' e' c := by rw [h0, h, h2]
@[congr] theorem bldO_congr {q q' p p' x x' e e' c o o'} (h0 : q = q') (h : p = p') (h1 : x = x') (h2 : e = e') (h3 : o = o') : bldO q p x e c o = bldO q' p' x' e' c o' := by rw [h0, h, h1, h2, h3]
@[congr] theorem afval_congr {t f x x' c} (h : x = x') : afval P t f x c = afval P t f x' c := by rw [h]
@[congr] theorem fvalO_congr {x x' c o o'} (h : x = x') (h2 : o = o') : fvalO P x c o = fvalO P x' c o' := by rw [h, h2]
@[congr] theorem fvalR_congr {x x' o o' c n n' b b'} (h : x = x') (h2 : o = o') (h3 : n = n') (h4 : b = b') : fvalR x o c n b = fvalR x' o' c n' b' := by rw [h, h2, h3, h4]
@[congr] theorem amm_congr {m x x' y y' c} (h : x = x') (h2 : y = y') : amm m x y c = amm m x' y' c := by rw [h, h2]
@[congr] theorem alen_congr {t x x' c} (h : x = x') : alen P t x c = alen P t x' c := by rw [h]
@[congr] theorem lenK_congr {x x' c k k'} (h : x = x') (h2 : k = k') : lenK x c k = lenK x' c k' := by rw [h, h2]
@[congr] theorem ibin_congr {op k a a' b b' c} (h : a = a') (h2 : b = b') : ibin op k a b c = ibin op k a' b' c := by rw [h, h2]
@[congr] theorem sbin_congr {op a a' b b' c} (h : a = a') (h2 : b = b') : sbin op a b c = sbin op a' b' c := by rw [h, h2]
@[congr] theorem bbin_congr {op a a' b b' c} (h : a = a') (h2 : b = b') : bbin op a b c = bbin op a' b' c := by rw [h, h2]
@[congr] theorem eqO_congr {op c r r'} (h : r = r') : eqO op c r = eqO op c r' := by rw [h]
@[congr] theorem allocO_congr {hp hp' c z z'} (h : hp = hp') (h2 : z = z') : allocO hp c z = allocO hp' c z' := by rw [h, h2]
@[congr] theorem makeV_congr {t hp hp' c x x' y y'} (h0 : hp = hp') (h : x = x') (h2 : y = y') : makeV P t hp c x y = makeV P t hp' c x' y' := by rw [h0, h, h2]
@[congr] theorem makeT_congr {n n' m m' hp hp' c t t'} (h0 : hp = hp') (h : n = n') (h2 : m = m') (h3 : t = t') : makeT P n m hp c t = makeT P n' m' hp' c t' := by rw [h0, h, h2, h3]
@[congr] theorem makeO_congr {n n' m m' hp hp' c z z' s s' b b'} (h0 : hp = hp') (h : n = n') (h2 : m = m') (h3 : z = z') (h4 : s = s') (h5 : b = b') : makeO n m hp c z s b = makeO n' m' hp' c z' s' b' := by rw [h0, h, h2, h3, h4, h5]
@[congr] theorem litS_congr {n p p' hp hp' c s s' z z'} (h : p = p') (h0 : hp = hp') (h1 : s = s') (h2 : z = z') : litS n p hp c s z = litS n p' hp' c s' z' := by rw [h, h0, h1, h2]
@[congr] theorem litO_congr {n hp hp' c s z z'} (h0 : hp = hp') (h2 : z = z') : litO n hp c s z = litO n hp' c s z' := by rw [h0, h2]
@[congr] theorem stoO_congr {v v' u u' hp hp' c n n'} (h : v = v') (h1 : u = u') (h0 : hp = hp') (h2 : n = n') : stoO v u hp c n = stoO v' u' hp' c n' := by rw [h, h1, h0, h2]
@[congr] theorem stoX_congr {v v' u u' hp hp' c n} (h : v = v') (h1 : u = u') (h0 : hp = hp') : stoX n v hp c u = stoX n v' hp' c u' := by rw [h, h1, h0]
@[congr] theorem stoP_congr {id i o n v v' hp hp' c e e'} (h : v = v') (h1 : e = e') (h0 : hp = hp') : stoP id i o n v hp c e = stoP id i o n v' hp' c e' := by rw [h, h1, h0]
@[congr] theorem stoS_congr {id o n sz i i' v v' hp hp' c e e'} (hi : i = i') (h : v = v') (h1 : e = e') (h0 : hp = hp') : stoS id o n sz i v hp c e = stoS id o n sz i' v' hp' c e' := by rw [hi, h, h1, h0]
@[congr] theorem appO_congr {hp hp' u u' v v' c s s' b b' z z'} (h0 : hp = hp') (h : u = u') (h1 : v = v') (h2 : s = s') (h3 : b = b') (h4 : z = z') : appO hp u v c s b z = appO hp' u' v' c s' b' z' := by rw [h0, h, h1, h2, h3, h4]
@[congr] theorem srdK_congr {hp hp' sz A u u'} (h0 : hp = hp') (h : u = u') : srdK hp sz A u = srdK hp' sz A u' := by rw [h0, h]
@[congr] theorem srdE_congr {n n' sz A e e'} (h0 : n = n') (h : e = e') : srdE n sz A e = srdE n' sz A e' := by rw [h0, h]
@[congr] theorem srdE2_congr {lo lo' n n' sz A e e'} (h1 : lo = lo') (h0 : n = n') (h : e = e') : srdE2 lo n sz A e = srdE2 lo' n' sz A e' := by rw [h1, h0, h]
@[congr] theorem appX_congr {hp hp' c sz ys ys' u u'} (h0 : hp = hp') (h1 : ys = ys') (h : u = u') : appX hp c sz ys u = appX hp' c sz ys' u' := by rw [h0, h1, h]
@[congr] theorem appE_congr {hp hp' id n n' sz ys ys' c e e'} (h0 : hp = hp') (h1 : ys = ys') (h2 : n = n') (h : e = e') : appE hp id n sz ys c e = appE hp' id n' sz ys' c e' := by rw [h0, h1, h2, h]
@[congr] theorem cpyO_congr {hp hp' u u' v v' c s s'} (h0 : hp = hp') (h : u = u') (h1 : v = v') (h2 : s = s') : cpyO hp u v c s = cpyO hp' u' v' c s' := by rw [h0, h, h1, h2]
@[congr] theorem cpyX_congr {hp hp' sz c u u' ys ys'} (h0 : hp = hp') (h : u = u') (h1 : ys = ys') : cpyX hp sz c u ys = cpyX hp' sz c u' ys' := by rw [h0, h, h1]
@[congr] theorem cpyE_congr {hp hp' id lo lo' n n' sz ys ys' c e e'} (h0 : hp = hp') (h1 : ys = ys') (h2 : n = n') (h3 : lo = lo') (h : e = e') : cpyE hp id lo n sz ys c e = cpyE hp' id lo' n' sz ys' c e' := by rw [h0, h1, h2, h3, h]
end

end Eng
end Go.Proofs.Ytgcmahhejblpkaa
