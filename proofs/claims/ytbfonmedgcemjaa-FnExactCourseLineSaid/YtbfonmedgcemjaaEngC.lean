/-
An abstract interpreter of the program's code on plain data: part C, the end of a function and the rules for evaluation.
No condition: everything here is stated over any program.
-/
import Derived.Test.YtbfonmedgcemjaaEngB
namespace Go.Proofs.Ytbfonmedgcemjaa
namespace Eng
set_option linter.unusedVariables false
set_option linter.unusedSimpArgs false

def pos (x : Nat) : List Nat → Option Nat
  | [] => none
  | y :: l => if y = x then some 0 else (pos x l).map (· + 1)

def rnId (n0 : Nat) (ids : List Nat) (id : Nat) : Option Nat := if id < n0 then some id else (pos id ids).map (n0 + ·)

def rn (n0 : Nat) (ids : List Nat) : AV → AV
  | .d x => .d x
  | .agg cs => .agg (rnL n0 ids cs)
  | .tup cs => .tup (rnL n0 ids cs)
  | .ref id lo len => match rnId n0 ids id with | some j => .ref j lo len | none => .top
  | .bx id o => match rnId n0 ids id with | some j => .bx j o | none => .top
  | .ptr id i o => match rnId n0 ids id with | some j => .ptr j i o | none => .top
  | .ep e o => .ep e o
  | .top => .top
where
  rnL (n0 : Nat) (ids : List Nat) : List AV → List AV
    | [] => []
    | c :: cs => rn n0 ids c :: rnL n0 ids cs

def rnE (n0 : Nat) (ids : List Nat) : Ent → Ent
  | .box cells => .box (rn.rnL n0 ids cells)
  | e => e

/-- what a function keeps of the entries that it has made -/
def fin (n0 : Nat) (r : AV) (hp : List Ent) (K : AV → List Ent → Prop) : Prop :=
  ∃ ids : List Nat, ids.Nodup ∧ (∀ i ∈ ids, n0 ≤ i ∧ i < hp.length) ∧
    K (rn n0 ids r) ((hp.take n0).map (rnE n0 ids) ++ ids.map (fun i => rnE n0 ids (hp.getD i .dead)))

def ares1 (P : Program) (s : St) (r : ResultVar) (c : AV → Prop) : Prop :=
  match r with
  | .tmp t => c (lk s.sl t)
  | .cell a t => aload P t s.hp (lk s.sl a) c

def aresL (P : Program) (s : St) : List ResultVar → (List AV → Prop) → Prop
  | [], c => c []
  | r :: rs, c => ares1 P s r (fun v => aresL P s rs (fun vs => c (v :: vs)))

def ares (P : Program) (s : St) (rs : List ResultVar) (c : AV → Prop) : Prop :=
  match rs with
  | [r] => ares1 P s r c
  | rs => aresL P s rs (fun vs => c (.tup vs))

def endq (P : Program) (rs : List ResultVar) (n0 : Nat) (K : AV → List Ent → Prop) : Exit → St → Prop
  | .normal, s => ares P s rs (fun r => fin n0 r s.hp K)
  | .ret, s => ares P s rs (fun r => fin n0 r s.hp K)
  | _, _ => False

def argSl : Nat → List AV → List (Nat × AV)
  | _, [] => []
  | i, x :: xs => (i, x) :: argSl (i + 1) xs

/- the rules of evaluation -/
section
variable {P : Program} {n0 : Nat}
theorem acode_skip {Q s} : acode P n0 .skip Q s = Q .normal s := rfl
theorem acode_seq {a b Q s} : acode P n0 (.seq a b) Q s = acode P n0 a (thn (acode P n0 b Q) Q) s := rfl
theorem acode_cond {c x y Q s} : acode P n0 (.cond c x y) Q s = acnd P (ev s c) (acode P n0 x Q s) (acode P n0 y Q s) := rfl
theorem acode_block {id c Q s} : acode P n0 (.block id c) Q s = acode P n0 c (blq id Q) s := rfl
theorem acode_exit {id Q s} : acode P n0 (.exit id) Q s = Q (.exit id) s := rfl
theorem acode_ret {Q s} : acode P n0 .ret Q s = Q .ret s := rfl
theorem acode_region {id Q s} {l : List Oper} : acode P n0 (.region id l.toArray false) Q s = aops P n0 l.toArray l (Q .normal) s := by simp [acode]
theorem aops_nil {ops K s} : aops P n0 ops [] K s = K s := rfl
theorem aops_cons {ops o rest K s} : aops P n0 ops (o :: rest) K s = gop P n0 ops o s (aops P n0 ops rest K) := rfl
theorem thn_normal {n Q s} : thn n Q .normal s = n s := rfl
theorem thn_ret {n Q s} : thn n Q .ret s = Q .ret s := rfl
theorem thn_exit {n Q s id} : thn n Q (.exit id) s = Q (.exit id) s := rfl
theorem blq_normal {id Q s} : blq id Q .normal s = Q .normal s := rfl
theorem blq_ret {id Q s} : blq id Q .ret s = Q .ret s := rfl
theorem blq_exit {id Q s i} : blq id Q (.exit i) s = if i = id then Q .normal s else Q (.exit i) s := rfl
theorem lpq_ret {J n Q s} : lpq n0 J n Q .ret s = Q .ret s := rfl
theorem lpq_exit {J n Q s id} : lpq n0 J n Q (.exit id) s = Q (.exit id) s := rfl
theorem acnd_b {b A B} : acnd P (vb b) A B = ((b = true → A) ∧ (b = false → B)) := rfl
@[congr] theorem acode_congr {c Q s s'} (h : s = s') : acode P n0 c Q s = acode P n0 c Q s' := by rw [h]
@[congr] theorem aops_congr {ops l K s s'} (h : s = s') : aops P n0 ops l K s = aops P n0 ops l K s' := by rw [h]
@[congr] theorem thn_congr {n Q e s s'} (h : s = s') : thn n Q e s = thn n Q e s' := by rw [h]
@[congr] theorem blq_congr {id Q e s s'} (h : s = s') : blq id Q e s = blq id Q e s' := by rw [h]
@[congr] theorem lpq_congr {J n Q e s s'} (h : s = s') : lpq n0 J n Q e s = lpq n0 J n Q e s' := by rw [h]
@[congr] theorem kv_congr {dst K s hp v s' hp' v'} (h : s = s') (h2 : hp = hp') (h3 : v = v') : kv dst K s hp v = kv dst K s' hp' v' := by rw [h, h2, h3]
@[congr] theorem callK_congr {dst K s hp v s' hp' v'} (h : s = s') (h2 : hp = hp') (h3 : v = v') : callK dst K s v hp = callK dst K s' v' hp' := by rw [h, h2, h3]
@[congr] theorem acall_congr {k as dst K s s'} (h : s = s') : acall P n0 k as dst K s = acall P n0 k as dst K s' := by rw [h]
@[congr] theorem acnd_congr {x x' A B} (h : x = x') : acnd P x A B = acnd P x' A B := by rw [h]
@[congr] theorem GC_congr {k as as' hp hp' K} (h : as = as') (h2 : hp = hp') : GC P k as hp K = GC P k as' hp' K := by rw [h, h2]
end
end Eng
end Go.Proofs.Ytbfonmedgcemjaa
