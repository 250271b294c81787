/-
An abstract interpreter of the program's code on plain data: part B, the interpreter.
No condition: everything here is stated over any program.
-/
import Derived.Test.YtbfonmedgcemjaaEngA
namespace Go.Proofs.Ytbfonmedgcemjaa
namespace Eng
set_option linter.unusedVariables false
set_option linter.unusedSimpArgs false

structure St where
  sl : List (Nat × AV)
  hp : List Ent

def lk : List (Nat × AV) → Nat → AV
  | [], _ => .top
  | (k, v) :: l, t => if k = t then v else lk l t

abbrev vi (n : Int) : AV := .d (.v (.int .i64 n))
abbrev vb (b : Bool) : AV := .d (.v (.bool b))
abbrev vs (s : ByteArray) : AV := .d (.v (.string s))

def AV.lit : Value → AV
  | .agg cs => .agg (cs.toList.map fun c => .d (.v c))
  | v => .d (.v v)

def ev (s : St) : Operand → AV
  | .tmp t => lk s.sl t
  | .const v => AV.lit v
  | _ => .top

def put (s : St) (dst : Option Nat) (v : AV) : St :=
  match dst with
  | some d => ⟨(d, v) :: s.sl, s.hp⟩
  | none => s

/-- where a function began -/
structure Bs where
  m : Mp
  w : World
  F : Nat → Prop

/-- the state describes the frame and the world -/
structure R (B : Bs) (m : Mp) (F : Nat → Prop) (N : Nat) (s : St) (a : Act) (w : World) : Prop where
  hp : RelH m w F s.hp
  sl : ∀ t, RepA m w F (lk s.sl t) (a.tmps.getD t undef)
  size : a.tmps.size = N
  defers : a.defers = []
  base : Tr B.m B.w B.F m w F

/-- s' is a weaker description of whatever s describes -/
def Wk (n0 : Nat) (s s' : St) : Prop :=
  ∀ (B : Bs) (m : Mp) (F : Nat → Prop) (N : Nat) (a : Act) (w : World), B.m.length = n0 → R B m F N s a w → ∃ m' F', R B m' F' N s' a w

/-- the state with a slot written, and other entries -/
def kv (dst : Option Nat) (K : St → Prop) (s : St) (hp : List Ent) (v : AV) : Prop := K (put ⟨s.sl, hp⟩ dst v)

def tsz (P : Program) (t : TypeId) : Option Nat := (P.info? t).map (·.size)
def tagg (P : Program) (t : TypeId) : Option Bool :=
  match P.underlying t with
  | some (.struct _) | some (.array _ _) => some true
  | some _ => some false
  | none => none
def tfld (P : Program) (t : TypeId) (f : Nat) : Option (Nat × TypeId) :=
  match P.underlying t with
  | some (.struct fs) => (fs[f]?).map fun x => (x.offset, x.type)
  | _ => none
/-- a field's place, if it is not empty -/
def tfo (P : Program) (t : TypeId) (f : Nat) : Option Nat :=
  match tfld P t f with
  | some (off, ft) => match tsz P ft with
    | some (_ + 1) => some off
    | _ => none
  | none => none
/-- the places of a struct's fields -/
def tpl (P : Program) (t : TypeId) : Option (List (Nat × Nat)) :=
  match P.underlying t with
  | some (.struct fs) => fs.toList.mapM (fun f => (P.info? f.type).map fun i => (f.offset, i.size))
  | _ => none
def tel (P : Program) (t : TypeId) : Option TypeId :=
  match P.underlying t with
  | some (.slice e) => some e
  | _ => none
def tzero (P : Program) (t : TypeId) : Option Value := (P.info? t).bind (·.zero)

inductive Kd where | bool | int (k : IntKind) | string | slice | struct | other
def tkd (P : Program) (t : TypeId) : Option Kd :=
  match P.underlying t with
  | some .bool => some .bool
  | some (.int k) => some (.int k)
  | some .string => some .string
  | some (.slice _) => some .slice
  | some (.struct _) => some .struct
  | some _ => some .other
  | none => none

/-- THE CONTRACT OF A CALL: from these arguments, over these entries -/
def GC (P : Program) (k : FuncId) (args : List AV) (hp : List Ent) (K : AV → List Ent → Prop) : Prop :=
  (∀ (args : Array Value) (w : World), (callFunc k args).run P w = .ok (.enter k args) w) ∧
  ∀ (m : Mp) (w : World) (F : Nat → Prop) (vals : List Value), RelH m w F hp → RepL m w F args vals →
    Calls P k vals.toArray w fun e w' => ∃ v r hp' m' F', e = .returned v ∧ K r hp' ∧ RelH m' w' F' hp' ∧ RepA m' w' F' r v ∧ Tr m w F m' w' F'

/-- a call, behind a weakening -/
def acall (P : Program) (n0 : Nat) (k : FuncId) (as : List Operand) (dst : Option Nat) (K : St → Prop) (s : St) : Prop :=
  ∃ s', Wk n0 s s' ∧ GC P k (as.map (ev s')) s'.hp (fun r hp => K (put ⟨s'.sl, hp⟩ dst r))

def callK (dst : Option Nat) (K : St → Prop) (sl : List (Nat × AV)) (r : AV) (hp : List Ent) : Prop := K (put ⟨sl, hp⟩ dst r)

def ibin (op : BinOp) (k : IntKind) (a b : Int) (c : AV → Prop) : Prop :=
  match op with
  | .add => c (.d (.v (.int k (k.wrap (a + b)))))
  | .sub => c (.d (.v (.int k (k.wrap (a - b)))))
  | .mul => c (.d (.v (.int k (k.wrap (a * b)))))
  | .quo => b ≠ 0 ∧ c (.d (.v (.int k (k.wrap (a.tdiv b)))))
  | .rem => b ≠ 0 ∧ c (.d (.v (.int k (a.tmod b))))
  | .eql => c (vb (a == b))
  | .neq => c (vb (a != b))
  | .lss => c (vb (decide (a < b)))
  | .leq => c (vb (decide (a ≤ b)))
  | .gtr => c (vb (decide (a > b)))
  | .geq => c (vb (decide (a ≥ b)))
  | _ => False

def sbin (op : BinOp) (a b : ByteArray) (c : AV → Prop) : Prop :=
  match op with
  | .add => ((a.size + b.size : Nat) : Int) ≤ IntKind.i64.max ∧ c (vs (a ++ b))
  | .eql => c (vb (a.toList == b.toList))
  | .neq => c (vb (!(a.toList == b.toList)))
  | .lss => c (vb (Op.bytesLess a.toList b.toList))
  | _ => False

def bbin (op : BinOp) (a b : Bool) (c : AV → Prop) : Prop :=
  match op with
  | .eql => c (vb (a == b))
  | .neq => c (vb (!(a == b)))
  | _ => False

def abin (P : Program) (op : BinOp) (t : TypeId) (x y : AV) (c : AV → Prop) : Prop :=
  match x, y with
  | .d (.v (.int k a)), .d (.v (.int k' b)) => k = k' ∧ ibin op k a b c
  | .d (.v (.string a)), .d (.v (.string b)) => sbin op a b c
  | .d (.v (.bool a)), .d (.v (.bool b)) => P.underlying t = some .bool ∧ bbin op a b c
  | _, _ => False

def aun (op : UnOp) (x : AV) (c : AV → Prop) : Prop :=
  match op, x with
  | .neg, .d (.v (.int k n)) => c (.d (.v (.int k (k.wrap (0 - n)))))
  | .not, .d (.v (.bool b)) => c (vb (!b))
  | _, _ => False

def apick (x a b : AV) (c : AV → Prop) : Prop :=
  match x with
  | .d (.v (.bool t)) => (t = true → c a) ∧ (t = false → c b)
  | _ => False

def aext (x : AV) (i : Nat) (c : AV → Prop) : Prop :=
  match x with
  | .tup l => match l[i]? with | some v => c v | none => False
  | _ => False

/-- the length of what reads as a slice or a string -/
def alen (P : Program) (t : TypeId) (x : AV) (c : AV → Prop) : Prop :=
  match tkd P t, x with
  | some .slice, .d (.sl _ xs) => c (vi xs.length)
  | some .string, .d (.v (.string s)) => c (vi s.size)
  | some .slice, .d (.v (.slice _ n _)) => c (vi n)
  | some .slice, .ref _ _ n => c (vi n)
  | _, _ => False

def entBox (hp : List Ent) (id : Nat) (c : List AV → Prop) : Prop :=
  match hp[id]? with
  | some (.box cells) => c cells
  | _ => False

/-- what lies in a box from a cell on, n cells -/
def rd (agg : Bool) (n o : Nat) (cells : List AV) (c : AV → Prop) : Prop :=
  if agg then (0 < n ∧ o + n ≤ cells.length) ∧ c (.agg ((cells.drop o).take n))
  else match cells[o]? with
    | some x => c x
    | none => False

def rdD (agg : Bool) (n o : Nat) (e : List D) (c : AV → Prop) : Prop :=
  if agg then (0 < n ∧ o + n ≤ e.length) ∧ c (.agg (((e.drop o).take n).map .d))
  else match e[o]? with
    | some x => c (.d x)
    | none => False

def aload (P : Program) (t : TypeId) (hp : List Ent) (x : AV) (c : AV → Prop) : Prop :=
  match tsz P t, tagg P t with
  | some n, some g =>
    match x with
    | .bx id o => entBox hp id (fun cells => rd g n o cells c)
    | .ep e o => rdD g n o e c
    | .ptr id i o => match hp[id]? with
      | some (.arr sz elems) => i < elems.length ∧ ∀ e, elems[i]? = some e → rdD g n o e c
      | _ => False
    | _ => False
  | _, _ => False

/-- the cells of a value -/
def acells : AV → List AV
  | .agg cs => cs
  | x => [x]

def wr (l : List AV) (o : Nat) (vs : List AV) : List AV := l.take o ++ vs ++ l.drop (o + vs.length)
def wrD (l : List D) (o : Nat) (vs : List D) : List D := l.take o ++ vs ++ l.drop (o + vs.length)

/-- what fits into one cell -/
def one : AV → Bool
  | .d (.v x) => x.oneCell'
  | .d (.sl _ _) | .ref _ _ _ | .bx _ _ | .ptr _ _ _ | .ep _ _ => true
  | _ => false
def oneL : List AV → Bool
  | [] => true
  | x :: l => one x && oneL l

def toDs : List AV → Option (List D)
  | [] => some []
  | .d x :: l => match toDs l with | some r => some (x :: r) | none => none
  | _ => none

def astore (P : Program) (t : TypeId) (hp : List Ent) (x v : AV) (K : List Ent → Prop) : Prop :=
  match tsz P t with
  | some n =>
    ((acells v).length = n ∧ oneL (acells v) = true) ∧
    match x with
    | .bx id o => entBox hp id (fun cells => o + n ≤ cells.length ∧ K (hp.set id (.box (wr cells o (acells v)))))
    | .ptr id i o => match hp[id]?, toDs (acells v) with
      | some (.arr sz elems), some ds => i < elems.length ∧ ∀ e, elems[i]? = some e → o + n ≤ e.length ∧ K (hp.set id (.arr sz (elems.set i (wrD e o ds))))
      | _, _ => False
    | _ => False
  | none => False

def afld (P : Program) (t : TypeId) (f : Nat) (x : AV) (c : AV → Prop) : Prop :=
  match tfo P t f with
  | some off =>
    match x with
    | .bx id o => c (.bx id (o + off))
    | .ep e o => c (.ep e (o + off))
    | .ptr id i o => c (.ptr id i (o + off))
    | _ => False
  | none => False

/-- x[i]'s address -/
def aidx (P : Program) (t : TypeId) (hp : List Ent) (x i : AV) (c : AV → Prop) : Prop :=
  match tel P t, i with
  | some et, .d (.v (.int _ n)) =>
    match tsz P et, x with
    | some z, .d (.sl sz xs) => 0 ≤ n ∧ n < xs.length ∧ (sz = z ∧ ∀ e, xs[n.toNat]? = some e → c (.ep e 0))
    | some z, .ref id lo len => 0 ≤ n ∧ n < len ∧ match hp[id]? with
      | some (.arr sz _) => sz = z ∧ c (.ptr id (lo + n.toNat) 0)
      | _ => False
    | _, _ => False
  | _, _ => False

def abox (P : Program) (t : TypeId) (hp : List Ent) (v : AV) (c : AV → List Ent → Prop) : Prop :=
  oneL (acells v) = true ∧ c (.bx hp.length 0) (hp ++ [.box (acells v)])

def azero (P : Program) (t : TypeId) (hp : List Ent) (c : AV → List Ent → Prop) : Prop :=
  match tzero P t with
  | some z => c (.bx hp.length 0) (hp ++ [.box (acells (AV.lit z))])
  | none => False

/-- a field of a struct's value -/
def afval (P : Program) (t : TypeId) (f : Nat) (x : AV) (c : AV → Prop) : Prop :=
  match tfld P t f, x with
  | some (off, ft), .agg cs =>
    match tsz P ft, tagg P ft with
    | some n, some g => rd g n off cs c
    | _, _ => False
  | _, _ => False

/-- parts of a struct, laid over cells -/
def abld (pl : List (Nat × Nat)) : List (Nat × AV) → List AV → (AV → Prop) → Prop
  | [], cells, c => c (.agg cells)
  | (f, x) :: rest, cells, c =>
    match pl[f]? with
    | some (off, n) => (oneL (acells x) = true ∧ (acells x).length = n ∧ off + n ≤ cells.length) ∧ abld pl rest (wr cells off (acells x)) c
    | none => False

def abuild (P : Program) (t : TypeId) (ps : List (Nat × AV)) (c : AV → Prop) : Prop :=
  match tzero P t, tpl P t with
  | some (.agg z), some pl => abld pl ps (z.toList.map fun c => .d (.v c)) c
  | _, _ => False

def amake (P : Program) (t : TypeId) (hp : List Ent) (l cap : AV) (c : AV → List Ent → Prop) : Prop :=
  match tel P t, l, cap with
  | some et, .d (.v (.int _ n)), .d (.v (.int _ n')) =>
    match tzero P et, tsz P et, P.info? et with
    | some z, some sz, some i => n = n' ∧ 0 ≤ n ∧ n ≤ 1099511627776 ∧ (0 < sz ∧ i.bytes ≤ 64) ∧ z.cells.size = sz ∧
      c (.ref hp.length 0 n.toNat) (hp ++ [.arr sz (List.replicate n.toNat (z.cells.toList.map .v))])
    | _, _, _ => False
  | _, _, _ => False

def evps (s : St) : List (Nat × Operand) → List (Nat × AV)
  | [] => []
  | (i, x) :: l => (i, ev s x) :: evps s l

/-- one operation of a region that does not draw its order -/
def aop (P : Program) (n0 : Nat) (o : Oper) (s : St) (K : St → Prop) : Prop :=
  match o.op with
  | .move x => kv o.dst K s s.hp (ev s x)
  | .assign x => kv o.dst K s s.hp (ev s x)
  | .pick c a b => apick (ev s c) (ev s a) (ev s b) (kv o.dst K s s.hp)
  | .extract t i => aext (ev s t) i (kv o.dst K s s.hp)
  | .binOp op t x y _ => abin P op t (ev s x) (ev s y) (kv o.dst K s s.hp)
  | .unOp op _ x => aun op (ev s x) (kv o.dst K s s.hp)
  | .load t a => aload P t s.hp (ev s a) (kv o.dst K s s.hp)
  | .store t a v => astore P t s.hp (ev s a) (ev s v) (fun hp => K ⟨match o.dst with | some d => (d, .top) :: s.sl | none => s.sl, hp⟩)
  | .fieldAddr t x f => afld P t f (ev s x) (kv o.dst K s s.hp)
  | .indexAddr t x i => aidx P t s.hp (ev s x) (ev s i) (kv o.dst K s s.hp)
  | .box t v => abox P t s.hp (ev s v) (fun r hp => kv o.dst K s hp r)
  | .alloc t => azero P t s.hp (fun r hp => kv o.dst K s hp r)
  | .build t ps => abuild P t (evps s ps.toList) (kv o.dst K s s.hp)
  | .field t x f => afval P t f (ev s x) (kv o.dst K s s.hp)
  | .makeSlice t l c => amake P t s.hp (ev s l) (ev s c) (fun r hp => kv o.dst K s hp r)
  | .call { callee := .value (.func k), args := as, .. } => acall P n0 k as.toList o.dst K s
  | .call { callee := .builtin .len, args := as, argTypes := ts } => match as.toList, ts.toList with
    | [x], t :: _ => alen P t (ev s x) (kv o.dst K s s.hp)
    | _, _ => False
  | _ => False

/-- the slot that a guard looks at -/
def gslot (ops : Array Oper) (j : Nat) : Option Nat := (ops[j]?).bind (·.dst)

/-- one operation with its guard -/
def gop (P : Program) (n0 : Nat) (ops : Array Oper) (o : Oper) (s : St) (K : St → Prop) : Prop :=
  match o.guard with
  | none => aop P n0 o s K
  | some (j, want) =>
    match gslot ops j with
    | some d =>
      match lk s.sl d with
      | .d (.v (.bool b)) => (b = want → aop P n0 o ⟨(d, vb want) :: s.sl, s.hp⟩ K) ∧ (b = !want → K (put ⟨(d, vb (!want)) :: s.sl, s.hp⟩ o.dst .top))
      | _ => False
    | none => False

def aops (P : Program) (n0 : Nat) (ops : Array Oper) : List Oper → (St → Prop) → St → Prop
  | [], K, s => K s
  | o :: rest, K, s => gop P n0 ops o s (aops P n0 ops rest K)

/-- no entry is named -/
def noid : AV → Bool
  | .d _ => true
  | .ep _ _ => true
  | .top => true
  | .agg cs => noidL cs
  | .tup cs => noidL cs
  | _ => false
where
  noidL : List AV → Bool
    | [] => true
    | c :: cs => noid c && noidL cs

/-- what is read as plain data -/
inductive Rd (hp : List Ent) : AV → AV → Prop
  | same (x : AV) (h : noid x = true) : Rd hp x x
  | ref (id lo len sz : Nat) (elems : List (List D)) (h : hp[id]? = some (.arr sz elems)) (hl : lo + len ≤ elems.length) :
      Rd hp (.ref id lo len) (.d (.sl sz ((elems.drop lo).take len)))
  | nil (sz : Nat) : Rd hp (.d (.v (.slice none 0 0))) (.d (.sl sz []))
  | agg (cs ds : List AV) (hl : ds.length = cs.length) (h : ∀ (i : Nat) (c d : AV), cs[i]? = some c → ds[i]? = some d → Rd hp c d) : Rd hp (.agg cs) (.agg ds)

def RdL (hp : List Ent) : List AV → List AV → Prop
  | [], [] => True
  | x :: xs, d :: ds => Rd hp x d ∧ RdL hp xs ds
  | _, _ => False

/-- nothing in memory -/
def flat : AV → Bool
  | .d (.v _) => true
  | .agg cs => flatL cs
  | .tup cs => flatL cs
  | _ => false
where
  flatL : List AV → Bool
    | [] => true
    | c :: cs => flat c && flatL cs

/-- a call that only computes a value with nothing in memory -/
def qcx (P : Program) (k : FuncId) (args : List AV) (dst : Option Nat) (K : St → Prop) (s : St) : Prop :=
  ∃ dargs x, RdL s.hp args dargs ∧ GC P k dargs [] (fun r _ => r = x) ∧ flat x = true ∧ K (put s dst x)
def qcall (P : Program) (k : FuncId) (as : List Operand) (dst : Option Nat) (K : St → Prop) (s : St) : Prop := qcx P k (as.map (ev s)) dst K s

/-- one operation of a region that draws its order: it only reads, or calls what only computes -/
def qop (P : Program) (n0 : Nat) (o : Oper) (s : St) (K : St → Prop) : Prop :=
  match o.op with
  | .move _ | .assign _ | .pick _ _ _ | .extract _ _ | .binOp _ _ _ _ _ | .unOp _ _ _ | .load _ _ | .fieldAddr _ _ _ | .indexAddr _ _ _ | .build _ _ | .field _ _ _ => aop P n0 o s K
  | .call { callee := .builtin .len, .. } => aop P n0 o s K
  | .call { callee := .value (.func k), args := as, .. } => qcall P k as.toList o.dst K s
  | _ => False

def gqop (P : Program) (n0 : Nat) (ops : Array Oper) (o : Oper) (s : St) (K : St → Prop) : Prop :=
  match o.guard with
  | none => qop P n0 o s K
  | some (j, want) =>
    match gslot ops j with
    | some d =>
      match lk s.sl d with
      | .d (.v (.bool b)) => (b = want → qop P n0 o ⟨(d, vb want) :: s.sl, s.hp⟩ K) ∧ (b = !want → K (put ⟨(d, vb (!want)) :: s.sl, s.hp⟩ o.dst .top))
      | _ => False
    | none => False

def qops (P : Program) (n0 : Nat) (ops : Array Oper) : List Oper → (St → Prop) → St → Prop
  | [], K, s => K s
  | o :: rest, K, s => gqop P n0 ops o s (qops P n0 ops rest K)

/-- a smaller description: s' says of some slots what s says of them -/
def sle (s : List (Nat × AV)) : List (Nat × AV) → Prop
  | [] => True
  | (t, v) :: rest => lk s t = v ∧ sle s rest

def blw (n : Nat) : AV → Bool
  | .d _ | .ep _ _ | .top => true
  | .ref id _ _ | .bx id _ | .ptr id _ _ => decide (id < n)
  | .agg cs | .tup cs => blwL n cs
where
  blwL (n : Nat) : List AV → Bool
    | [] => true
    | c :: cs => blw n c && blwL n cs

def blwE (n : Nat) : Ent → Bool
  | .box cells => blw.blwL n cells
  | _ => true

def blwS (n : Nat) : List (Nat × AV) → Bool
  | [] => true
  | (_, v) :: r => blw n v && blwS n r
def blwH (n : Nat) : List Ent → Bool
  | [] => true
  | e :: r => blwE n e && blwH n r

def thn (n : St → Prop) (Q : Exit → St → Prop) : Exit → St → Prop
  | .normal, s => n s
  | e, s => Q e s

def blq (id : Nat) (Q : Exit → St → Prop) : Exit → St → Prop
  | .exit i, s => if i = id then Q .normal s else Q (.exit i) s
  | e, s => Q e s

/-- J n s: so it may stand at the head of a round, with at most n rounds to come -/
def lpq (n0 : Nat) (J : Nat → St → Prop) (n : Nat) (Q : Exit → St → Prop) : Exit → St → Prop
  | .normal, s => ∃ k s1, Wk n0 s s1 ∧ J k s1 ∧ k < n
  | e, s => Q e s

def acnd (P : Program) (x : AV) (A B : Prop) : Prop :=
  match x with
  | .d (.v (.bool b)) => (b = true → A) ∧ (b = false → B)
  | _ => False

def acode (P : Program) (n0 : Nat) : Code → (Exit → St → Prop) → St → Prop
  | .skip, Q, s => Q .normal s
  | .seq a b, Q, s => acode P n0 a (thn (acode P n0 b Q) Q) s
  | .cond c x y, Q, s => acnd P (ev s c) (acode P n0 x Q s) (acode P n0 y Q s)
  | .block id c, Q, s => acode P n0 c (blq id Q) s
  | .loop c, Q, s => ∃ (J : Nat → St → Prop), (∃ n s0, Wk n0 s s0 ∧ J n s0) ∧ ∀ n s0, J n s0 → acode P n0 c (lpq n0 J n Q) s0
  | .exit id, Q, s => Q (.exit id) s
  | .ret, Q, s => Q .ret s
  | .region _ ops false, Q, s => aops P n0 ops ops.toList (Q .normal) s
  | .region _ ops true, Q, s => (Region.lexB .any ops = true ∧ P.follows .mixedOrders = true) ∧ qops P n0 ops ops.toList (Q .normal) s
  | _, _, _ => False

end Eng
end Go.Proofs.Ytbfonmedgcemjaa
