/-
An abstract interpreter of the program's code on plain data: part B, the interpreter.
No condition: everything here is stated over any program.
-/
import Derived.Test.YtgcmahhejblpkaaVA
namespace Go.Proofs.Ytgcmahhejblpkaa
namespace Eng
set_option linter.unusedVariables false
set_option linter.unusedSimpArgs false

structure St where
  sl : List (Nat × AV)
  hp : List Ent

def lk : List (Nat × AV) → Nat → AV
  | [], _ => .top
  | (k, v) :: l, t => if k = t then v else lk l t

abbrev vi (n : Int) : AV := .v (.int .i64 n)
abbrev vb (b : Bool) : AV := .v (.bool b)
abbrev vs (s : ByteArray) : AV := .v (.string s)

def AV.lit : Value → AV
  | .agg cs => .agg (cs.toList.map .v)
  | x => .v x

def evS (sl : List (Nat × AV)) : Operand → AV
  | .tmp t => lk sl t
  | .const v => AV.lit v
  | _ => .top

def put (s : St) (dst : Option Nat) (v : AV) : St :=
  match dst with
  | some d => ⟨(d, v) :: s.sl, s.hp⟩
  | none => s

/-- where a function began -/
structure Bs where
  m : Mp
  w : World
  F : Nat → Prop
  hp : List Ent

/-- the state describes the frame and the world -/
structure R (B : Bs) (m : Mp) (F : Nat → Prop) (N : Nat) (s : St) (a : Act) (w : World) : Prop where
  hp : RelH m w F s.hp
  sl : ∀ t, RepA m w F (lk s.sl t) (a.tmps.getD t undef)
  size : a.tmps.size = N
  defers : a.defers = []
  base : Tr B.m B.w B.F B.hp m w F s.hp

/-- s' is a weaker description of whatever s describes -/
def Wk (n0 : Nat) (s s' : St) : Prop :=
  ∀ (B : Bs) (m : Mp) (F : Nat → Prop) (N : Nat) (a : Act) (w : World), B.hp.length = n0 → B.m.length = n0 → R B m F N s a w → ∃ m' F', R B m' F' N s' a w

/- facts on types -/
def tsz (P : Program) (t : TypeId) : Option Nat := (P.info? t).map (·.size)
def tby (P : Program) (t : TypeId) : Option Nat := (P.info? t).map (·.bytes)
def tagg (P : Program) (t : TypeId) : Option Bool :=
  match P.underlying t with
  | some (.struct _) | some (.array _ _) => some true
  | some _ => some false
  | none => none
def tfld (P : Program) (t : TypeId) (f : Nat) : Option (Nat × TypeId) :=
  match P.underlying t with
  | some (.struct fs) => (fs[f]?).map fun x => (x.offset, x.type)
  | _ => none
/-- a field's place, if it is not empty -/
def tfo (P : Program) (t : TypeId) (f : Nat) : Option Nat :=
  match tfld P t f with
  | some (off, ft) => match tsz P ft with
    | some (_ + 1) => some off
    | _ => none
  | none => none
/-- the places of a struct's fields -/
def tpl (P : Program) (t : TypeId) : Option (List (Nat × Nat)) :=
  match P.underlying t with
  | some (.struct fs) => fs.toList.mapM (fun f => (P.info? f.type).map fun i => (f.offset, i.size))
  | _ => none
def tel (P : Program) (t : TypeId) : Option TypeId :=
  match P.underlying t with
  | some (.slice e) => some e
  | _ => none
def tzero (P : Program) (t : TypeId) : Option Value := (P.info? t).bind (·.zero)

inductive Kd where | bool | int (k : IntKind) | string | slice | struct | other
def tkd (P : Program) (t : TypeId) : Option Kd :=
  match P.underlying t with
  | some .bool => some .bool
  | some (.int k) => some (.int k)
  | some .string => some .string
  | some (.slice _) => some .slice
  | some (.struct _) => some .struct
  | some _ => some .other
  | none => none

/-- how many cells a type has, if '==' at it goes over integers alone -/
def teqF (g : TypeId → Option Nat) (P : Program) : List Field → Nat → Option Nat
  | [], off => some off
  | f :: fs, off =>
    match g f.type with
    | some n => if f.offset = off ∧ f.name ≠ "_" ∧ tsz P f.type = some n ∧ 0 < n then teqF g P fs (off + n) else none
    | none => none
def teq (P : Program) : Nat → TypeId → Option Nat
  | 0, _ => none
  | d + 1, t =>
    match P.underlying t with
    | some (.int _) => some 1
    | some (.struct fs) => if P.stoodInHeld t = false then teqF (teq P d) P fs.toList 0 else none
    | _ => none
/-- a struct of integers that may be compared -/
def teqs (P : Program) (t : TypeId) : Option Nat :=
  match P.underlying t with
  | some (.struct _) => if P.eqGuardType P.depth t = false then teq P 8 t else none
  | _ => none

/-- THE CONTRACT OF A CALL: from these arguments, over these entries -/
def GC (P : Program) (k : FuncId) (args : List AV) (hp : List Ent) (K : AV → List Ent → Prop) : Prop :=
  (∀ (args : Array Value) (w : World), (callFunc k args).run P w = .ok (.enter k args) w) ∧
  ∀ (m : Mp) (w : World) (F : Nat → Prop) (vals : List Value), RelH m w F hp → RepL m w F args vals →
    Calls P k vals.toArray w fun e w' => ∃ v r hp' m' F', e = .returned v ∧ K r hp' ∧ RelH m' w' F' hp' ∧ RepA m' w' F' r v ∧ Tr m w F hp m' w' F' hp'

/- computing -/
def ibin (op : BinOp) (k : IntKind) (a b : Int) (c : AV → Prop) : Prop :=
  match op with
  | .add => c (.v (.int k (k.wrap (a + b))))
  | .sub => c (.v (.int k (k.wrap (a - b))))
  | .mul => c (.v (.int k (k.wrap (a * b))))
  | .quo => b ≠ 0 ∧ c (.v (.int k (k.wrap (a.tdiv b))))
  | .rem => b ≠ 0 ∧ c (.v (.int k (a.tmod b)))
  | .eql => c (vb (a == b))
  | .neq => c (vb (a != b))
  | .lss => c (vb (decide (a < b)))
  | .leq => c (vb (decide (a ≤ b)))
  | .gtr => c (vb (decide (b < a)))
  | .geq => c (vb (decide (b ≤ a)))
  | .and => c (.v (.int k (k.wrap (BitVec.ofInt k.bits a &&& BitVec.ofInt k.bits b).toNat)))
  | .shr => 0 ≤ b ∧ c (.v (.int k (a.fdiv (2 ^ (min b.toNat k.bits)))))
  | _ => False

def sbin (op : BinOp) (a b : ByteArray) (c : AV → Prop) : Prop :=
  match op with
  | .add => ((a.size + b.size : Nat) : Int) ≤ IntKind.i64.max ∧ c (vs (a ++ b))
  | .eql => c (vb (a.toList == b.toList))
  | .neq => c (vb (!(a.toList == b.toList)))
  | .lss => c (vb (Op.bytesLess a.toList b.toList))
  | _ => False

def bbin (op : BinOp) (a b : Bool) (c : AV → Prop) : Prop :=
  match op with
  | .eql => c (vb (a == b))
  | .neq => c (vb (!(a == b)))
  | _ => False

/-- two structs of integers -/
def aeq : List AV → List AV → Option Bool
  | [], [] => some true
  | .v (.int k a) :: xs, .v (.int k' b) :: ys => if k = k' then (aeq xs ys).map (a == b && ·) else none
  | _, _ => none

def abin (P : Program) (op : BinOp) (t : TypeId) (x y : AV) (c : AV → Prop) : Prop :=
  match x, y with
  | .v (.int k a), .v (.int k' b) => (k = k' ∨ op = .shr) ∧ ibin op k a b c
  | .v (.string a), .v (.string b) => sbin op a b c
  | .v (.bool a), .v (.bool b) => P.underlying t = some .bool ∧ bbin op a b c
  | .agg xs, .agg ys => teqs P t = some xs.length ∧ match aeq xs ys with
    | some r => match op with
      | .eql => c (vb r)
      | .neq => c (vb (!r))
      | _ => False
    | none => False
  | _, _ => False

def aun (op : UnOp) (x : AV) (c : AV → Prop) : Prop :=
  match op, x with
  | .neg, .v (.int k n) => c (.v (.int k (k.wrap (0 - n))))
  | .not, .v (.bool b) => c (vb (!b))
  | _, _ => False

def apick (x a b : AV) (c : AV → Prop) : Prop :=
  match x with
  | .v (.bool t) => (t = true → c a) ∧ (t = false → c b)
  | _ => False

def aext (x : AV) (i : Nat) (c : AV → Prop) : Prop :=
  match x with
  | .tup l => match l[i]? with | some v => c v | none => False
  | _ => False

/-- the length of what reads as a slice or a string -/
def alen (P : Program) (t : TypeId) (x : AV) (c : AV → Prop) : Prop :=
  match tkd P t, x with
  | some .slice, .sl _ xs => c (vi xs.length)
  | some .string, .v (.string s) => c (vi s.size)
  | some .slice, .v (.slice _ n _) => c (vi n)
  | some .slice, .ref _ n => c (vi n)
  | some .slice, .rs _ _ n => c (vi n)
  | _, _ => False

/-- what lies in an element from a cell on, n cells -/
def rd (agg : Bool) (n o : Nat) (cells : List AV) (c : AV → Prop) : Prop :=
  if agg then (0 < n ∧ o + n ≤ cells.length) ∧ c (.agg ((cells.drop o).take n))
  else match cells[o]? with
    | some x => c x
    | none => False

def aload (P : Program) (t : TypeId) (hp : List Ent) (x : AV) (c : AV → Prop) : Prop :=
  match tsz P t, tagg P t with
  | some n, some g =>
    match x with
    | .ep e o => rd g n o e c
    | .ptr id i o => match hp[id]? with
      | some (.arr sz elems) => i < elems.length ∧ rd g n o ((elems[i]?).getD []) c
      | _ => False
    | _ => False
  | _, _ => False

/-- the cells of a value -/
def acells : AV → List AV
  | .agg cs => cs
  | x => [x]

def wr (l : List AV) (o : Nat) (vs : List AV) : List AV := l.take o ++ vs ++ l.drop (o + vs.length)

def astore (P : Program) (t : TypeId) (hp : List Ent) (x v : AV) (K : List Ent → Prop) : Prop :=
  match tsz P t with
  | some n =>
    ((acells v).length = n ∧ oneL (acells v) = true) ∧
    match x with
    | .ptr id i o => match hp[id]? with
      | some (.arr sz elems) => i < elems.length ∧ o + n ≤ ((elems[i]?).getD []).length ∧ K (hp.set id (.arr sz (elems.set i (wr ((elems[i]?).getD []) o (acells v)))))
      | _ => False
    | _ => False
  | none => False

def afld (P : Program) (t : TypeId) (f : Nat) (x : AV) (c : AV → Prop) : Prop :=
  match tfo P t f with
  | some off =>
    match x with
    | .ep e o => c (.ep e (o + off))
    | .ptr id i o => c (.ptr id i (o + off))
    | _ => False
  | none => False

/-- x[i]'s address -/
def aidx (P : Program) (t : TypeId) (hp : List Ent) (x i : AV) (c : AV → Prop) : Prop :=
  match tel P t, i with
  | some et, .v (.int _ n) =>
    match tsz P et, x with
    | some z, .sl sz xs => (0 ≤ n ∧ n < xs.length) ∧ sz = z ∧ c (.ep ((xs[n.toNat]?).getD []) 0)
    | some z, .ref id len => (0 ≤ n ∧ n < len) ∧ match hp[id]? with
      | some (.arr sz _) => sz = z ∧ c (.ptr id n.toNat 0)
      | _ => False
    | some z, .rs id lo len => (0 ≤ n ∧ n < len) ∧ match hp[id]? with
      | some (.arr sz _) => sz = z ∧ c (.ptr id (lo + n.toNat) 0)
      | _ => False
    | _, _ => False
  | _, _ => False

/-- the byte s[i] -/
def aind (P : Program) (t : TypeId) (x i : AV) (c : AV → Prop) : Prop :=
  match tkd P t, x, i with
  | some .string, .v (.string s), .v (.int _ n) => (0 ≤ n ∧ n < s.size) ∧ c (.v (.int .u8 ((s.data.toList[n.toNat]?).getD 0).toNat))
  | _, _, _ => False

/-- a length, where there is one -/
def slen : AV → Option Nat
  | .sl _ xs => some xs.length
  | .v (.string s) => some s.size
  | .v (.slice none 0 0) => some 0
  | .ref _ n => some n
  | .rs _ _ n => some n
  | _ => none
/-- a bound, or what stands for it -/
def sbd (d : Int) : Option AV → Option Int
  | none => some d
  | some (.v (.int _ n)) => some n
  | _ => none
/-- x[l:h] -/
def aslice (P : Program) (t : TypeId) (hp : List Ent) (x : AV) (lo hi : Option AV) (c : AV → Prop) : Prop :=
  match slen x with
  | some len =>
    match sbd 0 lo, sbd len hi with
    | some l, some h => (0 ≤ l ∧ l ≤ h ∧ h ≤ (len : Int)) ∧
      match tkd P t, x with
      | some .string, .v (.string s) => c (vs (s.extract l.toNat h.toNat))
      | some .slice, .sl sz xs => (tel P t).bind (tsz P) = some sz ∧ c (.sl sz ((xs.take h.toNat).drop l.toNat))
      | some .slice, .v (.slice none 0 0) => (tel P t).bind (tsz P) ≠ none ∧ c (.v (.slice none 0 0))
      | some .slice, .ref id _ => match hp[id]? with
        | some (.arr sz _) => (tel P t).bind (tsz P) = some sz ∧ c (.rs id l.toNat (h.toNat - l.toNat))
        | _ => False
      | some .slice, .rs id lo _ => match hp[id]? with
        | some (.arr sz _) => (tel P t).bind (tsz P) = some sz ∧ c (.rs id (lo + l.toNat) (h.toNat - l.toNat))
        | _ => False
      | _, _ => False
    | _, _ => False
  | none => False

/-- bytes in a list of elements -/
def byts : List (List AV) → Option (List UInt8)
  | [] => some []
  | [.v (.int .u8 n)] :: l => (byts l).map (UInt8.ofNat n.toNat :: ·)
  | _ => none

/-- what reads as a slice -/
def srd (hp : List Ent) (sz : Nat) : AV → Option (List (List AV))
  | .v (.slice none 0 0) => some []
  | .sl s xs => if s = sz then some xs else none
  | .ref id len => match hp[id]? with
    | some (.arr s elems) => if s = sz ∧ len ≤ elems.length then some (elems.take len) else none
    | _ => none
  | .rs id lo len => match hp[id]? with
    | some (.arr s elems) => if s = sz ∧ lo + len ≤ elems.length then some ((elems.drop lo).take len) else none
    | _ => none
  | _ => none

def aconv (P : Program) (t u : TypeId) (hp : List Ent) (x : AV) (c : AV → Prop) : Prop :=
  match tkd P t, tkd P u, x with
  | some (.int _), some (.int k), .v (.int _ n) => c (.v (.int k (k.wrap n)))
  | some .slice, some .string, x => (tel P t).bind (tkd P) matches some (.int .u8) ∧ match (srd hp 1 x).bind byts with
    | some bs => c (vs ⟨bs.toArray⟩)
    | none => False
  | _, _, _ => False

/-- a field of a struct's value -/
def afval (P : Program) (t : TypeId) (f : Nat) (x : AV) (c : AV → Prop) : Prop :=
  match tfld P t f, x with
  | some (off, ft), .agg cs =>
    match tsz P ft, tagg P ft with
    | some n, some g => rd g n off cs c
    | _, _ => False
  | _, _ => False

/-- parts of a struct, laid over cells -/
def abld (pl : List (Nat × Nat)) : List (Nat × AV) → List AV → (AV → Prop) → Prop
  | [], cells, c => c (.agg cells)
  | (f, x) :: rest, cells, c =>
    match pl[f]? with
    | some (off, n) => (oneL (acells x) = true ∧ (acells x).length = n ∧ off + n ≤ cells.length) ∧ abld pl rest (wr cells off (acells x)) c
    | none => False

def abuild (P : Program) (t : TypeId) (ps : List (Nat × AV)) (c : AV → Prop) : Prop :=
  match tzero P t, tpl P t with
  | some (.agg z), some pl => abld pl ps (z.toList.map .v) c
  | _, _ => False

def evps (e : Operand → AV) : List (Nat × Operand) → List (Nat × AV)
  | [] => []
  | (i, x) :: l => (i, e x) :: evps e l

def amm (mx : Bool) (x y : AV) (c : AV → Prop) : Prop :=
  match x, y with
  | .v (.int k a), .v (.int _ b) => c (.v (.int k (if mx then (if b > a then b else a) else (if b < a then b else a))))
  | _, _ => False

/-- nothing of an own block is named -/
def noid : AV → Bool
  | .v _ | .sl _ _ | .ep _ _ | .top => true
  | .agg cs => noidL cs
  | .tup cs => noidL cs
  | _ => false
where
  noidL : List AV → Bool
    | [] => true
    | c :: cs => noid c && noidL cs

def plnLL : List (List AV) → Bool
  | [] => true
  | e :: r => e.all pln && plnLL r

/-- what is read as plain data -/
inductive Rd (hp : List Ent) : AV → AV → Prop
  | same (x : AV) (h : noid x = true) : Rd hp x x
  | ref (id len sz : Nat) (elems : List (List AV)) (h : hp[id]? = some (.arr sz elems)) (hl : len ≤ elems.length) (hq : plnLL elems = true) : Rd hp (.ref id len) (.sl sz (elems.take len))
  | rs (id lo len sz : Nat) (elems : List (List AV)) (h : hp[id]? = some (.arr sz elems)) (hl : lo + len ≤ elems.length) (hq : plnLL elems = true) : Rd hp (.rs id lo len) (.sl sz ((elems.drop lo).take len))
  | nil (sz : Nat) : Rd hp (.v (.slice none 0 0)) (.sl sz [])
  | agg (cs ds : List AV) (hl : ds.length = cs.length) (h : ∀ (i : Nat) (c d : AV), cs[i]? = some c → ds[i]? = some d → Rd hp c d) : Rd hp (.agg cs) (.agg ds)

def RdL (hp : List Ent) : List AV → List AV → Prop
  | [], [] => True
  | x :: xs, d :: ds => Rd hp x d ∧ RdL hp xs ds
  | _, _ => False

/-- nothing in memory -/
def flat : AV → Bool
  | .v _ => true
  | .agg cs => flatL cs
  | .tup cs => flatL cs
  | _ => false
where
  flatL : List AV → Bool
    | [] => true
    | c :: cs => flat c && flatL cs

/-- a call that only computes a value with nothing in memory -/
def qcall (P : Program) (k : FuncId) (args : List AV) (hp : List Ent) (c : AV → Prop) : Prop :=
  ∃ dargs x, RdL hp args dargs ∧ GC P k dargs [] (fun r _ => r = x) ∧ flat x = true ∧ c x

/-- one operation that only reads -/
def aval (P : Program) (op : Op) (e : Operand → AV) (hp : List Ent) (c : AV → Prop) : Prop :=
  match op with
  | .move x => c (e x)
  | .assign x => c (e x)
  | .pick x a b => apick (e x) (e a) (e b) c
  | .extract t i => aext (e t) i c
  | .binOp op t x y _ => abin P op t (e x) (e y) c
  | .unOp op _ x => aun op (e x) c
  | .load t a => aload P t hp (e a) c
  | .fieldAddr t x f => afld P t f (e x) c
  | .indexAddr t x i => aidx P t hp (e x) (e i) c
  | .index t x i => aind P t (e x) (e i) c
  | .slice t x lo hi none => aslice P t hp (e x) (lo.map e) (hi.map e) c
  | .convert t u x => aconv P t u hp (e x) c
  | .nilCheck x => match e x with
    | .ptr id i o => c (.ptr id i o)
    | .ep l o => c (.ep l o)
    | _ => False
  | .build t ps => abuild P t (evps e ps.toList) c
  | .field t x f => afval P t f (e x) c
  | .call { callee := .value (.func k), args := as, .. } => qcall P k (as.toList.map e) hp c
  | .call { callee := .builtin .len, args := as, argTypes := ts } => match as.toList, ts.toList with
    | [x], t :: _ => alen P t (e x) c
    | _, _ => False
  | .call { callee := .builtin .max, args := as, .. } => match as.toList with
    | [x, y] => amm true (e x) (e y) c
    | _ => False
  | .call { callee := .builtin .min, args := as, .. } => match as.toList with
    | [x, y] => amm false (e x) (e y) c
    | _ => False
  | _ => False

def abox (hp : List Ent) (v : AV) (c : AV → List Ent → Prop) : Prop :=
  oneL (acells v) = true ∧ c (.ptr hp.length 0 0) (hp ++ [.arr (acells v).length [acells v]])

def azero (P : Program) (t : TypeId) (hp : List Ent) (c : AV → List Ent → Prop) : Prop :=
  match tzero P t with
  | some z => oneL (acells (AV.lit z)) = true ∧ c (.ptr hp.length 0 0) (hp ++ [.arr (acells (AV.lit z)).length [acells (AV.lit z)]])
  | none => False

def amake (P : Program) (t : TypeId) (hp : List Ent) (l cap : AV) (c : AV → List Ent → Prop) : Prop :=
  match tel P t, l, cap with
  | some et, .v (.int _ n), .v (.int _ n') =>
    match tzero P et, tsz P et, tby P et with
    | some z, some sz, some by_ => n = n' ∧ (0 ≤ n ∧ n ≤ 1099511627776) ∧ (0 < sz ∧ by_ ≤ 64) ∧ z.cells.toList.length = sz ∧ oneL (z.cells.toList.map .v) = true ∧
      c (.ref hp.length n.toNat) (hp ++ [.arr sz (List.replicate n.toNat (z.cells.toList.map .v))])
    | _, _, _ => False
  | _, _, _ => False

/-- the parts of a slice's literal: all of them, in order -/
def bparts (sz : Nat) : Nat → List (Nat × AV) → Option (List (List AV))
  | _, [] => some []
  | k, (i, x) :: r => if i = k ∧ (acells x).length = sz ∧ oneL (acells x) = true then (bparts sz (k + 1) r).map (acells x :: ·) else none

def abldS (P : Program) (t : TypeId) (len : Nat) (ps : List (Nat × AV)) (hp : List Ent) (c : AV → List Ent → Prop) : Prop :=
  match (tel P t).bind (tsz P), (tel P t).bind (tzero P) with
  | some sz, some z => (0 < sz ∧ len * sz ≤ 16777216 ∧ ps.length = len ∧ z.cells.toList.length = sz) ∧ match bparts sz 0 ps with
    | some els => c (.ref hp.length len) (hp ++ [.arr sz els])
    | none => False
  | _, _ => False

def aappend (P : Program) (t : TypeId) (hp : List Ent) (x y : AV) (c : AV → List Ent → Prop) : Prop :=
  match (tel P t).bind (tsz P), (tel P t).bind (tby P), (tel P t).bind (tzero P) with
  | some sz, some by_, some z => (0 < sz ∧ by_ ≤ 64 ∧ z.cells.toList.length = sz) ∧ match srd hp sz y with
    | some ys => match x with
      | .v (.slice none 0 0) => ys.length ≤ 1099511627776 ∧ c (.ref hp.length ys.length) (hp ++ [.arr sz ys])
      | .ref id len => match hp[id]? with
        | some (.arr s elems) => (s = sz ∧ len = elems.length ∧ len + ys.length ≤ 1099511627776) ∧ c (.ref hp.length (len + ys.length)) (hp.set id .dead ++ [.arr sz (elems ++ ys)])
        | _ => False
      | _ => False
    | none => False
  | _, _, _ => False

/-- copy(x, y), where x is a view of an own block -/
def acopy (P : Program) (t : TypeId) (hp : List Ent) (x y : AV) (c : AV → List Ent → Prop) : Prop :=
  match (tel P t).bind (tsz P) with
  | some sz => 0 < sz ∧ match srd hp sz y with
    | some ys => match x with
      | .rs id lo len => match hp[id]? with
        | some (.arr s elems) => (s = sz ∧ lo + len ≤ elems.length) ∧ c (vi (ys.take len).length) (hp.set id (.arr sz (elems.take lo ++ ys.take len ++ elems.drop (lo + (ys.take len).length))))
        | _ => False
      | _ => False
    | none => False
  | none => False

/-- one operation that makes or writes memory, or calls -/
def aeff (P : Program) (op : Op) (e : Operand → AV) (hp : List Ent) (c : AV → List Ent → Prop) : Prop :=
  match op with
  | .box t v => abox hp (e v) c
  | .alloc t => azero P t hp c
  | .makeSlice t l cap => amake P t hp (e l) (e cap) c
  | .buildSlice t len ps => abldS P t len (evps e ps.toList) hp c
  | .store t a v => astore P t hp (e a) (e v) (c .top)
  | .call { callee := .value (.func k), args := as, .. } => GC P k (as.toList.map e) hp c
  | .call { callee := .builtin .append, args := as, argTypes := ts } => match as.toList, ts.toList with
    | [x, y], [t, t'] => t = t' ∧ aappend P t hp (e x) (e y) c
    | _, _ => False
  | .call { callee := .builtin .copy, args := as, argTypes := ts } => match as.toList, ts.toList with
    | [x, y], t :: _ => acopy P t hp (e x) (e y) c
    | _, _ => False
  | _ => False

/-- does an operation make or write memory, or call? -/
def isEff : Op → Bool
  | .box _ _ | .alloc _ | .makeSlice _ _ _ | .buildSlice _ _ _ | .store _ _ _ => true
  | .call { callee := .value _, .. } => true
  | .call { callee := .builtin .append, .. } => true
  | .call { callee := .builtin .copy, .. } => true
  | _ => false

/-- what follows an operation -/
def kv (dst : Option Nat) (K : St → Prop) (s : St) (v : AV) : Prop := K (put s dst v)
def ke (dst : Option Nat) (K : St → Prop) (sl : List (Nat × AV)) (v : AV) (hp : List Ent) : Prop := K (put ⟨sl, hp⟩ dst v)

def aop (P : Program) (o : Oper) (s : St) (K : St → Prop) : Prop :=
  if isEff o.op then aeff P o.op (evS s.sl) s.hp (ke o.dst K s.sl) else aval P o.op (evS s.sl) s.hp (kv o.dst K s)

/-- the slot that a guard looks at -/
def gslot (ops : Array Oper) (j : Nat) : Option Nat := (ops[j]?).bind (·.dst)

/-- what a slot holds whose operation was passed over -/
abbrev ud : AV := .v (.tuple #[])
/-- what follows, where a guard says so -/
def gd (ops : Array Oper) (o : Oper) (s : St) (yes no : St → Prop) : Prop :=
  match o.guard with
  | none => yes s
  | some (j, want) =>
    match gslot ops j with
    | some d =>
      match lk s.sl d with
      | .v (.bool b) => (b = want → yes ⟨(d, vb want) :: s.sl, s.hp⟩) ∧ (b = !want → no (put ⟨(d, vb (!want)) :: s.sl, s.hp⟩ o.dst ud))
      | .v (.tuple _) => no (put s o.dst ud)
      | _ => False
    | none => False

/-- one operation with its guard -/
def gop (P : Program) (ops : Array Oper) (o : Oper) (s : St) (K : St → Prop) : Prop := gd ops o s (fun s => aop P o s K) K

def aops (P : Program) (ops : Array Oper) : List Oper → (St → Prop) → St → Prop
  | [], K, s => K s
  | o :: rest, K, s => gop P ops o s (aops P ops rest K)

/- regions that draw their order -/

/-- an order: what only reads as soon as it may be carried out; of all else, each that may come up -/
inductive Plan where
  | done
  | val (i : Nat) (rest : Plan)
  | eff (brs : List (Nat × List Nat × Plan))

/-- the own blocks that a content names -/
def ids : AV → List Nat
  | .ref id _ | .rs id _ _ | .ptr id _ _ => [id]
  | .agg cs | .tup cs => idsL cs
  | _ => []
where
  idsL : List AV → List Nat
    | [] => []
    | c :: cs => ids c ++ idsL cs

/-- the operands by which an operation that only reads comes to memory -/
def rops : Op → List Operand
  | .load _ a => [a]
  | .indexAddr _ x _ => [x]
  | .slice _ x _ _ _ => [x]
  | .convert _ _ x => [x]
  | .call { callee := .value _, args := as, .. } => as.toList
  | _ => []
def rids (e : Operand → AV) (op : Op) : List Nat := ids.idsL ((rops op).map e)

/-- the blocks of these numbers are left alone -/
def keep (is : List Nat) (hp : List Ent) (c : AV → List Ent → Prop) (v : AV) (hp' : List Ent) : Prop := (∀ i ∈ is, hp'[i]? = hp[i]?) ∧ c v hp'

/-- an operation that only reads, in such a region: a call too -/
def gval (P : Program) (ops : Array Oper) (o : Oper) (s : St) (K : St → Prop) : Prop := gd ops o s (fun s => aval P o.op (evS s.sl) s.hp (kv o.dst K s)) K
/-- an operation that makes or writes, in such a region -/
def geff (P : Program) (ops : Array Oper) (is : List Nat) (o : Oper) (s : St) (K : St → Prop) : Prop := gd ops o s (fun s => aeff P o.op (evS s.sl) s.hp (keep is s.hp (ke o.dst K s.sl))) K

/-- the blocks that operations of these numbers have read -/
def pids (cs : List Nat) : List (Nat × List Nat) → List Nat
  | [] => []
  | (i, l) :: r => (if cs.contains i then l else []) ++ pids cs r

mutual
def apl (P : Program) (ops : Array Oper) (K : St → Prop) : Plan → List (Nat × List Nat) → St → Prop
  | .done, _, s => K s
  | .val i rest, is, s => match ops[i]? with
    | some o => gval P ops o s (apl P ops K rest ((i, rids (evS s.sl) o.op) :: is))
    | none => False
  | .eff brs, is, s => apls P ops K brs is s
def apls (P : Program) (ops : Array Oper) (K : St → Prop) : List (Nat × List Nat × Plan) → List (Nat × List Nat) → St → Prop
  | [], _, _ => True
  | (j, cs, p) :: r, is, s => (match ops[j]? with
    | some o => geff P ops (pids cs is) o s (apl P ops K p is)
    | none => False) ∧ apls P ops K r is s
end

/-- what an operation waits for -/
def preds (ops : Array Oper) (j : Nat) : List Nat :=
  match ops[j]? with
  | some o => (o.after.toList.filter (Region.binds .any)).map (·.on)
  | none => []
def anc (ops : Array Oper) : Nat → Nat → List Nat
  | 0, _ => []
  | n + 1, j => preds ops j ++ (preds ops j).flatMap (anc ops n)

/-- the operands of the operations that are known here -/
def opnds : Op → List Operand
  | .move x | .assign x | .extract x _ | .unOp _ _ x | .load _ x | .fieldAddr _ x _ | .convert _ _ x | .nilCheck x | .field _ x _ | .box _ x => [x]
  | .pick x y z => [x, y, z]
  | .binOp _ _ x y _ | .indexAddr _ x y | .index _ x y | .store _ x y | .makeSlice _ x y => [x, y]
  | .slice _ x lo hi _ => x :: (lo.toList ++ hi.toList)
  | .build _ ps | .buildSlice _ _ ps => ps.toList.map (·.2)
  | .call c => c.args.toList
  | _ => []
/-- the slots that an operation looks at -/
def looks (ops : Array Oper) (o : Oper) : List Nat :=
  ((opnds o.op).filterMap fun | .tmp t => some t | _ => none) ++ (match o.guard with | some (j, _) => (gslot ops j).toList | none => [])
def apart (ops : Array Oper) (o p : Oper) : Bool :=
  (match o.dst with | some d => !(looks ops p).contains d | none => true) && (match p.dst with | some d => !(looks ops o).contains d | none => true) &&
  (match o.dst, p.dst with | some d, some d' => d != d' | _, _ => true)

/-- may operation i be taken first? -/
def firstOk (ops : Array Oper) (listed : Array Bool) (i : Nat) : Bool :=
  match ops[i]? with
  | some o => (List.range ops.size).all fun j => j == i || listed.getD j true || (preds ops j).contains i || (match ops[j]? with | some p => apart ops o p | none => true)
  | none => false

mutual
def planGo (ops : Array Oper) : Plan → Nat → Array Bool → List Nat → Bool
  | .done, n, listed, _ => n == 0 && (Region.ready .any ops listed).isEmpty
  | .val i rest, n, listed, ran => match n with
    | 0 => false
    | n + 1 => (Region.ready .any ops listed).contains i && firstOk ops listed i && planGo ops rest n (listed.setIfInBounds i true) (i :: ran)
  | .eff brs, n, listed, ran => match n with
    | 0 => false
    | n + 1 => !(Region.ready .any ops listed).isEmpty && (Region.ready .any ops listed).all (fun j => brs.any fun b => b.1 == j) && planGos ops brs n listed ran
def planGos (ops : Array Oper) : List (Nat × List Nat × Plan) → Nat → Array Bool → List Nat → Bool
  | [], _, _, _ => true
  | (j, cs, p) :: r, n, listed, ran => (Region.ready .any ops listed).contains j && ran.all (fun i => cs.contains i || (anc ops ops.size j).contains i) && planGo ops p n (listed.setIfInBounds j true) ran && planGos ops r n listed ran
end
/-- the order that a region's plan follows -/
def planOk (ops : Array Oper) (p : Plan) : Bool := planGo ops p ops.size (Array.replicate ops.size false) []

def thn (n : St → Prop) (Q : Exit → St → Prop) : Exit → St → Prop
  | .normal, s => n s
  | e, s => Q e s

def blq (id : Nat) (Q : Exit → St → Prop) : Exit → St → Prop
  | .exit i, s => if i = id then Q .normal s else Q (.exit i) s
  | e, s => Q e s

/-- J n s: so it may stand at the head of a round, with at most n rounds to come -/
def lpq (n0 : Nat) (J : Nat → St → Prop) (n : Nat) (Q : Exit → St → Prop) : Exit → St → Prop
  | .normal, s => ∃ k s1, Wk n0 s s1 ∧ J k s1 ∧ k < n
  | e, s => Q e s

def acnd (x : AV) (A B : Prop) : Prop :=
  match x with
  | .v (.bool b) => (b = true → A) ∧ (b = false → B)
  | _ => False

/-- the plan of a region -/
def lkp : List (Nat × Plan) → Nat → Plan
  | [], _ => .done
  | (k, p) :: l, t => if k = t then p else lkp l t

/-- every region that draws its order has a plan that serves -/
def plOk (pl : List (Nat × Plan)) : Code → Bool
  | .seq a b => plOk pl a && plOk pl b
  | .cond _ x y => plOk pl x && plOk pl y
  | .block _ c => plOk pl c
  | .loop c => plOk pl c
  | .region id ops true => planOk ops (lkp pl id)
  | _ => true

def acode (P : Program) (n0 : Nat) (pl : List (Nat × Plan)) : Code → (Exit → St → Prop) → St → Prop
  | .skip, Q, s => Q .normal s
  | .seq a b, Q, s => acode P n0 pl a (thn (acode P n0 pl b Q) Q) s
  | .cond c x y, Q, s => acnd (evS s.sl c) (acode P n0 pl x Q s) (acode P n0 pl y Q s)
  | .block id c, Q, s => acode P n0 pl c (blq id Q) s
  | .loop c, Q, s => ∃ (J : Nat → St → Prop), (∃ n s0, Wk n0 s s0 ∧ J n s0) ∧ ∀ n s0, J n s0 → acode P n0 pl c (lpq n0 J n Q) s0
  | .exit id, Q, s => Q (.exit id) s
  | .ret, Q, s => Q .ret s
  | .region _ ops false, Q, s => aops P ops ops.toList (Q .normal) s
  | .region id ops true, Q, s => apl P ops (Q .normal) (lkp pl id) [] s
  | _, _, _ => False

end Eng
end Go.Proofs.Ytgcmahhejblpkaa
