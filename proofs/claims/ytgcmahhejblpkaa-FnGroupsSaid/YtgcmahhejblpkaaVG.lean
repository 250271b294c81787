/-
An abstract interpreter of the program's code on plain data: part G, regions that draw their order: a plan serves every order.
No condition: everything here is stated over any program.
-/
import Derived.Test.YtgcmahhejblpkaaVF
namespace Go.Proofs.Ytgcmahhejblpkaa
namespace Eng
set_option linter.unusedVariables false
set_option linter.unusedSimpArgs false

variable {P : Program} {N : Nat} {B : Bs} {m : Mp} {F : Nat → Prop} {s : St} {a : Act} {w : World} {hp hp' : List Ent} {ops : Array Oper} {o : Oper} {e e' : Operand → AV}

/- one outcome -/
def Pt (T : (AV → Prop) → Prop) : Prop := ∀ c, T c → ∃ x, c x ∧ ∀ c', c' x → T c'
theorem Pt.ret (x : AV) : Pt (fun c => c x) := fun c h => ⟨x, h, fun c' h => h⟩
theorem Pt.no : Pt (fun _ => False) := fun c h => h.elim
theorem Pt.and {p : Prop} {T : (AV → Prop) → Prop} (h : Pt T) : Pt (fun c => p ∧ T c) := fun c ⟨hp, hc⟩ => by
  obtain ⟨x, h1, h2⟩ := h c hc
  exact ⟨x, h1, fun c' h => ⟨hp, h2 c' h⟩⟩

theorem pt_pick (x y z : AV) : Pt (apick x y z) := by
  unfold apick
  split
  · rename_i t
    cases t
    · exact fun c h => ⟨z, h.2 rfl, fun c' h => ⟨(fun h => by cases h), fun _ => h⟩⟩
    · exact fun c h => ⟨y, h.1 rfl, fun c' h => ⟨fun _ => h, fun h => by cases h⟩⟩
  · exact Pt.no
theorem pt_ext (x : AV) (i : Nat) : Pt (aext x i) := by
  unfold aext
  split
  · split
    · exact Pt.ret _
    · exact Pt.no
  · exact Pt.no
theorem pt_ibin (op : BinOp) (k : IntKind) (x y : Int) : Pt (ibin op k x y) := by
  unfold ibin
  split <;> first | exact Pt.ret _ | exact Pt.and (Pt.ret _) | exact Pt.no
theorem pt_sbin (op : BinOp) (x y : ByteArray) : Pt (sbin op x y) := by
  unfold sbin
  split <;> first | exact Pt.ret _ | exact Pt.and (Pt.ret _) | exact Pt.no
theorem pt_bbin (op : BinOp) (x y : Bool) : Pt (bbin op x y) := by
  unfold bbin
  split <;> first | exact Pt.ret _ | exact Pt.no
theorem pt_bin (op : BinOp) (t : TypeId) (x y : AV) : Pt (abin P op t x y) := by
  unfold abin
  split
  · exact Pt.and (pt_ibin _ _ _ _)
  · exact pt_sbin _ _ _
  · exact Pt.and (pt_bbin _ _ _)
  · refine Pt.and ?_
    split
    · split <;> first | exact Pt.ret _ | exact Pt.no
    · exact Pt.no
  · exact Pt.no
theorem pt_un (op : UnOp) (x : AV) : Pt (aun op x) := by
  unfold aun
  split <;> first | exact Pt.ret _ | exact Pt.no
theorem pt_rd (g : Bool) (n o : Nat) (cells : List AV) : Pt (rd g n o cells) := by
  unfold rd
  split
  · exact Pt.and (Pt.ret _)
  · split
    · exact Pt.ret _
    · exact Pt.no
theorem pt_load (t : TypeId) (hp : List Ent) (x : AV) : Pt (aload P t hp x) := by
  unfold aload
  split
  · split
    · exact pt_rd _ _ _ _
    · split
      · exact Pt.and (pt_rd _ _ _ _)
      · exact Pt.no
    · exact Pt.no
  · exact Pt.no
theorem pt_fld (t : TypeId) (f : Nat) (x : AV) : Pt (afld P t f x) := by
  unfold afld
  split
  · split <;> first | exact Pt.ret _ | exact Pt.no
  · exact Pt.no
theorem pt_idx (t : TypeId) (hp : List Ent) (x i : AV) : Pt (aidx P t hp x i) := by
  unfold aidx
  split
  · split
    · exact Pt.and (Pt.and (Pt.ret _))
    · refine Pt.and ?_
      split
      · exact Pt.and (Pt.ret _)
      · exact Pt.no
    · refine Pt.and ?_
      split
      · exact Pt.and (Pt.ret _)
      · exact Pt.no
    · exact Pt.no
  · exact Pt.no
theorem pt_ind (t : TypeId) (x i : AV) : Pt (aind P t x i) := by
  unfold aind
  split
  · exact Pt.and (Pt.ret _)
  · exact Pt.no
theorem pt_slice (t : TypeId) (hp : List Ent) (x : AV) (lo hi : Option AV) : Pt (aslice P t hp x lo hi) := by
  unfold aslice
  split
  · split
    · refine Pt.and ?_
      split
      · exact Pt.ret _
      · exact Pt.and (Pt.ret _)
      · exact Pt.and (Pt.ret _)
      · split
        · exact Pt.and (Pt.ret _)
        · exact Pt.no
      · split
        · exact Pt.and (Pt.ret _)
        · exact Pt.no
      · exact Pt.no
    · exact Pt.no
  · exact Pt.no
theorem pt_conv (t u : TypeId) (hp : List Ent) (x : AV) : Pt (aconv P t u hp x) := by
  unfold aconv
  split
  · exact Pt.ret _
  · refine Pt.and ?_
    split
    · exact Pt.ret _
    · exact Pt.no
  · exact Pt.no
theorem pt_bld (pl : List (Nat × Nat)) : ∀ (ps : List (Nat × AV)) (cells : List AV), Pt (abld pl ps cells)
  | [], cells => Pt.ret _
  | (f, x) :: rest, cells => by
    intro c h
    simp only [abld] at h ⊢
    split at h
    · rename_i off n hpl
      obtain ⟨y, h1, h2⟩ := pt_bld pl rest _ c h.2
      exact ⟨y, h1, fun c' hc => ⟨h.1, h2 c' hc⟩⟩
    · exact h.elim
theorem pt_build (t : TypeId) (ps : List (Nat × AV)) : Pt (abuild P t ps) := by
  unfold abuild
  split
  · exact pt_bld _ _ _
  · exact Pt.no
theorem pt_fval (t : TypeId) (f : Nat) (x : AV) : Pt (afval P t f x) := by
  unfold afval
  split
  · split
    · exact pt_rd _ _ _ _
    · exact Pt.no
  · exact Pt.no
theorem pt_len (t : TypeId) (x : AV) : Pt (alen P t x) := by
  unfold alen
  split <;> first | exact Pt.ret _ | exact Pt.no
theorem pt_mm (mx : Bool) (x y : AV) : Pt (amm mx x y) := by
  unfold amm
  split <;> first | exact Pt.ret _ | exact Pt.no
theorem pt_call (k : FuncId) (args : List AV) (hp : List Ent) : Pt (qcall P k args hp) := fun c ⟨dargs, x, h1, h2, h3, h4⟩ => ⟨x, h4, fun c' h => ⟨dargs, x, h1, h2, h3, h⟩⟩

theorem pt_val (op : Op) (e : Operand → AV) (hp : List Ent) : Pt (aval P op e hp) := by
  unfold aval
  split
  · exact Pt.ret _
  · exact Pt.ret _
  · exact pt_pick _ _ _
  · exact pt_ext _ _
  · exact pt_bin _ _ _ _
  · exact pt_un _ _
  · exact pt_load _ _ _
  · exact pt_fld _ _ _
  · exact pt_idx _ _ _ _
  · exact pt_ind _ _ _
  · exact pt_slice _ _ _ _ _
  · exact pt_conv _ _ _ _
  · split <;> first | exact Pt.ret _ | exact Pt.no
  · exact pt_build _ _
  · exact pt_fval _ _ _
  · exact pt_call _ _ _
  · split
    · exact pt_len _ _
    · exact Pt.no
  · split
    · exact pt_mm _ _ _
    · exact Pt.no
  · split
    · exact pt_mm _ _ _
    · exact Pt.no
  · exact Pt.no

/- what an operation hangs on -/
theorem evps_same : ∀ {l : List (Nat × Operand)}, (∀ x ∈ l.map (·.2), e x = e' x) → evps e l = evps e' l
  | [], _ => rfl
  | (i, x) :: l, h => by
    simp only [evps]
    rw [h x (by simp), evps_same (fun y hy => h y (by simp at hy ⊢; exact .inr hy))]

theorem Rd.same_ {x d : AV} (h : Rd hp x d) (hh : ∀ id ∈ ids x, hp'[id]? = hp[id]?) : Rd hp' x d := by
  induction h with
  | same x hx => exact .same x hx
  | ref id len sz elems he hl hq => exact .ref id len sz elems ((hh id (by simp [ids])).trans he) hl hq
  | rs id lo len sz elems he hl hq => exact .rs id lo len sz elems ((hh id (by simp [ids])).trans he) hl hq
  | nil sz => exact .nil sz
  | agg cs ds hl h ih =>
    refine .agg cs ds hl fun i c d h1 h2 => ih i c d h1 h2 fun id hid => hh id ?_
    have : ∀ (l : List AV) (i : Nat) (c : AV), l[i]? = some c → ∀ id ∈ ids c, id ∈ ids.idsL l := by
      intro l
      induction l with
      | nil => intro i c h; simp at h
      | cons y l ihl =>
        intro i c h id hid
        simp only [ids.idsL, List.mem_append]
        cases i with
        | zero => simp at h; subst h; exact .inl hid
        | succ i => exact .inr (ihl i c (by simpa using h) id hid)
    simp only [ids]
    exact this cs i c h1 id hid

theorem RdL.same_ : ∀ {xs ds : List AV}, RdL hp xs ds → (∀ id ∈ ids.idsL xs, hp'[id]? = hp[id]?) → RdL hp' xs ds
  | [], [], _, _ => trivial
  | x :: xs, d :: ds, h, hh => ⟨h.1.same_ fun id hid => hh id (by simp [ids.idsL, hid]), h.2.same_ fun id hid => hh id (by simp [ids.idsL, hid])⟩

theorem srd_same {sz : Nat} {x : AV} (hh : ∀ id ∈ ids x, hp'[id]? = hp[id]?) : srd hp' sz x = srd hp sz x := by
  cases x with
  | ref id n => have e1 := hh id (by simp [ids]); simp only [srd, e1]
  | rs id lo n => have e1 := hh id (by simp [ids]); simp only [srd, e1]
  | v y =>
    cases y <;> try rfl
    rename_i a n k
    cases a <;> try rfl
    cases n <;> try rfl
    cases k <;> rfl
  | _ => rfl

theorem slice_same {t : TypeId} {x : AV} {lo hi : Option AV} {c : AV → Prop} (hh : ∀ id ∈ ids x, hp'[id]? = hp[id]?) (h : aslice P t hp x lo hi c) : aslice P t hp' x lo hi c := by
  cases x with
  | ref id n =>
    have e1 := hh id (by simp [ids])
    unfold aslice at *
    revert h
    cases tkd P t with
    | none => exact fun h => h
    | some k => cases k <;> first | exact fun h => h | (simp only [e1]; exact fun h => h)
  | rs id lo n =>
    have e1 := hh id (by simp [ids])
    unfold aslice at *
    revert h
    cases tkd P t with
    | none => exact fun h => h
    | some k => cases k <;> first | exact fun h => h | (simp only [e1]; exact fun h => h)
  | v y =>
    unfold aslice at *
    revert h
    cases y with
    | slice a n k =>
      cases a <;> try exact fun h => h
      cases n <;> try exact fun h => h
      cases k <;> try exact fun h => h
      cases tkd P t with
      | none => exact fun h => h
      | some k => cases k <;> exact fun h => h
    | string s =>
      cases tkd P t with
      | none => exact fun h => h
      | some k => cases k <;> exact fun h => h
    | _ => exact fun h => h
  | sl z xs =>
    unfold aslice at *
    revert h
    cases tkd P t with
    | none => exact fun h => h
    | some k => cases k <;> exact fun h => h
  | _ => exact h

theorem idx_same {t : TypeId} {x i : AV} {c : AV → Prop} (hh : ∀ id ∈ ids x, hp'[id]? = hp[id]?) (h : aidx P t hp x i c) : aidx P t hp' x i c := by
  cases x with
  | ref id n =>
    have e1 := hh id (by simp [ids])
    unfold aidx at *
    split at h
    · revert h
      rename_i et k z ht
      cases tsz P et with
      | none => exact fun h => h
      | some z => simp only [e1]; exact fun h => h
    · exact h
  | rs id lo n =>
    have e1 := hh id (by simp [ids])
    unfold aidx at *
    split at h
    · revert h
      rename_i et k z ht
      cases tsz P et with
      | none => exact fun h => h
      | some z => simp only [e1]; exact fun h => h
    · exact h
  | _ =>
    unfold aidx at *
    split at h
    · revert h
      rename_i et k z ht
      cases tsz P et <;> exact fun h => h
    · exact h

theorem load_same {t : TypeId} {x : AV} {c : AV → Prop} (hh : ∀ id ∈ ids x, hp'[id]? = hp[id]?) (h : aload P t hp x c) : aload P t hp' x c := by
  cases x with
  | ptr id i o =>
    have e1 := hh id (by simp [ids])
    unfold aload at *
    split at h
    · simp only [e1]; exact h
    · exact h
  | _ => exact h

theorem conv_same {t u : TypeId} {x : AV} {c : AV → Prop} (hh : ∀ id ∈ ids x, hp'[id]? = hp[id]?) (h : aconv P t u hp x c) : aconv P t u hp' x c := by
  unfold aconv at *
  split at h
  · exact h
  · simp only [srd_same hh]; exact h
  · exact h.elim

theorem aval_same {op : Op} {c : AV → Prop} (he : ∀ x ∈ opnds op, e x = e' x) (hh : ∀ id ∈ rids e op, hp'[id]? = hp[id]?) (h : aval P op e hp c) : aval P op e' hp' c := by
  unfold aval at h
  split at h <;> simp only [aval]
  · rename_i x; rw [← he x (by simp [opnds])]; exact h
  · rename_i x; rw [← he x (by simp [opnds])]; exact h
  · rename_i x y z; rw [← he x (by simp [opnds]), ← he y (by simp [opnds]), ← he z (by simp [opnds])]; exact h
  · rename_i x i; rw [← he x (by simp [opnds])]; exact h
  · rename_i op t x y t'; rw [← he x (by simp [opnds]), ← he y (by simp [opnds])]; exact h
  · rename_i op t x; rw [← he x (by simp [opnds])]; exact h
  · rename_i t x; rw [← he x (by simp [opnds])]; exact load_same (fun id hid => hh id (by simpa [rids, rops, ids.idsL] using hid)) h
  · rename_i t x f; rw [← he x (by simp [opnds])]; exact h
  · rename_i t x i; rw [← he x (by simp [opnds]), ← he i (by simp [opnds])]; exact idx_same (fun id hid => hh id (by simpa [rids, rops, ids.idsL] using hid)) h
  · rename_i t x i; rw [← he x (by simp [opnds]), ← he i (by simp [opnds])]; exact h
  · rename_i t x lo hi
    have e1 : lo.map e' = lo.map e := by cases lo <;> simp; rename_i y; exact (he y (by simp [opnds])).symm
    have e2 : hi.map e' = hi.map e := by cases hi <;> simp; rename_i y; exact (he y (by simp [opnds])).symm
    rw [← he x (by simp [opnds]), e1, e2]
    exact slice_same (fun id hid => hh id (by simpa [rids, rops, ids.idsL] using hid)) h
  · rename_i t u x; rw [← he x (by simp [opnds])]; exact conv_same (fun id hid => hh id (by simpa [rids, rops, ids.idsL] using hid)) h
  · rename_i x; rw [← he x (by simp [opnds])]; exact h
  · rename_i t ps
    rw [← evps_same (e := e) (fun x hx => he x (by simpa [opnds] using hx))]
    exact h
  · rename_i t x f; rw [← he x (by simp [opnds])]; exact h
  · rename_i k as ts
    have e1 : as.toList.map e' = as.toList.map e := List.map_congr_left fun x hx => (he x (by simpa [opnds] using hx)).symm
    rw [e1]
    obtain ⟨dargs, x, h1, h2⟩ := h
    exact ⟨dargs, x, h1.same_ (fun id hid => hh id (by simpa [rids, rops] using hid)), h2⟩
  · rename_i as ts
    split at h
    · rename_i x t tr has hts
      try simp only [has, hts]
      rw [← he x (by simp [opnds, has])]; exact h
    · exact h.elim
  · rename_i as ts
    split at h
    · rename_i x y has
      try simp only [has]
      rw [← he x (by simp [opnds, has]), ← he y (by simp [opnds, has])]; exact h
    · exact h.elim
  · rename_i as ts
    split at h
    · rename_i x y has
      try simp only [has]
      rw [← he x (by simp [opnds, has]), ← he y (by simp [opnds, has])]; exact h
    · exact h.elim
  · exact h.elim

theorem aeff_same {op : Op} {c : AV → List Ent → Prop} (he : ∀ x ∈ opnds op, e x = e' x) (h : aeff P op e hp c) : aeff P op e' hp c := by
  unfold aeff at h
  split at h <;> simp only [aeff]
  · rename_i t x; rw [← he x (by simp [opnds])]; exact h
  · exact h
  · rename_i t x y; rw [← he x (by simp [opnds]), ← he y (by simp [opnds])]; exact h
  · rename_i t len ps
    rw [← evps_same (e := e) (fun x hx => he x (by simpa [opnds] using hx))]
    exact h
  · rename_i t x y; rw [← he x (by simp [opnds]), ← he y (by simp [opnds])]; exact h
  · rename_i k as ts
    have e1 : as.toList.map e' = as.toList.map e := List.map_congr_left fun x hx => (he x (by simpa [opnds] using hx)).symm
    rw [e1]
    exact h
  · rename_i as ts
    split at h
    · rename_i x y t t' has hts
      try simp only [has, hts]
      rw [← he x (by simp [opnds, has]), ← he y (by simp [opnds, has])]; exact h
    · exact h.elim
  · rename_i as ts
    split at h
    · rename_i x y t tr has hts
      try simp only [has, hts]
      rw [← he x (by simp [opnds, has]), ← he y (by simp [opnds, has])]; exact h
    · exact h.elim
  · exact h.elim

theorem aeff_mono {op : Op} {c c' : AV → List Ent → Prop} (hc : ∀ v h, c v h → c' v h) (h : aeff P op e hp c) : aeff P op e hp c' := by
  unfold aeff at h
  split at h <;> simp only [aeff]
  · exact ⟨h.1, hc _ _ h.2⟩
  · unfold azero at *
    split at h
    · exact ⟨h.1, hc _ _ h.2⟩
    · exact h
  · unfold amake at *
    split at h
    · split at h
      · exact ⟨h.1, h.2.1, h.2.2.1, h.2.2.2.1, h.2.2.2.2.1, hc _ _ h.2.2.2.2.2⟩
      · exact h
    · exact h
  · unfold abldS at *
    split at h
    · refine ⟨h.1, ?_⟩
      have h2 := h.2
      split at h2
      · exact hc _ _ h2
      · exact h2
    · exact h
  · unfold astore at *
    split at h
    · refine ⟨h.1, ?_⟩
      have h2 := h.2
      split at h2
      · split at h2
        · exact ⟨h2.1, h2.2.1, hc _ _ h2.2.2⟩
        · exact h2
      · exact h2
    · exact h
  · exact GC.mono h hc
  · split at h
    · refine ⟨h.1, ?_⟩
      have h2 := h.2
      unfold aappend at *
      split at h2
      · refine ⟨h2.1, ?_⟩
        have h3 := h2.2
        split at h3
        · split at h3
          · exact ⟨h3.1, hc _ _ h3.2⟩
          · split at h3
            · exact ⟨h3.1, hc _ _ h3.2⟩
            · exact h3
          · exact h3
        · exact h3
      · exact h2
    · exact h
  · split at h
    · unfold acopy at *
      split at h
      · refine ⟨h.1, ?_⟩
        have h2 := h.2
        split at h2
        · split at h2
          · split at h2
            · exact ⟨h2.1, hc _ _ h2.2⟩
            · exact h2
          · exact h2
        · exact h2
      · exact h
    · exact h
  · exact h

/- states that say the same -/
def eqv (s s' : St) : Prop := s.hp = s'.hp ∧ ∀ t, lk s.sl t = lk s'.sl t
theorem eqv.refl (s : St) : eqv s s := ⟨rfl, fun _ => rfl⟩
theorem eqv.symm {s s' : St} (h : eqv s s') : eqv s' s := ⟨h.1.symm, fun t => (h.2 t).symm⟩
theorem eqv.trans {s s' s'' : St} (h : eqv s s') (h' : eqv s' s'') : eqv s s'' := ⟨h.1.trans h'.1, fun t => (h.2 t).trans (h'.2 t)⟩
theorem eqv.ev {s s' : St} (h : eqv s s') : evS s.sl = evS s'.sl := by
  funext x
  cases x with
  | tmp t => exact h.2 t
  | _ => rfl
theorem eqv.put {s s' : St} (h : eqv s s') (dst : Option Nat) (v : AV) (hp : List Ent) : eqv (Eng.put ⟨s.sl, hp⟩ dst v) (Eng.put ⟨s'.sl, hp⟩ dst v) := by
  cases dst with
  | none => exact ⟨rfl, h.2⟩
  | some d => refine ⟨rfl, fun t => ?_⟩; simp only [Eng.put, lk, h.2 t]
theorem put_hp (s : St) (dst : Option Nat) (v : AV) : (Eng.put s dst v).hp = s.hp := by cases dst <;> rfl

def Cl (K : St → Prop) : Prop := ∀ s s', eqv s s' → K s → K s'

theorem know_eqv {d : Nat} {x : AV} (hl : lk s.sl d = x) : eqv ⟨(d, x) :: s.sl, s.hp⟩ s := by
  refine ⟨rfl, fun t => ?_⟩
  simp only [lk]
  split
  · rename_i h; subst h; exact hl.symm
  · rfl

/-- what an operation that only reads gives -/
def GA (P : Program) (ops : Array Oper) (o : Oper) (s : St) (x : AV) : Prop := gd ops o s (fun s' => ∀ c : AV → Prop, c x → aval P o.op (evS s'.sl) s'.hp c) (fun _ => x = ud)

theorem gval_pt {K : St → Prop} (hK : Cl K) (h : gval P ops o s K) : ∃ x, GA P ops o s x ∧ K (put s o.dst x) := by
  unfold gval gd at h
  unfold GA gd
  split at h
  · rename_i hg
    obtain ⟨x, h1, h2⟩ := pt_val _ _ _ _ h
    exact ⟨x, h2, h1⟩
  · rename_i j want hg
    split at h
    · rename_i d hgs
      split at h
      · rename_i b hl
        by_cases hb : b = want
        · subst hb
          obtain ⟨x, h1, h2⟩ := pt_val _ _ _ _ (h.1 rfl)
          refine ⟨x, ⟨fun _ => h2, fun hb => by cases b <;> cases hb⟩, hK _ _ ?_ h1⟩
          exact (know_eqv hl).put _ _ _
        · have hb' : b = !want := by cases b <;> cases want <;> simp_all
          refine ⟨ud, ⟨fun h => absurd h hb, fun _ => rfl⟩, hK _ _ ?_ (h.2 hb')⟩
          exact (know_eqv (hb' ▸ hl)).put _ _ _
      · exact ⟨ud, rfl, h⟩
      · exact h.elim
    · exact h.elim

theorem gval_of {K : St → Prop} {x : AV} (hK : Cl K) (h : GA P ops o s x) (hk : K (put s o.dst x)) : gval P ops o s K := by
  unfold GA gd at h
  unfold gval gd
  split at h
  · exact h _ hk
  · rename_i j want hg
    split at h
    · rename_i d hgs
      split at h
      · rename_i b hl
        refine ⟨fun hb => h.1 hb _ (hK _ _ ?_ hk), fun hb => hK _ _ ?_ (h.2 hb ▸ hk)⟩
        · exact ((know_eqv (hb ▸ hl)).put _ _ _).symm
        · exact ((know_eqv (hb ▸ hl)).put _ _ _).symm
      · rw [h] at hk; exact hk
      · exact h.elim
    · exact h.elim

/-- where two states agree on what an operation looks at -/
theorem looks_ev {s s' : St} (h : ∀ t ∈ looks ops o, lk s.sl t = lk s'.sl t) : ∀ x ∈ opnds o.op, evS s.sl x = evS s'.sl x := by
  intro x hx
  cases x with
  | tmp t => exact h t (by unfold looks; exact List.mem_append_left _ (List.mem_filterMap.2 ⟨_, hx, rfl⟩))
  | _ => rfl

theorem looks_guard {s s' : St} (h : ∀ t ∈ looks ops o, lk s.sl t = lk s'.sl t) {j d : Nat} {want : Bool} (hg : o.guard = some (j, want)) (hgs : gslot ops j = some d) : lk s.sl d = lk s'.sl d :=
  h d (by unfold looks; simp [hg, hgs])

theorem looks_know {s s' : St} (h : ∀ t ∈ looks ops o, lk s.sl t = lk s'.sl t) (d : Nat) (x : AV) : ∀ t ∈ looks ops o, lk ((d, x) :: s.sl) t = lk ((d, x) :: s'.sl) t := by
  intro t ht
  simp only [lk]
  split
  · rfl
  · exact h t ht

theorem rids_same {s s' : St} (h : ∀ x ∈ opnds o.op, evS s.sl x = evS s'.sl x) : rids (evS s.sl) o.op = rids (evS s'.sl) o.op := by
  unfold rids
  congr 1
  refine List.map_congr_left fun x hx => h x ?_
  cases hop : o.op <;> rw [hop] at hx <;> simp only [rops] at hx <;> first | (simp at hx; done) | skip
  all_goals try (simp only [List.mem_singleton] at hx; subst hx; simp [opnds]; done)
  rename_i cl
  obtain ⟨callee, as, ts⟩ := cl
  cases callee <;> simp only [rops] at hx <;> first | (simp at hx; done) | (simpa [opnds] using hx)

theorem GA_same {s s' : St} {x : AV} (hl : ∀ t ∈ looks ops o, lk s.sl t = lk s'.sl t) (hh : ∀ id ∈ rids (evS s.sl) o.op, s'.hp[id]? = s.hp[id]?) (h : GA P ops o s x) : GA P ops o s' x := by
  unfold GA gd at *
  split at h
  · exact fun c hc => aval_same (looks_ev hl) hh (h c hc)
  · rename_i j want hg
    split at h
    · rename_i d hgs
      have e0 := looks_guard hl hg hgs
      simp only [hgs]
      rw [← e0]
      split at h
      · rename_i b hlk
        try simp only [hlk]
        refine ⟨fun hb c hc => ?_, h.2⟩
        refine aval_same (looks_ev (s := ⟨(d, vb want) :: s.sl, s.hp⟩) (s' := ⟨(d, vb want) :: s'.sl, s'.hp⟩) (looks_know hl d _)) ?_ (h.1 hb c hc)
        intro id hid
        refine hh id ?_
        have e1 : evS ((d, vb want) :: s.sl) = evS s.sl := (know_eqv (s := s) (by rw [hlk, hb])).ev
        rw [← e1]
        exact hid
      · rename_i q hlk
        try simp only [hlk]
        exact h
      · exact h.elim
    · exact h.elim

theorem geff_map {s s' : St} {is is' : List Nat} {K K' : St → Prop} (hl : ∀ t ∈ looks ops o, lk s.sl t = lk s'.sl t) (hh : s'.hp = s.hp) (hi : ∀ i ∈ is', i ∈ is) (hc : Cl K) (hc' : Cl K')
    (hK : ∀ v hp', (∀ i ∈ is, hp'[i]? = s.hp[i]?) → K (put ⟨s.sl, hp'⟩ o.dst v) → K' (put ⟨s'.sl, hp'⟩ o.dst v)) (h : geff P ops is o s K) : geff P ops is' o s' K' := by
  unfold geff gd at *
  split at h
  · rw [hh]
    refine aeff_mono ?_ (aeff_same (looks_ev hl) h)
    rintro v hp' ⟨h1, h2⟩
    exact ⟨fun i hi' => h1 i (hi i hi'), hK v hp' h1 h2⟩
  · rename_i j want hg
    split at h
    · rename_i d hgs
      have e0 := looks_guard hl hg hgs
      simp only [hgs]
      rw [← e0]
      split at h
      · rename_i b hlk
        try simp only [hlk]
        refine ⟨fun hb => ?_, fun hb => ?_⟩
        · have h1 := h.1 hb
          simp only at h1 ⊢
          rw [hh]
          refine aeff_mono ?_ (aeff_same (looks_ev (s := ⟨(d, vb want) :: s.sl, s.hp⟩) (s' := ⟨(d, vb want) :: s'.sl, s'.hp⟩) (looks_know hl d _)) h1)
          rintro v hp' ⟨h2, h3⟩
          refine ⟨fun i hi' => h2 i (hi i hi'), ?_⟩
          have e1 := (know_eqv (s := s) (x := vb want) (by rw [hlk, hb])).put o.dst v hp'
          have e2 := (know_eqv (s := s') (x := vb want) (by rw [← e0, hlk, hb])).put o.dst v hp'
          exact hc' _ _ e2.symm (hK v hp' h2 (hc _ _ e1 h3))
        · have h1 := h.2 hb
          have e1 := (know_eqv (s := s) (x := vb (!want)) (by rw [hlk, hb])).put o.dst ud s.hp
          have e2 := (know_eqv (s := s') (x := vb (!want)) (by rw [← e0, hlk, hb])).put o.dst ud s.hp
          have := hc' _ _ e2.symm (hK ud s.hp (fun _ _ => rfl) (hc _ _ e1 h1))
          rw [hh]
          exact this
      · rename_i q hlk
        try simp only [hlk]
        have := hK ud s.hp (fun _ _ => rfl) h
        rw [← hh] at this
        exact this
      · exact h.elim
    · exact h.elim

/- every order -/
def need (ops : Array Oper) (j : Nat) : List (Nat × List Nat) → List Nat
  | [] => []
  | (i, l) :: r => (if (anc ops ops.size j).contains i then [] else l) ++ need ops j r

def AllO (P : Program) (ops : Array Oper) (K : St → Prop) : Nat → Array Bool → List (Nat × List Nat) → St → Prop
  | 0, listed, prot, s => Region.ready .any ops listed = [] ∧ K s
  | n + 1, listed, prot, s => (Region.ready .any ops listed = [] → K s) ∧ ∀ j ∈ Region.ready .any ops listed, ∃ o, ops[j]? = some o ∧
      (gval P ops o s (AllO P ops K n (listed.setIfInBounds j true) prot) ∨ geff P ops (need ops j prot) o s (AllO P ops K n (listed.setIfInBounds j true) prot))

theorem gval_map {s s' : St} {K K' : St → Prop} (h0 : eqv s s') (hc : Cl K) (hc' : Cl K') (hK : ∀ s, K s → K' s) (h : gval P ops o s K) : gval P ops o s' K' := by
  obtain ⟨x, h1, h2⟩ := gval_pt hc h
  have h3 := GA_same (s' := s') (fun t _ => h0.2 t) (fun id _ => by rw [h0.1]) h1
  refine gval_of hc' h3 (hc' _ _ ?_ (hK _ h2))
  have := h0.put o.dst x s.hp
  rw [h0.1] at this
  obtain ⟨l, hp⟩ := s
  obtain ⟨l', hp'⟩ := s'
  cases h0.1
  exact this

theorem AllO.cl {K : St → Prop} (hK : Cl K) : ∀ (n : Nat) (listed : Array Bool) (prot : List (Nat × List Nat)), Cl (AllO P ops K n listed prot)
  | 0, listed, prot => fun s s' h hs => ⟨hs.1, hK _ _ h hs.2⟩
  | n + 1, listed, prot => fun s s' h hs => by
    refine ⟨fun h0 => hK _ _ h (hs.1 h0), fun j hj => ?_⟩
    obtain ⟨o, ho, h1⟩ := hs.2 j hj
    have ih := AllO.cl hK n (listed.setIfInBounds j true) prot
    refine ⟨o, ho, ?_⟩
    rcases h1 with h1 | h1
    · exact .inl (gval_map h ih ih (fun _ h => h) h1)
    · exact .inr (geff_map (fun t _ => h.2 t) h.1.symm (fun _ h => h) ih ih (fun v hp' _ hk => ih _ _ (h.put _ _ _) hk) h1)

theorem AllO.drop {K : St → Prop} (hK : Cl K) {i : Nat} {l : List Nat} : ∀ (n : Nat) (listed : Array Bool) (prot : List (Nat × List Nat)) (s : St), AllO P ops K n listed ((i, l) :: prot) s → AllO P ops K n listed prot s
  | 0, listed, prot, s, h => h
  | n + 1, listed, prot, s, h => by
    refine ⟨h.1, fun j hj => ?_⟩
    obtain ⟨o, ho, h1⟩ := h.2 j hj
    have c1 := AllO.cl (P := P) (ops := ops) (K := K) hK n (listed.setIfInBounds j true) ((i, l) :: prot)
    have c2 := AllO.cl (P := P) (ops := ops) hK n (listed.setIfInBounds j true) prot
    refine ⟨o, ho, ?_⟩
    rcases h1 with h1 | h1
    · exact .inl (gval_map (eqv.refl s) c1 c2 (fun s' h' => AllO.drop hK n _ prot s' h') h1)
    · exact .inr (geff_map (fun _ _ => rfl) rfl (fun x hx => by simp [need, hx]) c1 c2 (fun v hp' _ hk => AllO.drop hK n _ prot _ hk) h1)

/-- what is listed goes with what it waits for -/
def Closed (ops : Array Oper) (listed : Array Bool) : Prop := ∀ j, listed.getD j false = true → ∀ k ∈ preds ops j, listed.getD k false = true

theorem anc_listed {listed : Array Bool} (hc : Closed ops listed) : ∀ (n j : Nat), (∀ k ∈ preds ops j, listed.getD k false = true) → ∀ i ∈ anc ops n j, listed.getD i false = true
  | 0, j, _, i, hi => by simp [anc] at hi
  | n + 1, j, h, i, hi => by
    simp only [anc, List.mem_append, List.mem_flatMap] at hi
    rcases hi with hi | ⟨k, hk, hi⟩
    · exact h i hi
    · exact anc_listed hc n k (hc k (h k hk)) i hi

theorem ready_preds {listed : Array Bool} {j : Nat} (h : j ∈ Region.ready .any ops listed) : ∀ k ∈ preds ops j, listed.getD k false = true := by
  obtain ⟨_, o, ho, hall⟩ := mem_ready.1 h
  intro k hk
  simp only [preds, ho, List.mem_map, List.mem_filter] at hk
  obtain ⟨e, ⟨he, hb⟩, rfl⟩ := hk
  exact hall e (by simpa using he) hb

theorem Closed.set {listed : Array Bool} {j : Nat} (h : Closed ops listed) (hj : j ∈ Region.ready .any ops listed) : Closed ops (listed.setIfInBounds j true) := by
  intro i hi k hk
  by_cases hji : j = i
  · subst hji; exact getD_set_true (ready_preds hj k hk)
  · rw [getD_set_ne false hji] at hi
    exact getD_set_true (h i hi k hk)

theorem ready_unlisted {listed : Array Bool} {j : Nat} (h : j ∈ Region.ready .any ops listed) : listed.getD j false = false := by
  have := (mem_ready.1 h).1
  rcases Nat.lt_or_ge j listed.size with h' | h'
  · simp [h'] at this ⊢; exact this
  · simp [Array.getElem?_eq_none h'] at this

theorem apart_spec {oi oj : Oper} (h : apart ops oi oj = true) : (∀ d, oi.dst = some d → d ∉ looks ops oj) ∧ (∀ d, oj.dst = some d → d ∉ looks ops oi) ∧ (∀ d d', oi.dst = some d → oj.dst = some d' → d ≠ d') := by
  simp only [apart, Bool.and_eq_true] at h
  obtain ⟨⟨h1, h2⟩, h3⟩ := h
  refine ⟨fun d hd => ?_, fun d hd => ?_, fun d d' hd hd' => ?_⟩
  · rw [hd] at h1; simpa using h1
  · rw [hd] at h2; simpa using h2
  · rw [hd, hd'] at h3; simpa using h3

theorem put_lk {s : St} {dst : Option Nat} {v : AV} {t : Nat} (h : ∀ d, dst = some d → d ≠ t) : lk (put s dst v).sl t = lk s.sl t := by
  cases dst with
  | none => rfl
  | some d => simp only [put, lk]; rw [if_neg (h d rfl)]

/-- AN OPERATION THAT ONLY READS MAY BE TAKEN FIRST -/
theorem AllO_first {K : St → Prop} (hK : Cl K) {i : Nat} {oi : Oper} (hi : ops[i]? = some oi) : ∀ (n : Nat) (listed : Array Bool) (prot : List (Nat × List Nat)) (s : St), Closed ops listed → i ∈ Region.ready .any ops listed →
    (∀ j oj, ops[j]? = some oj → j ≠ i → listed.getD j true = false → i ∉ preds ops j → apart ops oi oj = true) →
    gval P ops oi s (AllO P ops K n (listed.setIfInBounds i true) ((i, rids (evS s.sl) oi.op) :: prot)) → AllO P ops K (n + 1) listed prot s := by
  intro n
  induction n with
  | zero =>
    intro listed prot s hcl hr hap h
    refine ⟨fun h0 => (by rw [h0] at hr; cases hr), fun j hj => ?_⟩
    by_cases hji : j = i
    · subst hji
      exact ⟨oi, hi, .inl (gval_map (eqv.refl s) (AllO.cl hK _ _ _) (AllO.cl hK _ _ _) (fun s' h' => AllO.drop hK _ _ _ _ h') h)⟩
    · exfalso
      obtain ⟨x, h1, h2⟩ := gval_pt (AllO.cl hK _ _ _) h
      have := ready_mono hj hji
      rw [h2.1] at this
      cases this
  | succ n ih =>
    intro listed prot s hcl hr hap h
    refine ⟨fun h0 => (by rw [h0] at hr; cases hr), fun j hj => ?_⟩
    by_cases hji : j = i
    · subst hji
      exact ⟨oi, hi, .inl (gval_map (eqv.refl s) (AllO.cl hK _ _ _) (AllO.cl hK _ _ _) (fun s' h' => AllO.drop hK _ _ _ _ h') h)⟩
    · obtain ⟨x, hA, hx⟩ := gval_pt (AllO.cl hK _ _ _) h
      obtain ⟨oj, hoj, h2⟩ := hx.2 j (ready_mono hj hji)
      have hnp : i ∉ preds ops j := fun hm => by
        have h1 := ready_preds hj i hm
        rw [ready_unlisted hr] at h1
        cases h1
      have hna : i ∉ anc ops ops.size j := fun hm => by
        have h1 := anc_listed hcl _ _ (ready_preds hj) i hm
        rw [ready_unlisted hr] at h1
        cases h1
      have hun : listed.getD j true = false := (mem_ready.1 hj).1
      obtain ⟨a1, a2, a3⟩ := apart_spec (hap j oj hoj hji hun hnp)
      have hcl' := hcl.set hj
      have hr' : i ∈ Region.ready .any ops (listed.setIfInBounds j true) := ready_mono hr (Ne.symm hji)
      have hap' : ∀ k ok, ops[k]? = some ok → k ≠ i → (listed.setIfInBounds j true).getD k true = false → i ∉ preds ops k → apart ops oi ok = true := by
        intro k ok hk hki hu hn
        refine hap k ok hk hki ?_ hn
        by_cases hjk : j = k
        · subst hjk; exact hun
        · rw [getD_set_ne true hjk] at hu; exact hu
      have hcomm : (listed.setIfInBounds i true).setIfInBounds j true = (listed.setIfInBounds j true).setIfInBounds i true := Array.setIfInBounds_comm _ _ (Ne.symm hji)
      rw [hcomm] at h2
      -- what comes behind j, from behind i and j
      have step : ∀ (v : AV) (hp' : List Ent), (∀ id ∈ rids (evS s.sl) oi.op, hp'[id]? = s.hp[id]?) →
          AllO P ops K n ((listed.setIfInBounds j true).setIfInBounds i true) ((i, rids (evS s.sl) oi.op) :: prot) (put ⟨(put s oi.dst x).sl, hp'⟩ oj.dst v) →
          AllO P ops K (n + 1) (listed.setIfInBounds j true) prot (put ⟨s.sl, hp'⟩ oj.dst v) := by
        intro v hp' hhp hk
        have hlook : ∀ t ∈ looks ops oi, lk s.sl t = lk (put ⟨s.sl, hp'⟩ oj.dst v).sl t := fun t ht => (put_lk (s := ⟨s.sl, hp'⟩) fun d hd e => a2 d hd (e ▸ ht)).symm
        have e1 : rids (evS (put ⟨s.sl, hp'⟩ oj.dst v).sl) oi.op = rids (evS s.sl) oi.op := (rids_same (looks_ev hlook)).symm
        refine ih _ prot _ hcl' hr' hap' ?_
        rw [e1]
        refine gval_of (AllO.cl hK _ _ _) (GA_same hlook (fun id hid => by rw [put_hp]; exact hhp id hid) hA) (AllO.cl hK _ _ _ _ _ ?_ hk)
        refine ⟨by rw [put_hp, put_hp, put_hp], fun t => ?_⟩
        cases hdi : oi.dst with
        | none => simp only [put]
        | some di =>
          cases hdj : oj.dst with
          | none => simp only [put]
          | some dj =>
            have hne := a3 di dj hdi hdj
            simp only [put, lk]
            by_cases h1 : dj = t
            · subst h1; rw [if_pos rfl, if_neg hne, if_pos rfl]
            · rw [if_neg h1]
              by_cases h2 : di = t
              · rw [if_pos h2, if_pos h2]
              · rw [if_neg h2, if_neg h2, if_neg h1]
      have hlook : ∀ t ∈ looks ops oj, lk (put s oi.dst x).sl t = lk s.sl t := fun t ht => put_lk fun d hd e => a1 d hd (e ▸ ht)
      refine ⟨oj, hoj, ?_⟩
      rcases h2 with h2 | h2
      · obtain ⟨y, hB, hy⟩ := gval_pt (AllO.cl hK _ _ _) h2
        refine .inl (gval_of (AllO.cl hK _ _ _) (GA_same hlook (fun id _ => by rw [put_hp]) hB) ?_)
        have := step y s.hp (fun _ _ => rfl) (by
          have e : (⟨(put s oi.dst x).sl, s.hp⟩ : St) = put s oi.dst x := by cases hd : oi.dst <;> rfl
          rw [e]; exact hy)
        exact this
      · have hnd : need ops j ((i, rids (evS s.sl) oi.op) :: prot) = rids (evS s.sl) oi.op ++ need ops j prot := by
          simp only [need]
          rw [if_neg (by simpa using hna)]
        rw [hnd] at h2
        refine .inr (geff_map hlook (by rw [put_hp]) (fun k hk => List.mem_append_right _ hk) (AllO.cl hK _ _ _) (AllO.cl hK _ _ _) ?_ h2)
        intro v hp' h3 h4
        exact step v hp' (fun id hid => by have := h3 id (List.mem_append_left _ hid); rw [put_hp] at this; exact this) h4

/- from a plan -/
theorem apls_mem {K : St → Prop} : ∀ {brs : List (Nat × List Nat × Plan)} {is : List (Nat × List Nat)} {s : St}, apls P ops K brs is s → ∀ b ∈ brs, ∃ o, ops[b.1]? = some o ∧ geff P ops (pids b.2.1 is) o s (apl P ops K b.2.2 is)
  | [], is, s, _, b, hb => by simp at hb
  | (j, cs, p) :: r, is, s, h, b, hb => by
    simp only [apls] at h
    rcases List.mem_cons.1 hb with rfl | hb'
    · have h1 := h.1
      cases ho : ops[j]? with
      | none => simp only [ho] at h1
      | some o => simp only [ho] at h1; exact ⟨o, rfl, h1⟩
    · exact apls_mem h.2 b hb'

theorem planGos_mem {n : Nat} {listed : Array Bool} {ran : List Nat} : ∀ {brs : List (Nat × List Nat × Plan)}, planGos ops brs n listed ran = true → ∀ b ∈ brs,
    (Region.ready .any ops listed).contains b.1 = true ∧ (∀ i ∈ ran, b.2.1.contains i = true ∨ (anc ops ops.size b.1).contains i = true) ∧ planGo ops b.2.2 n (listed.setIfInBounds b.1 true) ran = true
  | [], _, b, hb => by simp at hb
  | (j, cs, p) :: r, h, b, hb => by
    simp only [planGos, Bool.and_eq_true, List.all_eq_true, Bool.or_eq_true] at h
    rcases List.mem_cons.1 hb with rfl | hb'
    · exact ⟨h.1.1.1, h.1.1.2, h.1.2⟩
    · exact planGos_mem h.2 b hb'

theorem need_pids {j : Nat} {cs : List Nat} : ∀ {is : List (Nat × List Nat)}, (∀ i ∈ is.map (·.1), cs.contains i = true ∨ (anc ops ops.size j).contains i = true) → ∀ x ∈ need ops j is, x ∈ pids cs is
  | [], _, x, hx => by simp [need] at hx
  | (i, l) :: r, h, x, hx => by
    simp only [need, pids, List.mem_append] at hx ⊢
    rcases hx with hx | hx
    · split at hx
      · simp at hx
      · rename_i hn
        rcases h i (by simp) with h' | h'
        · rw [if_pos h']; exact .inl hx
        · exact absurd h' hn
    · exact .inr (need_pids (fun k hk => h k (by simp at hk ⊢; exact .inr hk)) x hx)

mutual
theorem apl_cl {K : St → Prop} (hK : Cl K) : ∀ (p : Plan) (is : List (Nat × List Nat)), Cl (apl P ops K p is)
  | .done, is => fun s s' h hs => by simp only [apl] at *; exact hK _ _ h hs
  | .val i rest, is => fun s s' h hs => by
    simp only [apl] at *
    split
    · rename_i o ho
      simp only [ho] at hs
      rw [← h.ev]
      have := apl_cl hK rest ((i, rids (evS s.sl) o.op) :: is)
      exact gval_map h this this (fun _ h => h) hs
    · rename_i ho
      simp only [ho] at hs
  | .eff brs, is => fun s s' h hs => by
    simp only [apl] at *
    exact apls_cl hK brs is s s' h hs
theorem apls_cl {K : St → Prop} (hK : Cl K) : ∀ (brs : List (Nat × List Nat × Plan)) (is : List (Nat × List Nat)), Cl (apls P ops K brs is)
  | [], is => fun s s' h hs => by simp only [apls]
  | (j, cs, p) :: r, is => fun s s' h hs => by
    simp only [apls] at *
    refine ⟨?_, apls_cl hK r is s s' h hs.2⟩
    have h1 := hs.1
    split
    · rename_i o ho
      simp only [ho] at h1
      have := apl_cl hK p is
      exact geff_map (fun t _ => h.2 t) h.1.symm (fun _ h => h) this this (fun v hp' _ hk => this _ _ (h.put _ _ _) hk) h1
    · rename_i ho
      simp only [ho] at h1
end

theorem apl_all {K : St → Prop} (hK : Cl K) : ∀ (n : Nat) (p : Plan) (listed : Array Bool) (ran : List Nat) (is : List (Nat × List Nat)) (s : St), planGo ops p n listed ran = true → Closed ops listed → is.map (·.1) = ran →
    apl P ops K p is s → AllO P ops K n listed is s := by
  intro n
  induction n with
  | zero =>
    intro p listed ran is s h hcl hr hs
    cases p with
    | done => simp [planGo] at h; exact ⟨h, by simpa [apl] using hs⟩
    | val i rest => simp [planGo] at h
    | eff brs => simp [planGo] at h
  | succ n ih =>
    intro p listed ran is s h hcl hr hs
    cases p with
    | done => simp [planGo] at h
    | val i rest =>
      simp only [planGo, Bool.and_eq_true] at h
      obtain ⟨⟨h1, h2⟩, h3⟩ := h
      have hrd : i ∈ Region.ready .any ops listed := by simpa using h1
      simp only [apl] at hs
      split at hs
      · rename_i o ho
        refine AllO_first hK ho n listed is s hcl hrd ?_ ?_
        · intro j oj hoj hji hun hnp
          simp only [firstOk, ho, List.all_eq_true, List.mem_range, Bool.or_eq_true, beq_iff_eq] at h2
          have := h2 j (Array.getElem?_eq_some_iff.1 hoj).1
          rw [hoj] at this
          rcases this with ((h' | h') | h') | h'
          · exact absurd h' hji
          · rw [hun] at h'; cases h'
          · exact absurd (by simpa using h') hnp
          · exact h'
        · have hc1 : Cl (apl P ops K rest ((i, rids (evS s.sl) o.op) :: is)) := apl_cl hK rest _
          exact gval_map (eqv.refl s) hc1 (AllO.cl hK _ _ _) (fun s' h' => ih rest _ (i :: ran) _ s' h3 (hcl.set hrd) (by simp [hr]) h') hs
      · exact hs.elim
    | eff brs =>
      simp only [planGo, Bool.and_eq_true, List.all_eq_true] at h
      obtain ⟨⟨h1, h2⟩, h3⟩ := h
      simp only [apl] at hs
      refine ⟨fun h0 => by rw [h0] at h1; simp at h1, fun j hj => ?_⟩
      have hb := h2 j hj
      simp only [List.any_eq_true, beq_iff_eq] at hb
      obtain ⟨b, hb, rfl⟩ := hb
      obtain ⟨o, ho, hg⟩ := apls_mem hs b hb
      obtain ⟨g1, g2, g3⟩ := planGos_mem h3 b hb
      have hc1 : Cl (apl P ops K b.2.2 is) := apl_cl hK _ _
      exact ⟨o, ho, .inr (geff_map (fun _ _ => rfl) rfl (need_pids (by rw [hr]; exact g2)) hc1 (AllO.cl hK _ _ _) (fun v hp' _ hk => ih b.2.2 _ ran is _ g3 (hcl.set hj) hr hk) hg)⟩

/- the same in the model -/
theorem R.eqv {s' : St} (r : R B m F N s a w) (h : Eng.eqv s s') : R B m F N s' a w := by
  obtain ⟨l, hp⟩ := s
  obtain ⟨l', hp'⟩ := s'
  obtain ⟨h1, h2⟩ := h
  simp only at h1
  subst h1
  exact ⟨r.hp, fun t => by have := r.sl t; rw [h2 t] at this; exact this, r.size, r.defers, r.base⟩

/-- closed under states that say the same -/
def Bar (K : St → Prop) (s : St) : Prop := ∃ s', Eng.eqv s' s ∧ K s'
theorem Bar.cl (K : St → Prop) : Cl (Bar K) := fun s s' h ⟨s0, h0, hk⟩ => ⟨s0, h0.trans h, hk⟩
theorem Bar.of {K : St → Prop} {s : St} (h : K s) : Bar K s := ⟨s, .refl s, h⟩

theorem AllO_sound {Q : Exit → St → Prop} {K : St → Prop} (hK : ∀ s, K s → Bar (Q .normal) s) (hd : dstL N ops.toList = true) : ∀ (n : Nat) (listed : Array Bool) (prot : List (Nat × List Nat)) (m : Mp) (F : Nat → Prop) (s : St) (a : Act) (w : World), R B m F N s a w →
    AllO P ops K n listed prot s → wpAny P .any ops (LQ B N Q) n listed a w := by
  have fin : ∀ (m : Mp) (F : Nat → Prop) (s : St) (a : Act) (w : World), R B m F N s a w → K s → LQ B N Q .normal a w := by
    intro m F s a w r hk
    obtain ⟨s', h1, h2⟩ := hK s hk
    exact ⟨s', m, F, h2, r.eqv h1.symm⟩
  intro n
  induction n with
  | zero => intro listed prot m F s a w r h; exact ⟨h.1, fin m F s a w r h.2⟩
  | succ n ih =>
    intro listed prot m F s a w r h
    refine ⟨fun h0 => fin m F s a w r (h.1 h0), fun j hj => ?_⟩
    obtain ⟨o, ho, h1⟩ := h.2 j hj
    have hd1 : ∀ d, o.dst = some d → d < N := dstL_mem hd (by
      have := Array.getElem?_eq_some_iff.1 ho
      obtain ⟨h2, h3⟩ := this
      rw [← h3]; simp)
    unfold wpOp
    simp only [ho]
    have next : ∀ a' w', Nx B N (AllO P ops K n (listed.setIfInBounds j true) prot) a' w' → wpAny P .any ops (LQ B N Q) n (listed.setIfInBounds j true) a' w' := by
      rintro a' w' ⟨s', m', F', hk, r'⟩
      exact ih _ prot m' F' s' a' w' r' hk
    have key : if Region.wanted o (yielded ops a.tmps) = true then o.wp P a w (wpAny P .any ops (LQ B N Q) n (listed.setIfInBounds j true)) (LQ B N Q) else wpAny P .any ops (LQ B N Q) n (listed.setIfInBounds j true) (a.put o.dst undef) w := by
      rcases h1 with h1 | h1
      · exact gd_wp (P := P) r hd1 h1 (fun s' r' h' => op_wp_mono next (aval_wp r' hd1 h')) (fun s' m' F' a' w' r' h' => next a' w' ⟨s', m', F', h', r'⟩)
      · refine gd_wp (P := P) r hd1 h1 (fun s' r' h' => op_wp_mono next (aeff_wp r' hd1 (aeff_mono ?_ h'))) (fun s' m' F' a' w' r' h' => next a' w' ⟨s', m', F', h', r'⟩)
        rintro v hp' ⟨_, hk⟩
        exact hk
    split
    · rename_i hw; rw [if_pos hw] at key; exact .inl key
    · rename_i hw; rw [if_neg hw] at key; exact key

theorem closed_none : Closed ops (Array.replicate ops.size false) := by
  intro j hj
  exfalso
  rw [Array.getD_eq_getD_getElem?, Array.getElem?_replicate] at hj
  split at hj <;> simp at hj

theorem Pt.mono {T : (AV → Prop) → Prop} (hT : Pt T) {c c' : AV → Prop} (h : T c) (hc : ∀ x, c x → c' x) : T c' := by
  obtain ⟨x, h1, h2⟩ := hT c h
  exact h2 c' (hc x h1)

theorem gd_mono {yes no yes' no' : St → Prop} (h : gd ops o s yes no) (hy : ∀ s, yes s → yes' s) (hn : ∀ s, no s → no' s) : gd ops o s yes' no' := by
  unfold gd at *
  split at h
  · exact hy _ h
  · split at h
    · split at h
      · exact ⟨fun hb => hy _ (h.1 hb), fun hb => hn _ (h.2 hb)⟩
      · exact hn _ h
      · exact h
    · exact h

mutual
theorem apl_mono {K K' : St → Prop} (hK : ∀ s, K s → K' s) : ∀ (p : Plan) (is : List (Nat × List Nat)) (s : St), apl P ops K p is s → apl P ops K' p is s
  | .done, is, s, h => by simp only [apl] at *; exact hK _ h
  | .val i rest, is, s, h => by
    simp only [apl] at *
    split
    · rename_i o ho
      simp only [ho] at h
      exact gd_mono h (fun s' h' => (pt_val _ _ _).mono h' fun x hx => apl_mono hK rest _ _ hx) (fun s' h' => apl_mono hK rest _ _ h')
    · rename_i ho
      simp only [ho] at h
  | .eff brs, is, s, h => by
    simp only [apl] at *
    exact apls_mono hK brs is s h
theorem apls_mono {K K' : St → Prop} (hK : ∀ s, K s → K' s) : ∀ (brs : List (Nat × List Nat × Plan)) (is : List (Nat × List Nat)) (s : St), apls P ops K brs is s → apls P ops K' brs is s
  | [], is, s, h => by simp only [apls]
  | (j, cs, p) :: r, is, s, h => by
    simp only [apls] at *
    refine ⟨?_, apls_mono hK r is s h.2⟩
    have h1 := h.1
    split
    · rename_i o ho
      simp only [ho] at h1
      exact gd_mono h1 (fun s' h' => aeff_mono (fun v hp' ⟨g1, g2⟩ => ⟨g1, apl_mono hK p is _ g2⟩) h') (fun s' h' => apl_mono hK p is _ h')
    · rename_i ho
      simp only [ho] at h1
end

theorem R.drew (r : R B m F N s a w) : R B m F N s a { w with drawn := w.drawn + 1 } := by
  have g : Go1 m w F m { w with drawn := w.drawn + 1 } F := ⟨fun _ _ => rfl, fun _ h => h, fun _ _ h => h, fun b c T f h => ⟨c, h, rfl⟩⟩
  have t : Tr m w F s.hp m { w with drawn := w.drawn + 1 } F s.hp := { Tr.refl m w F s.hp with os := rfl }
  exact ⟨⟨r.hp.len, r.hp.stable, fun id e he => (r.hp.ent id e he).go g (fun _ _ _ _ => rfl), r.hp.inj, r.hp.own⟩, fun k => (r.sl k).go g, r.size, r.defers, r.base.trans t⟩

theorem region_sound {Q : Exit → St → Prop} {p : Plan} {id : Nat} (hd : dstL N ops.toList = true) (r : R B m F N s a w) (hm : P.follows .mixedOrders = true) (hp : planOk ops p = true) (h : apl P ops (Q .normal) p [] s) :
    (Code.region id ops true).wp P (LQ B N Q) a w := by
  refine wp_region_any hm (AllO_sound (K := Bar (Q .normal)) (fun _ h => h) hd _ _ [] m F s a _ r.drew ?_)
  exact apl_all (Bar.cl _) _ p _ [] [] s hp closed_none rfl (apl_mono (fun s h => Bar.of h) p [] s h)

end Eng
end Go.Proofs.Ytgcmahhejblpkaa
