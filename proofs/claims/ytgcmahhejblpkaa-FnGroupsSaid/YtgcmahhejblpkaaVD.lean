/-
An abstract interpreter of the program's code on plain data: part D, every operation that only reads: what it gives.
No condition: everything here is stated over any program.
-/
import Derived.Test.YtgcmahhejblpkaaVC
namespace Go.Proofs.Ytgcmahhejblpkaa
namespace Eng
set_option linter.unusedVariables false
set_option linter.unusedSimpArgs false

variable {P : Program} {n0 N : Nat} {B : Bs} {m : Mp} {F : Nat → Prop} {s : St} {a : Act} {w : World} {hp : List Ent} {e : Operand → AV} {ρ : Operand → Value} {o : Oper} {c : AV → Prop}

/-- what an operation that only reads gives -/
def Gives (P : Program) (m : Mp) (F : Nat → Prop) (w : World) (ρ : Operand → Value) (o : Oper) (c : AV → Prop) : Prop :=
  ∃ x v, c x ∧ RepA m w F x v ∧ (execOp ρ o).run P w = .ok (.value v) w

theorem g_move (he : ∀ x, RepA m w F (e x) (ρ x)) {x : Operand} (ho : o.op = .move x ∨ o.op = .assign x) (h : c (e x)) : Gives P m F w ρ o c :=
  ⟨_, ρ x, h, he x, by rcases ho with ho | ho <;> simp [execOp, ho]⟩

theorem g_pick (he : ∀ x, RepA m w F (e x) (ρ x)) {x y z : Operand} (ho : o.op = .pick x y z) (h : apick (e x) (e y) (e z) c) : Gives P m F w ρ o c := by
  unfold apick at h
  split at h
  · rename_i t hc
    have hv : ρ x = .bool t := (hc ▸ he x).inv_v
    cases t with
    | true => exact ⟨_, ρ y, h.1 rfl, he y, by simp [execOp, ho, hv, asBool]⟩
    | false => exact ⟨_, ρ z, h.2 rfl, he z, by simp [execOp, ho, hv, asBool]⟩
  · exact h.elim

theorem g_extract (he : ∀ x, RepA m w F (e x) (ρ x)) {t : Operand} {i : Nat} (ho : o.op = .extract t i) (h : aext (e t) i c) : Gives P m F w ρ o c := by
  unfold aext at h
  split at h
  · rename_i l hc
    obtain ⟨vs, hv, hl, hrep⟩ := (hc ▸ he t).inv_tup
    split at h
    · rename_i x hx
      have hi : i < vs.length := by rw [hl]; exact lt_of_some hx
      have hvi : vs[i]? = some vs[i] := List.getElem?_eq_getElem hi
      exact ⟨x, vs[i], h, hrep i x _ hx hvi, by simp [execOp, ho, hv, Instr.extract, hvi]⟩
    · exact h.elim
  · exact h.elim

theorem run_ibin {op : BinOp} {t : TypeId} {k k' : IntKind} {x y : Int} {u v : Operand} (hk : k = k' ∨ op = .shr) (h : ibin op k x y c) :
    ∃ r, c (.v r) ∧ (do eqGuard op t u v (.int k x) (.int k' y); binOp op t (.int k x) (.int k' y) : Sem Value).run P w = .ok r w := by
  by_cases hs : op = .shr
  · subst hs
    simp only [ibin] at h
    refine ⟨_, h.2, ?_⟩
    have : ¬ y < 0 := by omega
    simp [eqGuard, binOp, Op.shift, this]
  · rcases hk with rfl | hk
    · cases op <;> simp only [ibin] at h <;> try exact h.elim
      case quo => exact ⟨_, h.2, by simp [eqGuard, binOp, Op.intDiv, h.1]⟩
      case rem => exact ⟨_, h.2, by simp [eqGuard, binOp, Op.intDiv, h.1]⟩
      case shr => exact absurd rfl hs
      all_goals exact ⟨_, h, by simp [eqGuard, binOp, Op.intArith, Op.intCmp, Op.intBits]⟩
    · exact absurd hk hs

theorem run_sbin {op : BinOp} {t : TypeId} {x y : ByteArray} {u v : Operand} (h : sbin op x y c) :
    ∃ r, c (.v r) ∧ (do eqGuard op t u v (.string x) (.string y); binOp op t (.string x) (.string y) : Sem Value).run P w = .ok r w := by
  cases op <;> simp only [sbin] at h <;> try exact h.elim
  case add => exact ⟨_, h.2, by simp only [eqGuard, binOp, Op.stringOp]; have := h.1; simp at this; simp; omega⟩
  all_goals exact ⟨_, h, by simp [eqGuard, binOp, Op.stringOp]⟩

theorem run_bbin {op : BinOp} {t : TypeId} {x y : Bool} {u v : Operand} (ht : P.underlying t = some .bool) (h : bbin op x y c) :
    ∃ r, c (.v r) ∧ (do eqGuard op t u v (.bool x) (.bool y); binOp op t (.bool x) (.bool y) : Sem Value).run P w = .ok r w := by
  cases op <;> simp only [bbin] at h <;> try exact h.elim
  · exact ⟨_, h, by simp [eqGuard, run_eql_bool w t x y ht]⟩
  · exact ⟨_, h, by simp [eqGuard, run_neq_bool w t x y ht]⟩

theorem g_bin (he : ∀ x, RepA m w F (e x) (ρ x)) {op : BinOp} {t t' : TypeId} {x y : Operand} (ho : o.op = .binOp op t x y t') (h : abin P op t (e x) (e y) c) : Gives P m F w ρ o c := by
  have fin : ∀ {u v r : Value}, ρ x = u → ρ y = v → (do eqGuard op t x y u v; binOp op t u v : Sem Value).run P w = .ok r w → (execOp ρ o).run P w = .ok (.value r) w := by
    intro u v r h1 h2 hr
    simp only [execOp, ho, h1, h2, Sem.run_bind, Sem.run_pure] at hr ⊢
    rw [hr]; rfl
  unfold abin at h
  split at h
  · rename_i k1 x1 k2 y1 hx hy
    obtain ⟨u, hc, hr⟩ := run_ibin (P := P) (w := w) (t := t) (u := x) (v := y) h.1 h.2
    exact ⟨_, u, hc, .v _, fin (hx ▸ he x).inv_v (hy ▸ he y).inv_v hr⟩
  · rename_i x1 y1 hx hy
    obtain ⟨u, hc, hr⟩ := run_sbin (P := P) (w := w) (t := t) (u := x) (v := y) h
    exact ⟨_, u, hc, .v _, fin (hx ▸ he x).inv_v (hy ▸ he y).inv_v hr⟩
  · rename_i x1 y1 hx hy
    obtain ⟨u, hc, hr⟩ := run_bbin (P := P) (w := w) (t := t) (u := x) (v := y) h.1 h.2
    exact ⟨_, u, hc, .v _, fin (hx ▸ he x).inv_v (hy ▸ he y).inv_v hr⟩
  · rename_i xs ys hx hy
    obtain ⟨ht, h⟩ := h
    split at h
    · rename_i r hr
      obtain ⟨us, hu, hul, hur⟩ := (hx ▸ he x).inv_agg
      obtain ⟨vs, hv, hvl, hvr⟩ := (hy ▸ he y).inv_agg
      unfold teqs at ht
      split at ht
      · rename_i fs hun
        split at ht
        · rename_i hgd
          have hI := aeq_ints (m := m) (w := w) (F := F) hr hul hvl hur hvr
          have hag : tagg P t = some true := by simp [tagg, hun]
          have heq := equalIn_run (P := P) 8 9992 t xs.length (.agg us.toArray) (.agg vs.toArray) us vs r w ht (.inr ⟨hag, rfl⟩) (.inr ⟨hag, rfl⟩) hul hI
          cases op <;> try exact h.elim
          · exact ⟨_, .bool r, h, .v _, fin hu hv (by simp [run_eqGuard_agg w .eql t x y us.toArray vs.toArray hgd, run_eql_struct, heq])⟩
          · exact ⟨_, .bool (!r), h, .v _, fin hu hv (by simp [run_eqGuard_agg w .neq t x y us.toArray vs.toArray hgd, run_neq_struct, heq])⟩
        · cases ht
      · cases ht
    · exact h.elim
  · exact h.elim

theorem g_un (he : ∀ x, RepA m w F (e x) (ρ x)) {op : UnOp} {t : TypeId} {x : Operand} (ho : o.op = .unOp op t x) (h : aun op (e x) c) : Gives P m F w ρ o c := by
  unfold aun at h
  split at h
  · rename_i k n hx
    have h1 := (hx ▸ he x).inv_v
    exact ⟨_, _, h, .v _, by simp [execOp, ho, h1, Op.unary, Op.intArith]⟩
  · rename_i b hx
    have h1 := (hx ▸ he x).inv_v
    exact ⟨_, _, h, .v _, by simp [execOp, ho, h1, Op.unary]⟩
  · exact h.elim

theorem g_load (hh : RelH m w F hp) (he : ∀ x, RepA m w F (e x) (ρ x)) {t : TypeId} {x : Operand} (ho : o.op = .load t x) (h : aload P t hp (e x) c) : Gives P m F w ρ o c := by
  obtain ⟨y, v, b, o', h1, h2, h3, h4⟩ := aload_rep hh (he x) h
  exact ⟨y, v, h1, h2, by simp [execOp, ho, h3, Instr.loadAt, Instr.sureAddr, h4]⟩

theorem g_fld (he : ∀ x, RepA m w F (e x) (ρ x)) {t : TypeId} {x : Operand} {f : Nat} (ho : o.op = .fieldAddr t x f) (h : afld P t f (e x) c) : Gives P m F w ρ o c := by
  unfold afld at h
  split at h
  · rename_i off hf
    have ex : ∀ b o', ρ x = .pointer (some ⟨b, o', none⟩) → (execOp ρ o).run P w = .ok (.value (.pointer (some ⟨b, o' + off, none⟩))) w := by
      intro b o' hv
      simp [execOp, ho, hv, run_fld hf]
    split at h
    · rename_i l o' hx
      obtain ⟨b, off', cur, T, fz, cs, hF, hb, hpl, hcell, hrep, hv⟩ := (hx ▸ he x).inv_ep
      exact ⟨_, _, h, by rw [Nat.add_assoc]; exact .ep l (o' + off) b off' cur T fz cs hF hb hpl hcell hrep, ex _ _ hv⟩
    · rename_i id i o' hx
      obtain ⟨b, sz, hm, hv⟩ := (hx ▸ he x).inv_ptr
      exact ⟨_, _, h, by rw [Nat.add_assoc]; exact .ptr id i (o' + off) b sz hm, ex _ _ hv⟩
    · exact h.elim
  · exact h.elim

theorem g_idx (hh : RelH m w F hp) (he : ∀ x, RepA m w F (e x) (ρ x)) {t : TypeId} {x i : Operand} (ho : o.op = .indexAddr t x i) (h : aidx P t hp (e x) (e i) c) : Gives P m F w ρ o c := by
  unfold aidx at h
  split at h
  · rename_i et k n ht hi
    have hvi := (hi ▸ he i).inv_v
    split at h
    · rename_i z sz xs hz hx
      obtain ⟨⟨h0, h1⟩, rfl, h⟩ := h
      have hlt : n.toNat < xs.length := by omega
      have hel := List.getElem?_eq_getElem hlt
      rw [hel, Option.getD_some] at h
      rcases (hx ▸ he x).inv_sl with ⟨hxs, _⟩ | ⟨b, off, cap, cur, T, fz, cs, hv, hs⟩
      · subst hxs; simp at hlt
      · exact ⟨_, _, h, hs.elem hel, by simp [execOp, ho, hv, hvi, run_idx ht hz h0 h1]⟩
    · rename_i z id len hz hx
      obtain ⟨⟨h0, h1⟩, h⟩ := h
      split at h
      · rename_i sz elems hc
        obtain ⟨rfl, h⟩ := h
        rcases (hx ▸ he x).inv_ref with ⟨_, hl, _⟩ | ⟨b, sz', cap, cur, T, hv, hm, hb, hsz, hlc, hmax⟩
        · omega
        · obtain ⟨rfl, _⟩ := hh.at_ hc hm
          refine ⟨_, .pointer (some ⟨b, n.toNat * sz' + 0, none⟩), h, .ptr id n.toNat 0 b sz' hm, ?_⟩
          simp [execOp, ho, hv, hvi, run_idx ht hz h0 h1]
      · exact h.elim
    · rename_i z id lo len hz hx
      obtain ⟨⟨h0, h1⟩, h⟩ := h
      split at h
      · rename_i sz elems hc
        obtain ⟨rfl, h⟩ := h
        rcases (hx ▸ he x).inv_rs with ⟨hl, _⟩ | ⟨b, sz', cap, hv, hm, hlc, hmax⟩
        · omega
        · obtain ⟨rfl, _⟩ := hh.at_ hc hm
          refine ⟨_, .pointer (some ⟨b, (lo + n.toNat) * sz' + 0, none⟩), h, .ptr id (lo + n.toNat) 0 b sz' hm, ?_⟩
          simp [execOp, ho, hv, hvi, run_idx ht hz h0 h1, Nat.add_mul]
      · exact h.elim
    · exact h.elim
  · exact h.elim

theorem byte_get (s : ByteArray) (n : Nat) (h : n < s.size) : s[n]? = some ((s.data.toList[n]?).getD 0) := by
  have h' : n < s.data.toList.length := by simpa using h
  rw [getElem?_pos s n h, List.getElem?_eq_getElem h', Option.getD_some]
  rfl

theorem g_ind (he : ∀ x, RepA m w F (e x) (ρ x)) {t : TypeId} {x i : Operand} (ho : o.op = .index t x i) (h : aind P t (e x) (e i) c) : Gives P m F w ρ o c := by
  unfold aind at h
  split at h
  · rename_i s k n hk hx hi
    obtain ⟨⟨h0, h1⟩, h⟩ := h
    have hlt : n.toNat < s.size := by omega
    have hb := byte_get s n.toNat hlt
    refine ⟨_, _, h, .v _, ?_⟩
    simp [execOp, ho, (hx ▸ he x).inv_v, (hi ▸ he i).inv_v, Instr.index, asIntOf, run_underlying (tkd_string hk), h0, hb]
  · exact h.elim

theorem run_bounds (sl : Bool) {len cap : Nat} {lo hi : Option Operand} {l h : Int} (he : ∀ x, RepA m w F (e x) (ρ x)) (hlo : sbd 0 (lo.map e) = some l) (hhi : sbd len (hi.map e) = some h) (h0 : 0 ≤ l) (h1 : l ≤ h) (h2 : h ≤ (len : Int)) (h3 : len ≤ cap) :
    (Instr.sliceBounds sl len cap (lo.map ρ) (hi.map ρ) none).run P w = .ok (l.toNat, h.toNat, cap) w := by
  have get : ∀ {d : Int} {x : Option Operand} {n : Int}, sbd d (x.map e) = some n → (x = none ∧ n = d) ∨ ∃ y k, x = some y ∧ ρ y = .int k n := by
    intro d x n hx
    cases x with
    | none => simp [sbd] at hx; exact .inl ⟨rfl, hx.symm⟩
    | some y =>
      simp only [Option.map_some, sbd] at hx
      split at hx
      · rename_i heq; cases heq
      · rename_i k z heq
        cases hx
        have : e y = .v (.int k n) := by simpa using heq
        exact .inr ⟨y, k, rfl, (this ▸ he y).inv_v⟩
      · cases hx
  have bd : ∀ (k : IntKind) (i : Int) (y : Nat) (cd : BoundsCode), 0 ≤ i → i ≤ y → (Instr.sliceBound (.int k i) y cd).run P w = .ok i.toNat w := fun k i y cd g1 g2 => by
    simp [Instr.sliceBound, asIntOf, g1, g2]
  rcases get hlo with ⟨rfl, rfl⟩ | ⟨y, k, rfl, hy⟩
  · rcases get hhi with ⟨rfl, rfl⟩ | ⟨z, k', rfl, hz⟩
    · simp [Instr.sliceBounds]
    · simp [Instr.sliceBounds, hz, bd k' h cap _ (by omega) (by omega)]
  · rcases get hhi with ⟨rfl, rfl⟩ | ⟨z, k', rfl, hz⟩
    · simp [Instr.sliceBounds, hy, bd k l len _ h0 (by omega)]
    · simp [Instr.sliceBounds, hy, hz, bd k' h cap _ (by omega) (by omega), bd k l h.toNat _ h0 (by omega)]

theorem run_slice {t et : TypeId} {ad : Option Addr} {len cap z : Nat} {lo hi : Option Operand} {l h : Int} (ht : tel P t = some et) (hz : tsz P et = some z)
    (hb : (Instr.sliceBounds true len cap (lo.map ρ) (hi.map ρ) none).run P w = .ok (l.toNat, h.toNat, cap) w) :
    (Instr.sliceAt t (.slice ad len cap) (lo.map ρ) (hi.map ρ) none).run P w = .ok (.slice (if cap = l.toNat then ad else ad.map (·.add (l.toNat * z))) (h.toNat - l.toNat) (cap - l.toNat)) w := by
  simp only [Instr.sliceAt, Instr.slice, Sem.run_bind, run_underlying (tel_und ht), Result.andThen_ok, hb, run_size hz, Sem.run_pure]

theorem exec_slice {t : TypeId} {x : Operand} {lo hi : Option Operand} {v r : Value} (ho : o.op = .slice t x lo hi none) (hv : ρ x = v) (hr : (Instr.sliceAt t v (lo.map ρ) (hi.map ρ) none).run P w = .ok r w) :
    (execOp ρ o).run P w = .ok (.value r) w := by
  simp only [execOp, ho, hv, Option.map_none, Sem.run_bind, hr, Result.andThen_ok, Sem.run_pure]

theorem g_slice (hh : RelH m w F hp) (he : ∀ x, RepA m w F (e x) (ρ x)) {t : TypeId} {x : Operand} {lo hi : Option Operand} (ho : o.op = .slice t x lo hi none) (h : aslice P t hp (e x) (lo.map e) (hi.map e) c) : Gives P m F w ρ o c := by
  unfold aslice at h
  split at h
  · rename_i len hlen
    split at h
    · rename_i l u hl hu
      obtain ⟨⟨h0, h1, h2⟩, h⟩ := h
      have hsz : ∀ {z : Nat}, (tel P t).bind (tsz P) = some z → ∃ et, tel P t = some et ∧ tsz P et = some z := by
        intro z hz
        cases ht : tel P t with
        | none => simp [ht] at hz
        | some et => exact ⟨et, rfl, by simpa [ht] using hz⟩
      split at h
      · rename_i s hk hx
        rw [hx] at hlen
        simp [slen] at hlen
        subst hlen
        have hb := run_bounds (P := P) false (cap := s.size) he hl hu h0 h1 h2 (Nat.le_refl _)
        refine ⟨_, _, h, .v _, exec_slice ho (hx ▸ he x).inv_v ?_⟩
        simp only [Instr.sliceAt, Instr.slice, Sem.run_bind, run_underlying (tkd_string hk), Result.andThen_ok, Option.isSome_none, Bool.false_eq_true, if_false, hb, Sem.run_pure]
      · rename_i sz xs hk hx
        obtain ⟨hz, h⟩ := h
        obtain ⟨et, ht, hz⟩ := hsz hz
        rw [hx] at hlen
        simp [slen] at hlen
        subst hlen
        rcases (hx ▸ he x).inv_sl with ⟨rfl, ad, cap, hv⟩ | ⟨b, off, cap, cur, T, fz, cs, hv, hS⟩
        · simp at h2
          have hb := run_bounds (P := P) true (cap := cap) he hl hu h0 h1 h2 (Nat.zero_le _)
          have hu0 : u.toNat = 0 := by omega
          refine ⟨_, _, h, ?_, exec_slice ho hv (run_slice ht hz hb)⟩
          rw [hu0]
          simp
          exact .nil _ _ _
        · have hb := run_bounds (P := P) true (cap := cap) he hl hu h0 h1 h2 hS.hcap
          refine ⟨_, _, h, ?_, exec_slice ho hv (run_slice ht hz hb)⟩
          have hll : ((xs.take u.toNat).drop l.toNat).length = u.toNat - l.toNat := by simp; omega
          by_cases hcl : cap = l.toNat
          · have hu0 : u.toNat - l.toNat = 0 := by have := hS.hcap; omega
            rw [hu0] at hll ⊢
            rw [List.eq_nil_of_length_eq_zero hll, if_pos hcl]
            exact .nil _ _ _
          · rw [if_neg hcl]
            simp only [Option.map_some, addr_add]
            rw [← hll]
            refine .sl sz _ b (off + l.toNat * sz) (cap - l.toNat) cur T fz (fun i o => cs (l.toNat + i) o) hS.hF hS.hb (by rw [hll]; have := hS.hcap; omega) (by have := hS.hmax; omega)
              (fun e he => hS.hsz e (List.mem_of_mem_take (List.mem_of_mem_drop he))) (fun e he => hS.hpl e (List.mem_of_mem_take (List.mem_of_mem_drop he))) ?_ ?_
            · intro i o hi ho
              rw [hll] at hi
              have := hS.hcell (l.toNat + i) o (by omega) ho
              rw [Nat.add_mul, ← Nat.add_assoc] at this
              exact this
            · intro i o e d h3 h4
              rw [List.getElem?_drop, List.getElem?_take] at h3
              split at h3
              · exact hS.hrep _ _ _ _ h3 h4
              · cases h3
      · rename_i hk hx
        rw [hx] at hlen
        simp [slen] at hlen
        subst hlen
        obtain ⟨hz, h⟩ := h
        cases hzz : (tel P t).bind (tsz P) with
        | none => exact absurd hzz hz
        | some z =>
          obtain ⟨et, ht, hz'⟩ := hsz hzz
          have hb := run_bounds (P := P) true (cap := 0) he hl hu h0 h1 h2 (Nat.le_refl _)
          have hl0 : l.toNat = 0 := by omega
          have hu0 : u.toNat = 0 := by omega
          have hr := run_slice (ad := none) ht hz' hb
          rw [hl0, hu0] at hr
          exact ⟨_, _, h, .v _, exec_slice ho (hx ▸ he x).inv_v hr⟩
      · rename_i id n hk hx
        rw [hx] at hlen
        simp [slen] at hlen
        subst hlen
        split at h
        · rename_i sz elems hc
          obtain ⟨hz, h⟩ := h
          obtain ⟨et, ht, hz⟩ := hsz hz
          rcases (hx ▸ he x).inv_ref with ⟨hm, rfl, hv⟩ | ⟨b, sz', cap, cur, T, hv, hm, hb', hsz', hlc, hmax⟩
          · have hb := run_bounds (P := P) true (cap := 0) he hl hu h0 h1 h2 (Nat.le_refl _)
            have hu0 : u.toNat - l.toNat = 0 := by omega
            refine ⟨_, _, h, ?_, exec_slice ho hv (run_slice ht hz hb)⟩
            rw [hu0]
            exact .rsNil _ _ _ _
          · obtain ⟨rfl, _⟩ := hh.at_ hc hm
            have hb := run_bounds (P := P) true (cap := cap) he hl hu h0 h1 h2 hlc
            refine ⟨_, _, h, ?_, exec_slice ho hv (run_slice ht hz hb)⟩
            by_cases hcl : cap = l.toNat
            · have hu0 : u.toNat - l.toNat = 0 := by omega
              rw [hu0]
              exact .rsNil _ _ _ _
            · rw [if_neg hcl]
              simp only [Option.map_some, addr_add, Nat.zero_add]
              exact .rs id l.toNat _ b sz' _ hm (by omega) (by omega)
        · exact h.elim
      · rename_i id lo' n hk hx
        rw [hx] at hlen
        simp [slen] at hlen
        subst hlen
        split at h
        · rename_i sz elems hc
          obtain ⟨hz, h⟩ := h
          obtain ⟨et, ht, hz⟩ := hsz hz
          rcases (hx ▸ he x).inv_rs with ⟨rfl, ad, cap, hv⟩ | ⟨b, sz', cap, hv, hm, hlc, hmax⟩
          · have hb := run_bounds (P := P) true (cap := cap) he hl hu h0 h1 h2 (Nat.zero_le _)
            have hu0 : u.toNat - l.toNat = 0 := by omega
            refine ⟨_, _, h, ?_, exec_slice ho hv (run_slice ht hz hb)⟩
            rw [hu0]
            exact .rsNil _ _ _ _
          · obtain ⟨rfl, _⟩ := hh.at_ hc hm
            have hb := run_bounds (P := P) true (cap := cap) he hl hu h0 h1 h2 hlc
            refine ⟨_, _, h, ?_, exec_slice ho hv (run_slice ht hz hb)⟩
            by_cases hcl : cap = l.toNat
            · have hu0 : u.toNat - l.toNat = 0 := by omega
              rw [hu0]
              exact .rsNil _ _ _ _
            · rw [if_neg hcl]
              simp only [Option.map_some, addr_add]
              rw [← Nat.add_mul]
              exact .rs id (lo' + l.toNat) _ b sz' _ hm (by omega) (by omega)
        · exact h.elim
      · exact h.elim
    · exact h.elim
  · exact h.elim

theorem Src.cells {sz : Nat} {ys : List (List AV)} {ad : Option Addr} {news : List Value} (hS : Src m w F sz ys ad news) (len cap : Nat) (hl : len = ys.length) (w' : World) (hw : ∀ a : Addr, ∀ v, w.cell? a = some v → w'.cell? a = some v) :
    (Builtin.firstCells sz len (.slice ad len cap)).run P w' = .ok news.toArray w' := by
  cases ad with
  | none =>
    have e1 := hS.none_ rfl
    have e2 : news = [] := List.eq_nil_of_length_eq_zero (by rw [hS.len, e1]; simp)
    subst e2
    simp [Builtin.firstCells]
  | some b => exact run_firstCells_some w' sz len b len cap news (by rw [hS.len, hl]) (fun j v hv => hw _ _ (hS.cell b rfl j v hv))

theorem g_conv (hh : RelH m w F hp) (he : ∀ x, RepA m w F (e x) (ρ x)) {t u : TypeId} {x : Operand} (ho : o.op = .convert t u x) (h : aconv P t u hp (e x) c) : Gives P m F w ρ o c := by
  unfold aconv at h
  split at h
  · rename_i k1 k2 k3 n ht hu hx
    refine ⟨_, _, h, .v _, ?_⟩
    simp [execOp, ho, (hx ▸ he x).inv_v, convert, run_underlying (tkd_int ht), run_underlying (tkd_int hu), Conv.intToInt]
  · rename_i x' ht hu
    obtain ⟨h8, h⟩ := h
    split at h
    · rename_i bs hbs
      cases hy : srd hp 1 (e x) with
      | none => simp [hy] at hbs
      | some ys =>
        simp [hy] at hbs
        obtain ⟨ad, cap, news, hv, hmax, hS⟩ := srd_rep hh (by omega) (he x) hy
        obtain ⟨ns, rfl, rfl⟩ := byts_news (m := m) (w := w) (F := F) (news := news) hbs (by rw [hS.len]; simp) (fun i e d h1 h2 => by simpa using hS.hrep i 0 e d h1 h2)
        obtain ⟨et, htu, hte⟩ := tkd_slice ht
        have h8' : P.underlying et = some (.int .u8) := by
          simp only [hte, Option.bind_some] at h8
          split at h8
          · rename_i hk; exact tkd_int hk
          · simp at h8
        refine ⟨_, _, h, .v _, ?_⟩
        have hload : ∀ b, ad = some b → (loadCells b ys.length).run P w = .ok (ns.map (Value.int .u8)).toArray w := by
          intro b hb
          subst hb
          have := run_firstCells_some (P := P) w 1 ys.length b ys.length cap (ns.map (Value.int .u8)) (by rw [hS.len]) (fun j v hv => hS.cell b rfl j v hv)
          simpa [Builtin.firstCells] using this
        cases ad with
        | none =>
          have e1 := hS.none_ rfl
          have e2 : ns = [] := by
            have := hS.len
            rw [e1] at this
            exact List.eq_nil_of_length_eq_zero (by simpa using this)
          subst e2
          simp [execOp, ho, hv, convert, run_underlying htu, run_underlying (tkd_string hu), run_underlying h8', Conv.bytesToString]
          rfl
        | some b =>
          have hl := loop_bytes (P := P) (w := w) ns ByteArray.empty
          simp [execOp, ho, hv, convert, run_underlying htu, run_underlying (tkd_string hu), run_underlying h8', Conv.bytesToString, hload b rfl]
          simp at hl
          rw [hl]
    · exact h.elim
  · exact h.elim

theorem g_nil (he : ∀ x, RepA m w F (e x) (ρ x)) {x : Operand} (ho : o.op = .nilCheck x) (h : aval P (.nilCheck x) e hp c) : Gives P m F w ρ o c := by
  simp only [aval] at h
  split at h
  · rename_i id i o' hx
    have hr := hx ▸ he x
    obtain ⟨b, sz, hm, hv⟩ := hr.inv_ptr
    exact ⟨_, ρ x, h, hr, by simp [execOp, ho, hv]⟩
  · rename_i l o' hx
    have hr := hx ▸ he x
    obtain ⟨b, off', cur, T, fz, cs, hF, hb, hpl, hcell, hrep, hv⟩ := hr.inv_ep
    exact ⟨_, ρ x, h, hr, by simp [execOp, ho, hv]⟩
  · exact h.elim

theorem g_field (he : ∀ x, RepA m w F (e x) (ρ x)) {t : TypeId} {x : Operand} {f : Nat} (ho : o.op = .field t x f) (h : afval P t f (e x) c) : Gives P m F w ρ o c := by
  unfold afval at h
  split at h
  · rename_i off ft cs hf hx
    obtain ⟨vs, hv, hl, hrep⟩ := (hx ▸ he x).inv_agg
    split at h
    · rename_i n g hs hg
      unfold tfld at hf
      cases hu : P.underlying t with
      | none => simp [hu] at hf
      | some d =>
        cases d <;> simp [hu] at hf
        rename_i fs
        obtain ⟨x', hx', rfl, rfl⟩ := hf
        cases g with
        | true =>
          simp only [rd, if_true] at h
          refine ⟨_, .agg ((vs.drop x'.offset).take n).toArray, h.2, .agg _ _ (by simp [hl]) ?_, ?_⟩
          · intro i c v h1 h2
            rw [List.getElem?_take] at h1 h2
            split at h1 <;> simp_all
            exact hrep _ _ _ h1 h2
          · simp only [execOp, ho, hv, Instr.field, Sem.run_bind, run_underlying hu, Result.andThen_ok, hx', asAgg, Sem.run_pure, part, run_agg hg, if_true, run_size hs, extract_list]
        | false =>
          simp only [rd, Bool.false_eq_true, if_false] at h
          split at h
          · rename_i y hy
            have hlt : x'.offset < vs.length := by rw [hl]; exact lt_of_some hy
            have hvv : vs[x'.offset]? = some vs[x'.offset] := List.getElem?_eq_getElem hlt
            refine ⟨_, vs[x'.offset], h, hrep _ _ _ hy hvv, ?_⟩
            simp [execOp, ho, hv, Instr.field, run_underlying hu, hx', asAgg, part, run_agg hg, hvv]
          · exact h.elim
    · exact h.elim
  · exact h.elim

theorem g_build (he : ∀ x, RepA m w F (e x) (ρ x)) {t : TypeId} {ps : Array (Nat × Operand)} (ho : o.op = .build t ps) (h : abuild P t (evps e ps.toList) c) : Gives P m F w ρ o c := by
  unfold abuild at h
  split at h
  · rename_i z pl hz hpl
    obtain ⟨x, vs', hc, hf, hx⟩ := fill_rep (m := m) (w := w) (F := F) (pl := pl) (evps e ps.toList) (ps.map fun p => (p.1, ρ p.2)).toList _ z _ (by simp [evps_length])
      (by
        intro i p q h1 h2
        obtain ⟨q', h3, rfl⟩ := evps_get h1
        simp only [Array.toList_map, List.getElem?_map, h3] at h2
        simp at h2
        subst h2
        exact ⟨rfl, he _⟩) (by simp) (by
        intro i x v h1 h2
        simp at h1
        obtain ⟨y, hy, rfl⟩ := h1
        rw [h2] at hy; cases hy
        exact .v _) h
    have hb : P.built t (ps.map fun p => (p.1, ρ p.2)).toList = some vs' := by
      unfold tpl at hpl
      unfold tzero at hz
      unfold Program.built
      cases hi : P.info? t with
      | none => simp [hi] at hz
      | some it =>
        cases hu : P.underlying t with
        | none => simp [hu] at hpl
        | some d =>
          cases d <;> simp only [hu] at hpl <;> try (cases hpl; done)
          simp only [hi, Option.bind_some] at hz
          simp only [hz, hpl]
          exact hf
    exact ⟨_, _, hc, hx, by simp only [execOp, ho, Sem.run_bind]; rw [run_build w t _ vs' hb]; rfl⟩
  · exact h.elim

theorem g_len (he : ∀ x, RepA m w F (e x) (ρ x)) {x : Operand} {as : Array Operand} {ts : Array TypeId} {t : TypeId} (ho : o.op = .call { callee := .builtin .len, args := as, argTypes := ts }) (has : as = #[x]) (hts : ts[0]? = some t)
    (h : alen P t (e x) c) : Gives P m F w ρ o c := by
  have fin : ∀ {d : TypeDesc} {v : Value} {n : Nat}, P.underlying t = some d → ρ x = v → ((∃ et, d = .slice et) ∧ (∃ a cap, v = .slice a n cap) ∨ d = .string ∧ ∃ s : ByteArray, v = .string s ∧ s.size = n) →
      (execOp ρ o).run P w = .ok (.value (.int .i64 n)) w := by
    intro d v n hu hv hc
    rcases hc with ⟨⟨et, rfl⟩, a, cap, rfl⟩ | ⟨rfl, s, rfl, rfl⟩ <;>
      simp [execOp, ho, resolve, invoke, builtin, Builtin.len_, has, hts, hv, run_underlying hu, goInt]
  unfold alen at h
  split at h
  · rename_i sz xs hk hx
    obtain ⟨et, hu, _⟩ := tkd_slice hk
    rcases (hx ▸ he x).inv_sl with ⟨rfl, b, cap, hv⟩ | ⟨b, off, cap, cur, T, fz, cs, hv, hs⟩
    · exact ⟨_, _, h, .v _, fin hu hv (.inl ⟨⟨et, rfl⟩, _, _, rfl⟩)⟩
    · exact ⟨_, _, h, .v _, fin hu hv (.inl ⟨⟨et, rfl⟩, _, _, rfl⟩)⟩
  · rename_i s hk hx
    exact ⟨_, _, h, .v _, fin (tkd_string hk) (hx ▸ he x).inv_v (.inr ⟨rfl, s, rfl, rfl⟩)⟩
  · rename_i a n cap hk hx
    obtain ⟨et, hu, _⟩ := tkd_slice hk
    exact ⟨_, _, h, .v _, fin hu (hx ▸ he x).inv_v (.inl ⟨⟨et, rfl⟩, _, _, rfl⟩)⟩
  · rename_i id n hk hx
    obtain ⟨et, hu, _⟩ := tkd_slice hk
    rcases (hx ▸ he x).inv_ref with ⟨_, rfl, hv⟩ | ⟨b, sz', cap, cur, T, hv, _⟩
    · exact ⟨_, _, h, .v _, fin hu hv (.inl ⟨⟨et, rfl⟩, _, _, rfl⟩)⟩
    · exact ⟨_, _, h, .v _, fin hu hv (.inl ⟨⟨et, rfl⟩, _, _, rfl⟩)⟩
  · rename_i id lo n hk hx
    obtain ⟨et, hu, _⟩ := tkd_slice hk
    rcases (hx ▸ he x).inv_rs with ⟨rfl, b, cap, hv⟩ | ⟨b, sz', cap, hv, _⟩
    · exact ⟨_, _, h, .v _, fin hu hv (.inl ⟨⟨et, rfl⟩, _, _, rfl⟩)⟩
    · exact ⟨_, _, h, .v _, fin hu hv (.inl ⟨⟨et, rfl⟩, _, _, rfl⟩)⟩
  · exact h.elim

theorem g_mm (he : ∀ x, RepA m w F (e x) (ρ x)) {x y : Operand} {as : Array Operand} {ts : Array TypeId} {b : Builtin} {mx : Bool} (ho : o.op = .call { callee := .builtin b, args := as, argTypes := ts }) (hb : (b = .max ∧ mx = true) ∨ (b = .min ∧ mx = false)) (has : as = #[x, y])
    (h : amm mx (e x) (e y) c) : Gives P m F w ρ o c := by
  unfold amm at h
  split at h
  · rename_i k n k' n' hx hy
    refine ⟨_, _, h, .v _, ?_⟩
    rcases hb with ⟨rfl, rfl⟩ | ⟨rfl, rfl⟩ <;>
      simp [execOp, ho, resolve, invoke, builtin, has, Builtin.max_, Builtin.min_, Builtin.max2, Builtin.min2, (hx ▸ he x).inv_v, (hy ▸ he y).inv_v]
  · exact h.elim

/-- every operation that only reads, but a call of a function -/
theorem aval_gives (hh : RelH m w F hp) (he : ∀ x, RepA m w F (e x) (ρ x)) (hq : ∀ k as ts, o.op ≠ .call { callee := .value (.func k), args := as, argTypes := ts }) (h : aval P o.op e hp c) : Gives P m F w ρ o c := by
  unfold aval at h
  split at h
  · rename_i x ho; exact g_move he (.inl ho) h
  · rename_i x ho; exact g_move he (.inr ho) h
  · rename_i x y z ho; exact g_pick he ho h
  · rename_i t i ho; exact g_extract he ho h
  · rename_i op t x y t' ho; exact g_bin he ho h
  · rename_i op t x ho; exact g_un he ho h
  · rename_i t x ho; exact g_load hh he ho h
  · rename_i t x f ho; exact g_fld he ho h
  · rename_i t x i ho; exact g_idx hh he ho h
  · rename_i t x i ho; exact g_ind he ho h
  · rename_i t x lo hi ho; exact g_slice hh he ho h
  · rename_i t u x ho; exact g_conv hh he ho h
  · rename_i x ho; exact g_nil (hp := hp) he ho h
  · rename_i t ps ho; exact g_build he ho h
  · rename_i t x f ho; exact g_field he ho h
  · rename_i k as ts ho; exact absurd ho (hq k as ts)
  · rename_i as ts ho
    split at h
    · rename_i x t tr has hts
      exact g_len he (x := x) ho (by cases as; simp_all) (by cases ts; simp_all) h
    · exact h.elim
  · rename_i as ts ho
    split at h
    · rename_i x y has
      exact g_mm he (x := x) (y := y) ho (.inl ⟨rfl, rfl⟩) (by cases as; simp_all) h
    · exact h.elim
  · rename_i as ts ho
    split at h
    · rename_i x y has
      exact g_mm he (x := x) (y := y) ho (.inr ⟨rfl, rfl⟩) (by cases as; simp_all) h
    · exact h.elim
  · exact h.elim

end Eng
end Go.Proofs.Ytgcmahhejblpkaa
