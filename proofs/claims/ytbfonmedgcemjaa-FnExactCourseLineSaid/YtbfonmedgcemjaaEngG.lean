/-
An abstract interpreter of the program's code on plain data: part G, soundness of addresses, new blocks, structs, calls.
No condition: everything here is stated over any program.
-/
import Derived.Test.YtbfonmedgcemjaaEngF
import Derived.Laws.Tables
namespace Go.Proofs.Ytbfonmedgcemjaa
namespace Eng
set_option linter.unusedVariables false
set_option linter.unusedSimpArgs false

variable {P : Program} {n0 N : Nat} {B : Bs} {m : Mp} {F : Nat → Prop} {s : St} {a : Act} {w : World} {K : St → Prop} {Q : Exit → Act → World → Prop} {o : Oper}

structure SlAt (w : World) (F : Nat → Prop) (sz : Nat) (xs : List (List D)) (b off cap : Nat) (cur : Array Value) (T : TypeId) (fz : Nat × Nat) (cs : Nat → Nat → Value) : Prop where
  hF : F b
  hb : w.heap[b]? = some (.cells cur T fz)
  hcap : xs.length ≤ cap
  hmax : cap ≤ maxLen
  hsz : ∀ e ∈ xs, e.length = sz
  hcell : ∀ i o, i < xs.length → o < sz → cur[off + i * sz + o]? = some (cs i o)
  hrep : ∀ (i o : Nat) (e : List D) (d : D), xs[i]? = some e → e[o]? = some d → RepD w F d (cs i o)

theorem RepD.inv_sl {sz : Nat} {xs : List (List D)} {v : Value} (h : RepD w F (.sl sz xs) v) :
    (xs = [] ∧ ∃ a cap, v = .slice a 0 cap) ∨ ∃ b off cap cur T fz cs, v = .slice (some ⟨b, off, none⟩) xs.length cap ∧ SlAt w F sz xs b off cap cur T fz cs := by
  cases h with
  | nil sz a cap => exact .inl ⟨rfl, a, cap, rfl⟩
  | sl sz xs b off cap cur T fz cs hF hb hcap hmax hsz hcell hrep => exact .inr ⟨b, off, cap, cur, T, fz, cs, rfl, hF, hb, hcap, hmax, hsz, hcell, hrep⟩

theorem RepA.inv_sl {sz : Nat} {xs : List (List D)} {v : Value} (h : RepA m w F (.d (.sl sz xs)) v) :
    (xs = [] ∧ ∃ a cap, v = .slice a 0 cap) ∨ ∃ b off cap cur T fz cs, v = .slice (some ⟨b, off, none⟩) xs.length cap ∧ SlAt w F sz xs b off cap cur T fz cs := by
  cases h with | d h => exact h.inv_sl

theorem RepA.inv_ref {id lo len : Nat} {v : Value} (h : RepA m w F (.ref id lo len) v) :
    (m[id]? = some none ∧ lo = 0 ∧ len = 0 ∧ v = .slice none 0 0) ∨ ∃ (b sz cap : Nat) (cur : Array Value) (T : TypeId), v = .slice (some ⟨b, lo * sz, none⟩) len cap ∧
      m[id]? = some (some (b, sz)) ∧ w.heap[b]? = some (.cells cur T (0, 0)) ∧ cur.size = (lo + cap) * sz ∧ len ≤ cap ∧ lo + cap ≤ maxLen := by
  cases h with
  | refNil id hm => exact .inl ⟨hm, rfl, rfl, rfl⟩
  | ref id lo len b sz cap cur T hm hb hs hl hmax => exact .inr ⟨b, sz, cap, cur, T, rfl, hm, hb, hs, hl, hmax⟩

theorem SlAt.elem {sz b off cap : Nat} {xs : List (List D)} {cur : Array Value} {T : TypeId} {fz : Nat × Nat} {cs : Nat → Nat → Value} (h : SlAt w F sz xs b off cap cur T fz cs)
    {i : Nat} {e : List D} (he : xs[i]? = some e) : RepA m w F (.ep e 0) (.pointer (some ⟨b, off + i * sz, none⟩)) := by
  have hl := h.hsz e (List.mem_of_getElem? he)
  exact .ep e 0 b (off + i * sz) cur T fz (cs i) h.hF h.hb (fun j hj => h.hcell i j (lt_of_some he) (by omega)) (fun j d hd => h.hrep i j e d he hd)

theorem run_fld {t : TypeId} {f off : Nat} (h : tfo P t f = some off) (w : World) (b o' : Nat) :
    (Instr.fieldAt t (.pointer (some ⟨b, o', none⟩)) f).run P w = .ok (.pointer (some ⟨b, o' + off, none⟩)) w := by
  unfold tfo tfld at h
  cases hu : P.underlying t with
  | none => simp [hu] at h
  | some d =>
    cases d <;> simp [hu] at h
    rename_i fs
    cases hf : fs[f]? with
    | none => simp [hf] at h
    | some x =>
      simp [hf] at h
      cases hs : tsz P x.type with
      | none => simp [hs] at h
      | some n =>
        cases n with
        | zero => simp [hs] at h
        | succ n =>
          simp [hs] at h
          subst h
          simp [Instr.fieldAt, run_underlying hu, hf, Instr.sureAddr, fieldPlace, run_size hs, addr_add]

theorem op_fld (r : R B m F N s a w) (hd : ∀ d, o.dst = some d → d < N) {t : TypeId} {x : Operand} {f : Nat} (ho : o.op = .fieldAddr t x f)
    (h : afld P t f (ev s x) (kv o.dst K s s.hp)) : o.wp P a w (Nx B N K) Q := by
  unfold afld at h
  split at h
  · rename_i off hf
    have ex : ∀ b o', a.eval x = .pointer (some ⟨b, o', none⟩) → (execOp a.eval o).run P w = .ok (.value (.pointer (some ⟨b, o' + off, none⟩))) w := by
      intro b o' hv
      simp [execOp, ho, hv, run_fld hf]
    split at h
    · rename_i id o' hx
      obtain ⟨b, sz, hm, hv⟩ := (hx ▸ r.ev x).inv_bx
      exact op_pure r hd (ex _ _ hv) (.bx id (o' + off) b sz hm) h
    · rename_i e o' hx
      obtain ⟨b, off', cur, T, fz, cs, hF, hb, hcell, hrep, hv⟩ := (hx ▸ r.ev x).inv_ep
      exact op_pure r hd (ex _ _ hv) (by rw [Nat.add_assoc]; exact .ep e (o' + off) b off' cur T fz cs hF hb hcell hrep) h
    · rename_i id i o' hx
      obtain ⟨b, sz, hm, hv⟩ := (hx ▸ r.ev x).inv_ptr
      exact op_pure r hd (ex _ _ hv) (by rw [Nat.add_assoc]; exact .ptr id i (o' + off) b sz hm) h
    · exact h.elim
  · exact h.elim

theorem run_idx {t et : TypeId} {k : IntKind} {n : Int} {b off len cap z : Nat} (ht : tel P t = some et) (hz : tsz P et = some z) (h0 : 0 ≤ n) (h1 : n < len) (w : World) :
    (Instr.indexAt t (.slice (some ⟨b, off, none⟩) len cap) (.int k n)).run P w = .ok (.pointer (some ⟨b, off + n.toNat * z, none⟩)) w := by
  unfold tel at ht
  cases hu : P.underlying t with
  | none => simp [hu] at ht
  | some d =>
    cases d <;> simp [hu] at ht
    subst ht
    simp [Instr.indexAt, asIntOf, run_underlying hu, h0, h1, run_size hz, addr_add]

theorem op_idx (r : R B m F N s a w) (hd : ∀ d, o.dst = some d → d < N) {t : TypeId} {x i : Operand} (ho : o.op = .indexAddr t x i)
    (h : aidx P t s.hp (ev s x) (ev s i) (kv o.dst K s s.hp)) : o.wp P a w (Nx B N K) Q := by
  unfold aidx at h
  split at h
  · rename_i et k n ht hi
    have hvi := (hi ▸ r.ev i).inv_v
    split at h
    · rename_i z sz xs hz hx
      obtain ⟨h0, h1, rfl, h⟩ := h
      have hlt : n.toNat < xs.length := by omega
      have he := List.getElem?_eq_getElem hlt
      rcases (hx ▸ r.ev x).inv_sl with ⟨hxs, _⟩ | ⟨b, off, cap, cur, T, fz, cs, hv, hs⟩
      · subst hxs; simp at hlt
      · exact op_pure r hd (by simp [execOp, ho, hv, hvi, run_idx ht hz h0 h1]) (hs.elem he) (h _ he)
    · rename_i z id lo len hz hx
      obtain ⟨h0, h1, h⟩ := h
      split at h
      · rename_i sz elems hc
        obtain ⟨rfl, h⟩ := h
        rcases (hx ▸ r.ev x).inv_ref with ⟨_, _, hl, _⟩ | ⟨b, sz', cap, cur, T, hv, hm, hb, hsz, hlc, hmax⟩
        · omega
        · have : sz' = sz := by
            rcases r.hp.ent id _ hc with ⟨hm', _⟩ | ⟨b', cur', T', cs, hm', _⟩
            · rw [hm'] at hm; cases hm
            · rw [hm'] at hm; cases hm; rfl
          subst this
          refine op_pure r hd (v := .pointer (some ⟨b, (lo + n.toNat) * sz' + 0, none⟩)) ?_ (.ptr id (lo + n.toNat) 0 b sz' hm) h
          simp [execOp, ho, hv, hvi, run_idx ht hz h0 h1, Nat.add_mul]
      · exact h.elim
    · exact h.elim
  · exact h.elim

theorem op_len (r : R B m F N s a w) (hd : ∀ d, o.dst = some d → d < N) {x : Operand} {as : Array Operand} {ts : Array TypeId} {t : TypeId} (ho : o.op = .call { callee := .builtin .len, args := as, argTypes := ts }) (has : as = #[x]) (hts : ts[0]? = some t)
    (h : alen P t (ev s x) (kv o.dst K s s.hp)) : o.wp P a w (Nx B N K) Q := by
  have kd : ∀ k, tkd P t = some k → ∃ t1, P.underlying t = some t1 ∧ (k = .slice → ∃ e, t1 = .slice e) ∧ (k = .string → t1 = .string) := by
    intro k hk
    unfold tkd at hk
    cases hp : P.underlying t with
    | none => simp [hp] at hk
    | some d =>
      rw [hp] at hk
      refine ⟨d, rfl, ?_, ?_⟩
      · intro hs; subst hs; cases d <;> simp at hk; exact ⟨_, rfl⟩
      · intro hs; subst hs; cases d <;> simp at hk; rfl
  unfold alen at h
  split at h
  · rename_i sz xs hk hx
    obtain ⟨t1, hp, h1, _⟩ := kd _ hk
    obtain ⟨e, rfl⟩ := h1 rfl
    rcases (hx ▸ r.ev x).inv_sl with ⟨rfl, b, cap, hv⟩ | ⟨b, off, cap, cur, T, fz, cs, hv, hs⟩
    · exact op_pure r hd (by simp [execOp, ho, resolve, invoke, builtin, Builtin.len_, has, hts, hv, run_underlying hp, goInt]) (.d (.v _)) h
    · exact op_pure r hd (by simp [execOp, ho, resolve, invoke, builtin, Builtin.len_, has, hts, hv, run_underlying hp, goInt]) (.d (.v _)) h
  · rename_i x1 hk hx
    obtain ⟨t1, hp, _, h1⟩ := kd _ hk
    have := h1 rfl; subst this
    have hv := (hx ▸ r.ev x).inv_v
    exact op_pure r hd (by simp [execOp, ho, resolve, invoke, builtin, Builtin.len_, has, hts, hv, run_underlying hp, goInt]) (.d (.v _)) h
  · rename_i x1 n c hk hx
    obtain ⟨t1, hp, h1, _⟩ := kd _ hk
    obtain ⟨e, rfl⟩ := h1 rfl
    have hv := (hx ▸ r.ev x).inv_v
    exact op_pure r hd (by simp [execOp, ho, resolve, invoke, builtin, Builtin.len_, has, hts, hv, run_underlying hp, goInt]) (.d (.v _)) h
  · rename_i id lo n hk hx
    obtain ⟨t1, hp, h1, _⟩ := kd _ hk
    obtain ⟨e, rfl⟩ := h1 rfl
    rcases (hx ▸ r.ev x).inv_ref with ⟨_, _, rfl, hv⟩ | ⟨b, sz', cap, cur, T, hv, _⟩
    · exact op_pure r hd (by simp [execOp, ho, resolve, invoke, builtin, Builtin.len_, has, hts, hv, run_underlying hp, goInt]) (.d (.v _)) h
    · exact op_pure r hd (by simp [execOp, ho, resolve, invoke, builtin, Builtin.len_, has, hts, hv, run_underlying hp, goInt]) (.d (.v _)) h
  · exact h.elim

theorem op_box (r : R B m F N s a w) (hd : ∀ d, o.dst = some d → d < N) {t : TypeId} {x : Operand} (ho : o.op = .box t x)
    (h : abox P t s.hp (ev s x) (fun v hp => kv o.dst K s hp v)) : o.wp P a w (Nx B N K) Q := by
  obtain ⟨h1, hK⟩ := h
  obtain ⟨g1, g2, g3⟩ := acells_rep (r.ev x) h1
  have t' := Tr.alloc m w F r.hp.stable (.cells (a.eval x).cells t) 0
  have hm : (m ++ [some (w.heap.size, 0)])[m.length]? = some (some (w.heap.size, 0)) := by simp
  refine op_value r hd (w' := w.alloc (.cells (a.eval x).cells t)) (v := .pointer (some ⟨w.heap.size, 0, none⟩)) ?_ t' (r.hp.alloc _ 0 (.box (acells (ev s x))) ?_) (x := .bx s.hp.length 0) ?_ hK
  · simp [execOp, ho, Instr.box, newVar, newRow]
  · exact ⟨w.heap.size, 0, (a.eval x).cells, t, hm, heap_alloc_new w _, by rw [← g1]; simp, fun i c v h1 h2 => (g3 i c v h1 (by simpa using h2)).tr t'⟩
  · exact .bx _ 0 w.heap.size 0 (by rw [← r.hp.len]; exact hm)

theorem lit_cells (z : Value) : (acells (AV.lit z)) = z.cells.toList.map fun c => .d (.v c) := by
  cases z <;> simp [AV.lit, acells, Value.cells]

theorem op_alloc (r : R B m F N s a w) (hd : ∀ d, o.dst = some d → d < N) {t : TypeId} (ho : o.op = .alloc t)
    (h : azero P t s.hp (fun v hp => kv o.dst K s hp v)) : o.wp P a w (Nx B N K) Q := by
  unfold azero at h
  split at h
  · rename_i z hz
    have t' := Tr.alloc m w F r.hp.stable (.cells z.cells t) 0
    have hm : (m ++ [some (w.heap.size, 0)])[m.length]? = some (some (w.heap.size, 0)) := by simp
    have hzv : (zeroValue t).run P w = .ok z w := by
      unfold tzero at hz
      cases hi : P.info? t with
      | none => simp [hi] at hz
      | some i => simp [hi] at hz; simp [zeroValue, typeInfo, hi, hz]
    refine op_value r hd (w' := w.alloc (.cells z.cells t)) (v := .pointer (some ⟨w.heap.size, 0, none⟩)) ?_ t' (r.hp.alloc _ 0 (.box (acells (AV.lit z))) ?_) (x := .bx s.hp.length 0) ?_ h
    · simp [execOp, ho, Instr.alloc, newVar, newRow, hzv]
    · refine ⟨w.heap.size, 0, z.cells, t, hm, heap_alloc_new w _, by rw [lit_cells]; simp, fun i c v h1 h2 => ?_⟩
      rw [lit_cells] at h1
      simp at h1
      obtain ⟨y, hy, rfl⟩ := h1
      rw [h2] at hy; cases hy
      exact .d (.v _)
    · exact .bx _ 0 w.heap.size 0 (by rw [← r.hp.len]; exact hm)
  · exact h.elim

theorem op_call (r : R B m F N s a w) (hd : ∀ d, o.dst = some d → d < N) {k : FuncId} {as : Array Operand} {ts : Array TypeId} (ho : o.op = .call { callee := .value (.func k), args := as, argTypes := ts })
    (hn : B.m.length = n0)
    (h : acall P n0 k as.toList o.dst K s) : o.wp P a w (Nx B N K) Q := by
  obtain ⟨s', hW, hk, hG⟩ := h
  obtain ⟨m', F', r'⟩ := hW B m F N a w hn r
  have hrun : (execOp a.eval o).run P w = .ok (.enter k (as.map a.eval)) w := by
    simp [execOp, ho, resolve, Act.eval, Deferred.ofValue, invoke, hk]
  unfold Oper.wp
  rw [hrun]
  have hc := hG m' w F' (as.map a.eval).toList r'.hp ⟨by simp, ?_⟩
  · rw [Array.toArray_toList] at hc
    refine hc.mono ?_
    rintro e w' ⟨v, rr, hp', m'', F'', rfl, hK, hh, hv, t⟩
    exact ⟨_, m'', F'', hK, r'.put t hh hv hd⟩
  · intro i c v h1 h2
    simp at h1 h2
    obtain ⟨y, hy, rfl⟩ := h1
    obtain ⟨z, hz, rfl⟩ := h2
    rw [hy] at hz; cases hz
    exact r'.ev _

end Eng
end Go.Proofs.Ytbfonmedgcemjaa
