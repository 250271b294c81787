/-
An abstract interpreter of the program's code on plain data: part H, soundness of struct values and of make.
No condition: everything here is stated over any program.
-/
import Derived.Test.YtbfonmedgcemjaaEngG
namespace Go.Proofs.Ytbfonmedgcemjaa
namespace Eng
set_option linter.unusedVariables false
set_option linter.unusedSimpArgs false

variable {P : Program} {n0 N : Nat} {B : Bs} {m : Mp} {F : Nat → Prop} {s : St} {a : Act} {w : World} {K : St → Prop} {Q : Exit → Act → World → Prop} {o : Oper}

theorem extract_list (vs : List Value) (o n : Nat) : vs.toArray.extract o (o + n) = ((vs.drop o).take n).toArray := by
  apply Array.ext'
  simp [List.extract_eq_take_drop]

theorem op_field (r : R B m F N s a w) (hd : ∀ d, o.dst = some d → d < N) {t : TypeId} {x : Operand} {f : Nat} (ho : o.op = .field t x f)
    (h : afval P t f (ev s x) (kv o.dst K s s.hp)) : o.wp P a w (Nx B N K) Q := by
  unfold afval at h
  split at h
  · rename_i off ft cs hf hx
    obtain ⟨vs, hv, hl, hrep⟩ := (hx ▸ r.ev x).inv_agg
    split at h
    · rename_i n g hs hg
      unfold tfld at hf
      cases hu : P.underlying t with
      | none => simp [hu] at hf
      | some d =>
        cases d <;> simp [hu] at hf
        rename_i fs
        obtain ⟨x', hx', rfl, rfl⟩ := hf
        cases g with
        | true =>
          simp only [rd, if_true] at h
          refine op_pure r hd (v := .agg ((vs.drop x'.offset).take n).toArray) ?_ (.agg _ _ (by simp [hl]) ?_) h.2
          · simp only [execOp, ho, hv, Instr.field, Sem.run_bind, run_underlying hu, Result.andThen_ok, hx', asAgg, Sem.run_pure, part, run_agg hg, if_true, run_size hs, extract_list]
          · intro i c v h1 h2
            rw [List.getElem?_take] at h1 h2
            split at h1 <;> simp_all
            exact hrep _ _ _ h1 h2
        | false =>
          simp only [rd, Bool.false_eq_true, if_false] at h
          split at h
          · rename_i y hy
            have hlt : x'.offset < vs.length := by rw [hl]; exact lt_of_some hy
            have hvv : vs[x'.offset]? = some vs[x'.offset] := List.getElem?_eq_getElem hlt
            refine op_pure r hd (v := vs[x'.offset]) ?_ (hrep _ _ _ hy hvv) h
            simp [execOp, ho, hv, Instr.field, run_underlying hu, hx', asAgg, part, run_agg hg, hvv]
          · exact h.elim
    · exact h.elim
  · exact h.elim

/-- what is laid over cells, one after the other -/
theorem lay_get (off : Nat) : ∀ (l : List Value) (k : Nat) (cs : Array Value), off + k + l.length ≤ cs.size →
    ((l.zipIdx k).foldl (fun cs p => cs.setIfInBounds (off + p.2) p.1) cs).toList = cs.toList.take (off + k) ++ l ++ cs.toList.drop (off + k + l.length)
  | [], k, cs, _ => by simp
  | v :: l, k, cs, h => by
    simp only [List.length_cons] at h
    simp only [List.zipIdx_cons, List.foldl_cons]
    rw [lay_get off l (k + 1) _ (by simp; omega)]
    rw [Array.toList_setIfInBounds]
    have hlt : off + k < cs.toList.length := by simp; omega
    have e1 : (cs.toList.set (off + k) v).take (off + (k + 1)) = cs.toList.take (off + k) ++ [v] := by
      rw [← Nat.add_assoc, List.take_add_one, List.take_set_of_le (Nat.le_refl _), List.getElem?_set_self hlt]
      rfl
    have e2 : (cs.toList.set (off + k) v).drop (off + (k + 1) + l.length) = cs.toList.drop (off + k + (l.length + 1)) := by
      rw [List.drop_set_of_lt (by omega)]
      congr 1; omega
    rw [e1, e2]
    simp

theorem fill_rep {pl : List (Nat × Nat)} : ∀ (ps : List (Nat × AV)) (vps : List (Nat × Value)) (cells : List AV) (vs : Array Value) (c : AV → Prop),
    vps.length = ps.length → (∀ (i : Nat) (p : Nat × AV) (q : Nat × Value), ps[i]? = some p → vps[i]? = some q → p.1 = q.1 ∧ RepA m w F p.2 q.2) →
    vs.size = cells.length → (∀ (i : Nat) (x : AV) (v : Value), cells[i]? = some x → vs[i]? = some v → RepA m w F x v) →
    abld pl ps cells c → ∃ x vs', c x ∧ Instr.fill (pl.toArray[·]?) vs vps = some vs' ∧ RepA m w F x (.agg vs')
  | [], vps, cells, vs, c, hl, _, hs, hr, h => by
    have : vps = [] := by cases vps <;> simp_all
    subst this
    exact ⟨_, vs, h, rfl, by have := RepA.agg (m := m) (w := w) (F := F) cells vs.toList (by simpa using hs) (fun i c v h1 h2 => hr i c v h1 (by simpa using h2)); simpa using this⟩
  | (f, x) :: ps, vps, cells, vs, c, hl, hp, hs, hr, h => by
    cases vps with
    | nil => simp at hl
    | cons q vps =>
      obtain ⟨g, v⟩ := q
      obtain ⟨e0, hrep⟩ := hp 0 (f, x) (g, v) rfl rfl
      simp only at e0 hrep
      subst e0
      simp only [abld] at h
      split at h
      · rename_i off n hpl
        obtain ⟨⟨h1, hn, hle⟩, h⟩ := h
        obtain ⟨g1, g2, g3⟩ := acells_rep hrep h1
        have hvn : v.cells.toList.length = n := g1.trans hn
        have hvs : v.cells.size = n := by rw [← hvn]; simp
        have hg := lay_get off v.cells.toList 0 vs (by rw [hvn, hs]; simpa using hle)
        simp only [Nat.add_zero, hvn] at hg
        have hz : (v.cells.zipIdx.foldl (fun cs p => cs.setIfInBounds (off + p.2) p.1) vs).toList = vs.toList.take off ++ v.cells.toList ++ vs.toList.drop (off + n) := by
          rw [← hg, ← Array.foldl_toList, Array.toList_zipIdx]
        generalize hv1 : v.cells.zipIdx.foldl (fun cs p => cs.setIfInBounds (off + p.2) p.1) vs = vs1 at hz
        obtain ⟨y, vs', hc, hf, hy⟩ := fill_rep ps vps (wr cells off (acells x)) vs1 c (by simpa using hl)
          (fun i p q h1 h2 => hp (i + 1) p q (by simpa using h1) (by simpa using h2)) (by
            have := congrArg List.length hz
            simp at this
            rw [this, wr_length (by omega)]
            omega) (by
            intro i x' v' h1 h2
            rw [← Array.getElem?_toList, hz] at h2
            have e := get_splice (l := vs.toList) (vs := v.cells.toList) (o := off) (i := i) (by rw [hvn]; simp; omega)
            rw [hvn] at e
            rw [e] at h2
            unfold wr at h1
            rw [get_splice (by omega), hn] at h1
            split at h1
            · rename_i hi
              rw [if_pos hi] at h2
              exact g3 _ _ _ h1 h2
            · rename_i hi
              rw [if_neg hi] at h2
              exact hr i x' v' h1 (by simpa using h2)) h
        refine ⟨y, vs', hc, ?_, hy⟩
        have hpl' : pl.toArray[f]? = some (off, n) := by simpa using hpl
        simp only [Instr.fill, hpl', hvs]
        rw [if_neg]
        · rw [← hv1] at hf; exact hf
        · simp; omega
      · exact h.elim

theorem evps_get : ∀ {l : List (Nat × Operand)} {i : Nat} {p : Nat × AV}, (evps s l)[i]? = some p → ∃ q, l[i]? = some q ∧ p = (q.1, ev s q.2)
  | [], i, p, h => by simp [evps] at h
  | (f, x) :: l, 0, p, h => by simp [evps] at h; exact ⟨(f, x), rfl, h.symm⟩
  | (f, x) :: l, i + 1, p, h => by simp [evps] at h; obtain ⟨q, h1, h2⟩ := evps_get h; exact ⟨q, by simpa using h1, h2⟩
theorem evps_length : ∀ (l : List (Nat × Operand)), (evps s l).length = l.length
  | [] => rfl
  | (f, x) :: l => by simp [evps, evps_length l]

theorem op_build (r : R B m F N s a w) (hd : ∀ d, o.dst = some d → d < N) {t : TypeId} {ps : Array (Nat × Operand)} (ho : o.op = .build t ps)
    (h : abuild P t (evps s ps.toList) (kv o.dst K s s.hp)) : o.wp P a w (Nx B N K) Q := by
  unfold abuild at h
  split at h
  · rename_i z pl hz hpl
    obtain ⟨x, vs', hc, hf, hx⟩ := fill_rep (m := m) (w := w) (F := F) (pl := pl) (evps s ps.toList) (ps.map fun p => (p.1, a.eval p.2)).toList _ z _ (by simp [evps_length])
      (by
        intro i p q h1 h2
        obtain ⟨q', h3, rfl⟩ := evps_get h1
        simp only [Array.toList_map, List.getElem?_map, h3] at h2
        simp at h2
        subst h2
        exact ⟨rfl, r.ev _⟩) (by simp) (by
        intro i x v h1 h2
        simp at h1
        obtain ⟨y, hy, rfl⟩ := h1
        rw [h2] at hy; cases hy
        exact .d (.v _)) h
    have hb : P.built t (ps.map fun p => (p.1, a.eval p.2)).toList = some vs' := by
      unfold tpl at hpl
      unfold tzero at hz
      unfold Program.built
      cases hi : P.info? t with
      | none => simp [hi] at hz
      | some it =>
        cases hu : P.underlying t with
        | none => simp [hu] at hpl
        | some d =>
          cases d <;> simp only [hu] at hpl <;> try (cases hpl; done)
          simp only [hi, Option.bind_some] at hz
          simp only [hz, hpl]
          exact hf
    exact op_pure r hd (by simp only [execOp, ho, Sem.run_bind]; rw [run_build w t _ vs' hb]; rfl) hx hc
  · exact h.elim

theorem op_make (r : R B m F N s a w) (hd : ∀ d, o.dst = some d → d < N) {t : TypeId} {l c : Operand} (ho : o.op = .makeSlice t l c)
    (h : amake P t s.hp (ev s l) (ev s c) (fun v hp => kv o.dst K s hp v)) : o.wp P a w (Nx B N K) Q := by
  unfold amake at h
  split at h
  · rename_i et k n k' n' ht hl hc
    split at h
    · rename_i z sz i hz hs hi
      obtain ⟨rfl, h0, hbig, ⟨hsz, hby⟩, hzs, hK⟩ := h
      have hvl := (hl ▸ r.ev l).inv_v
      have hvc := (hc ▸ r.ev c).inv_v
      have hu : P.underlying t = some (.slice et) := by
        unfold tel at ht
        cases hu : P.underlying t with
        | none => simp [hu] at ht
        | some d => cases d <;> simp [hu] at ht; subst ht; rfl
      have hiz : i.zero = some z := by simpa [tzero, hi] using hz
      have hisz : i.size = sz := by simpa [tsz, hi] using hs
      have hrun := run_make (P := P) w t et i z hu hi hiz k k' n n h0 (Int.le_refl _) (by
        have : (i.bytes : Int) * n ≤ 64 * 1099511627776 := Int.mul_le_mul (by omega) hbig h0 (by omega)
        omega) (by omega)
      have t' := Tr.alloc m w F r.hp.stable (.cells (madeCells z.cells (n.toNat * i.size)) et) sz
      have hm : (m ++ [some (w.heap.size, sz)])[m.length]? = some (some (w.heap.size, sz)) := by simp
      have hcell : ∀ j, j < n.toNat * sz → (madeCells z.cells (n.toNat * i.size))[j]? = some (z.cells[j % sz]!) := by
        intro j hj
        simp [madeCells, hzs, hisz, hj]
      refine op_value r hd (w' := w.alloc (.cells (madeCells z.cells (n.toNat * i.size)) et)) (v := .slice (some ⟨w.heap.size, 0, none⟩) n.toNat n.toNat) ?_ t'
        (r.hp.alloc _ sz (.arr sz (List.replicate n.toNat (z.cells.toList.map .v))) ?_) (x := .ref s.hp.length 0 n.toNat) ?_ hK
      · simp [execOp, ho, hvl, hvc, hrun]
      · refine .inr ⟨w.heap.size, _, et, fun i o => z.cells[o]!, hm, heap_alloc_new w _, ?_, ?_, ?_⟩
        · intro e he
          simp at he
          rw [he.2]; simpa using hzs
        · intro i' o' hi' ho'
          simp at hi'
          have hlt : i' * sz + o' < n.toNat * sz := by
            have := Nat.mul_le_mul_right sz (show i' + 1 ≤ n.toNat by omega)
            rw [Nat.succ_mul] at this
            omega
          rw [hcell _ hlt]
          have : (i' * sz + o') % sz = o' := by rw [Nat.mul_comm, Nat.mul_add_mod]; exact Nat.mod_eq_of_lt ho'
          rw [this]
        · intro i' o' e d he hd'
          rw [List.getElem?_replicate] at he
          split at he <;> simp at he
          subst he
          rw [List.getElem?_map, Option.map_eq_some_iff] at hd'
          obtain ⟨y, hy, rfl⟩ := hd'
          have : z.cells[o']! = y := by rw [Array.getElem?_toList] at hy; simp [Array.getElem!_eq_getD, Array.getD_eq_getD_getElem?, hy]
          show RepD _ _ (.v y) (z.cells[o']!)
          rw [this]
          exact .v _
      · have e1 := RepA.ref (m := m ++ [some (w.heap.size, sz)]) (w := w.alloc (.cells (madeCells z.cells (n.toNat * i.size)) et)) (F := F) s.hp.length 0 n.toNat w.heap.size sz n.toNat _ et
          (by rw [← r.hp.len]; exact hm) (heap_alloc_new w _) (by rw [size_madeCells, hisz]; simp) (Nat.le_refl _) (by unfold maxLen; omega)
        simpa using e1
    · exact h.elim
  · exact h.elim

end Eng
end Go.Proofs.Ytbfonmedgcemjaa
