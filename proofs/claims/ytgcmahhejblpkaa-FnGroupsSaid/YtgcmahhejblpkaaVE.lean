/-
An abstract interpreter of the program's code on plain data: part E, every operation that makes or writes memory: what it does.
No condition: everything here is stated over any program.
-/
import Derived.Test.YtgcmahhejblpkaaVD
import Derived.Maps.AppendAt
namespace Go.Proofs.Ytgcmahhejblpkaa
namespace Eng
set_option linter.unusedVariables false
set_option linter.unusedSimpArgs false

variable {P : Program} {n0 N : Nat} {B : Bs} {m : Mp} {F : Nat → Prop} {s : St} {a : Act} {w : World} {hp : List Ent} {e : Operand → AV} {ρ : Operand → Value} {o : Oper} {c : AV → List Ent → Prop}

/-- what an operation does -/
def Does (P : Program) (m : Mp) (F : Nat → Prop) (w : World) (hp : List Ent) (ρ : Operand → Value) (o : Oper) (c : AV → List Ent → Prop) : Prop :=
  ∃ x v hp' m' w' F', c x hp' ∧ RepA m' w' F' x v ∧ RelH m' w' F' hp' ∧ Tr m w F hp m' w' F' hp' ∧
    ((execOp ρ o).run P w = .ok (.value v) w' ∨ ((execOp ρ o).run P w = .ok .skip w' ∧ v = undef))

theorem RepE.mk {id sz b : Nat} {elems : List (List AV)} {cur : Array Value} {T : TypeId} (hm : m[id]? = some (some (b, sz))) (hb : w.heap[b]? = some (.cells cur T (0, 0)))
    (hsz : ∀ e ∈ elems, e.length = sz ∧ oneL e = true)
    (h : ∀ (i o : Nat) (e : List AV) (d : AV), elems[i]? = some e → e[o]? = some d → ∃ u, cur[i * sz + o]? = some u ∧ RepA m w F d u) : RepE m w F id (.arr sz elems) := by
  refine .inr ⟨b, cur, T, fun i o => (cur[i * sz + o]?).getD undef, hm, hb, hsz, ?_, ?_⟩
  · intro i o hi ho
    have he := List.getElem?_eq_getElem hi
    have hl := (hsz _ (List.getElem_mem hi)).1
    have hd := List.getElem?_eq_getElem (show o < elems[i].length by rw [hl]; exact ho)
    obtain ⟨u, hu, _⟩ := h i o _ _ he hd
    simp [hu]
  · intro i o e d he hd
    obtain ⟨u, hu, hr⟩ := h i o e d he hd
    simp only [hu, Option.getD_some]
    exact hr

theorem ArAt.get {sz b : Nat} {elems : List (List AV)} {cur : Array Value} {T : TypeId} {cs : Nat → Nat → Value} (h : ArAt m w F sz elems b cur T cs) {i o : Nat} {e : List AV} {d : AV} (he : elems[i]? = some e) (hd : e[o]? = some d) :
    ∃ u, cur[i * sz + o]? = some u ∧ RepA m w F d u := by
  have hl := (h.hsz e (List.mem_of_getElem? he)).1
  have ho := lt_of_some hd
  exact ⟨cs i o, h.hcell i o (lt_of_some he) (by omega), h.hrep i o e d he hd⟩

theorem box_ent {w' : World} {v : Value} {cs : List AV} {t : TypeId} {al : Al w w' (.cells v.cells t)} (hl : v.cells.toList.length = cs.length) (h1 : oneL cs = true)
    (hr : ∀ (i : Nat) (c : AV) (u : Value), cs[i]? = some c → v.cells.toList[i]? = some u → RepA m w F c u) (hF : ∀ b, F b → b < w.heap.size) : RepE (m ++ [some (w.heap.size, cs.length)]) w' F m.length (.arr cs.length [cs]) := by
  have g : Go1 m w F (m ++ [some (w.heap.size, cs.length)]) w' F :=
    ⟨fun b hb => al.old (hF b hb), fun _ h => h, fun id x hx => by rw [List.getElem?_append_left (lt_of_some hx)]; exact hx, fun b c T f h => ⟨c, (al.old (lt_of_block h)).trans h, rfl⟩⟩
  refine RepE.mk (b := w.heap.size) (by simp) al.new (by simpa using h1) ?_
  intro i o e d he hd
  have hi := lt_of_some he
  simp at hi
  subst hi
  simp at he
  subst he
  have ho := lt_of_some hd
  have hu := List.getElem?_eq_getElem (show o < v.cells.toList.length by omega)
  exact ⟨_, by rw [Nat.zero_mul, Nat.zero_add, ← Array.getElem?_toList]; exact hu, (hr o d _ hd hu).go g⟩

theorem d_box (hh : RelH m w F hp) (he : ∀ x, RepA m w F (e x) (ρ x)) {t : TypeId} {x : Operand} (ho : o.op = .box t x) (h : abox hp (e x) c) : Does P m F w hp ρ o c := by
  obtain ⟨h1, hK⟩ := h
  obtain ⟨g1, g2, g3⟩ := acells_rep (he x) h1
  have al := Al.of w (.cells (ρ x).cells t)
  have h2 := hh.alloc al (acells (e x)).length (.arr (acells (e x)).length [acells (e x)]) (box_ent (al := al) g1 h1 g3 hh.stable)
  refine ⟨_, .pointer (some ⟨w.heap.size, 0, none⟩), _, _, _, F, hK, ?_, h2.1, h2.2, .inl (by simp [execOp, ho, Instr.box, newVar, newRow])⟩
  have := RepA.ptr (m := m ++ [some (w.heap.size, (acells (e x)).length)]) (w := w.alloc (.cells (ρ x).cells t)) (F := F) hp.length 0 0 w.heap.size (acells (e x)).length (by rw [← hh.len]; simp)
  simpa using this

theorem lit_cells (z : Value) : (acells (AV.lit z)) = z.cells.toList.map .v := by
  cases z <;> simp [AV.lit, acells, Value.cells]

theorem run_zero {t : TypeId} {z : Value} (hz : tzero P t = some z) (w : World) : (zeroValue t).run P w = .ok z w := by
  unfold tzero at hz
  cases hi : P.info? t with
  | none => simp [hi] at hz
  | some i => simp [hi] at hz; simp [zeroValue, typeInfo, hi, hz]

theorem d_alloc (hh : RelH m w F hp) {t : TypeId} (ho : o.op = .alloc t) (h : azero P t hp c) : Does P m F w hp ρ o c := by
  unfold azero at h
  split at h
  · rename_i z hz
    obtain ⟨h1, hK⟩ := h
    have al := Al.of w (.cells z.cells t)
    have h2 := hh.alloc al (acells (AV.lit z)).length (.arr (acells (AV.lit z)).length [acells (AV.lit z)]) (box_ent (al := al) (by rw [lit_cells]; simp) h1 (by
      intro i c u hc hu
      rw [lit_cells, List.getElem?_map, hu] at hc
      cases hc
      exact .v _) hh.stable)
    refine ⟨_, .pointer (some ⟨w.heap.size, 0, none⟩), _, _, _, F, hK, ?_, h2.1, h2.2, .inl (by simp [execOp, ho, Instr.alloc, newVar, newRow, run_zero hz])⟩
    have := RepA.ptr (m := m ++ [some (w.heap.size, (acells (AV.lit z)).length)]) (w := w.alloc (.cells z.cells t)) (F := F) hp.length 0 0 w.heap.size (acells (AV.lit z)).length (by rw [← hh.len]; simp)
    simpa using this
  · exact h.elim

theorem d_make (hh : RelH m w F hp) (he : ∀ x, RepA m w F (e x) (ρ x)) {t : TypeId} {l cp : Operand} (ho : o.op = .makeSlice t l cp) (h : amake P t hp (e l) (e cp) c) : Does P m F w hp ρ o c := by
  unfold amake at h
  split at h
  · rename_i et k n k' n' ht hl hc
    split at h
    · rename_i z sz by_ hz hs hby
      obtain ⟨rfl, ⟨h0, hbig⟩, ⟨hsz, hb64⟩, hzs, h1, hK⟩ := h
      have hvl := (hl ▸ he l).inv_v
      have hvc := (hc ▸ he cp).inv_v
      have hu := tel_und ht
      cases hi : P.info? et with
      | none => simp [tsz, hi] at hs
      | some i =>
        have hiz : i.zero = some z := by simpa [tzero, hi] using hz
        have hisz : i.size = sz := by simpa [tsz, hi] using hs
        have hiby : i.bytes = by_ := by simpa [tby, hi] using hby
        have hzc : z.cells.size = sz := by rw [← hzs]; simp
        have hrun := run_make (P := P) w t et i z hu hi hiz k k' n n h0 (Int.le_refl _) (by
          have : (i.bytes : Int) * n ≤ 64 * 1099511627776 := Int.mul_le_mul (by omega) hbig h0 (by omega)
          omega) (by omega)
        have al := Al.of w (.cells (madeCells z.cells (n.toNat * i.size)) et)
        have hcell : ∀ j, j < n.toNat * sz → (madeCells z.cells (n.toNat * i.size))[j]? = some (z.cells[j % sz]!) := by
          intro j hj
          simp [madeCells, hzc, hisz, hj]
        have hl2 : (z.cells.toList.map AV.v).length = sz := by simpa using hzs
        have hE : RepE (m ++ [some (w.heap.size, sz)]) (w.alloc (.cells (madeCells z.cells (n.toNat * i.size)) et)) F m.length (.arr sz (List.replicate n.toNat (z.cells.toList.map .v))) := by
          refine RepE.mk (b := w.heap.size) (by simp) al.new ?_ ?_
          · intro e he
            rw [List.eq_of_mem_replicate he]
            exact ⟨hl2, h1⟩
          · intro i' o' e d he hd
            have hi' := lt_of_some he
            simp at hi'
            rw [List.getElem?_replicate] at he
            split at he <;> cases he
            have ho' := lt_of_some hd
            rw [hl2] at ho'
            have hlt : i' * sz + o' < n.toNat * sz := by
              have := Nat.mul_le_mul_right sz (show i' + 1 ≤ n.toNat by omega)
              rw [Nat.succ_mul] at this
              omega
            refine ⟨_, hcell _ hlt, ?_⟩
            have h2 : (i' * sz + o') % sz = o' := by rw [Nat.mul_comm, Nat.mul_add_mod]; exact Nat.mod_eq_of_lt ho'
            rw [h2]
            rw [List.getElem?_map, Option.map_eq_some_iff] at hd
            obtain ⟨y, hy, rfl⟩ := hd
            have : z.cells[o']! = y := by rw [Array.getElem?_toList] at hy; simp [Array.getElem!_eq_getD, Array.getD_eq_getD_getElem?, hy]
            rw [this]
            exact .v _
        have h2 := hh.alloc al sz _ hE
        refine ⟨_, .slice (some ⟨w.heap.size, 0, none⟩) n.toNat n.toNat, _, _, _, F, hK, ?_, h2.1, h2.2, .inl (by simp [execOp, ho, hvl, hvc, hrun])⟩
        exact .ref hp.length n.toNat w.heap.size sz n.toNat _ et (by rw [← hh.len]; simp) al.new (by rw [size_madeCells, hisz]) (Nat.le_refl _) (by unfold maxLen; omega)
    · exact h.elim
  · exact h.elim

/- a slice's literal -/
theorem fillS_rep {sz : Nat} : ∀ (ps : List (Nat × AV)) (vps : List (Nat × Value)) (k : Nat) (els : List (List AV)) (vs : Array Value),
    vps.length = ps.length → (∀ (i : Nat) (p : Nat × AV) (q : Nat × Value), ps[i]? = some p → vps[i]? = some q → p.1 = q.1 ∧ RepA m w F p.2 q.2) →
    (k + ps.length) * sz ≤ vs.size → bparts sz k ps = some els →
    (∀ e ∈ els, e.length = sz ∧ oneL e = true) ∧ els.length = ps.length ∧ ∃ vs', Instr.fill (fun i => some (i * sz, sz)) vs vps = some vs' ∧ vs'.size = vs.size ∧ (∀ j, j < k * sz → vs'[j]? = vs[j]?) ∧
      ∀ (i o : Nat) (e : List AV) (d : AV), els[i]? = some e → e[o]? = some d → ∃ u, vs'[(k + i) * sz + o]? = some u ∧ RepA m w F d u
  | [], vps, k, els, vs, hl, _, _, h => by
    have : vps = [] := by cases vps <;> simp_all
    subst this
    simp [bparts] at h
    subst h
    exact ⟨by simp, rfl, vs, rfl, rfl, fun _ _ => rfl, fun i o e d he => by simp at he⟩
  | (g, x) :: ps, vps, k, els, vs, hl, hp, hle, h => by
    cases vps with
    | nil => simp at hl
    | cons q vps =>
      obtain ⟨g', v⟩ := q
      obtain ⟨e0, hrep⟩ := hp 0 (g, x) (g', v) rfl rfl
      simp only at e0 hrep
      subst e0
      simp only [bparts] at h
      split at h
      · rename_i hc
        obtain ⟨rfl, hn, h1⟩ := hc
        cases hb : bparts sz (g + 1) ps with
        | none => simp [hb] at h
        | some els' =>
          simp [hb] at h
          subst h
          obtain ⟨g1, g2, g3⟩ := acells_rep hrep h1
          have hvn : v.cells.toList.length = sz := g1.trans hn
          have hvs : v.cells.size = sz := by rw [← hvn]; simp
          simp only [List.length_cons] at hle
          have hle1 : g * sz + sz ≤ vs.size := by
            have : (g + 1) * sz ≤ (g + (ps.length + 1)) * sz := Nat.mul_le_mul_right _ (by omega)
            rw [Nat.succ_mul] at this
            omega
          have hz := lay_arr (off := g * sz) (v := v) (cs := vs) hvn hle1
          generalize hv1 : v.cells.zipIdx.foldl (fun cs p => cs.setIfInBounds (g * sz + p.2) p.1) vs = vs1 at hz
          have hs1 : vs1.size = vs.size := by
            have := congrArg List.length hz
            simp at this
            rw [this]
            omega
          have hget : ∀ j, vs1[j]? = if g * sz ≤ j ∧ j < g * sz + sz then v.cells.toList[j - g * sz]? else vs[j]? := by
            intro j
            rw [← Array.getElem?_toList, hz]
            have := get_splice (l := vs.toList) (vs := v.cells.toList) (o := g * sz) (i := j) (by rw [hvn]; simpa using hle1)
            rw [hvn] at this
            simpa using this
          obtain ⟨i1, i2, vs', hf, hsz, hlow, hcell⟩ := fillS_rep ps vps (g + 1) els' vs1 (by simpa using hl) (fun i p q h1 h2 => hp (i + 1) p q (by simpa using h1) (by simpa using h2))
            (by rw [hs1]; have e : g + 1 + ps.length = g + (ps.length + 1) := by omega
                rw [e]; exact hle) hb
          refine ⟨?_, by simp [i2], vs', ?_, hsz.trans hs1, ?_, ?_⟩
          · intro e he
            rcases List.mem_cons.1 he with rfl | he'
            · exact ⟨hn, h1⟩
            · exact i1 e he'
          · simp only [Instr.fill, hvs]
            rw [if_neg]
            · rw [← hv1] at hf; exact hf
            · simp; omega
          · intro j hj
            rw [hlow j (by rw [Nat.succ_mul]; omega), hget, if_neg (by omega)]
          · intro i o e d he hd
            cases i with
            | zero =>
              simp at he
              subst he
              have ho := lt_of_some hd
              rw [hn] at ho
              have hu := List.getElem?_eq_getElem (show o < v.cells.toList.length by omega)
              refine ⟨_, ?_, g3 o d _ hd hu⟩
              rw [Nat.add_zero, hlow _ (by rw [Nat.succ_mul]; omega), hget, if_pos (by omega), show g * sz + o - g * sz = o by omega]
              exact hu
            | succ i =>
              have := hcell i o e d (by simpa using he) hd
              rw [show g + 1 + i = g + (i + 1) by omega] at this
              exact this
      · cases h

theorem d_lit (hh : RelH m w F hp) (he : ∀ x, RepA m w F (e x) (ρ x)) {t : TypeId} {len : Nat} {ps : Array (Nat × Operand)} (ho : o.op = .buildSlice t len ps) (h : abldS P t len (evps e ps.toList) hp c) : Does P m F w hp ρ o c := by
  unfold abldS at h
  split at h
  · rename_i sz z hs hz
    obtain ⟨⟨h0, hbig, hlen, hzs⟩, h⟩ := h
    split at h
    · rename_i els hb
      cases ht : tel P t with
      | none => simp [ht] at hs
      | some et =>
        simp [ht] at hs hz
        have hzc : z.cells.size = sz := by rw [← hzs]; simp
        obtain ⟨i1, i2, vs', hf, hsz, _, hcell⟩ := fillS_rep (m := m) (w := w) (F := F) (sz := sz) (evps e ps.toList) (ps.map fun p => (p.1, ρ p.2)).toList 0 els ((Array.range (len * sz)).map (z.cells[· % z.cells.size]!))
          (by simp [evps_length]) (by
            intro i p q h1 h2
            obtain ⟨q', h3, rfl⟩ := evps_get h1
            simp only [Array.toList_map, List.getElem?_map, h3] at h2
            simp at h2
            subst h2
            exact ⟨rfl, he _⟩) (by simp [hlen]) hb
        have al := Al.of w (.cells vs' et)
        have g : Go1 m w F (m ++ [some (w.heap.size, sz)]) (w.alloc (.cells vs' et)) F :=
          ⟨fun b hb => al.old (hh.stable b hb), fun _ h => h, fun id x hx => by rw [List.getElem?_append_left (lt_of_some hx)]; exact hx, fun b c T f h => ⟨c, (al.old (lt_of_block h)).trans h, rfl⟩⟩
        have hE : RepE (m ++ [some (w.heap.size, sz)]) (w.alloc (.cells vs' et)) F m.length (.arr sz els) := by
          refine RepE.mk (b := w.heap.size) (by simp) al.new i1 ?_
          intro i o e d h1 h2
          obtain ⟨u, h3, h4⟩ := hcell i o e d h1 h2
          exact ⟨u, by simpa using h3, h4.go g⟩
        have h2 := hh.alloc al sz _ hE
        have hlz : ¬ (16777216 < len * sz) := by omega
        refine ⟨_, .slice (some ⟨w.heap.size, 0, none⟩) len len, _, _, _, F, h, ?_, h2.1, h2.2, .inl ?_⟩
        · exact .ref hp.length len w.heap.size sz len _ et (by rw [← hh.len]; simp) al.new (by rw [hsz]; simp) (Nat.le_refl _) (by
            have : len * 1 ≤ len * sz := Nat.mul_le_mul_left _ h0
            unfold maxLen; omega)
        · by_cases hl0 : len * sz = 0
          · have e3 : ∀ f : Nat → Value, Array.map f (Array.range 0) = #[] := fun f => by simp [Array.range]
            rw [hl0, e3] at hf
            simp only [execOp, ho, Instr.buildSlice, Sem.run_bind, run_underlying (tel_und ht), Result.andThen_ok, run_size hs, Sem.run_ite, hl0, if_true, Sem.run_pure, e3]
            simp only [show ¬ ((0 : Nat) > 2 ^ 24) by decide, if_false, Sem.run_pure, Result.andThen_ok]
            rw [hf]
            simp [newRow]
          · simp only [execOp, ho, Instr.buildSlice, Sem.run_bind, run_underlying (tel_und ht), Result.andThen_ok, run_size hs, Sem.run_ite, hl0, if_false, Sem.run_pure, run_zero hz]
            simp only [show (2 : Nat) ^ 24 = 16777216 from rfl, gt_iff_lt, hlz, if_false, Sem.run_pure, Result.andThen_ok]
            rw [hf]
            simp [newRow]
    · exact h.elim
  · exact h.elim

/- stores -/
theorem run_store_one {b o : Nat} {cur : Array Value} {T : TypeId} {v : Value} (hb : w.heap[b]? = some (.cells cur T (0, 0))) (ho : o < cur.size) (hv : v.oneCell' = true) :
    (store ⟨b, o, none⟩ v).run P w = .ok () (w.setCell ⟨b, o, none⟩ v) := by
  have hc : w.cell? ⟨b, o, none⟩ = some cur[o] := by rw [cell_at hb]; exact Array.getElem?_eq_getElem ho
  have hf : w.frozen? ⟨b, o, none⟩ = false := by simp [World.frozen?, hb]
  cases v <;> simp [Value.oneCell'] at hv <;> simp [store, Sem.run, hc, hf]

theorem run_storeCells {b o : Nat} {T : TypeId} : ∀ (vs : List Value) (i : Nat) (w : World) (cur : Array Value), w.heap[b]? = some (.cells cur T (0, 0)) →
    o + i + vs.length ≤ cur.size → (∀ v ∈ vs, v.oneCell' = true) →
    ∃ w' cur', (storeCells ⟨b, o, none⟩ vs i).run P w = .ok () w' ∧ Sto w w' b cur' T ∧
      cur'.toList = cur.toList.take (o + i) ++ vs ++ cur.toList.drop (o + i + vs.length)
  | [], i, w, cur, hb, hle, _ => ⟨w, cur, by simp [storeCells], ⟨hb, fun _ _ => rfl, rfl, rfl, rfl, rfl⟩, by simp⟩
  | v :: vs, i, w, cur, hb, hle, hv => by
    simp only [List.length_cons] at hle
    have hlt : o + i < cur.size := by omega
    have hrun := run_store_one (P := P) hb hlt (hv v (by simp))
    have hb' := heap_setCell_same w b (o + i) cur T v hb
    have hsz : (cur.setIfInBounds (o + i) v).size = cur.size := by simp
    obtain ⟨w', cur', hr, hs, hl⟩ := run_storeCells (o := o) vs (i + 1) (w.setCell ⟨b, o + i, none⟩ v) (cur.setIfInBounds (o + i) v) hb' (by rw [hsz]; omega)
      (fun x hx => hv x (by simp [hx]))
    refine ⟨w', cur', ?_, ⟨hs.blk, fun k hk => (hs.oth k hk).trans (heap_setCell_other w _ k v hk), by rw [hs.size]; simp, hs.os, hs.tape, hs.output⟩, ?_⟩
    · simp only [storeCells, addr_add, Sem.run_bind, hrun, Result.andThen_ok]; exact hr
    · rw [hl, Array.toList_setIfInBounds]
      have e1 : (cur.toList.set (o + i) v).take (o + (i + 1)) = cur.toList.take (o + i) ++ [v] := by
        rw [← Nat.add_assoc, List.take_add_one, List.take_set_of_le (Nat.le_refl _)]
        rw [List.getElem?_set_self (by simpa using hlt)]
        rfl
      have e2 : (cur.toList.set (o + i) v).drop (o + (i + 1) + vs.length) = cur.toList.drop (o + i + (vs.length + 1)) := by
        rw [List.drop_set_of_lt (by omega)]
        congr 1; omega
      rw [e1, e2]
      simp

/-- cells stored, and what lies there then -/
theorem run_cells {b o : Nat} {T : TypeId} {cur : Array Value} {vs : List Value} (hb : w.heap[b]? = some (.cells cur T (0, 0))) (hle : o + vs.length ≤ cur.size) (h1 : ∀ v ∈ vs, v.oneCell' = true) :
    ∃ w' cur', (storeCells ⟨b, o, none⟩ vs 0).run P w = .ok () w' ∧ Sto w w' b cur' T ∧ cur'.size = cur.size ∧
      ∀ j, cur'[j]? = if o ≤ j ∧ j < o + vs.length then vs[j - o]? else cur[j]? := by
  obtain ⟨w', cur', hr, hS, hl⟩ := run_storeCells (P := P) (o := o) vs 0 w cur hb (by simpa using hle) h1
  simp only [Nat.add_zero] at hl
  refine ⟨w', cur', hr, hS, ?_, ?_⟩
  · have := congrArg List.length hl
    simp at this
    rw [this]
    omega
  · intro j
    rw [← Array.getElem?_toList, hl]
    have := get_splice (l := cur.toList) (vs := vs) (o := o) (i := j) (by simpa using hle)
    simpa using this

theorem ArAt.room {sz b : Nat} {elems : List (List AV)} {cur : Array Value} {T : TypeId} {cs : Nat → Nat → Value} (h : ArAt m w F sz elems b cur T cs) : elems.length * sz ≤ cur.size := by
  rcases Nat.eq_zero_or_pos (elems.length * sz) with h0 | h0
  · omega
  · have hl : 0 < elems.length := Nat.pos_of_mul_pos_right h0
    have hz : 0 < sz := Nat.pos_of_mul_pos_left h0
    have := h.hcell (elems.length - 1) (sz - 1) (by omega) (by omega)
    have h2 : (elems.length - 1) * sz + (sz - 1) < cur.size := by
      rcases Nat.lt_or_ge ((elems.length - 1) * sz + (sz - 1)) cur.size with h' | h'
      · exact h'
      · rw [Array.getElem?_eq_none h'] at this; cases this
    have e : elems.length * sz = (elems.length - 1) * sz + sz := by
      conv => lhs; rw [show elems.length = (elems.length - 1) + 1 by omega, Nat.succ_mul]
    omega

theorem d_store (hh : RelH m w F hp) (he : ∀ x, RepA m w F (e x) (ρ x)) {t : TypeId} {x y : Operand} (ho : o.op = .store t x y) (h : astore P t hp (e x) (e y) (c .top)) : Does P m F w hp ρ o c := by
  unfold astore at h
  split at h
  · rename_i n hs
    obtain ⟨⟨hn, h1⟩, h⟩ := h
    obtain ⟨g1, g2, g3⟩ := acells_rep (he y) h1
    split at h
    · rename_i id i o' hx
      obtain ⟨b, sz, hm, hv⟩ := (hx ▸ he x).inv_ptr
      split at h
      · rename_i sz' elems hc
        obtain ⟨hi, hle, hK⟩ := h
        obtain ⟨rfl, cur, T, cs, hA⟩ := hh.at_ hc hm
        have hel := List.getElem?_eq_getElem hi
        rw [hel, Option.getD_some] at hle hK
        have hlen := (hA.hsz elems[i] (List.getElem_mem hi)).1
        rw [hlen] at hle
        have hvn : (ρ y).cells.toList.length = n := g1.trans hn
        have hvs : (ρ y).cells.size = n := by rw [← hvn]; simp
        have hroom : i * sz + sz ≤ cur.size := by
          have h3 := hA.room
          have := Nat.mul_le_mul_right sz (show i + 1 ≤ elems.length from hi)
          rw [Nat.succ_mul] at this
          omega
        obtain ⟨w', cur', hr, hS, hsz', hget⟩ := run_cells (P := P) (o := i * sz + o') hA.hb (vs := (ρ y).cells.toList) (by rw [hvn]; omega) g2
        have hown := hh.own id _ _ _ hc rfl hm
        have g := hS.go1 (m := m) (F := F) hA.hb hsz' hown.1
        have hE : RepE m w' F id (.arr sz (elems.set i (wr elems[i] o' (acells (e y))))) := by
          refine RepE.mk hm hS.blk ?_ ?_
          · intro z hz
            rcases List.mem_or_eq_of_mem_set hz with h' | h'
            · exact hA.hsz z h'
            · rw [h', wr_length (by omega)]
              refine ⟨hlen, oneL_of ?_⟩
              intro q hq
              simp only [wr, List.mem_append] at hq
              have hall := oneL_all (hA.hsz elems[i] (List.getElem_mem hi)).2
              rcases hq with (hq | hq) | hq
              · exact hall q (List.mem_of_mem_take hq)
              · exact oneL_all h1 q hq
              · exact hall q (List.mem_of_mem_drop hq)
          · intro i' o'' e' d he' hd'
            rw [List.getElem?_set] at he'
            by_cases hii : i = i'
            · subst hii
              simp only [if_true, hi, if_true] at he'
              cases he'
              unfold wr at hd'
              rw [get_splice (by omega)] at hd'
              split at hd'
              · rename_i hin
                have hu := List.getElem?_eq_getElem (show o'' - o' < (ρ y).cells.toList.length by omega)
                refine ⟨_, ?_, (g3 _ _ _ hd' hu).go g⟩
                rw [hget, if_pos (by omega), show i * sz + o'' - (i * sz + o') = o'' - o' by omega]
                exact hu
              · rename_i hin
                obtain ⟨u, hu, hr'⟩ := hA.get hel hd'
                have ho2 := lt_of_some hd'
                exact ⟨u, by rw [hget, if_neg (by omega)]; exact hu, hr'.go g⟩
            · rw [if_neg hii] at he'
              obtain ⟨u, hu, hr'⟩ := hA.get he' hd'
              have ho2 : o'' < sz := by
                have := lt_of_some hd'
                rw [(hA.hsz e' (List.mem_of_getElem? he')).1] at this
                exact this
              have : ¬ (i * sz + o' ≤ i' * sz + o'' ∧ i' * sz + o'' < i * sz + o' + (ρ y).cells.toList.length) := by
                rw [hvn]
                rintro ⟨u1, u2⟩
                rcases Nat.lt_or_gt_of_ne hii with h' | h'
                · have := Nat.mul_le_mul_right sz (show i + 1 ≤ i' from h')
                  rw [Nat.succ_mul] at this
                  omega
                · have := Nat.mul_le_mul_right sz (show i' + 1 ≤ i from h')
                  rw [Nat.succ_mul] at this
                  omega
              exact ⟨u, by rw [hget, if_neg this]; exact hu, hr'.go g⟩
        refine ⟨_, undef, _, m, w', F, hK, .top _, hh.upd g (by rw [hS.size]; exact Nat.le_refl _) hc rfl hm hS.oth hE, hS.tr hA.hb hsz' hown.1 hc rfl hm, .inr ⟨?_, rfl⟩⟩
        simp [execOp, ho, hv, Instr.storeAt, Instr.sureAddr, storeVar, run_size hs, hvs, hr]
      · exact h.elim
    · exact h.elim
  · exact h.elim

/- append -/
theorem bind_tel {α : Type} {f : TypeId → Option α} {t : TypeId} {x : α} (h : (tel P t).bind f = some x) : ∃ et, tel P t = some et ∧ f et = some x := by
  cases ht : tel P t with
  | none => simp [ht] at h
  | some et => exact ⟨et, rfl, by simpa [ht] using h⟩

theorem info_of {t : TypeId} {sz by_ : Nat} {z : Value} (hs : tsz P t = some sz) (hb : tby P t = some by_) (hz : tzero P t = some z) : ∃ i, P.info? t = some i ∧ i.size = sz ∧ i.bytes = by_ ∧ i.zero = some z := by
  cases hi : P.info? t with
  | none => simp [tsz, hi] at hs
  | some i => exact ⟨i, rfl, by simpa [tsz, hi] using hs, by simpa [tby, hi] using hb, by simpa [tzero, hi] using hz⟩

/-- elements behind one another in one block -/
theorem app_ent {w' : World} {sz b n : Nat} {elems ys : List (List AV)} {news : List Value} {cur : Array Value} {T : TypeId} {m' : Mp} (hn : elems.length = n) (hb : w'.heap[b]? = some (.cells cur T (0, 0))) (hm : m'[m.length]? = some (some (b, sz)))
    (g : Go1 m w F m' w' F) {ad : Option Addr} (hS : Src m w F sz ys ad news) (hsz : ∀ e ∈ elems, e.length = sz ∧ oneL e = true)
    (h1 : ∀ (i o : Nat) (e : List AV) (d : AV), elems[i]? = some e → e[o]? = some d → ∃ u, cur[i * sz + o]? = some u ∧ RepA m w F d u)
    (h2 : ∀ j, j < news.length → cur[n * sz + j]? = news[j]?) : RepE m' w' F m.length (.arr sz (elems ++ ys)) := by
  refine RepE.mk hm hb ?_ ?_
  · intro e he
    rcases List.mem_append.1 he with h | h
    · exact hsz e h
    · exact hS.hsz e h
  · intro i o e d he hd
    rcases Nat.lt_or_ge i elems.length with hi | hi
    · rw [List.getElem?_append_left hi] at he
      obtain ⟨u, hu, hr⟩ := h1 i o e d he hd
      exact ⟨u, hu, hr.go g⟩
    · rw [List.getElem?_append_right hi] at he
      obtain ⟨u, hu, hr⟩ := hS.hrep _ o e d he hd
      refine ⟨u, ?_, hr.go g⟩
      have := h2 _ (lt_of_some hu)
      rw [hu] at this
      rw [← this]
      congr 1
      have e1 : i * sz = n * sz + (i - elems.length) * sz := by rw [← Nat.add_mul]; congr 1; omega
      omega

theorem exec_append {t : TypeId} {x y : Operand} {as : Array Operand} {ts : Array TypeId} {r : Value} {w' : World} (ho : o.op = .call { callee := .builtin .append, args := as, argTypes := ts }) (has : as = #[x, y]) (hts : ts = #[t, t])
    (hr : (Builtin.append_ #[t, t] o.type #[ρ x, ρ y]).run P w = .ok r w') : (execOp ρ o).run P w = .ok (.value r) w' := by
  simp [execOp, ho, resolve, invoke, builtin, has, hts, hr]

theorem getElem?_app3 {α : Type} {a b c : List α} {j : Nat} (h : j < b.length) : ((a ++ b) ++ c)[a.length + j]? = b[j]? := by
  rw [List.getElem?_append_left (by simp; omega), List.getElem?_append_right (by omega)]
  congr 1; omega

theorem Go1.alloc (hh : RelH m w F hp) {w' : World} {ob : Obj} (al : Al w w' ob) (x : Option (Nat × Nat)) : Go1 m w F (m ++ [x]) w' F :=
  ⟨fun b hb => al.old (hh.stable b hb), fun _ h => h, fun id x hx => by rw [List.getElem?_append_left (lt_of_some hx)]; exact hx, fun b c T f h => ⟨c, (al.old (lt_of_block h)).trans h, rfl⟩⟩

/-- onto nil -/
theorem d_app_nil (hh : RelH m w F hp) {t et : TypeId} {sz by_ : Nat} {z : Value} (ht : tel P t = some et) (hs : tsz P et = some sz) (hby : tby P et = some by_) (hz : tzero P et = some z) (h0 : 0 < sz) (h64 : by_ ≤ 64) (hzs : z.cells.toList.length = sz)
    {ys : List (List AV)} {ad : Option Addr} {cap : Nat} {news : List Value} (hS : Src m w F sz ys ad news) (hbig : ys.length ≤ 1099511627776) (ty : TypeId) :
    ∃ v m' w', RepA m' w' F (.ref hp.length ys.length) v ∧ RelH m' w' F (hp ++ [.arr sz ys]) ∧ Tr m w F hp m' w' F (hp ++ [.arr sz ys]) ∧
      (Builtin.append_ #[t, t] ty #[.slice none 0 0, .slice ad ys.length cap]).run P w = .ok v w' := by
  obtain ⟨i, hi, rfl, rfl, hiz⟩ := info_of hs hby hz
  have hu := tel_und ht
  rcases Nat.eq_zero_or_pos ys.length with hl | hl
  · have : ys = [] := List.eq_nil_of_length_eq_zero hl
    subst this
    have h2 := hh.nilEnt i.size
    refine ⟨.slice none 0 0, _, w, .refNil _ (by rw [← hh.len]; simp), h2.1, h2.2, ?_⟩
    cases ad <;> simp [Builtin.append_, run_underlying hu, sizeOf, typeInfo, hi, Builtin.lenOf, Builtin.firstCells, loadCells, loadCellsFrom]
  · rcases ad with _ | b
    · have h1 := hS.none_ rfl
      rw [h1] at hl
      simp at hl
    · have hby2 : ys.length * i.bytes ≤ 1099511627776 * 64 := Nat.mul_le_mul hbig h64
      have hr := run_append_nil (P := P) w t ty et i z hu hi hiz b ys.length cap news hS.len (hS.cell b rfl) hl (by omega) (by omega)
      have al := Al.drew w (.cells (news.toArray ++ Builtin.zeroCells z.cells (grownCap w ys.length 0 et - ys.length)) et)
      have hge := grownCap_ge w ys.length 0 et
      have hcm := grownCap_le_maxLen w ys.length 0 et (by unfold maxLen; omega)
      have hE := app_ent (m := m) (F := F) (w := w) (w' := w.drew.alloc (.cells (news.toArray ++ Builtin.zeroCells z.cells (grownCap w ys.length 0 et - ys.length)) et)) (m' := m ++ [some (w.heap.size, i.size)])
        (elems := []) (n := 0) (cur := news.toArray ++ Builtin.zeroCells z.cells (grownCap w ys.length 0 et - ys.length)) (T := et) rfl al.new (by simp) (Go1.alloc hh al _) hS (by simp) (by intro i o e d h; simp at h)
        (by intro j hj; rw [← Array.getElem?_toList]; simp only [Array.toList_append, Nat.zero_mul, Nat.zero_add]; rw [List.getElem?_append_left (by simpa using hj)])
      have h2 := hh.alloc al i.size _ hE
      refine ⟨_, _, _, ?_, h2.1, h2.2, hr⟩
      exact .ref hp.length ys.length w.heap.size i.size _ _ et (by rw [← hh.len]; simp) al.new (by
        have hzc : z.cells.size = i.size := by rw [← hzs]; simp
        simp only [Array.size_append, List.size_toArray, size_zeroCells, hzc, hS.len, ← Nat.add_mul]
        congr 1
        omega) hge hcm

theorem d_append (hh : RelH m w F hp) (he : ∀ x, RepA m w F (e x) (ρ x)) {t : TypeId} {x y : Operand} {as : Array Operand} {ts : Array TypeId} (ho : o.op = .call { callee := .builtin .append, args := as, argTypes := ts }) (has : as = #[x, y]) (hts : ts = #[t, t])
    (h : aappend P t hp (e x) (e y) c) : Does P m F w hp ρ o c := by
  unfold aappend at h
  split at h
  · rename_i sz by_ z hs hby hz
    obtain ⟨⟨h0, h64, hzs⟩, h⟩ := h
    obtain ⟨et, ht, hs⟩ := bind_tel hs
    simp [ht] at hby hz
    split at h
    · rename_i ys hy
      obtain ⟨ad, cap, news, hvy, hmax, hS⟩ := srd_rep hh h0 (he y) hy
      split at h
      · rename_i hx
        obtain ⟨hbig, hK⟩ := h
        obtain ⟨v, m', w', h1, h2, h3, h4⟩ := d_app_nil (cap := cap) hh ht hs hby hz h0 h64 hzs hS hbig o.type
        have hv0 : ρ x = .slice none 0 0 := (hx ▸ he x).inv_v
        exact ⟨_, v, _, m', w', F, hK, h1, h2, h3, .inl (exec_append ho has hts (by rw [hv0, hvy]; exact h4))⟩
      · rename_i id len hx
        split at h
        · rename_i s elems hc
          obtain ⟨⟨rfl, rfl, hbig⟩, hK⟩ := h
          rcases (hx ▸ he x).inv_ref with ⟨hm, hl, hv⟩ | ⟨b, s', cp, cur0, T0, hv, hm, hb, hcs, hlc, hmx⟩
          · have he0 := hh.none_ hc hm
            subst he0
            obtain ⟨k1, k2⟩ := hh.kill id
            obtain ⟨v, m', w', h1, h2, h3, h4⟩ := d_app_nil (cap := cap) k1 ht hs hby hz h0 h64 hzs hS (by simpa using hbig) o.type
            refine ⟨_, v, _, m', w', F, hK, by simpa using h1, by simpa using h2, by simpa using k2.trans h3, .inl (exec_append ho has hts (by rw [hv, hvy]; exact h4))⟩
          · obtain ⟨rfl, cur, T, cs, hA⟩ := hh.at_ hc hm
            have hcc := hA.hb
            rw [hb] at hcc
            cases hcc
            have hown := hh.own id _ _ _ hc rfl hm
            have hu := tel_und ht
            obtain ⟨i, hi, rfl, rfl, hiz⟩ := info_of hs hby hz
            by_cases hroom : elems.length + ys.length ≤ cp
            · have hfit : elems.length * i.size + news.length ≤ cur0.size := by rw [hS.len, hcs, ← Nat.add_mul]; exact Nat.mul_le_mul_right _ hroom
              obtain ⟨w', cur', hr, hSt, hsz', hget⟩ := run_cells (P := P) (o := elems.length * i.size) hb (vs := news) hfit hS.one
              have g := hSt.go1 (m := m) (F := F) hb hsz' hown.1
              have k1 := hh.upd (e' := .dead) g (by rw [hSt.size]; exact Nat.le_refl _) hc rfl hm hSt.oth trivial
              have k2 := hSt.tr (e' := .dead) hb hsz' hown.1 hc rfl hm
              have g2 : Go1 m w F (m ++ [some (b, i.size)]) w' F := ⟨g.blk, g.sub, fun id x hx => by rw [List.getElem?_append_left (lt_of_some hx)]; exact hx, g.shp⟩
              have hE := app_ent (m := m) (F := F) (w := w) (w' := w') (m' := m ++ [some (b, i.size)]) (elems := elems) rfl hSt.blk (by simp) g2 hS hA.hsz
                (by
                  intro i' o' e d h1 h2
                  obtain ⟨u, hu, hr'⟩ := hA.get h1 h2
                  refine ⟨u, ?_, hr'⟩
                  rw [hget, if_neg, hu]
                  have ho' := lt_of_some h2
                  rw [(hA.hsz e (List.mem_of_getElem? h1)).1] at ho'
                  have := Nat.mul_le_mul_right i.size (show i' + 1 ≤ elems.length from lt_of_some h1)
                  rw [Nat.succ_mul] at this
                  omega)
                (by intro j hj; rw [hget, if_pos (by omega)]; congr 1; omega)
              have hno : ¬ Own m (hp.set id .dead) b := by
                rintro ⟨j, x', s, h1, h2, h3⟩
                rw [List.getElem?_set] at h1
                split at h1
                · split at h1
                  · cases h1; cases h2
                  · cases h1
                · rename_i hj
                  exact hh.inj id j _ x' b i.size b s hc h1 rfl h2 hj hm h3 rfl
              have k3 := k1.snoc (z := i.size) (e := .arr i.size (elems ++ ys)) (by rw [hSt.size]; exact hown.2) hown.1 hno hE
              have k4 := k2.snoc (z := i.size) (e := .arr i.size (elems ++ ys)) k1.len (.inl ⟨id, _, _, hc, rfl, hm⟩)
              refine ⟨_, .slice (some ⟨b, 0, none⟩) (elems.length + ys.length) cp, _, _, w', F, hK, ?_, k3, k4, .inl (exec_append ho has hts ?_)⟩
              · exact .ref hp.length _ b i.size cp cur' T0 (by rw [← hh.len]; simp) hSt.blk (hsz'.trans hcs) hroom hmx
              · rw [hv, hvy]
                have hf := hS.cells (P := P) ys.length cap rfl w (fun _ _ h => h)
                simp only [Builtin.append_, Sem.run_bind, List.size_toArray]
                simp [run_underlying hu, sizeOf, typeInfo, hi, Builtin.lenOf, hroom, hf, addr_add, hr]
            · have hgr : cp < elems.length + ys.length := by omega
              rcases ad with _ | b2
              · have h1 := hS.none_ rfl
                rw [h1] at hgr
                simp at hgr
                omega
              · have hby2 : (elems.length + ys.length) * i.bytes ≤ 1099511627776 * 64 := Nat.mul_le_mul hbig h64
                have holds : (cur0.toList.take (elems.length * i.size)).length = elems.length * i.size := by
                  have := hA.room
                  simp; omega
                have hr := run_append_grow (P := P) w t o.type et i z hu hi hiz ⟨b, 0, none⟩ elems.length cp (cur0.toList.take (elems.length * i.size)) holds (by
                    intro j u hu'
                    rw [addr_add, cell_at hb, Nat.zero_add]
                    rw [List.getElem?_take] at hu'
                    split at hu'
                    · simpa using hu'
                    · cases hu') b2 ys.length cap news hS.len (hS.cell b2 rfl) hgr (by omega) (growslice_fits hgr (by omega))
                obtain ⟨k1, k2⟩ := hh.kill id
                have al := Al.drew w (.cells ((cur0.toList.take (elems.length * i.size)).toArray ++ news.toArray ++ Builtin.zeroCells z.cells (grownCap w (elems.length + ys.length) cp et - (elems.length + ys.length))) et)
                have hge := grownCap_ge w (elems.length + ys.length) cp et
                have hcm := grownCap_le_maxLen w (elems.length + ys.length) cp et (by unfold maxLen; omega)
                have hE := app_ent (m := m) (F := F) (w := w) (w' := w.drew.alloc (.cells ((cur0.toList.take (elems.length * i.size)).toArray ++ news.toArray ++ Builtin.zeroCells z.cells (grownCap w (elems.length + ys.length) cp et - (elems.length + ys.length))) et)) (m' := m ++ [some (w.heap.size, i.size)])
                  (elems := elems) rfl al.new (by simp) (Go1.alloc hh al _) hS hA.hsz
                  (by
                    intro i' o' e d h1 h2
                    obtain ⟨u, hu, hr'⟩ := hA.get h1 h2
                    refine ⟨u, ?_, hr'⟩
                    have ho' := lt_of_some h2
                    rw [(hA.hsz e (List.mem_of_getElem? h1)).1] at ho'
                    have hlt := Nat.mul_le_mul_right i.size (show i' + 1 ≤ elems.length from lt_of_some h1)
                    rw [Nat.succ_mul] at hlt
                    rw [← Array.getElem?_toList]
                    simp only [Array.toList_append]
                    rw [List.append_assoc, List.getElem?_append_left (by rw [holds]; omega), List.getElem?_take, if_pos (by omega)]
                    simpa using hu)
                  (by
                    intro j hj
                    rw [← Array.getElem?_toList]
                    simp only [Array.toList_append]
                    have := getElem?_app3 (a := cur0.toList.take (elems.length * i.size)) (b := news) (c := (Builtin.zeroCells z.cells (grownCap w (elems.length + ys.length) cp et - (elems.length + ys.length))).toList) hj
                    rw [holds] at this
                    exact this)
                have h2 := k1.alloc al i.size _ hE
                refine ⟨_, _, _, _, _, F, hK, ?_, h2.1, k2.trans h2.2, .inl (exec_append ho has hts (by rw [hv, hvy]; exact hr))⟩
                exact .ref hp.length _ w.heap.size i.size _ _ et (by rw [← hh.len]; simp) al.new (by
                  have hzc : z.cells.size = i.size := by rw [← hzs]; simp
                  simp only [Array.size_append, List.size_toArray, size_zeroCells, hzc, hS.len, holds, ← Nat.add_mul]
                  congr 1
                  omega) hge hcm
        · exact h.elim
      · exact h.elim
    · exact h.elim
  · exact h.elim

theorem d_copy (hh : RelH m w F hp) (he : ∀ x, RepA m w F (e x) (ρ x)) {t : TypeId} {x y : Operand} {as : Array Operand} {ts : Array TypeId} (ho : o.op = .call { callee := .builtin .copy, args := as, argTypes := ts }) (has : as = #[x, y]) (hts : ts[0]? = some t)
    (h : acopy P t hp (e x) (e y) c) : Does P m F w hp ρ o c := by
  unfold acopy at h
  split at h
  · rename_i sz hz1
    obtain ⟨hz0, h⟩ := h
    obtain ⟨et, ht, hs⟩ := bind_tel hz1
    have hu := tel_und ht
    split at h
    · rename_i ys hy
      obtain ⟨ad, cap, news, hvy, hmax, hS⟩ := srd_rep hh hz0 (he y) hy
      split at h
      · rename_i id lo len hx
        split at h
        · rename_i s elems hc
          obtain ⟨⟨rfl, hle⟩, hK⟩ := h
          have hyl : (ys.take len).length ≤ len := by simp; omega
          have hmin : Nat.min ys.length len = (ys.take len).length := by rw [List.length_take]; exact Nat.min_comm _ _
          have hS2 := hS.take len
          clear hS
          generalize ys.take len = zs at hmin hS2 hK hyl
          generalize news.take (zs.length * s) = ns at hS2
          have hf : (Builtin.firstCells s zs.length (.slice ad ys.length cap)).run P w = .ok ns.toArray w := by
            cases ad with
            | none =>
              have e1 := hS2.none_ rfl
              have e2 : ns = [] := List.eq_nil_of_length_eq_zero (by rw [hS2.len, e1]; simp)
              subst e2
              simp [Builtin.firstCells, e1]
            | some b => exact run_firstCells_some w s zs.length b ys.length cap ns (by rw [hS2.len]) (fun j v hv => hS2.cell b rfl j v hv)
          rcases (hx ▸ he x).inv_rs with ⟨rfl, a', cp, hv⟩ | ⟨b, s', cp, hv, hm, hlc, hmx⟩
          · have hy0 : zs = [] := List.eq_nil_of_length_eq_zero (by omega)
            subst hy0
            have hn0 : ns = [] := List.eq_nil_of_length_eq_zero (by rw [hS2.len]; simp)
            subst hn0
            have hs0 : hp.set id (.arr s (elems.take lo ++ [] ++ elems.drop (lo + 0))) = hp := by
              apply List.ext_getElem?
              intro j
              rw [List.getElem?_set]
              split
              · rename_i hj; subst hj; rw [if_pos (lt_of_some hc), hc]; simp
              · rfl
            simp only [List.length_nil] at hK
            rw [hs0] at hK
            refine ⟨_, .int .i64 (0 : Nat), _, m, w, F, hK, .v _, hh, Tr.refl _ _ _ _, .inl ?_⟩
            simp at hf
            cases a' <;> simp [execOp, ho, resolve, invoke, builtin, has, hts, Builtin.copy_, hv, hvy, run_underlying hu, run_size hs, Builtin.lenOf, hmin, hf, goInt, storeCells]
          · obtain ⟨rfl, cur, T, cs, hA⟩ := hh.at_ hc hm
            have hroom := hA.room
            have hfit : lo * s' + ns.length ≤ cur.size := by
              rw [hS2.len, ← Nat.add_mul]
              exact Nat.le_trans (Nat.mul_le_mul_right _ (by omega)) hroom
            obtain ⟨w', cur', hr, hSt, hsz', hget⟩ := run_cells (P := P) (o := lo * s') hA.hb (vs := ns) hfit hS2.one
            have hown := hh.own id _ _ _ hc rfl hm
            have g := hSt.go1 (m := m) (F := F) hA.hb hsz' hown.1
            have hE : RepE m w' F id (.arr s' (elems.take lo ++ zs ++ elems.drop (lo + zs.length))) := by
              refine RepE.mk hm hSt.blk ?_ ?_
              · intro z hz
                simp only [List.mem_append] at hz
                rcases hz with (hz | hz) | hz
                · exact hA.hsz z (List.mem_of_mem_take hz)
                · exact hS2.hsz z hz
                · exact hA.hsz z (List.mem_of_mem_drop hz)
              · intro i' o' e' d he' hd'
                have ho' : e'.length = s' → o' < s' := fun hl => by have := lt_of_some hd'; omega
                rw [get_splice (by omega)] at he'
                split at he'
                · rename_i hin
                  obtain ⟨u, hu', hr'⟩ := hS2.hrep _ o' e' d he' hd'
                  refine ⟨u, ?_, hr'.go g⟩
                  have hlt := lt_of_some hu'
                  have e1 : i' * s' = lo * s' + (i' - lo) * s' := by rw [← Nat.add_mul]; congr 1; omega
                  rw [hget, if_pos (by omega), show i' * s' + o' - lo * s' = (i' - lo) * s' + o' by omega]
                  exact hu'
                · rename_i hin
                  obtain ⟨u, hu', hr'⟩ := hA.get he' hd'
                  refine ⟨u, ?_, hr'.go g⟩
                  have hos := ho' (hA.hsz e' (List.mem_of_getElem? he')).1
                  rw [hget, if_neg, hu']
                  rw [hS2.len]
                  rintro ⟨u1, u2⟩
                  rcases Nat.lt_or_ge i' lo with h' | h'
                  · have := Nat.mul_le_mul_right s' (show i' + 1 ≤ lo from h')
                    rw [Nat.succ_mul] at this
                    omega
                  · have := Nat.mul_le_mul_right s' (show lo + zs.length ≤ i' by omega)
                    rw [Nat.add_mul] at this
                    omega
            refine ⟨_, .int .i64 zs.length, _, m, w', F, hK, .v _, hh.upd g (by rw [hSt.size]; exact Nat.le_refl _) hc rfl hm hSt.oth hE, hSt.tr hA.hb hsz' hown.1 hc rfl hm, .inl ?_⟩
            simp [execOp, ho, resolve, invoke, builtin, has, hts, Builtin.copy_, hv, hvy, run_underlying hu, run_size hs, Builtin.lenOf, hmin, hf, goInt, hr]
        · exact h.elim
      · exact h.elim
    · exact h.elim
  · exact h.elim

/-- every operation that makes or writes memory, but a call of a function -/
theorem aeff_does (hh : RelH m w F hp) (he : ∀ x, RepA m w F (e x) (ρ x)) (hq : ∀ k as ts, o.op ≠ .call { callee := .value (.func k), args := as, argTypes := ts }) (h : aeff P o.op e hp c) : Does P m F w hp ρ o c := by
  unfold aeff at h
  split at h
  · rename_i t x ho; exact d_box hh he ho h
  · rename_i t ho; exact d_alloc hh ho h
  · rename_i t l cp ho; exact d_make hh he ho h
  · rename_i t len ps ho; exact d_lit hh he ho h
  · rename_i t x y ho; exact d_store hh he ho h
  · rename_i k as ts ho; exact absurd ho (hq k as ts)
  · rename_i as ts ho
    split at h
    · rename_i x y t t' has hts
      obtain ⟨rfl, h⟩ := h
      exact d_append hh he (x := x) (y := y) (t := t) ho (by cases as; simp_all) (by cases ts; simp_all) h
    · exact h.elim
  · rename_i as ts ho
    split at h
    · rename_i x y t tr has hts
      exact d_copy hh he (x := x) (y := y) ho (by cases as; simp_all) (by cases ts; simp_all) h
    · exact h.elim
  · exact h.elim

end Eng
end Go.Proofs.Ytgcmahhejblpkaa
