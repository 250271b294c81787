/-
An abstract interpreter of the program's code on plain data: part F, soundness of stores, addresses, new blocks, calls.
No condition: everything here is stated over any program.
-/
import Derived.Test.YtbfonmedgcemjaaEngE
namespace Go.Proofs.Ytbfonmedgcemjaa
namespace Eng
set_option linter.unusedVariables false
set_option linter.unusedSimpArgs false

variable {P : Program} {n0 N : Nat} {B : Bs} {m : Mp} {F : Nat → Prop} {s : St} {a : Act} {w : World} {K : St → Prop} {Q : Exit → Act → World → Prop} {o : Oper}

theorem run_store_one {b o : Nat} {cur : Array Value} {T : TypeId} {v : Value} (hb : w.heap[b]? = some (.cells cur T (0, 0))) (ho : o < cur.size) (hv : v.oneCell' = true) :
    (store ⟨b, o, none⟩ v).run P w = .ok () (w.setCell ⟨b, o, none⟩ v) := by
  have hc : w.cell? ⟨b, o, none⟩ = some cur[o] := by rw [cell_at hb]; exact Array.getElem?_eq_getElem ho
  have hf : w.frozen? ⟨b, o, none⟩ = false := by simp [World.frozen?, hb]
  cases v <;> simp [Value.oneCell'] at hv <;> simp [store, Sem.run, hc, hf]

structure Sto (w w' : World) (b : Nat) (cur' : Array Value) (T : TypeId) : Prop where
  blk : w'.heap[b]? = some (.cells cur' T (0, 0))
  oth : ∀ k, k ≠ b → w'.heap[k]? = w.heap[k]?
  size : w'.heap.size = w.heap.size
  os : w'.os = w.os
  tape : w'.tape = w.tape
  output : w'.output = w.output

theorem run_storeCells {b o : Nat} {T : TypeId} : ∀ (vs : List Value) (i : Nat) (w : World) (cur : Array Value), w.heap[b]? = some (.cells cur T (0, 0)) →
    o + i + vs.length ≤ cur.size → (∀ v ∈ vs, v.oneCell' = true) →
    ∃ w' cur', (storeCells ⟨b, o, none⟩ vs i).run P w = .ok () w' ∧ Sto w w' b cur' T ∧
      cur'.toList = cur.toList.take (o + i) ++ vs ++ cur.toList.drop (o + i + vs.length)
  | [], i, w, cur, hb, hle, _ => ⟨w, cur, by simp [storeCells], ⟨hb, fun _ _ => rfl, rfl, rfl, rfl, rfl⟩, by simp⟩
  | v :: vs, i, w, cur, hb, hle, hv => by
    simp only [List.length_cons] at hle
    have hlt : o + i < cur.size := by omega
    have hrun := run_store_one (P := P) hb hlt (hv v (by simp))
    have hb' := heap_setCell_same w b (o + i) cur T v hb
    have hsz : (cur.setIfInBounds (o + i) v).size = cur.size := by simp
    obtain ⟨w', cur', hr, hs, hl⟩ := run_storeCells (o := o) vs (i + 1) (w.setCell ⟨b, o + i, none⟩ v) (cur.setIfInBounds (o + i) v) hb' (by rw [hsz]; omega)
      (fun x hx => hv x (by simp [hx]))
    refine ⟨w', cur', ?_, ⟨hs.blk, fun k hk => (hs.oth k hk).trans (heap_setCell_other w _ k v hk), by rw [hs.size]; simp, hs.os, hs.tape, hs.output⟩, ?_⟩
    · simp only [storeCells, addr_add, Sem.run_bind, hrun, Result.andThen_ok]; exact hr
    · rw [hl, Array.toList_setIfInBounds]
      have e1 : (cur.toList.set (o + i) v).take (o + (i + 1)) = cur.toList.take (o + i) ++ [v] := by
        rw [← Nat.add_assoc, List.take_add_one, List.take_set_of_le (Nat.le_refl _)]
        rw [List.getElem?_set_self (by simpa using hlt)]
        rfl
      have e2 : (cur.toList.set (o + i) v).drop (o + (i + 1) + vs.length) = cur.toList.drop (o + i + (vs.length + 1)) := by
        rw [List.drop_set_of_lt (by omega)]
        congr 1; omega
      rw [e1, e2]
      simp

theorem Sto.tr {b : Nat} {cur' : Array Value} {T : TypeId} {w' : World} {cur : Array Value} (h : Sto w w' b cur' T) (hb : w.heap[b]? = some (.cells cur T (0, 0)))
    (hs : cur'.size = cur.size) (hF : ¬ F b) : Tr m w F m w' F where
  os := h.os
  tape := h.tape
  output := h.output
  size := by rw [h.size]; exact Nat.le_refl _
  blk := fun k hk => h.oth k (fun e => hF (e ▸ hk))
  sub := fun _ h => h
  sup := fun _ h => .inl h
  mid := fun _ _ => rfl
  mlen := Nat.le_refl _
  shp := fun k c T' f hk => by
    by_cases e : k = b
    · subst e
      rw [hb] at hk; cases hk
      exact ⟨cur', h.blk, hs⟩
    · exact ⟨c, (h.oth k e).trans hk, rfl⟩
  mb := fun id b z h hm => by rw [List.getElem?_eq_none h] at hm; cases hm

theorem RelH.upd {hp : List Ent} (hh : RelH m w F hp) {w' : World} {id b sz : Nat} {e e' : Ent} (t : Tr m w F m w' F) (he : hp[id]? = some e) (ha : e.alive = true)
    (hm : m[id]? = some (some (b, sz))) (ho : ∀ k, k ≠ b → w'.heap[k]? = w.heap[k]?) (h' : RepE m w' F id e') : RelH m w' F (hp.set id e') := by
  have hid := lt_of_some he
  have get : ∀ (j : Nat) (x : Ent), (hp.set id e')[j]? = some x → x.alive = true → ∃ y, hp[j]? = some y ∧ y.alive = true := by
    intro j x hx hxa
    rw [List.getElem?_set] at hx
    split at hx
    · rename_i hj; subst hj; exact ⟨e, he, ha⟩
    · exact ⟨x, hx, hxa⟩
  refine ⟨by simp [hh.len], fun k hk => Nat.lt_of_lt_of_le (hh.stable k hk) t.size, ?_, ?_, ?_⟩
  · intro j x hx
    rw [List.getElem?_set] at hx
    split at hx
    · rename_i hj
      subst hj
      simp [hid] at hx
      subst hx
      exact h'
    · rename_i hj
      refine (hh.ent j x hx).tr t ?_
      intro hxa b' z hb'
      refine ho b' ?_
      exact hh.inj j id x e b' z b sz hx he hxa ha (fun e => hj e.symm) hb' hm
  · intro i j ei ej bi si bj sj hi hj ai aj hne hmi hmj
    obtain ⟨yi, h1, h2⟩ := get i ei hi ai
    obtain ⟨yj, h3, h4⟩ := get j ej hj aj
    exact hh.inj i j yi yj bi si bj sj h1 h3 h2 h4 hne hmi hmj
  · intro i x b s hx hxa hm
    obtain ⟨y, h1, h2⟩ := get i x hx hxa
    exact ⟨(hh.own i y b s h1 h2 hm).1, Nat.lt_of_lt_of_le (hh.own i y b s h1 h2 hm).2 t.size⟩

theorem oneCell_of {x : AV} {v : Value} (h : RepA m w F x v) (ho : one x = true) : v.oneCell' = true := by
  cases h with
  | d h => cases h <;> first | exact ho | rfl
  | top v => simp [one] at ho
  | agg => simp [one] at ho
  | tup => simp [one] at ho
  | _ => rfl

theorem oneL_mem : ∀ {l : List AV} {i : Nat} {x : AV}, oneL l = true → l[i]? = some x → one x = true
  | [], i, x, _, h => by simp at h
  | y :: l, 0, x, h, hx => by simp [oneL] at h; simp at hx; exact hx ▸ h.1
  | y :: l, i + 1, x, h, hx => by simp [oneL] at h; simp at hx; exact oneL_mem h.2 hx

/-- a value's cells -/
theorem acells_rep {x : AV} {v : Value} (h : RepA m w F x v) (h1 : oneL (acells x) = true) :
    v.cells.toList.length = (acells x).length ∧ (∀ u ∈ v.cells.toList, u.oneCell' = true) ∧
    ∀ (i : Nat) (c : AV) (u : Value), (acells x)[i]? = some c → v.cells.toList[i]? = some u → RepA m w F c u := by
  have single : (∀ cs, x ≠ .agg cs) → v.oneCell' = true → v.cells.toList.length = (acells x).length ∧ (∀ u ∈ v.cells.toList, u.oneCell' = true) ∧
    ∀ (i : Nat) (c : AV) (u : Value), (acells x)[i]? = some c → v.cells.toList[i]? = some u → RepA m w F c u := by
    intro hx hv
    have e1 : acells x = [x] := by cases x <;> first | rfl | exact absurd rfl (hx _)
    have e2 : v.cells.toList = [v] := by cases v <;> first | rfl | simp [Value.oneCell'] at hv
    rw [e1, e2]
    refine ⟨rfl, by simpa using hv, ?_⟩
    intro i c u h1 h2
    cases i with
    | zero => simp at h1 h2; subst h1; subst h2; exact h
    | succ i => simp at h1
  by_cases hx : ∃ cs, x = .agg cs
  · obtain ⟨cs, rfl⟩ := hx
    obtain ⟨vs, rfl, hl, hr⟩ := h.inv_agg
    refine ⟨by simpa [Value.cells, acells] using hl, ?_, by simpa [Value.cells, acells] using hr⟩
    intro u hu
    simp [Value.cells] at hu
    obtain ⟨i, hi, rfl⟩ := List.getElem_of_mem hu
    have hc : cs[i]? = some (cs[i]'(by omega)) := List.getElem?_eq_getElem (by omega)
    exact oneCell_of (hr i _ _ hc (List.getElem?_eq_getElem hi)) (oneL_mem h1 hc)
  · refine single (fun cs e => hx ⟨cs, e⟩) (oneCell_of h ?_)
    have e1 : acells x = [x] := by cases x <;> first | rfl | exact absurd ⟨_, rfl⟩ hx
    rw [e1] at h1
    simpa [oneL] using h1

theorem op_skip (r : R B m F N s a w) {w' : World} {hp' : List Ent} (hd : ∀ d, o.dst = some d → d < N) (hrun : (execOp a.eval o).run P w = .ok .skip w')
    (t : Tr m w F m w' F) (hh : RelH m w' F hp') (hK : K ⟨match o.dst with | some d => (d, .top) :: s.sl | none => s.sl, hp'⟩) :
    o.wp P a w (Nx B N K) Q := by
  unfold Oper.wp
  rw [hrun]
  have := r.put (x := .top) (v := undef) (dst := o.dst) t hh (.top _) hd
  refine ⟨_, m, F, hK, ?_⟩
  cases hdst : o.dst <;> rw [hdst] at this <;> exact this

theorem run_storeVar {t : TypeId} {n b o : Nat} {cur : Array Value} {T : TypeId} {v : Value} (hs : tsz P t = some n) (hb : w.heap[b]? = some (.cells cur T (0, 0)))
    (hn : v.cells.toList.length = n) (hle : o + n ≤ cur.size) (h1 : ∀ u ∈ v.cells.toList, u.oneCell' = true) :
    ∃ w' cur', (storeVar t ⟨b, o, none⟩ v).run P w = .ok () w' ∧ Sto w w' b cur' T ∧ cur'.toList = cur.toList.take o ++ v.cells.toList ++ cur.toList.drop (o + n) := by
  obtain ⟨w', cur', hr, hS, hl⟩ := run_storeCells (P := P) (o := o) v.cells.toList 0 w cur hb (by rw [hn]; simpa using hle) h1
  refine ⟨w', cur', ?_, hS, ?_⟩
  · have : v.cells.size = n := by rw [← hn]; simp
    simp [storeVar, run_size hs, this, hr]
  · rw [hl, hn]; simp

theorem exec_store {t : TypeId} {x y : Operand} {b o' : Nat} {w' : World} (ho : o.op = .store t x y) (hv : a.eval x = .pointer (some ⟨b, o', none⟩))
    (hr : (storeVar t ⟨b, o', none⟩ (a.eval y)).run P w = .ok () w') : (execOp a.eval o).run P w = .ok .skip w' := by
  simp [execOp, ho, hv, Instr.storeAt, Instr.sureAddr, hr]

theorem wr_length {l : List AV} {o : Nat} {vs : List AV} (h : o + vs.length ≤ l.length) : (wr l o vs).length = l.length := by
  simp [wr]; omega
theorem wrD_length {l : List D} {o : Nat} {vs : List D} (h : o + vs.length ≤ l.length) : (wrD l o vs).length = l.length := by
  simp [wrD]; omega

theorem get_splice {α : Type} {l vs : List α} {o i : Nat} (h : o + vs.length ≤ l.length) :
    (l.take o ++ vs ++ l.drop (o + vs.length))[i]? = if o ≤ i ∧ i < o + vs.length then vs[i - o]? else l[i]? := by
  have hto : (l.take o).length = o := by simp; omega
  by_cases h1 : i < o
  · rw [if_neg (by omega), List.append_assoc, List.getElem?_append_left (by omega), List.getElem?_take, if_pos h1]
  · by_cases h2 : i < o + vs.length
    · rw [if_pos (by omega), List.append_assoc, List.getElem?_append_right (by omega), hto, List.getElem?_append_left (by omega)]
    · rw [if_neg (by omega), List.getElem?_append_right (by simp; omega), List.getElem?_drop]
      congr 1
      simp
      omega

theorem toDs_eq : ∀ {l : List AV} {ds : List D}, toDs l = some ds → l = ds.map .d
  | [], ds, h => by simp [toDs] at h; subst h; rfl
  | .d x :: l, ds, h => by
    simp only [toDs] at h
    cases hr : toDs l with
    | none => rw [hr] at h; cases h
    | some r => rw [hr] at h; cases h; rw [toDs_eq hr]; rfl
  | .agg _ :: _, _, h | .tup _ :: _, _, h | .ref _ _ _ :: _, _, h | .bx _ _ :: _, _, h | .ptr _ _ _ :: _, _, h | .ep _ _ :: _, _, h | .top :: _, _, h => by simp [toDs] at h

theorem op_store (r : R B m F N s a w) (hd : ∀ d, o.dst = some d → d < N) {t : TypeId} {x y : Operand} (ho : o.op = .store t x y)
    (h : astore P t s.hp (ev s x) (ev s y) (fun hp => K ⟨match o.dst with | some d => (d, .top) :: s.sl | none => s.sl, hp⟩)) : o.wp P a w (Nx B N K) Q := by
  unfold astore at h
  split at h
  · rename_i n hs
    obtain ⟨⟨hn, h1⟩, h⟩ := h
    obtain ⟨g1, g2, g3⟩ := acells_rep (r.ev y) h1
    split at h
    · rename_i id o' hx
      obtain ⟨b, sz, hm, hv⟩ := (hx ▸ r.ev x).inv_bx
      unfold entBox at h
      split at h
      · rename_i cells hc
        obtain ⟨b', sz', vs, T, hm', hb, hl, hcell⟩ := r.hp.ent id _ hc
        rw [hm'] at hm; cases hm
        obtain ⟨hle, hK⟩ := h
        obtain ⟨w', cur', hr, hS, hcur⟩ := run_storeVar (P := P) hs hb (g1.trans hn) (by rw [hl]; exact hle) g2
        have hsz : cur'.size = vs.size := by
          have := congrArg List.length hcur
          simp at this
          rw [this]
          have e1 : (a.eval y).cells.size = n := by rw [← hn, ← g1]; simp
          omega
        have hown := r.hp.own id _ _ _ hc rfl hm'
        have t := hS.tr (m := m) (F := F) hb hsz hown.1
        refine op_skip r hd (exec_store ho hv hr) t (r.hp.upd t hc rfl hm' hS.oth ?_) hK
        refine ⟨b, sz, cur', T, hm', hS.blk, ?_, ?_⟩
        · rw [hsz, hl, wr_length (by omega)]
        · intro i c v h1' h2'
          rw [← Array.getElem?_toList, hcur, show o' + n = o' + (a.eval y).cells.toList.length by rw [g1, hn], get_splice (by rw [g1, hn]; simp; omega)] at h2'
          unfold wr at h1'
          rw [get_splice (by omega)] at h1'
          rw [g1] at h2'
          split at h1'
          · rename_i hi
            rw [if_pos hi] at h2'
            exact (g3 _ _ _ h1' h2').tr t
          · rename_i hi
            rw [if_neg hi] at h2'
            exact (hcell i c v h1' (by simpa using h2')).tr t
      · exact h.elim
    · rename_i id i o' hx
      obtain ⟨b, sz, hm, hv⟩ := (hx ▸ r.ev x).inv_ptr
      split at h
      · rename_i sz' elems ds hc hds
        obtain ⟨hi, h⟩ := h
        rcases r.hp.ent id _ hc with ⟨hm', he⟩ | ⟨b', cur, T, cs, hm', hb, hsz, hcell, hrep⟩
        · subst he; simp at hi
        · rw [hm'] at hm; cases hm
          have he := List.getElem?_eq_getElem hi
          have hlen := hsz elems[i] (List.getElem_mem hi)
          obtain ⟨hle, hK⟩ := h _ he
          have hds' := toDs_eq hds
          have hdl : ds.length = n := by rw [← hn, hds']; simp
          rw [hlen] at hle
          have hcs : i * sz + o' + n ≤ cur.size := by
            rcases Nat.eq_zero_or_pos sz with h0 | h0
            · have : n = 0 ∧ o' = 0 := by omega
              obtain ⟨rfl, rfl⟩ := this
              subst h0
              simp
            · have := hcell i (sz - 1) hi (by omega)
              have h2 : i * sz + (sz - 1) < cur.size := by
                rcases Nat.lt_or_ge (i * sz + (sz - 1)) cur.size with h' | h'
                · exact h'
                · rw [Array.getElem?_eq_none h'] at this; cases this
              omega
          obtain ⟨w', cur', hr, hS, hcur⟩ := run_storeVar (P := P) (o := i * sz + o') hs hb (g1.trans hn) hcs g2
          have e1 : (a.eval y).cells.toList.length = n := g1.trans hn
          have hsz' : cur'.size = cur.size := by
            have := congrArg List.length hcur
            simp at this
            rw [this]
            have : (a.eval y).cells.size = n := by rw [← e1]; simp
            omega
          have hown := r.hp.own id _ _ _ hc rfl hm'
          have t := hS.tr (m := m) (F := F) hb hsz' hown.1
          refine op_skip r hd (exec_store ho hv hr) t (r.hp.upd t hc rfl hm' hS.oth ?_) hK
          refine .inr ⟨b, cur', T, fun i o => (cur'[i * sz + o]?).getD undef, hm', hS.blk, ?_, ?_, ?_⟩
          · intro e' he'
            rcases List.mem_or_eq_of_mem_set he' with h' | h'
            · exact hsz e' h'
            · rw [h', wrD_length (by omega)]; exact hlen
          · intro i' o'' hi' ho''
            rw [List.length_set] at hi'
            have := hcell i' o'' hi' ho''
            have h2 : i' * sz + o'' < cur.size := by
              rcases Nat.lt_or_ge (i' * sz + o'') cur.size with h' | h'
              · exact h'
              · rw [Array.getElem?_eq_none h'] at this; cases this
            simp [Array.getElem?_eq_getElem (show i' * sz + o'' < cur'.size by omega)]
          · intro i' o'' e' d he' hd'
            have hnew : ∀ j, cur'[j]? = if i * sz + o' ≤ j ∧ j < i * sz + o' + n then (a.eval y).cells.toList[j - (i * sz + o')]? else cur[j]? := by
              intro j
              rw [← Array.getElem?_toList, hcur]
              have := get_splice (l := cur.toList) (vs := (a.eval y).cells.toList) (o := i * sz + o') (i := j) (by rw [e1]; simpa using hcs)
              rw [e1] at this
              simpa using this
            rw [List.getElem?_set] at he'
            show RepD w' F d ((cur'[i' * sz + o'']?).getD undef)
            by_cases hii : i = i'
            · subst hii
              simp only [if_true, hi, if_true] at he'
              cases he'
              unfold wrD at hd'
              rw [get_splice (by omega)] at hd'
              split at hd'
              · rename_i hin
                have hx1 : (acells (ev s y))[o'' - o']? = some (.d d) := by rw [hds', List.getElem?_map, hd']; rfl
                have hx2 : o'' - o' < (a.eval y).cells.toList.length := by rw [e1]; omega
                have hx3 := List.getElem?_eq_getElem hx2
                have := g3 _ _ _ hx1 hx3
                rw [hnew, if_pos (by omega), show i * sz + o'' - (i * sz + o') = o'' - o' by omega, hx3]
                simp only [Option.getD_some]
                cases this with | d h => exact h.tr t.blk t.sub
              · rename_i hin
                have ho2 : o'' < sz := by
                  have := lt_of_some hd'
                  omega
                rw [hnew, if_neg (by omega), hcell i o'' hi ho2, Option.getD_some]
                exact (hrep i o'' _ d he hd').tr t.blk t.sub
            · rw [if_neg hii] at he'
              have ho2 : o'' < sz := by
                have := lt_of_some hd'
                rw [hsz e' (List.mem_of_getElem? he')] at this
                exact this
              have hi2 := lt_of_some he'
              have : ¬ (i * sz + o' ≤ i' * sz + o'' ∧ i' * sz + o'' < i * sz + o' + n) := by
                rintro ⟨u1, u2⟩
                rcases Nat.lt_or_gt_of_ne hii with h' | h'
                · have := Nat.mul_le_mul_right sz (show i + 1 ≤ i' from h')
                  rw [Nat.succ_mul] at this
                  omega
                · have := Nat.mul_le_mul_right sz (show i' + 1 ≤ i from h')
                  rw [Nat.succ_mul] at this
                  omega
              rw [hnew, if_neg this, hcell i' o'' hi2 ho2, Option.getD_some]
              exact (hrep i' o'' _ d he' hd').tr t.blk t.sub
      · exact h.elim
    · exact h.elim
  · exact h.elim

end Eng
end Go.Proofs.Ytbfonmedgcemjaa
