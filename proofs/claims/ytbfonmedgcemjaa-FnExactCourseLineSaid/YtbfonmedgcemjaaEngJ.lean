/-
An abstract interpreter of the program's code on plain data: part J, whole functions.
No condition: everything here is stated over any program.
-/
import Derived.Test.YtbfonmedgcemjaaEngI
namespace Go.Proofs.Ytbfonmedgcemjaa
namespace Eng
set_option linter.unusedVariables false
set_option linter.unusedSimpArgs false

variable {P : Program} {n0 N : Nat} {B : Bs} {m : Mp} {F : Nat → Prop} {s : St} {a : Act} {w : World}

def rv1 (tmps : Array Value) : ResultVar → Sem Value
  | .tmp t => pure (tmps.getD t undef)
  | .cell p t => do loadVar t (← asAddr (tmps.getD p undef))

theorem results_eq (f : Func) (tmps : Array Value) :
    results f tmps = (do let vs ← f.results.mapM (rv1 tmps); pure (if h : vs.size = 1 then vs[0] else .tuple vs)) := by
  unfold results
  congr 1

theorem ares1_rep (r : R B m F N s a w) {rv : ResultVar} {c : AV → Prop} (h : ares1 P s rv c) :
    ∃ x v, c x ∧ RepA m w F x v ∧ (rv1 a.tmps rv).run P w = .ok v w := by
  cases rv with
  | tmp t => exact ⟨_, _, h, r.sl t, rfl⟩
  | cell p t =>
    obtain ⟨y, v, b, o', h1, h2, h3, h4⟩ := aload_rep r.hp (r.sl p) h
    exact ⟨y, v, h1, h2, by simp [rv1, h3, asAddr, h4]⟩

def RepL2 (m : Mp) (w : World) (F : Nat → Prop) : List AV → List Value → Prop
  | [], [] => True
  | x :: xs, v :: vs => RepA m w F x v ∧ RepL2 m w F xs vs
  | _, _ => False

theorem RepL2.get : ∀ {xs : List AV} {vs : List Value}, RepL2 m w F xs vs → vs.length = xs.length ∧ ∀ (i : Nat) (c : AV) (v : Value), xs[i]? = some c → vs[i]? = some v → RepA m w F c v
  | [], [], _ => ⟨rfl, fun i c v h => by simp at h⟩
  | x :: xs, v :: vs, h => by
    obtain ⟨h1, h2⟩ := h.2.get
    refine ⟨by simp [h1], ?_⟩
    intro i c u e1 e2
    cases i with
    | zero => simp at e1 e2; subst e1; subst e2; exact h.1
    | succ i => exact h2 i c u (by simpa using e1) (by simpa using e2)

theorem aresL_rep (r : R B m F N s a w) : ∀ (rs : List ResultVar) (c : List AV → Prop), aresL P s rs c →
    ∃ xs vs, c xs ∧ RepL2 m w F xs vs ∧ vs.length = rs.length ∧ (rs.mapM (rv1 a.tmps)).run P w = .ok vs w
  | [], c, h => ⟨[], [], h, trivial, rfl, rfl⟩
  | rv :: rs, c, h => by
    obtain ⟨x, v, h1, h2, h3⟩ := ares1_rep r h
    obtain ⟨xs, vs, g1, g2, g0, g3⟩ := aresL_rep r rs _ h1
    refine ⟨x :: xs, v :: vs, g1, ⟨h2, g2⟩, by simp [g0], ?_⟩
    simp only [List.mapM_cons, Sem.run_bind, h3, Result.andThen_ok, g3, Sem.run_pure]

theorem ares_rep (r : R B m F N s a w) {f : Func} {c : AV → Prop} (h : ares P s f.results.toList c) :
    ∃ x v, c x ∧ RepA m w F x v ∧ (results f a.tmps).run P w = .ok v w := by
  unfold ares at h
  rw [results_eq]
  simp only [Sem.run_bind, Array.mapM_eq_mapM_toList, Sem.run_map]
  split at h
  · rename_i rv hrs
    obtain ⟨x, v, h1, h2, h3⟩ := ares1_rep r h
    refine ⟨x, v, h1, h2, ?_⟩
    rw [hrs]
    simp [h3]
  · rename_i rs hrs
    obtain ⟨xs, vs, h1, h2, h0, h3⟩ := aresL_rep r _ _ h
    obtain ⟨hl, hg⟩ := h2.get
    refine ⟨_, .tuple vs.toArray, h1, .tup xs vs hl hg, ?_⟩
    rw [h3]
    have hne : vs.length ≠ 1 := by
      intro h1'
      rw [h1'] at h0
      obtain ⟨x, hx⟩ := List.length_eq_one_iff.1 h0.symm
      exact hrs x hx
    simp [hne]

/- what is kept -/
def rnm (n0 : Nat) (ids : List Nat) (m : Mp) : Mp := m.take n0 ++ ids.map (fun i => m.getD i none)

theorem pos_get {x : Nat} : ∀ {l : List Nat} {p : Nat}, pos x l = some p → l[p]? = some x
  | [], p, h => by simp [pos] at h
  | y :: l, p, h => by
    simp only [pos] at h
    split at h
    · rename_i e; cases h; simp [e]
    · cases hp : pos x l with
      | none => simp [hp] at h
      | some q => simp [hp] at h; subst h; simpa using pos_get hp

theorem rnm_get {ids : List Nat} {id j : Nat} {x : Option (Nat × Nat)} (hn : n0 ≤ m.length) (hj : rnId n0 ids id = some j) (hm : m[id]? = some x) : (rnm n0 ids m)[j]? = some x := by
  unfold rnId at hj
  unfold rnm
  have hl : (m.take n0).length = n0 := by simp; omega
  split at hj
  · rename_i h
    cases hj
    rw [List.getElem?_append_left (by omega), List.getElem?_take, if_pos h]
    exact hm
  · cases hp : pos id ids with
    | none => simp [hp] at hj
    | some p =>
      simp [hp] at hj
      subst hj
      rw [List.getElem?_append_right (by omega), hl, Nat.add_sub_cancel_left, List.getElem?_map, pos_get hp]
      simp [List.getD, hm]

theorem rnL_get (ids : List Nat) : ∀ (cs : List AV) (i : Nat), (rn.rnL n0 ids cs)[i]? = (cs[i]?).map (rn n0 ids)
  | [], i => by simp [rn.rnL]
  | c :: cs, 0 => by simp [rn.rnL]
  | c :: cs, i + 1 => by simp [rn.rnL, rnL_get ids cs i]
theorem rnL_length (ids : List Nat) : ∀ (cs : List AV), (rn.rnL n0 ids cs).length = cs.length
  | [] => rfl
  | c :: cs => by simp [rn.rnL, rnL_length ids cs]

theorem rn_rep {ids : List Nat} (hn : n0 ≤ m.length) {x : AV} {v : Value} (h : RepA m w F x v) : RepA (rnm n0 ids m) w F (rn n0 ids x) v := by
  induction h with
  | d h => exact .d h
  | top v => exact .top v
  | agg cs vs hl h ih =>
    refine .agg _ vs (by rw [rnL_length]; exact hl) ?_
    intro i c v h1 h2
    rw [rnL_get] at h1
    cases hc : cs[i]? with
    | none => simp [hc] at h1
    | some c' => simp [hc] at h1; subst h1; exact ih i c' v hc h2
  | tup cs vs hl h ih =>
    refine .tup _ vs (by rw [rnL_length]; exact hl) ?_
    intro i c v h1 h2
    rw [rnL_get] at h1
    cases hc : cs[i]? with
    | none => simp [hc] at h1
    | some c' => simp [hc] at h1; subst h1; exact ih i c' v hc h2
  | refNil id hm =>
    simp only [rn]
    split
    · rename_i j hj; exact .refNil j (rnm_get hn hj hm)
    · exact .top _
  | ref id lo len b sz cap cur T hm hb hs hl hmax =>
    simp only [rn]
    split
    · rename_i j hj; exact .ref j lo len b sz cap cur T (rnm_get hn hj hm) hb hs hl hmax
    · exact .top _
  | bx id o b sz hm =>
    simp only [rn]
    split
    · rename_i j hj; exact .bx j o b sz (rnm_get hn hj hm)
    · exact .top _
  | ptr id i o b sz hm =>
    simp only [rn]
    split
    · rename_i j hj; exact .ptr j i o b sz (rnm_get hn hj hm)
    · exact .top _
  | ep e o b off cur T fz cs hF hb hcell hrep => exact .ep e o b off cur T fz cs hF hb hcell hrep

theorem rnE_rep {ids : List Nat} (hn : n0 ≤ m.length) {id j : Nat} (hj : rnId n0 ids id = some j) {e : Ent} (h : RepE m w F id e) : RepE (rnm n0 ids m) w F j (rnE n0 ids e) := by
  cases e with
  | dead => trivial
  | box cells =>
    obtain ⟨b, sz, vs, T, hm, hb, hl, hc⟩ := h
    refine ⟨b, sz, vs, T, rnm_get hn hj hm, hb, by rw [rnL_length]; exact hl, ?_⟩
    intro o c v h1 h2
    rw [rnL_get] at h1
    cases hc' : cells[o]? with
    | none => simp [hc'] at h1
    | some c' => simp [hc'] at h1; subst h1; exact rn_rep hn (hc o c' v hc' h2)
  | arr sz elems =>
    rcases h with ⟨hm, he⟩ | ⟨b, cur, T, cs, hm, rest⟩
    · exact .inl ⟨rnm_get hn hj hm, he⟩
    · exact .inr ⟨b, cur, T, cs, rnm_get hn hj hm, rest⟩

theorem rnE_alive {ids : List Nat} {e : Ent} : (rnE n0 ids e).alive = e.alive := by cases e <;> rfl

def kept (n0 : Nat) (ids : List Nat) (hp : List Ent) : List Ent := (hp.take n0).map (rnE n0 ids) ++ ids.map (fun i => rnE n0 ids (hp.getD i .dead))

/-- where an entry that is kept comes from -/
theorem kept_get {ids : List Nat} {hp : List Ent} (hn : n0 ≤ hp.length) (hids : ∀ i ∈ ids, n0 ≤ i ∧ i < hp.length) {j : Nat} {e : Ent} (h : (kept n0 ids hp)[j]? = some e) :
    ∃ (id : Nat) (e' : Ent), hp[id]? = some e' ∧ e = rnE n0 ids e' ∧ (if j < n0 then id = j else ids[j - n0]? = some id) := by
  unfold kept at h
  have hl : ((hp.take n0).map (rnE n0 ids)).length = n0 := by simp; omega
  by_cases hj : j < n0
  · rw [List.getElem?_append_left (by omega), List.getElem?_map, List.getElem?_take, if_pos hj] at h
    cases hc : hp[j]? with
    | none => simp [hc] at h
    | some e' => simp [hc] at h; exact ⟨j, e', hc, h.symm, by rw [if_pos hj]⟩
  · rw [List.getElem?_append_right (by omega), hl, List.getElem?_map] at h
    cases hc : ids[j - n0]? with
    | none => simp [hc] at h
    | some id =>
      simp [hc] at h
      have hid := hids id (List.mem_of_getElem? hc)
      have he := List.getElem?_eq_getElem hid.2
      refine ⟨id, hp[id]'hid.2, he, ?_, by rw [if_neg hj]⟩
      rw [← h]
      simp [List.getD, he]

theorem pos_of_get {l : List Nat} (hnd : l.Nodup) {p x : Nat} (h : l[p]? = some x) : pos x l = some p := by
  induction l generalizing p with
  | nil => simp at h
  | cons y l ih =>
    simp only [pos]
    cases p with
    | zero => simp at h; rw [if_pos h]
    | succ p =>
      simp at h
      have hne : y ≠ x := by
        rintro rfl
        exact (List.nodup_cons.1 hnd).1 (List.mem_of_getElem? h)
      rw [if_neg hne, ih (List.nodup_cons.1 hnd).2 h]
      rfl

theorem RelH.keep {hp : List Ent} (h : RelH m w F hp) {ids : List Nat} (hnd : ids.Nodup) (hn : n0 ≤ hp.length) (hids : ∀ i ∈ ids, n0 ≤ i ∧ i < hp.length) :
    RelH (rnm n0 ids m) w F (kept n0 ids hp) := by
  have hnm : n0 ≤ m.length := by rw [h.len]; exact hn
  have hrn : ∀ (j id : Nat), (if j < n0 then id = j else ids[j - n0]? = some id) → rnId n0 ids id = some j := by
    intro j id hj
    unfold rnId
    split at hj
    · rename_i h1; subst hj; rw [if_pos h1]
    · rename_i h1
      have := (hids id (List.mem_of_getElem? hj)).1
      rw [if_neg (by omega), pos_of_get hnd hj]
      simp; omega
  have hmm : ∀ (j id : Nat) (e' : Ent) (x : Option (Nat × Nat)), hp[id]? = some e' → (if j < n0 then id = j else ids[j - n0]? = some id) → (rnm n0 ids m)[j]? = some x → m[id]? = some x := by
    intro j id e' x he hj hx
    have hlt : id < m.length := by rw [h.len]; exact lt_of_some he
    have hg := List.getElem?_eq_getElem hlt
    have := rnm_get hnm (hrn j id hj) hg
    rw [hx] at this
    rw [hg, this]
  refine ⟨by simp [rnm, kept, h.len], h.stable, ?_, ?_, ?_⟩
  · intro j e he
    obtain ⟨id, e', h1, rfl, h3⟩ := kept_get hn hids he
    exact rnE_rep hnm (hrn j id h3) (h.ent id e' h1)
  · intro i j ei ej bi si bj sj hi hj ai aj hne hmi hmj
    obtain ⟨id1, e1, h1, rfl, h3⟩ := kept_get hn hids hi
    obtain ⟨id2, e2, g1, rfl, g3⟩ := kept_get hn hids hj
    refine h.inj id1 id2 e1 e2 bi si bj sj h1 g1 (by rw [← rnE_alive (n0 := n0) (ids := ids)]; exact ai) (by rw [← rnE_alive (n0 := n0) (ids := ids)]; exact aj) ?_ (hmm i id1 e1 _ h1 h3 hmi) (hmm j id2 e2 _ g1 g3 hmj)
    rintro rfl
    have e1 := hrn i id1 h3
    have e2 := hrn j id1 g3
    rw [e1] at e2
    cases e2
    exact hne rfl
  · intro i e b sz he ha hm
    obtain ⟨id, e', h1, rfl, h3⟩ := kept_get hn hids he
    exact h.own id e' b sz h1 (by rw [← rnE_alive (n0 := n0) (ids := ids)]; exact ha) (hmm i id e' _ h1 h3 hm)

theorem Tr.keep {m0 w0 F0} (t : Tr m0 w0 F0 m w F) {ids : List Nat} (hids : ∀ i ∈ ids, m0.length ≤ i ∧ i < m.length) : Tr m0 w0 F0 (rnm m0.length ids m) w F where
  os := t.os
  tape := t.tape
  output := t.output
  size := t.size
  blk := t.blk
  sub := t.sub
  sup := t.sup
  shp := t.shp
  mid := fun id h => by
    unfold rnm
    rw [List.getElem?_append_left (by have := t.mlen; simp; omega), List.getElem?_take, if_pos h]
    exact t.mid id h
  mlen := by have := t.mlen; simp [rnm]; omega
  mb := fun id b z h hm => by
    have hl : (m.take m0.length).length = m0.length := by have := t.mlen; simp; omega
    unfold rnm at hm
    rw [List.getElem?_append_right (by omega), hl, List.getElem?_map] at hm
    cases hi : ids[id - m0.length]? with
    | none => simp [hi] at hm
    | some k =>
      simp [hi] at hm
      have hk := hids k (List.mem_of_getElem? hi)
      rw [List.getElem?_eq_getElem hk.2] at hm
      simp at hm
      exact t.mb k b z hk.1 (by rw [List.getElem?_eq_getElem hk.2, hm])

theorem argSl_get : ∀ (xs : List AV) (k t : Nat), lk (argSl k xs) t = if k ≤ t then (xs[t - k]?).getD .top else .top
  | [], k, t => by simp [argSl, lk]
  | x :: xs, k, t => by
    simp only [argSl, lk, argSl_get xs (k + 1) t]
    by_cases h : k = t
    · subst h; simp
    · by_cases h2 : k ≤ t
      · have e : t - k = (t - (k + 1)) + 1 := by omega
        rw [if_neg h, if_pos (by omega), if_pos h2, e]
        simp
      · rw [if_neg h, if_neg (by omega), if_neg h2]

/-- A FUNCTION's CONTRACT, FROM THE INTERPRETER's RUN OF ITS BODY -/
theorem GC.of_func {k : FuncId} {f : Func} {c : Code} {args : List AV} {hp : List Ent} {K : AV → List Ent → Prop}
    (hcall : ∀ (args : Array Value) (w : World), (callFunc k args).run P w = .ok (.enter k args) w)
    (hf : P.funcs[k]? = some f) (hb : f.body = some c) (hd : dstOk f.ntmps c = true)
    (h : acode P hp.length c (endq P f.results.toList hp.length K) ⟨argSl 0 args, hp⟩) : GC P k args hp K := by
  refine ⟨hcall, ?_⟩
  intro m w F vals hh hv
  refine calls_of_wp hf hb ?_
  have hsize : (vals.toArray ++ Array.replicate (f.ntmps - vals.toArray.size) undef).size = vals.length + (f.ntmps - vals.length) := by simp
  have hdN : dstOk (vals.length + (f.ntmps - vals.length)) c = true := by
    have mono : ∀ (N M : Nat), N ≤ M → ∀ l : List Oper, dstL N l = true → dstL M l = true := by
      intro N M hNM l
      induction l with
      | nil => intro _; rfl
      | cons o l ih =>
        intro hl
        simp only [dstL, Bool.and_eq_true] at hl ⊢
        refine ⟨?_, ih hl.2⟩
        cases ho : o.dst with
        | none => rfl
        | some d => have := hl.1; simp only [ho, decide_eq_true_eq] at this ⊢; exact Nat.lt_of_lt_of_le this hNM
    have mono2 : ∀ (N M : Nat), N ≤ M → ∀ c : Code, dstOk N c = true → dstOk M c = true := by
      intro N M hNM c
      induction c with
      | seq x y hx hy => intro h; simp only [dstOk, Bool.and_eq_true] at h ⊢; exact ⟨hx h.1, hy h.2⟩
      | cond c x y hx hy => intro h; simp only [dstOk, Bool.and_eq_true] at h ⊢; exact ⟨hx h.1, hy h.2⟩
      | block id c hc => intro h; exact hc h
      | loop c hc => intro h; exact hc h
      | region id ops d => intro h; exact mono N M hNM _ h
      | _ => intro _; rfl
    exact mono2 f.ntmps (vals.length + (f.ntmps - vals.length)) (by omega) c hd
  have hR : R ⟨m, w, F⟩ m F (vals.length + (f.ntmps - vals.length)) ⟨argSl 0 args, hp⟩ { tmps := vals.toArray ++ Array.replicate (f.ntmps - vals.toArray.size) undef, defers := [] } w := by
    refine ⟨hh, ?_, hsize, rfl, Tr.refl m w F⟩
    intro t
    rw [argSl_get]
    simp only [Nat.zero_le, if_true, Nat.sub_zero]
    cases hx : args[t]? with
    | none => exact .top _
    | some x =>
      have ht := lt_of_some hx
      have ht' : t < vals.length := by rw [hv.1]; exact ht
      have hvt := List.getElem?_eq_getElem ht'
      have e : (vals.toArray ++ Array.replicate (f.ntmps - vals.toArray.size) undef).getD t undef = vals[t] := by
        rw [Array.getD_eq_getD_getElem?, Array.getElem?_append_left (by simpa using ht')]
        simp [ht']
      rw [e]
      exact hv.2 t x _ hx hvt
  refine wp_mono (acode_sound (n0 := hp.length) hh.len c _ m F _ _ w hdN hR h) ?_
  rintro e a' w' ⟨s', m', F', hq, r'⟩
  have done : ares P s' f.results.toList (fun r => fin hp.length r s'.hp K) → a'.defers = [] ∧ ∃ v, (results f a'.tmps).run P w' = .ok v w' ∧
      ∃ v' r hp' m' F', Ending.returned v = Ending.returned v' ∧ K r hp' ∧ RelH m' w' F' hp' ∧ RepA m' w' F' r v' ∧ Tr m w F m' w' F' := by
    intro hr
    obtain ⟨x, v, ⟨ids, hnd, hids, hK⟩, hx, hrun⟩ := ares_rep r' hr
    have t := r'.base
    have hlen : m.length = hp.length := hh.len
    have hle : hp.length ≤ s'.hp.length := by rw [← hlen, ← r'.hp.len]; exact t.mlen
    refine ⟨r'.defers, v, hrun, v, _, _, rnm hp.length ids m', F', rfl, hK, r'.hp.keep hnd hle hids, rn_rep (by rw [r'.hp.len]; exact hle) hx, ?_⟩
    rw [← hlen]
    exact t.keep (fun i hi => by rw [hlen, r'.hp.len]; exact hids i hi)
  cases e with
  | normal => exact done hq
  | ret => exact done hq
  | _ => exact hq.elim

end Eng
end Go.Proofs.Ytbfonmedgcemjaa
