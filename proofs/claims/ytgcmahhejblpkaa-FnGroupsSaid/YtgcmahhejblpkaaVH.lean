/-
An abstract interpreter of the program's code on plain data: part H, code, whole functions, weaker descriptions, loops.
No condition: everything here is stated over any program.
-/
import Derived.Test.YtgcmahhejblpkaaVG
namespace Go.Proofs.Ytgcmahhejblpkaa
namespace Eng
set_option linter.unusedVariables false
set_option linter.unusedSimpArgs false

variable {P : Program} {n0 N : Nat} {B : Bs} {m : Mp} {F : Nat → Prop} {s : St} {a : Act} {w : World} {hp : List Ent}

theorem exists_least {p : Nat → Prop} (h : ∃ n, p n) : ∃ n, p n ∧ ∀ k, k < n → ¬ p k := by
  obtain ⟨n, hn⟩ := h
  induction n using Nat.strongRecOn with
  | _ n ih =>
    by_cases hk : ∃ k, k < n ∧ p k
    · obtain ⟨k, h1, h2⟩ := hk; exact ih k h1 h2
    · exact ⟨n, hn, fun k h1 h2 => hk ⟨k, h1, h2⟩⟩

theorem wp_loop_ind {c : Code} {Q : Exit → Act → World → Prop} (J : Nat → Act → World → Prop)
    (round : ∀ n a w, J n a w → c.wp P (Exit.then (fun a' w' => ∃ k, k < n ∧ J k a' w') Q) a w) {n : Nat} {a : Act} {w : World} (h : J n a w) : (Code.loop c).wp P Q a w := by
  have key : ∀ a w, (∃ n, J n a w) → ∃ n, J n a w ∧ ∀ k, k < n → ¬ J k a w := fun a w h => exists_least h
  let μ : Act → World → Nat := fun a w => @dite _ (∃ n, J n a w) (Classical.propDecidable _) (fun h => Classical.choose (key a w h)) (fun _ => 0)
  have hμ : ∀ a w (h : ∃ n, J n a w), J (μ a w) a w ∧ ∀ k, k < μ a w → ¬ J k a w := by
    intro a w h
    have e : μ a w = Classical.choose (key a w h) := by simp only [μ]; rw [dif_pos h]
    rw [e]
    exact Classical.choose_spec (key a w h)
  refine wp_loop (fun a w => ∃ n, J n a w) μ ⟨n, h⟩ ?_
  intro a w hI
  refine wp_mono (round (μ a w) a w (hμ a w hI).1) ?_
  intro e a' w' he
  cases e with
  | normal =>
    obtain ⟨k, hk, hJ⟩ := he
    refine ⟨⟨k, hJ⟩, ?_⟩
    have := (hμ a' w' ⟨k, hJ⟩).2 k
    rcases Nat.lt_or_ge k (μ a' w') with h' | h'
    · exact absurd hJ (this h')
    · omega
  | _ => exact he

theorem acode_sound {pl : List (Nat × Plan)} (hn : B.hp.length = n0) (hm : B.m.length = n0) (hw : P.follows .mixedOrders = true) : ∀ (c : Code) (Q : Exit → St → Prop) (m : Mp) (F : Nat → Prop) (s : St) (a : Act) (w : World), dstOk N c = true ∧ plOk pl c = true → R B m F N s a w →
    acode P n0 pl c Q s → c.wp P (LQ B N Q) a w
  | .skip, Q, m, F, s, a, w, _, r, h => wp_skip ⟨s, m, F, h, r⟩
  | .seq x y, Q, m, F, s, a, w, hd, r, h => by
    simp only [dstOk, plOk, Bool.and_eq_true] at hd
    refine wp_seq (wp_mono (acode_sound hn hm hw x _ m F s a w ⟨hd.1.1, hd.2.1⟩ r h) ?_)
    rintro e a' w' ⟨s', m', F', hq, r'⟩
    cases e with
    | normal => exact acode_sound hn hm hw y Q m' F' s' a' w' ⟨hd.1.2, hd.2.2⟩ r' hq
    | _ => exact ⟨s', m', F', hq, r'⟩
  | .cond c x y, Q, m, F, s, a, w, hd, r, h => by
    simp only [dstOk, plOk, Bool.and_eq_true] at hd
    simp only [acode, acnd] at h
    split at h
    · rename_i b hb
      have hv := (hb ▸ r.ev c).inv_v
      cases b with
      | true => exact wp_cond_true hv (acode_sound hn hm hw x Q m F s a w ⟨hd.1.1, hd.2.1⟩ r (h.1 rfl))
      | false => exact wp_cond_false hv (acode_sound hn hm hw y Q m F s a w ⟨hd.1.2, hd.2.2⟩ r (h.2 rfl))
    · exact h.elim
  | .block id c, Q, m, F, s, a, w, hd, r, h => by
    refine wp_block (wp_mono (acode_sound hn hm hw c _ m F s a w hd r h) ?_)
    rintro e a' w' ⟨s', m', F', hq, r'⟩
    cases e with
    | exit i =>
      simp only [Exit.inBlock]
      simp only [blq] at hq
      split
      · rename_i hi; rw [if_pos hi] at hq; exact ⟨s', m', F', hq, r'⟩
      · rename_i hi; rw [if_neg hi] at hq; exact ⟨s', m', F', hq, r'⟩
    | _ => exact ⟨s', m', F', hq, r'⟩
  | .loop c, Q, m, F, s, a, w, hd, r, h => by
    obtain ⟨J, ⟨n, s0, hW, hI⟩, round⟩ := h
    obtain ⟨m', F', r'⟩ := hW B m F N a w hn hm r
    refine wp_loop_ind (fun n a w => ∃ s m F, J n s ∧ R B m F N s a w) ?_ (n := n) ⟨s0, m', F', hI, r'⟩
    rintro n a1 w1 ⟨s1, m1, F1, hI1, r1⟩
    refine wp_mono (acode_sound hn hm hw c _ m1 F1 s1 a1 w1 hd r1 (round n s1 hI1)) ?_
    rintro e a2 w2 ⟨s2, m2, F2, hq, r2⟩
    cases e with
    | normal =>
      obtain ⟨k, s3, hW3, hI3, hlt⟩ := hq
      obtain ⟨m3, F3, r3⟩ := hW3 B m2 F2 N a2 w2 hn hm r2
      exact ⟨k, hlt, s3, m3, F3, hI3, r3⟩
    | _ => exact ⟨s2, m2, F2, hq, r2⟩
  | .exit id, Q, m, F, s, a, w, _, r, h => wp_exit ⟨s, m, F, h, r⟩
  | .ret, Q, m, F, s, a, w, _, r, h => wp_ret ⟨s, m, F, h, r⟩
  | .region id ops false, Q, m, F, s, a, w, hd, r, h => wp_region_list (aops_sound ops.toList m F s a w hd.1 r h)
  | .region id ops true, Q, m, F, s, a, w, hd, r, h => by
    exact region_sound hd.1 r hw hd.2 h
  | .rangeFunc .., Q, m, F, s, a, w, hd, r, h => h.elim
  | .scope _, Q, m, F, s, a, w, hd, r, h => h.elim
  | .label _, Q, m, F, s, a, w, hd, r, h => h.elim
  | .goto _, Q, m, F, s, a, w, hd, r, h => h.elim
  | .refuse _, Q, m, F, s, a, w, hd, r, h => h.elim

/- what a function keeps -/
def pos (x : Nat) : List Nat → Option Nat
  | [] => none
  | y :: l => if y = x then some 0 else (pos x l).map (· + 1)

def rnId (n0 : Nat) (is : List Nat) (id : Nat) : Option Nat := if id < n0 then some id else (pos id is).map (n0 + ·)

def rn (n0 : Nat) (is : List Nat) : AV → AV
  | .agg cs => .agg (rnL n0 is cs)
  | .tup cs => .tup (rnL n0 is cs)
  | .ref id len => match rnId n0 is id with | some j => .ref j len | none => .top
  | .rs id lo len => match rnId n0 is id with | some j => .rs j lo len | none => .top
  | .ptr id i o => match rnId n0 is id with | some j => .ptr j i o | none => .top
  | x => x
where
  rnL (n0 : Nat) (is : List Nat) : List AV → List AV
    | [] => []
    | c :: cs => rn n0 is c :: rnL n0 is cs

def rnLL (n0 : Nat) (is : List Nat) (elems : List (List AV)) : List (List AV) := if plnLL elems = true then elems else elems.map (rn.rnL n0 is)
def rnE (n0 : Nat) (is : List Nat) : Ent → Ent
  | .arr sz elems => .arr sz (rnLL n0 is elems)
  | .dead => .dead

/-- what is left where only these entries stay -/
def kept (n0 : Nat) (is : List Nat) (hp : List Ent) : List Ent := (hp.take n0).map (rnE n0 is) ++ is.map (fun i => rnE n0 is (hp.getD i .dead))
/-- what is fit for cells -/
def okE : Ent → Bool
  | .arr _ elems => plnLL elems || elems.all oneL
  | .dead => true
/-- each number once, each of an entry behind n0 -/
def ndB : List Nat → Bool
  | [] => true
  | i :: l => !l.contains i && ndB l
def isB (n0 n : Nat) (is : List Nat) : Bool := ndB is && is.all (fun i => decide (n0 ≤ i) && decide (i < n))
def okL : List Ent → Bool
  | [] => true
  | e :: l => okE e && okL l
def keepOk (n0 : Nat) (is : List Nat) (hp : List Ent) : Prop := isB n0 hp.length is = true ∧ okL (kept n0 is hp) = true

def fin (n0 : Nat) (r : AV) (hp : List Ent) (K : AV → List Ent → Prop) : Prop :=
  ∃ is : List Nat, keepOk n0 is hp ∧ K (rn n0 is r) (kept n0 is hp)

def ares1 (P : Program) (s : St) (r : ResultVar) (c : AV → Prop) : Prop :=
  match r with
  | .tmp t => c (lk s.sl t)
  | .cell a t => aload P t s.hp (lk s.sl a) c

def aresL (P : Program) (s : St) : List ResultVar → (List AV → Prop) → Prop
  | [], c => c []
  | r :: rs, c => ares1 P s r (fun v => aresL P s rs (fun vs => c (v :: vs)))

def ares (P : Program) (s : St) (rs : List ResultVar) (c : AV → Prop) : Prop :=
  match rs with
  | [r] => ares1 P s r c
  | rs => aresL P s rs (fun vs => c (.tup vs))

def endq (P : Program) (rs : List ResultVar) (n0 : Nat) (K : AV → List Ent → Prop) : Exit → St → Prop
  | .normal, s => ares P s rs (fun r => fin n0 r s.hp K)
  | .ret, s => ares P s rs (fun r => fin n0 r s.hp K)
  | _, _ => False

def argSl : Nat → List AV → List (Nat × AV)
  | _, [] => []
  | i, x :: xs => (i, x) :: argSl (i + 1) xs

def rv1 (tmps : Array Value) (r : ResultVar) : Sem Value :=
  match r with
  | .tmp t => pure (tmps.getD t undef)
  | .cell p t => do loadVar t (← asAddr (tmps.getD p undef))

theorem results_eq (f : Func) (tmps : Array Value) :
    results f tmps = (do let vs ← f.results.mapM (rv1 tmps); pure (if h : vs.size = 1 then vs[0] else .tuple vs)) := by
  unfold results
  congr 1

theorem ares1_rep (r : R B m F N s a w) {rv : ResultVar} {c : AV → Prop} (h : ares1 P s rv c) :
    ∃ x v, c x ∧ RepA m w F x v ∧ (rv1 a.tmps rv).run P w = .ok v w := by
  cases rv with
  | tmp t => exact ⟨_, _, h, r.sl t, rfl⟩
  | cell p t =>
    obtain ⟨y, v, b, o', h1, h2, h3, h4⟩ := aload_rep r.hp (r.sl p) h
    exact ⟨y, v, h1, h2, by simp [rv1, h3, asAddr, h4]⟩

def RepL2 (m : Mp) (w : World) (F : Nat → Prop) : List AV → List Value → Prop
  | [], [] => True
  | x :: xs, v :: vs => RepA m w F x v ∧ RepL2 m w F xs vs
  | _, _ => False

theorem RepL2.get : ∀ {xs : List AV} {vs : List Value}, RepL2 m w F xs vs → vs.length = xs.length ∧ ∀ (i : Nat) (c : AV) (v : Value), xs[i]? = some c → vs[i]? = some v → RepA m w F c v
  | [], [], _ => ⟨rfl, fun i c v h => by simp at h⟩
  | x :: xs, v :: vs, h => by
    obtain ⟨h1, h2⟩ := h.2.get
    refine ⟨by simp [h1], ?_⟩
    intro i c u e1 e2
    cases i with
    | zero => simp at e1 e2; subst e1; subst e2; exact h.1
    | succ i => exact h2 i c u (by simpa using e1) (by simpa using e2)

theorem aresL_rep (r : R B m F N s a w) : ∀ (rs : List ResultVar) (c : List AV → Prop), aresL P s rs c →
    ∃ xs vs, c xs ∧ RepL2 m w F xs vs ∧ vs.length = rs.length ∧ (rs.mapM (rv1 a.tmps)).run P w = .ok vs w
  | [], c, h => ⟨[], [], h, trivial, rfl, rfl⟩
  | rv :: rs, c, h => by
    obtain ⟨x, v, h1, h2, h3⟩ := ares1_rep r h
    obtain ⟨xs, vs, g1, g2, g0, g3⟩ := aresL_rep r rs _ h1
    refine ⟨x :: xs, v :: vs, g1, ⟨h2, g2⟩, by simp [g0], ?_⟩
    simp only [List.mapM_cons, Sem.run_bind, h3, Result.andThen_ok, g3, Sem.run_pure]

theorem ares_rep (r : R B m F N s a w) {f : Func} {c : AV → Prop} (h : ares P s f.results.toList c) :
    ∃ x v, c x ∧ RepA m w F x v ∧ (results f a.tmps).run P w = .ok v w := by
  unfold ares at h
  rw [results_eq]
  simp only [Sem.run_bind, Array.mapM_eq_mapM_toList, Sem.run_map]
  split at h
  · rename_i rv hrs
    obtain ⟨x, v, h1, h2, h3⟩ := ares1_rep r h
    refine ⟨x, v, h1, h2, ?_⟩
    rw [hrs]
    simp [h3]
  · rename_i rs hrs
    obtain ⟨xs, vs, h1, h2, h0, h3⟩ := aresL_rep r _ _ h
    obtain ⟨hl, hg⟩ := h2.get
    refine ⟨_, .tuple vs.toArray, h1, .tup xs vs hl hg, ?_⟩
    rw [h3]
    have hne : vs.length ≠ 1 := by
      intro h1'
      rw [h1'] at h0
      obtain ⟨x, hx⟩ := List.length_eq_one_iff.1 h0.symm
      exact hrs x hx
    simp [hne]

def rnm (n0 : Nat) (is : List Nat) (m : Mp) : Mp := m.take n0 ++ is.map (fun i => m.getD i none)

theorem pos_get {x : Nat} : ∀ {l : List Nat} {p : Nat}, pos x l = some p → l[p]? = some x
  | [], p, h => by simp [pos] at h
  | y :: l, p, h => by
    simp only [pos] at h
    split at h
    · rename_i e; cases h; simp [e]
    · cases hp : pos x l with
      | none => simp [hp] at h
      | some q => simp [hp] at h; subst h; simpa using pos_get hp

theorem rnm_get {is : List Nat} {id j : Nat} {x : Option (Nat × Nat)} (hn : n0 ≤ m.length) (hj : rnId n0 is id = some j) (hm : m[id]? = some x) : (rnm n0 is m)[j]? = some x := by
  unfold rnId at hj
  unfold rnm
  have hl : (m.take n0).length = n0 := by simp; omega
  split at hj
  · rename_i h
    cases hj
    rw [List.getElem?_append_left (by omega), List.getElem?_take, if_pos h]
    exact hm
  · cases hp : pos id is with
    | none => simp [hp] at hj
    | some p =>
      simp [hp] at hj
      subst hj
      rw [List.getElem?_append_right (by omega), hl, Nat.add_sub_cancel_left, List.getElem?_map, pos_get hp]
      simp [List.getD, hm]

theorem rnL_get (is : List Nat) : ∀ (cs : List AV) (i : Nat), (rn.rnL n0 is cs)[i]? = (cs[i]?).map (rn n0 is)
  | [], i => by simp [rn.rnL]
  | c :: cs, 0 => by simp [rn.rnL]
  | c :: cs, i + 1 => by simp [rn.rnL, rnL_get is cs i]
theorem rnL_length (is : List Nat) : ∀ (cs : List AV), (rn.rnL n0 is cs).length = cs.length
  | [] => rfl
  | c :: cs => by simp [rn.rnL, rnL_length is cs]

theorem rn_rep {is : List Nat} (hn : n0 ≤ m.length) {x : AV} {v : Value} (h : RepA m w F x v) : RepA (rnm n0 is m) w F (rn n0 is x) v := by
  induction h with
  | v x => exact .v x
  | top v => exact .top v
  | agg cs vs hl h ih =>
    refine .agg _ vs (by rw [rnL_length]; exact hl) ?_
    intro i c v h1 h2
    rw [rnL_get] at h1
    cases hc : cs[i]? with
    | none => simp [hc] at h1
    | some c' => simp [hc] at h1; subst h1; exact ih i c' v hc h2
  | tup cs vs hl h ih =>
    refine .tup _ vs (by rw [rnL_length]; exact hl) ?_
    intro i c v h1 h2
    rw [rnL_get] at h1
    cases hc : cs[i]? with
    | none => simp [hc] at h1
    | some c' => simp [hc] at h1; subst h1; exact ih i c' v hc h2
  | nil sz a cap => exact .nil sz a cap
  | sl sz xs b off cap cur T fz cs hF hb hcap hmax hsz hpl hcell hrep ih =>
    exact (RepA.sl (m := m) sz xs b off cap cur T fz cs hF hb hcap hmax hsz hpl hcell hrep).noid rfl (fun _ h => h)
  | refNil id hm =>
    simp only [rn]
    split
    · rename_i j hj; exact .refNil j (rnm_get hn hj hm)
    · exact .top _
  | ref id len b sz cap cur T hm hb hs hl hmax =>
    simp only [rn]
    split
    · rename_i j hj; exact .ref j len b sz cap cur T (rnm_get hn hj hm) hb hs hl hmax
    · exact .top _
  | rsNil id lo a cap =>
    simp only [rn]
    split
    · exact .rsNil _ _ _ _
    · exact .top _
  | rs id lo len b sz cap hm hl hmax =>
    simp only [rn]
    split
    · rename_i j hj; exact .rs j lo len b sz cap (rnm_get hn hj hm) hl hmax
    · exact .top _
  | ptr id i o b sz hm =>
    simp only [rn]
    split
    · rename_i j hj; exact .ptr j i o b sz (rnm_get hn hj hm)
    · exact .top _
  | ep e o b off cur T fz cs hF hb hpl hcell hrep ih =>
    exact (RepA.ep (m := m) e o b off cur T fz cs hF hb hpl hcell hrep).noid rfl (fun _ h => h)

theorem rnE_rep {is : List Nat} (hn : n0 ≤ m.length) {id j : Nat} (hj : rnId n0 is id = some j) {e : Ent} (h : RepE m w F id e) (h1 : okE (rnE n0 is e) = true) : RepE (rnm n0 is m) w F j (rnE n0 is e) := by
  cases e with
  | dead => trivial
  | arr sz elems =>
    rcases h with ⟨hm, he⟩ | ⟨b, cur, T, cs, hm, hb, hsz, hcell, hrep⟩
    · subst he
      exact .inl ⟨rnm_get hn hj hm, by simp [rnLL]⟩
    · simp only [rnE, okE, Bool.or_eq_true, List.all_eq_true] at h1 ⊢
      have h1' := h1
      unfold rnLL at h1' ⊢
      split
      · rename_i hq
        refine .inr ⟨b, cur, T, cs, rnm_get hn hj hm, hb, hsz, hcell, fun i o e d he hd => ?_⟩
        exact (hrep i o e d he hd).noid (pln_noid (plnLL_get hq (List.mem_of_getElem? he) (List.mem_of_getElem? hd))) (fun _ h => h)
      · rename_i hq
        rw [if_neg hq] at h1'
        refine .inr ⟨b, cur, T, cs, rnm_get hn hj hm, hb, ?_, by simpa using hcell, ?_⟩
        · intro e he
          have h2 : oneL e = true := by
            rcases h1' with h1' | h1'
            · refine oneL_of fun x hx => ?_
              have := plnLL_get h1' he hx
              cases x <;> first | exact this | rfl | (simp [pln] at this; done)
            · exact h1' e he
          refine ⟨?_, h2⟩
          obtain ⟨e0, h0, rfl⟩ := List.mem_map.1 he
          rw [rnL_length]
          exact (hsz e0 h0).1
        · intro i o e d he hd
          rw [List.getElem?_map] at he
          cases hc : elems[i]? with
          | none => simp [hc] at he
          | some e0 =>
            simp [hc] at he
            subst he
            rw [rnL_get] at hd
            cases hc' : e0[o]? with
            | none => simp [hc'] at hd
            | some d0 => simp [hc'] at hd; subst hd; exact rn_rep hn (hrep i o e0 d0 hc hc')

theorem rnE_alive {is : List Nat} {e : Ent} : (rnE n0 is e).alive = e.alive := by cases e <;> rfl

/-- where an entry that is kept comes from -/
theorem kept_get {is : List Nat} {hp : List Ent} (hn : n0 ≤ hp.length) (hids : ∀ i ∈ is, n0 ≤ i ∧ i < hp.length) {j : Nat} {e : Ent} (h : (kept n0 is hp)[j]? = some e) :
    ∃ (id : Nat) (e' : Ent), hp[id]? = some e' ∧ e = rnE n0 is e' ∧ (if j < n0 then id = j else is[j - n0]? = some id) := by
  unfold kept at h
  have hl : ((hp.take n0).map (rnE n0 is)).length = n0 := by simp; omega
  by_cases hj : j < n0
  · rw [List.getElem?_append_left (by omega), List.getElem?_map, List.getElem?_take, if_pos hj] at h
    cases hc : hp[j]? with
    | none => simp [hc] at h
    | some e' => simp [hc] at h; exact ⟨j, e', hc, h.symm, by rw [if_pos hj]⟩
  · rw [List.getElem?_append_right (by omega), hl, List.getElem?_map] at h
    cases hc : is[j - n0]? with
    | none => simp [hc] at h
    | some id =>
      simp [hc] at h
      have hid := hids id (List.mem_of_getElem? hc)
      have he := List.getElem?_eq_getElem hid.2
      refine ⟨id, hp[id]'hid.2, he, ?_, by rw [if_neg hj]⟩
      rw [← h]
      simp [List.getD, he]

theorem pos_of_get {l : List Nat} (hnd : l.Nodup) {p x : Nat} (h : l[p]? = some x) : pos x l = some p := by
  induction l generalizing p with
  | nil => simp at h
  | cons y l ih =>
    simp only [pos]
    cases p with
    | zero => simp at h; rw [if_pos h]
    | succ p =>
      simp at h
      have hne : y ≠ x := by
        rintro rfl
        exact (List.nodup_cons.1 hnd).1 (List.mem_of_getElem? h)
      rw [if_neg hne, ih (List.nodup_cons.1 hnd).2 h]
      rfl

theorem kept_rnId {is : List Nat} (hnd : is.Nodup) (hids : ∀ i ∈ is, n0 ≤ i ∧ i < hp.length) {j id : Nat} (hj : if j < n0 then id = j else is[j - n0]? = some id) : rnId n0 is id = some j := by
  unfold rnId
  split at hj
  · rename_i h1; subst hj; rw [if_pos h1]
  · rename_i h1
    have := (hids id (List.mem_of_getElem? hj)).1
    rw [if_neg (by omega), pos_of_get hnd hj]
    simp; omega

theorem kept_m {is : List Nat} {hp : List Ent} (hl : m.length = hp.length) (hnd : is.Nodup) (hn : n0 ≤ hp.length) (hids : ∀ i ∈ is, n0 ≤ i ∧ i < hp.length) {j id : Nat} {e' : Ent} {x : Option (Nat × Nat)}
    (he : hp[id]? = some e') (hj : if j < n0 then id = j else is[j - n0]? = some id) (hx : (rnm n0 is m)[j]? = some x) : m[id]? = some x := by
  have hlt : id < m.length := by rw [hl]; exact lt_of_some he
  have hg := List.getElem?_eq_getElem hlt
  have := rnm_get (m := m) (by omega) (kept_rnId hnd hids hj) hg
  rw [hx] at this
  rw [hg, this]

theorem ndB_nodup : ∀ {l : List Nat}, ndB l = true → l.Nodup
  | [], _ => List.nodup_nil
  | i :: l, h => by
    simp only [ndB, Bool.and_eq_true, Bool.not_eq_true'] at h
    exact List.nodup_cons.2 ⟨by simpa using h.1, ndB_nodup h.2⟩
theorem okL_mem : ∀ {l : List Ent}, okL l = true → ∀ e ∈ l, okE e = true
  | [], _, e, he => by simp at he
  | x :: l, h, e, he => by
    simp only [okL, Bool.and_eq_true] at h
    rcases List.mem_cons.1 he with rfl | h'
    · exact h.1
    · exact okL_mem h.2 e h'
theorem keepOk.spec {is : List Nat} {hp : List Ent} (h : keepOk n0 is hp) : is.Nodup ∧ (∀ i ∈ is, n0 ≤ i ∧ i < hp.length) ∧ ∀ e ∈ kept n0 is hp, okE e = true := by
  obtain ⟨h1, h2⟩ := h
  simp only [isB, Bool.and_eq_true, List.all_eq_true, decide_eq_true_eq] at h1
  exact ⟨ndB_nodup h1.1, h1.2, okL_mem h2⟩

theorem RelH.keep {hp : List Ent} (h : RelH m w F hp) {is : List Nat} (hn : n0 ≤ hp.length) (hk : keepOk n0 is hp) :
    RelH (rnm n0 is m) w F (kept n0 is hp) := by
  obtain ⟨hnd, hids, h1⟩ := hk.spec
  have hnm : n0 ≤ m.length := by rw [h.len]; exact hn
  refine ⟨by simp [rnm, kept, h.len], h.stable, ?_, ?_, ?_⟩
  · intro j e he
    have hmem := List.mem_of_getElem? he
    obtain ⟨id, e', g1, rfl, g3⟩ := kept_get hn hids he
    exact rnE_rep hnm (kept_rnId hnd hids g3) (h.ent id e' g1) (h1 _ hmem)
  · intro i j ei ej bi si bj sj hi hj ai aj hne hmi hmj
    obtain ⟨id1, e1, h1, rfl, h3⟩ := kept_get hn hids hi
    obtain ⟨id2, e2, g1, rfl, g3⟩ := kept_get hn hids hj
    refine h.inj id1 id2 e1 e2 bi si bj sj h1 g1 (by rw [← rnE_alive (n0 := n0) (is := is)]; exact ai) (by rw [← rnE_alive (n0 := n0) (is := is)]; exact aj) ?_ (kept_m h.len hnd hn hids h1 h3 hmi) (kept_m h.len hnd hn hids g1 g3 hmj)
    rintro rfl
    have e1 := kept_rnId hnd hids h3
    have e2 := kept_rnId hnd hids g3
    rw [e1] at e2
    cases e2
    exact hne rfl
  · intro i e b sz he ha hm
    obtain ⟨id, e', h1, rfl, h3⟩ := kept_get hn hids he
    exact h.own id e' b sz h1 (by rw [← rnE_alive (n0 := n0) (is := is)]; exact ha) (kept_m h.len hnd hn hids h1 h3 hm)

theorem Tr.keep {m0 w0 F0 h0} {hp : List Ent} (t : Tr m0 w0 F0 h0 m w F hp) (hl : m.length = hp.length) {is : List Nat} (hk : keepOk m0.length is hp) : Tr m0 w0 F0 h0 (rnm m0.length is m) w F (kept m0.length is hp) := by
  obtain ⟨hnd, hids, h1⟩ := hk.spec
  exact { t with
    mid := fun id h => by
      unfold rnm
      rw [List.getElem?_append_left (by have := t.mlen; simp; omega), List.getElem?_take, if_pos h]
      exact t.mid id h
    mlen := by have := t.mlen; simp [rnm]; omega
    own := fun b ⟨j, e, s, g1, g2, g3⟩ => by
      obtain ⟨id, e', k1, rfl, k3⟩ := kept_get (by rw [← hl]; exact t.mlen) hids g1
      exact t.own b ⟨id, e', s, k1, by rw [← rnE_alive (n0 := m0.length) (is := is)]; exact g2, kept_m hl hnd (by rw [← hl]; exact t.mlen) hids k1 k3 g3⟩ }

theorem argSl_get : ∀ (xs : List AV) (k t : Nat), lk (argSl k xs) t = if k ≤ t then (xs[t - k]?).getD .top else .top
  | [], k, t => by simp [argSl, lk]
  | x :: xs, k, t => by
    simp only [argSl, lk, argSl_get xs (k + 1) t]
    by_cases h : k = t
    · subst h; simp
    · by_cases h2 : k ≤ t
      · have e : t - k = (t - (k + 1)) + 1 := by omega
        rw [if_neg h, if_pos (by omega), if_pos h2, e]
        simp
      · rw [if_neg h, if_neg (by omega), if_neg h2]

theorem dstL_mono (N M : Nat) (hNM : N ≤ M) : ∀ l : List Oper, dstL N l = true → dstL M l = true := by
  intro l
  induction l with
  | nil => intro _; rfl
  | cons o l ih =>
    intro hl
    simp only [dstL, Bool.and_eq_true] at hl ⊢
    refine ⟨?_, ih hl.2⟩
    cases ho : o.dst with
    | none => rfl
    | some d => have := hl.1; simp only [ho, decide_eq_true_eq] at this ⊢; exact Nat.lt_of_lt_of_le this hNM
theorem dstOk_mono (N M : Nat) (hNM : N ≤ M) : ∀ c : Code, dstOk N c = true → dstOk M c = true := by
  intro c
  induction c with
  | seq x y hx hy => intro h; simp only [dstOk, Bool.and_eq_true] at h ⊢; exact ⟨hx h.1, hy h.2⟩
  | cond c x y hx hy => intro h; simp only [dstOk, Bool.and_eq_true] at h ⊢; exact ⟨hx h.1, hy h.2⟩
  | block id c hc => intro h; exact hc h
  | loop c hc => intro h; exact hc h
  | region id ops d => intro h; exact dstL_mono N M hNM _ h
  | _ => intro _; rfl

/-- A FUNCTION's CONTRACT, FROM THE INTERPRETER's RUN OF ITS BODY -/
theorem GC.of_func (pl : List (Nat × Plan)) {k : FuncId} {f : Func} {c : Code} {args : List AV} {hp : List Ent} {K : AV → List Ent → Prop}
    (hcall : ∀ (args : Array Value) (w : World), (callFunc k args).run P w = .ok (.enter k args) w)
    (hf : P.funcs[k]? = some f) (hb : f.body = some c) (hd : dstOk f.ntmps c = true ∧ plOk pl c = true) (hw : P.follows .mixedOrders = true)
    (h : acode P hp.length pl c (endq P f.results.toList hp.length K) ⟨argSl 0 args, hp⟩) : GC P k args hp K := by
  refine ⟨hcall, ?_⟩
  intro m w F vals hh hv
  refine calls_of_wp hf hb ?_
  have hsize : (vals.toArray ++ Array.replicate (f.ntmps - vals.toArray.size) undef).size = vals.length + (f.ntmps - vals.length) := by simp
  have hdN : dstOk (vals.length + (f.ntmps - vals.length)) c = true := dstOk_mono f.ntmps _ (by omega) c hd.1
  have hR : R ⟨m, w, F, hp⟩ m F (vals.length + (f.ntmps - vals.length)) ⟨argSl 0 args, hp⟩ { tmps := vals.toArray ++ Array.replicate (f.ntmps - vals.toArray.size) undef, defers := [] } w := by
    refine ⟨hh, ?_, hsize, rfl, Tr.refl m w F hp⟩
    intro t
    rw [argSl_get]
    simp only [Nat.zero_le, if_true, Nat.sub_zero]
    cases hx : args[t]? with
    | none => exact .top _
    | some x =>
      have ht := lt_of_some hx
      have ht' : t < vals.length := by rw [hv.1]; exact ht
      have hvt := List.getElem?_eq_getElem ht'
      have e : (vals.toArray ++ Array.replicate (f.ntmps - vals.toArray.size) undef).getD t undef = vals[t] := by
        rw [Array.getD_eq_getD_getElem?, Array.getElem?_append_left (by simpa using ht')]
        simp [ht']
      rw [e]
      exact hv.2 t x _ hx hvt
  refine wp_mono (acode_sound (n0 := hp.length) rfl hh.len hw c _ m F _ _ w ⟨hdN, hd.2⟩ hR h) ?_
  rintro e a' w' ⟨s', m', F', hq, r'⟩
  have done : ares P s' f.results.toList (fun r => fin hp.length r s'.hp K) → a'.defers = [] ∧ ∃ v, (results f a'.tmps).run P w' = .ok v w' ∧
      ∃ v' r hp' m' F', Ending.returned v = Ending.returned v' ∧ K r hp' ∧ RelH m' w' F' hp' ∧ RepA m' w' F' r v' ∧ Tr m w F hp m' w' F' hp' := by
    intro hr
    obtain ⟨x, v, ⟨is, hk, hK⟩, hx, hrun⟩ := ares_rep r' hr
    have t : Tr m w F hp m' w' F' s'.hp := r'.base
    have hlen : m.length = hp.length := hh.len
    have hle : hp.length ≤ s'.hp.length := by rw [← hlen, ← r'.hp.len]; exact t.mlen
    refine ⟨r'.defers, v, hrun, v, _, _, rnm hp.length is m', F', rfl, hK, r'.hp.keep hle hk, rn_rep (by rw [r'.hp.len]; exact hle) hx, ?_⟩
    have := t.keep r'.hp.len (is := is) (by rw [hlen]; exact hk)
    rw [hlen] at this
    exact this
  cases e with
  | normal => exact done hq
  | ret => exact done hq
  | _ => exact hq.elim

/- weaker descriptions -/
theorem Wk.refl : Wk n0 s s := fun B m F N a w _ _ r => ⟨m, F, r⟩
theorem Wk.trans {s1 s2 s3 : St} (h1 : Wk n0 s1 s2) (h2 : Wk n0 s2 s3) : Wk n0 s1 s3 := fun B m F N a w hn hm r =>
  let ⟨m', F', r'⟩ := h1 B m F N a w hn hm r
  h2 B m' F' N a w hn hm r'

/-- fewer entries, fewer slots -/
theorem Wk.keep {l l' : List (Nat × AV)} {hp hp' : List Ent} {is : List Nat} (hn : n0 ≤ hp.length) (hk : keepOk n0 is hp) (hh : kept n0 is hp = hp') (hl : ∀ t, lk l' t = .top ∨ lk l' t = rn n0 is (lk l t)) :
    Wk n0 ⟨l, hp⟩ ⟨l', hp'⟩ := fun B m F N a w hB hm r => by
  have hlen : m.length = hp.length := r.hp.len
  subst hh
  refine ⟨rnm n0 is m, F, r.hp.keep hn hk, fun t => ?_, r.size, r.defers, ?_⟩
  · rcases hl t with h | h
    · show RepA _ w F (lk l' t) _; rw [h]; exact .top _
    · show RepA _ w F (lk l' t) _; rw [h]; exact rn_rep (by rw [hlen]; exact hn) (r.sl t)
  · have := r.base.keep r.hp.len (is := is) (by rw [hm]; exact hk)
    rw [hm] at this
    exact this

/-- fewer slots -/
theorem Wk.le {l l' : List (Nat × AV)} {hp : List Ent} (hl : ∀ t, lk l' t = .top ∨ lk l' t = lk l t) : Wk n0 ⟨l, hp⟩ ⟨l', hp⟩ := fun B m F N a w _ _ r => by
  refine ⟨m, F, r.hp, fun t => ?_, r.size, r.defers, r.base⟩
  rcases hl t with e | e
  · show RepA m w F (lk l' t) _; rw [e]; exact .top _
  · show RepA m w F (lk l' t) _; rw [e]; exact r.sl t

/-- a slot that holds nil is a slice of an own block, without elements -/
theorem Wk.nil {l : List (Nat × AV)} {hp : List Ent} (d sz : Nat) (h : lk l d = .v (.slice none 0 0)) : Wk n0 ⟨l, hp⟩ ⟨(d, .ref hp.length 0) :: l, hp ++ [.arr sz []]⟩ := fun B m F N a w _ _ r => by
  obtain ⟨h1, h2⟩ := r.hp.nilEnt sz
  refine ⟨m ++ [none], F, h1, fun t => ?_, r.size, r.defers, r.base.trans h2⟩
  simp only [lk]
  split
  · rename_i e
    subst e
    have := r.sl d
    rw [h] at this
    rw [this.inv_v]
    exact .refNil _ (by rw [← r.hp.len]; simp)
  · exact (r.sl t).tr h2

/-- what a round's end is asked, by a template of the state -/
def lpt {α : Type} (n0 : Nat) (T : α → St) (J : α → Prop) (ν : α → Nat) (a : α) (Q : Exit → St → Prop) : Exit → St → Prop
  | .normal, s => ∃ a', Wk n0 s (T a') ∧ J a' ∧ ν a' < ν a
  | e, s => Q e s

/-- A LOOP, by a template of the state at its head -/
theorem acode_loopT {pl : List (Nat × Plan)} {α : Type} {c : Code} {Q : Exit → St → Prop} (T : α → St) (J : α → Prop) (ν : α → Nat) (a0 : α) (h0 : Wk n0 s (T a0)) (hJ : J a0)
    (hr : ∀ a, J a → acode P n0 pl c (lpt n0 T J ν a Q) (T a)) : acode P n0 pl (.loop c) Q s := by
  refine ⟨fun n s => ∃ a, J a ∧ s = T a ∧ ν a = n, ⟨ν a0, T a0, h0, a0, hJ, rfl, rfl⟩, ?_⟩
  rintro n s0 ⟨a, hJ', rfl, rfl⟩
  have e : lpt n0 T J ν a Q = lpq n0 (fun n s => ∃ a, J a ∧ s = T a ∧ ν a = n) (ν a) Q := by
    funext e s
    cases e <;> try rfl
    simp only [lpt, lpq, eq_iff_iff]
    constructor
    · rintro ⟨a', h1, h2, h3⟩; exact ⟨ν a', T a', h1, ⟨a', h2, rfl, rfl⟩, h3⟩
    · rintro ⟨k, s1, h1, ⟨a', h2, rfl, rfl⟩, h3⟩; exact ⟨a', h1, h2, h3⟩
  rw [← e]
  exact hr a hJ'

end Eng
end Go.Proofs.Ytgcmahhejblpkaa
