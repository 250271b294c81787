/-
An abstract interpreter of the program's code on plain data: part I, a contract over few entries serves over more.
No condition: everything here is stated over any program.
-/
import Derived.Test.YtgcmahhejblpkaaVH
namespace Go.Proofs.Ytgcmahhejblpkaa
namespace Eng
set_option linter.unusedVariables false
set_option linter.unusedSimpArgs false

variable {P : Program} {m : Mp} {F : Nat → Prop} {w : World} {hp hs : List Ent} {ρ : List Nat} {n : Nat}

def upId (ρ : List Nat) (n j : Nat) : Nat := if j < ρ.length then ρ.getD j 0 else n + (j - ρ.length)

/-- numbers of the few entries, as numbers of the many -/
def up (ρ : List Nat) (n : Nat) : AV → AV
  | .agg cs => .agg (upL ρ n cs)
  | .tup cs => .tup (upL ρ n cs)
  | .ref id len => .ref (upId ρ n id) len
  | .rs id lo len => .rs (upId ρ n id) lo len
  | .ptr id i o => .ptr (upId ρ n id) i o
  | x => x
where
  upL (ρ : List Nat) (n : Nat) : List AV → List AV
    | [] => []
    | c :: cs => up ρ n c :: upL ρ n cs

def upLL (ρ : List Nat) (n : Nat) (elems : List (List AV)) : List (List AV) := if plnLL elems = true then elems else elems.map (up.upL ρ n)
def upE (ρ : List Nat) (n : Nat) : Ent → Ent
  | .arr sz elems => .arr sz (upLL ρ n elems)
  | .dead => .dead

def setL : List Ent → List Nat → List Ent → List Ent
  | hp, i :: is, e :: es => setL (hp.set i e) is es
  | hp, _, _ => hp

/-- the many entries behind a call over the few -/
def mrg (hp : List Ent) (ρ : List Nat) (hs : List Ent) : List Ent := setL hp ρ (hs.map (upE ρ hp.length)) ++ (hs.drop ρ.length).map (upE ρ hp.length)

/-- nothing of frozen memory -/
def nosl : AV → Bool
  | .sl _ _ | .ep _ _ => false
  | .agg cs => noslL cs
  | .tup cs => noslL cs
  | _ => true
where
  noslL : List AV → Bool
    | [] => true
    | c :: cs => nosl c && noslL cs
def noslE : Ent → Bool
  | .dead => true
  | .arr _ elems => elems.all (fun l => l.all nosl)

/-- an argument: as the few entries have it; read as plain data -/
inductive Ar (rd : Bool) (ρ : List Nat) (hp : List Ent) : AV → AV → Prop
  | up (d : AV) : Ar rd ρ hp (up ρ hp.length d) d
  | ref (id len sz : Nat) (elems : List (List AV)) (hr : rd = true) (hi : id ∉ ρ) (h : hp[id]? = some (.arr sz elems)) (hl : len ≤ elems.length) (hq : plnLL elems = true) : Ar rd ρ hp (.ref id len) (.sl sz (elems.take len))
  | rs (id lo len sz : Nat) (elems : List (List AV)) (hr : rd = true) (hi : id ∉ ρ) (h : hp[id]? = some (.arr sz elems)) (hl : lo + len ≤ elems.length) (hq : plnLL elems = true) : Ar rd ρ hp (.rs id lo len) (.sl sz ((elems.drop lo).take len))
  | nil (sz : Nat) : Ar rd ρ hp (.v (.slice none 0 0)) (.sl sz [])
  | agg (cs ds : List AV) (hl : ds.length = cs.length) (h : ∀ (i : Nat) (c d : AV), cs[i]? = some c → ds[i]? = some d → Ar rd ρ hp c d) : Ar rd ρ hp (.agg cs) (.agg ds)

def ArL (rd : Bool) (ρ : List Nat) (hp : List Ent) : List AV → List AV → Prop
  | [], [] => True
  | x :: xs, d :: ds => Ar rd ρ hp x d ∧ ArL rd ρ hp xs ds
  | _, _ => False

theorem ArL.get {rd : Bool} : ∀ {xs ds : List AV}, ArL rd ρ hp xs ds → ds.length = xs.length ∧ ∀ (i : Nat) (x d : AV), xs[i]? = some x → ds[i]? = some d → Ar rd ρ hp x d
  | [], [], _ => ⟨rfl, fun i c v h => by simp at h⟩
  | x :: xs, v :: vs, h => by
    obtain ⟨h1, h2⟩ := h.2.get
    refine ⟨by simp [h1], ?_⟩
    intro i c u e1 e2
    cases i with
    | zero => simp at e1 e2; subst e1; subst e2; exact h.1
    | succ i => exact h2 i c u (by simpa using e1) (by simpa using e2)

theorem upL_get : ∀ (cs : List AV) (i : Nat), (up.upL ρ n cs)[i]? = (cs[i]?).map (up ρ n)
  | [], i => by simp [up.upL]
  | c :: cs, 0 => by simp [up.upL]
  | c :: cs, i + 1 => by simp [up.upL, upL_get cs i]
theorem upL_length : ∀ (cs : List AV), (up.upL ρ n cs).length = cs.length
  | [] => rfl
  | c :: cs => by simp [up.upL, upL_length cs]
theorem up_one (x : AV) : one (up ρ n x) = one x := by cases x <;> rfl
theorem upL_one : ∀ (cs : List AV), oneL (up.upL ρ n cs) = oneL cs
  | [] => rfl
  | c :: cs => by simp only [up.upL, oneL, up_one, upL_one cs]

def dnm (ρ : List Nat) (m : Mp) : Mp := ρ.map (fun i => m.getD i none)
theorem dnm_get {j i : Nat} {x : Option (Nat × Nat)} (hj : ρ[j]? = some i) (hx : m[i]? = some x) : (dnm ρ m)[j]? = some x := by
  unfold dnm
  rw [List.getElem?_map, hj]
  simp [List.getD, hx]
theorem dnm_inv {j : Nat} {x : Option (Nat × Nat)} (hρ : ∀ i ∈ ρ, i < m.length) (hx : (dnm ρ m)[j]? = some x) : ∃ i, ρ[j]? = some i ∧ m[i]? = some x := by
  unfold dnm at hx
  rw [List.getElem?_map] at hx
  cases hj : ρ[j]? with
  | none => simp [hj] at hx
  | some i =>
    have hi := hρ i (List.mem_of_getElem? hj)
    simp [hj, List.getD, List.getElem?_eq_getElem hi] at hx
    exact ⟨i, rfl, by rw [List.getElem?_eq_getElem hi, hx]⟩

theorem upId_lt {j : Nat} {x : Option (Nat × Nat)} (hx : m[upId ρ m.length j]? = some x) : ρ[j]? = some (upId ρ m.length j) := by
  unfold upId at *
  split at hx
  · rename_i h
    rw [if_pos h, List.getD, List.getElem?_eq_getElem h]
    rfl
  · have := lt_of_some hx
    omega

/-- what the many have, as the few have it -/
theorem RepA.down {F0 : Nat → Prop} (hF : ∀ b, F b → F0 b) {x y : AV} {v : Value} (h : RepA m w F y v) (hy : y = up ρ m.length x) : RepA (dnm ρ m) w F0 x v := by
  induction h generalizing x with
  | v z => cases x <;> simp [up] at hy; subst hy; exact .v z
  | top v => cases x <;> simp [up] at hy; exact .top v
  | agg cs vs hl h ih =>
    cases x <;> simp [up] at hy
    rename_i ds
    subst hy
    refine .agg ds vs (by rw [hl, upL_length]) ?_
    intro i c v h1 h2
    exact ih i _ v (by rw [upL_get, h1]; rfl) h2 rfl
  | tup cs vs hl h ih =>
    cases x <;> simp [up] at hy
    rename_i ds
    subst hy
    refine .tup ds vs (by rw [hl, upL_length]) ?_
    intro i c v h1 h2
    exact ih i _ v (by rw [upL_get, h1]; rfl) h2 rfl
  | nil sz a cap => cases x <;> simp [up] at hy; obtain ⟨rfl, rfl⟩ := hy; exact .nil _ a cap
  | sl sz xs b off cap cur T fz cs hFb hb hcap hmax hsz hpl hcell hrep ih =>
    cases x <;> simp [up] at hy
    obtain ⟨rfl, rfl⟩ := hy
    exact (RepA.sl (m := m) _ _ b off cap cur T fz cs hFb hb hcap hmax hsz hpl hcell hrep).noid rfl hF
  | refNil id hm =>
    cases x <;> simp [up] at hy
    obtain ⟨rfl, rfl⟩ := hy
    exact .refNil _ (dnm_get (upId_lt hm) hm)
  | ref id len b sz cap cur T hm hb hs hl hmax =>
    cases x <;> simp [up] at hy
    obtain ⟨rfl, rfl⟩ := hy
    exact .ref _ _ b sz cap cur T (dnm_get (upId_lt hm) hm) hb hs hl hmax
  | rsNil id lo a cap =>
    cases x <;> simp [up] at hy
    obtain ⟨rfl, rfl, rfl⟩ := hy
    exact .rsNil _ _ a cap
  | rs id lo len b sz cap hm hl hmax =>
    cases x <;> simp [up] at hy
    obtain ⟨rfl, rfl, rfl⟩ := hy
    exact .rs _ _ _ b sz cap (dnm_get (upId_lt hm) hm) hl hmax
  | ptr id i o b sz hm =>
    cases x <;> simp [up] at hy
    obtain ⟨rfl, rfl, rfl⟩ := hy
    exact .ptr _ _ _ b sz (dnm_get (upId_lt hm) hm)
  | ep e o b off cur T fz cs hFb hb hpl hcell hrep ih =>
    cases x <;> simp [up] at hy
    obtain ⟨rfl, rfl⟩ := hy
    exact (RepA.ep (m := m) _ _ b off cur T fz cs hFb hb hpl hcell hrep).noid rfl hF

theorem upLL_get {elems : List (List AV)} {i : Nat} {e : List AV} (h : elems[i]? = some e) : (upLL ρ n elems)[i]? = some e ∧ plnLL elems = true ∨ (upLL ρ n elems)[i]? = some (up.upL ρ n e) ∧ plnLL elems ≠ true := by
  unfold upLL
  split
  · rename_i hq; exact .inl ⟨h, hq⟩
  · rename_i hq; exact .inr ⟨by rw [List.getElem?_map, h]; rfl, hq⟩
theorem upLL_length (elems : List (List AV)) : (upLL ρ n elems).length = elems.length := by
  unfold upLL; split <;> simp

/-- a value and a content of the few, of the many -/
structure UpW (ρ : List Nat) (n : Nat) (m1 : Mp) (F1 : Nat → Prop) (m2 : Mp) (F2 : Nat → Prop) (rd : Bool) : Prop where
  mid : ∀ (j : Nat) (x : Option (Nat × Nat)), m1[j]? = some x → m2[upId ρ n j]? = some x
  sub : rd = false → ∀ b, F1 b → F2 b

theorem noslL_get : ∀ {l : List AV} {i : Nat} {c : AV}, nosl.noslL l = true → l[i]? = some c → nosl c = true
  | [], i, c, _, h => by simp at h
  | x :: l, 0, c, h, hc => by simp [nosl.noslL] at h; simp at hc; exact hc ▸ h.1
  | x :: l, i + 1, c, h, hc => by simp [nosl.noslL] at h; simp at hc; exact noslL_get h.2 hc

theorem RepA.up {m1 m2 : Mp} {F1 F2 : Nat → Prop} {rd : Bool} (u : UpW ρ n m1 F1 m2 F2 rd) {x : AV} {v : Value} (h : RepA m1 w F1 x v) (hn : rd = true → nosl x = true) : RepA m2 w F2 (Eng.up ρ n x) v := by
  induction h with
  | v z => exact .v z
  | top v => exact .top v
  | agg cs vs hl h ih =>
    refine .agg _ vs (by rw [upL_length]; exact hl) ?_
    intro i c v h1 h2
    rw [upL_get] at h1
    cases hc : cs[i]? with
    | none => simp [hc] at h1
    | some c' => simp [hc] at h1; subst h1; exact ih i c' v hc h2 (fun hr => noslL_get (by simpa [nosl] using hn hr) hc)
  | tup cs vs hl h ih =>
    refine .tup _ vs (by rw [upL_length]; exact hl) ?_
    intro i c v h1 h2
    rw [upL_get] at h1
    cases hc : cs[i]? with
    | none => simp [hc] at h1
    | some c' => simp [hc] at h1; subst h1; exact ih i c' v hc h2 (fun hr => noslL_get (by simpa [nosl] using hn hr) hc)
  | nil sz a cap => exact .nil sz a cap
  | sl sz xs b off cap cur T fz cs hFb hb hcap hmax hsz hpl hcell hrep ih =>
    cases hrd : rd with
    | true => have := hn hrd; simp [nosl] at this
    | false => exact (RepA.sl (m := m1) sz xs b off cap cur T fz cs hFb hb hcap hmax hsz hpl hcell hrep).noid rfl (u.sub hrd)
  | refNil id hm => exact .refNil _ (u.mid _ _ hm)
  | ref id len b sz cap cur T hm hb hs hl hmax => exact .ref _ len b sz cap cur T (u.mid _ _ hm) hb hs hl hmax
  | rsNil id lo a cap => exact .rsNil _ lo a cap
  | rs id lo len b sz cap hm hl hmax => exact .rs _ lo len b sz cap (u.mid _ _ hm) hl hmax
  | ptr id i o b sz hm => exact .ptr _ i o b sz (u.mid _ _ hm)
  | ep e o b off cur T fz cs hFb hb hpl hcell hrep ih =>
    cases hrd : rd with
    | true => have := hn hrd; simp [nosl] at this
    | false => exact (RepA.ep (m := m1) e o b off cur T fz cs hFb hb hpl hcell hrep).noid rfl (u.sub hrd)

theorem RepE.up {m1 m2 : Mp} {F1 F2 : Nat → Prop} {rd : Bool} (u : UpW ρ n m1 F1 m2 F2 rd) {j : Nat} {e : Ent} (h : RepE m1 w F1 j e) (hn : rd = true → noslE e = true) : RepE m2 w F2 (upId ρ n j) (upE ρ n e) := by
  cases e with
  | dead => trivial
  | arr sz elems =>
    have cellOk : ∀ {i o : Nat} {e : List AV} {d : AV}, elems[i]? = some e → e[o]? = some d → rd = true → nosl d = true := by
      intro i o e d h1 h2 hr
      have := hn hr
      simp only [noslE, List.all_eq_true] at this
      exact this e (List.mem_of_getElem? h1) d (List.mem_of_getElem? h2)
    rcases h with ⟨hm, he⟩ | ⟨b, cur, T, cs, hm, hb, hsz, hcell, hrep⟩
    · subst he
      exact .inl ⟨u.mid _ _ hm, by simp [upLL]⟩
    · simp only [upE]
      unfold upLL
      split
      · rename_i hq
        refine .inr ⟨b, cur, T, cs, u.mid _ _ hm, hb, hsz, hcell, fun i o e d he hd => ?_⟩
        have h1 := (hrep i o e d he hd).up u (cellOk he hd)
        have h2 := plnLL_get hq (List.mem_of_getElem? he) (List.mem_of_getElem? hd)
        cases d <;> simp [pln] at h2 <;> exact h1
      · refine .inr ⟨b, cur, T, cs, u.mid _ _ hm, hb, ?_, by simpa using hcell, ?_⟩
        · intro e he
          obtain ⟨e0, h0, rfl⟩ := List.mem_map.1 he
          rw [upL_length, upL_one]
          exact hsz e0 h0
        · intro i o e d he hd
          rw [List.getElem?_map] at he
          cases hc : elems[i]? with
          | none => simp [hc] at he
          | some e0 =>
            simp [hc] at he
            subst he
            rw [upL_get] at hd
            cases hc' : e0[o]? with
            | none => simp [hc'] at hd
            | some d0 => simp [hc'] at hd; subst hd; exact (hrep i o e0 d0 hc hc').up u (cellOk hc hc')

theorem RepE.down {F0 : Nat → Prop} (hF : ∀ b, F b → F0 b) {i j : Nat} {e : Ent} (hj : ρ[j]? = some i) (h : RepE m w F i (upE ρ m.length e)) : RepE (dnm ρ m) w F0 j e := by
  cases e with
  | dead => trivial
  | arr sz elems =>
    rcases h with ⟨hm, he⟩ | ⟨b, cur, T, cs, hm, hb, hsz, hcell, hrep⟩
    · refine .inl ⟨dnm_get hj hm, ?_⟩
      have := upLL_length (ρ := ρ) (n := m.length) elems
      rw [he] at this
      exact List.eq_nil_of_length_eq_zero this.symm
    · refine .inr ⟨b, cur, T, cs, dnm_get hj hm, hb, ?_, by rw [upLL_length] at hcell; exact hcell, ?_⟩
      · intro e he
        obtain ⟨k, hk, rfl⟩ := List.getElem_of_mem he
        rcases upLL_get (ρ := ρ) (n := m.length) (List.getElem?_eq_getElem hk) with ⟨h1, _⟩ | ⟨h1, _⟩
        · exact hsz _ (List.mem_of_getElem? h1)
        · have := hsz _ (List.mem_of_getElem? h1)
          rw [upL_length, upL_one] at this
          exact this
      · intro k o e d he hd
        rcases upLL_get (ρ := ρ) (n := m.length) he with ⟨h1, hq⟩ | ⟨h1, _⟩
        · exact (hrep k o e d h1 hd).noid (pln_noid (plnLL_get hq (List.mem_of_getElem? he) (List.mem_of_getElem? hd))) hF
        · exact (hrep k o _ _ h1 (by rw [upL_get, hd]; rfl)).down hF rfl

theorem setL_length : ∀ (hp : List Ent) (ρ : List Nat) (es : List Ent), (setL hp ρ es).length = hp.length
  | hp, [], es => by simp [setL]
  | hp, i :: is, [] => by simp [setL]
  | hp, i :: is, e :: es => by simp [setL, setL_length]
theorem setL_ne : ∀ {hp : List Ent} {ρ : List Nat} {es : List Ent} {id : Nat}, id ∉ ρ → (setL hp ρ es)[id]? = hp[id]?
  | hp, [], es, id, _ => by simp [setL]
  | hp, i :: is, [], id, _ => by simp [setL]
  | hp, i :: is, e :: es, id, h => by
    simp only [List.mem_cons, not_or] at h
    simp only [setL]
    rw [setL_ne h.2, List.getElem?_set, if_neg (Ne.symm h.1)]
theorem setL_at : ∀ {hp : List Ent} {ρ : List Nat} {es : List Ent} {j id : Nat}, ρ.Nodup → (∀ i ∈ ρ, i < hp.length) → ρ[j]? = some id → j < es.length → (setL hp ρ es)[id]? = es[j]?
  | hp, [], es, j, id, _, _, h, _ => by simp at h
  | hp, i :: is, [], j, id, _, _, _, h => by simp at h
  | hp, i :: is, e :: es, j, id, hn, hl, h, hj => by
    simp only [setL]
    rw [List.nodup_cons] at hn
    cases j with
    | zero =>
      simp at h
      subst h
      rw [setL_ne hn.1, List.getElem?_set, if_pos rfl, if_pos (hl i (by simp))]
      rfl
    | succ j =>
      exact setL_at hn.2 (fun k hk => by simpa using hl k (by simp [hk])) (by simpa using h) (by simpa using hj)

/-- where an entry of the many comes from -/
theorem mrg_get {hs' : List Ent} (hn : ρ.Nodup) (hl : ∀ i ∈ ρ, i < hp.length) (hlen : ρ.length ≤ hs'.length) {id : Nat} {e : Ent} (h : (mrg hp ρ hs')[id]? = some e) :
    (∃ (j : Nat) (e' : Ent), upId ρ hp.length j = id ∧ hs'[j]? = some e' ∧ e = upE ρ hp.length e' ∧ (j < ρ.length → ρ[j]? = some id) ∧ (ρ.length ≤ j → hp.length ≤ id)) ∨ (id < hp.length ∧ id ∉ ρ ∧ hp[id]? = some e) := by
  unfold mrg at h
  rcases Nat.lt_or_ge id hp.length with hi | hi
  · rw [List.getElem?_append_left (by rw [setL_length]; exact hi)] at h
    by_cases hm : id ∈ ρ
    · obtain ⟨j, hj, rfl⟩ := List.getElem_of_mem hm
      have hj' := List.getElem?_eq_getElem hj
      rw [setL_at hn hl hj' (by simp; omega), List.getElem?_map] at h
      cases hc : hs'[j]? with
      | none => simp [hc] at h
      | some e' =>
        simp [hc] at h
        refine .inl ⟨j, e', ?_, hc, h.symm, fun _ => hj', fun h => by omega⟩
        unfold upId
        rw [if_pos hj, List.getD, hj']
        rfl
    · rw [setL_ne hm] at h
      exact .inr ⟨hi, hm, h⟩
  · rw [List.getElem?_append_right (by rw [setL_length]; exact hi), setL_length, List.getElem?_map, List.getElem?_drop] at h
    cases hc : hs'[ρ.length + (id - hp.length)]? with
    | none => simp [hc] at h
    | some e' =>
      simp [hc] at h
      refine .inl ⟨ρ.length + (id - hp.length), e', ?_, hc, h.symm, fun h => by omega, fun _ => hi⟩
      unfold upId
      rw [if_neg (by omega)]
      omega

theorem upE_alive {e : Ent} : (upE ρ n e).alive = e.alive := by cases e <;> rfl

theorem mem_upId {ρ : List Nat} {i : Nat} (hm : i ∈ ρ) : ∃ j : Nat, ρ[j]? = some i := by
  obtain ⟨j, hj, rfl⟩ := List.getElem_of_mem hm
  exact ⟨j, List.getElem?_eq_getElem hj⟩

/-- A CONTRACT OVER FEW ENTRIES SERVES OVER MANY -/
theorem GC.frame {k : FuncId} {as args : List AV} {K0 K : AV → List Ent → Prop} (rd : Bool) (ρ : List Nat) (h : GC P k as hs K0) (hnd : ρ.Nodup) (hlen : ρ.length = hs.length)
    (hemb : ∀ (j : Nat) (e : Ent), hs[j]? = some e → e.alive = true ∧ ∀ i, ρ[j]? = some i → hp[i]? = some (upE ρ hp.length e)) (hargs : ArL rd ρ hp args as)
    (hfl : rd = true → ∀ r hs', K0 r hs' → nosl r = true ∧ ∀ e ∈ hs', noslE e = true)
    (hK : ∀ r hs', K0 r hs' → ρ.length ≤ hs'.length → K (up ρ hp.length r) (mrg hp ρ hs')) : GC P k args hp K := by
  refine ⟨h.1, ?_⟩
  intro m w F vals hh hv
  obtain ⟨hal, hag⟩ := hargs.get
  have hml : m.length = hp.length := hh.len
  have hρ : ∀ i ∈ ρ, i < hp.length := by
    intro i hi
    obtain ⟨j, hj⟩ := mem_upId hi
    have hjl := lt_of_some hj
    have := (hemb j _ (List.getElem?_eq_getElem (show j < hs.length by omega))).2 i hj
    exact lt_of_some this
  have hρm : ∀ i ∈ ρ, i < m.length := fun i hi => by rw [hml]; exact hρ i hi
  -- the entries of the few, among the many
  have few : ∀ (j : Nat) (e : Ent), hs[j]? = some e → ∃ i, ρ[j]? = some i ∧ hp[i]? = some (upE ρ hp.length e) ∧ (upE ρ hp.length e).alive = true := by
    intro j e he
    have hj : j < ρ.length := by rw [hlen]; exact lt_of_some he
    obtain ⟨h1, h2⟩ := hemb j e he
    exact ⟨_, List.getElem?_eq_getElem hj, h2 _ (List.getElem?_eq_getElem hj), by rw [upE_alive]; exact h1⟩
  have own0 : ∀ b, Own (dnm ρ m) hs b → ∃ (i : Nat) (e : Ent) (s : Nat), i ∈ ρ ∧ hp[i]? = some e ∧ e.alive = true ∧ m[i]? = some (some (b, s)) := by
    rintro b ⟨j, e, s, h1, h2, h3⟩
    obtain ⟨i, g1, g2, g3⟩ := few j e h1
    obtain ⟨i', g4, g5⟩ := dnm_inv hρm h3
    rw [g1] at g4
    cases g4
    exact ⟨i, _, s, List.mem_of_getElem? g1, g2, g3, g5⟩
  let F0 : Nat → Prop := fun b => F b ∨ (rd = true ∧ ∃ (i : Nat) (e : Ent) (s : Nat), i ∉ ρ ∧ hp[i]? = some e ∧ e.alive = true ∧ m[i]? = some (some (b, s)))
  have hFF : ∀ b, F b → F0 b := fun b hb => .inl hb
  have hh0 : RelH (dnm ρ m) w F0 hs := by
    refine ⟨by unfold dnm; simp [hlen], ?_, ?_, ?_, ?_⟩
    · rintro b (hb | ⟨_, i, e, s, _, g2, g3, g4⟩)
      · exact hh.stable b hb
      · exact (hh.own i e b s g2 g3 g4).2
    · intro j e he
      obtain ⟨i, g1, g2, g3⟩ := few j e he
      have := hh.ent i _ g2
      rw [← hml] at this
      exact this.down hFF g1
    · intro j1 j2 e1 e2 b1 s1 b2 s2 he1 he2 ha1 ha2 hne hm1 hm2
      obtain ⟨i1, g1, g2, g3⟩ := few j1 e1 he1
      obtain ⟨i2, k1, k2, k3⟩ := few j2 e2 he2
      obtain ⟨i1', g4, g5⟩ := dnm_inv hρm hm1
      obtain ⟨i2', k4, k5⟩ := dnm_inv hρm hm2
      rw [g1] at g4; cases g4
      rw [k1] at k4; cases k4
      refine hh.inj i1 i2 _ _ b1 s1 b2 s2 g2 k2 g3 k3 ?_ g5 k5
      rintro rfl
      exact hne ((List.getElem?_inj (lt_of_some g1) hnd).1 (g1.trans k1.symm))
    · intro j e b s he ha hm
      obtain ⟨i, g1, g2, g3⟩ := few j e he
      obtain ⟨i', g4, g5⟩ := dnm_inv hρm hm
      rw [g1] at g4; cases g4
      have := hh.own i _ b s g2 g3 g5
      refine ⟨?_, this.2⟩
      rintro (hb | ⟨_, i2, e2, s2, q1, q2, q3, q4⟩)
      · exact this.1 hb
      · refine hh.inj i i2 _ e2 b s b s2 g2 q2 g3 q3 ?_ g5 q4 rfl
        rintro rfl
        exact q1 (List.mem_of_getElem? g1)
  have arr : ∀ {x d : AV} {v : Value}, Ar rd ρ hp x d → RepA m w F x v → RepA (dnm ρ m) w F0 d v := by
    intro x d v hA
    induction hA generalizing v with
    | up d => intro hr; rw [← hml] at hr; exact hr.down hFF rfl
    | ref id len sz elems hr hi he hl hq =>
      intro hx
      rcases hx.inv_ref with ⟨hm, rfl, rfl⟩ | ⟨b, s', cap, cur, T, rfl, hm, hb, hsz, hlc, hmax⟩
      · simp; exact .nil sz none 0
      · obtain ⟨rfl, cur', T', cs, hA⟩ := hh.at_ he hm
        have hlen' : (elems.take len).length = len := by simp; omega
        have := RepA.sl (m := dnm ρ m) (w := w) (F := F0) s' (elems.take len) b 0 cap cur' T' (0, 0) cs (.inr ⟨hr, id, _, s', hi, he, rfl, hm⟩) hA.hb (by rw [hlen']; exact hlc) hmax
          (fun e h1 => (hA.hsz e (List.mem_of_mem_take h1)).1) (fun e h1 d h2 => plnLL_get hq (List.mem_of_mem_take h1) h2)
          (by intro i o hi ho; rw [hlen'] at hi; simpa using hA.hcell i o (by omega) ho)
          (by
            intro i o e d h1 h2
            rw [List.getElem?_take] at h1
            split at h1
            · exact (hA.hrep i o e d h1 h2).noid (pln_noid (plnLL_get hq (List.mem_of_getElem? h1) (List.mem_of_getElem? h2))) hFF
            · cases h1)
        rw [hlen'] at this
        exact this
    | rs id lo len sz elems hr hi he hl hq =>
      intro hx
      rcases hx.inv_rs with ⟨rfl, a', cap, rfl⟩ | ⟨b, s', cap, rfl, hm, hlc, hmax⟩
      · simp; exact .nil sz a' cap
      · obtain ⟨rfl, cur', T', cs, hA⟩ := hh.at_ he hm
        have hlen' : ((elems.drop lo).take len).length = len := by simp; omega
        have := RepA.sl (m := dnm ρ m) (w := w) (F := F0) s' ((elems.drop lo).take len) b (lo * s') cap cur' T' (0, 0) (fun i o => cs (lo + i) o) (.inr ⟨hr, id, _, s', hi, he, rfl, hm⟩) hA.hb (by rw [hlen']; exact hlc) hmax
          (fun e h1 => (hA.hsz e (List.mem_of_mem_drop (List.mem_of_mem_take h1))).1) (fun e h1 d h2 => plnLL_get hq (List.mem_of_mem_drop (List.mem_of_mem_take h1)) h2)
          (by
            intro i o hi ho
            rw [hlen'] at hi
            have := hA.hcell (lo + i) o (by omega) ho
            rw [Nat.add_mul] at this
            exact this)
          (by
            intro i o e d h1 h2
            rw [List.getElem?_take] at h1
            split at h1
            · rw [List.getElem?_drop] at h1
              exact (hA.hrep (lo + i) o e d h1 h2).noid (pln_noid (plnLL_get hq (List.mem_of_getElem? h1) (List.mem_of_getElem? h2))) hFF
            · cases h1)
        rw [hlen'] at this
        exact this
    | nil sz => intro hx; rw [hx.inv_v]; exact .nil sz none 0
    | agg cs ds hl hh' ih =>
      intro hx
      obtain ⟨vs, rfl, hlv, hrv⟩ := hx.inv_agg
      refine .agg ds vs (by rw [hlv, hl]) ?_
      intro i d u h1 h2
      have hi : i < cs.length := by rw [← hl]; exact lt_of_some h1
      have hc := List.getElem?_eq_getElem hi
      exact ih i _ d hc h1 (hrv i _ u hc h2)
  have hc := h.2 (dnm ρ m) w F0 vals hh0 ⟨by rw [hv.1, hal], fun i d v h1 h2 => by
    have hi : i < args.length := by rw [← hal]; exact lt_of_some h1
    have hx := List.getElem?_eq_getElem hi
    exact arr (hag i _ d hx h1) (hv.2 i _ v hx h2)⟩
  refine hc.mono ?_
  rintro e w1 ⟨v, r, hs', m1, F1, rfl, hK0, hh1, hx, t⟩
  have hml1 : m1.length = hs'.length := hh1.len
  have hd : (dnm ρ m).length = ρ.length := by unfold dnm; simp
  have hle : ρ.length ≤ hs'.length := by rw [← hml1, ← hd]; exact t.mlen
  let m2 : Mp := m ++ m1.drop ρ.length
  let F2 : Nat → Prop := fun b => F b ∨ (F1 b ∧ (w.heap.size ≤ b ∨ Own (dnm ρ m) hs b))
  have hm2 : ∀ (id : Nat) (x : Option (Nat × Nat)), m[id]? = some x → m2[id]? = some x := fun id x hx => by
    show (m ++ _)[id]? = _
    rw [List.getElem?_append_left (lt_of_some hx)]; exact hx
  have hm2' : ∀ (id : Nat), id < m.length → m2[id]? = m[id]? := fun id hi => by
    show (m ++ _)[id]? = _
    rw [List.getElem?_append_left hi]
  have u : UpW ρ hp.length m1 F1 m2 F2 rd := by
    refine ⟨?_, ?_⟩
    · intro j x hj
      unfold upId
      split
      · rename_i hjl
        have h1 := t.mid j (by rw [hd]; exact hjl)
        rw [hj] at h1
        obtain ⟨i, g1, g2⟩ := dnm_inv hρm h1.symm
        rw [List.getD, g1]
        exact hm2 i x g2
      · rename_i hjl
        show (m ++ _)[_]? = _
        rw [List.getElem?_append_right (by omega), List.getElem?_drop, hml]
        rw [← hj]
        congr 1
        omega
    · intro hr b hb
      rcases t.frz b hb with (h1 | ⟨h1, _⟩) | h1 | h1
      · exact .inl h1
      · rw [hr] at h1; cases h1
      · exact .inr ⟨hb, .inl h1⟩
      · exact .inr ⟨hb, .inr h1⟩
  have hfl' : rd = true → nosl r = true ∧ ∀ e ∈ hs', noslE e = true := fun hr => hfl hr r hs' hK0
  -- what an entry of the many stands for
  have inv2 : ∀ {id : Nat} {e : Ent} {b s : Nat}, (mrg hp ρ hs')[id]? = some e → e.alive = true → m2[id]? = some (some (b, s)) →
      (∃ (j : Nat) (e' : Ent), upId ρ hp.length j = id ∧ hs'[j]? = some e' ∧ e'.alive = true ∧ m1[j]? = some (some (b, s))) ∨ (id ∉ ρ ∧ hp[id]? = some e ∧ m[id]? = some (some (b, s))) := by
    intro id e b s he ha hm
    rcases mrg_get hnd hρ hle he with ⟨j, e', g1, g2, rfl, _, _⟩ | ⟨g1, g2, g3⟩
    · refine .inl ⟨j, e', g1, g2, by rw [← upE_alive (ρ := ρ) (n := hp.length)]; exact ha, ?_⟩
      have hj := List.getElem?_eq_getElem (show j < m1.length by rw [hml1]; exact lt_of_some g2)
      have := u.mid j _ hj
      rw [g1, hm] at this
      rw [hj, this]
    · refine .inr ⟨g2, g3, ?_⟩
      rw [hm2' id (by rw [hml]; exact g1)] at hm
      exact hm
  have notOwn : ∀ {id : Nat} {e : Ent} {b s : Nat}, id ∉ ρ → hp[id]? = some e → e.alive = true → m[id]? = some (some (b, s)) → ¬ Own (dnm ρ m) hs b := by
    intro id e b s hi he ha hm ho
    obtain ⟨i, e', s', q1, q2, q3, q4⟩ := own0 b ho
    refine hh.inj id i e e' b s b s' he q2 ha q3 ?_ hm q4 rfl
    rintro rfl
    exact hi q1
  have g12 : Go1 m w F m2 w1 F2 := ⟨fun b hb => t.blk b (hFF b hb), fun b hb => .inl hb, hm2, t.shp⟩
  have rel2 : RelH m2 w1 F2 (mrg hp ρ hs') := by
    refine ⟨?_, ?_, ?_, ?_, ?_⟩
    · show (m ++ _).length = (_ ++ _ : List Ent).length
      rw [List.length_append, List.length_append, List.length_drop, List.length_map, List.length_drop, setL_length, hml, hml1]
    · rintro b (hb | ⟨hb, _⟩)
      · exact Nat.lt_of_lt_of_le (hh.stable b hb) t.size
      · exact hh1.stable b hb
    · intro id e he
      rcases mrg_get hnd hρ hle he with ⟨j, e', rfl, g2, rfl, _, _⟩ | ⟨g1, g2, g3⟩
      · exact (hh1.ent j e' g2).up u (fun hr => (hfl' hr).2 e' (List.mem_of_getElem? g2))
      · refine (hh.ent id e g3).go g12 ?_
        intro ha b z hm
        exact t.fix b (hh.own id e b z g3 ha hm).2 (notOwn g2 g3 ha hm)
    · intro i j ei ej bi si bj sj hi hj ai aj hne hmi hmj
      rcases inv2 hi ai hmi with ⟨j1, e1, g1, g2, g3, g4⟩ | ⟨g1, g2, g3⟩
      · rcases inv2 hj aj hmj with ⟨j2, e2, k1, k2, k3, k4⟩ | ⟨k1, k2, k3⟩
        · refine hh1.inj j1 j2 e1 e2 bi si bj sj g2 k2 g3 k3 ?_ g4 k4
          rintro rfl
          exact hne (g1.symm.trans k1)
        · rintro rfl
          rcases t.own bi ⟨j1, e1, si, g2, g3, g4⟩ with ho | ho
          · exact notOwn k1 k2 aj k3 ho
          · have := (hh.own j ej bi sj k2 aj k3).2; omega
      · rcases inv2 hj aj hmj with ⟨j2, e2, k1, k2, k3, k4⟩ | ⟨k1, k2, k3⟩
        · rintro rfl
          rcases t.own bi ⟨j2, e2, sj, k2, k3, k4⟩ with ho | ho
          · exact notOwn g1 g2 ai g3 ho
          · have := (hh.own i ei bi si g2 ai g3).2; omega
        · exact hh.inj i j ei ej bi si bj sj g2 k2 ai aj hne g3 k3
    · intro id e b s he ha hm
      rcases inv2 he ha hm with ⟨j1, e1, g1, g2, g3, g4⟩ | ⟨g1, g2, g3⟩
      · have := hh1.own j1 e1 b s g2 g3 g4
        refine ⟨?_, this.2⟩
        rintro (hb | ⟨hb, _⟩)
        · exact this.1 (t.sub b (hFF b hb))
        · exact this.1 hb
      · have := hh.own id e b s g2 ha g3
        refine ⟨?_, Nat.lt_of_lt_of_le this.2 t.size⟩
        rintro (hb | ⟨hb, hb' | hb'⟩)
        · exact this.1 hb
        · omega
        · exact notOwn g1 g2 ha g3 hb'
  refine ⟨v, _, _, m2, F2, rfl, hK r hs' hK0 hle, rel2, hx.up u (fun hr => (hfl' hr).1), ?_⟩
  exact {
    os := t.os, tape := t.tape, output := t.output, size := t.size, blk := g12.blk, sub := g12.sub, mid := hm2'
    mlen := by show m.length ≤ (m ++ _).length; simp
    shp := t.shp
    fix := fun b hb ho => t.fix b hb (fun h => ho (by
      obtain ⟨i, e, s, _, q2, q3, q4⟩ := own0 b h
      exact ⟨i, e, s, q2, q3, q4⟩))
    own := fun b ⟨id, e, s, h1, h2, h3⟩ => by
      rcases inv2 h1 h2 h3 with ⟨j1, e1, g1, g2, g3, g4⟩ | ⟨g1, g2, g3⟩
      · rcases t.own b ⟨j1, e1, s, g2, g3, g4⟩ with ho | ho
        · obtain ⟨i, e, s, _, q2, q3, q4⟩ := own0 b ho
          exact .inl ⟨i, e, s, q2, q3, q4⟩
        · exact .inr ho
      · exact .inl ⟨id, e, s, g2, h2, g3⟩
    frz := fun b hb => by
      rcases hb with hb | ⟨_, hb | hb⟩
      · exact .inl hb
      · exact .inr (.inl hb)
      · obtain ⟨i, e, s, _, q2, q3, q4⟩ := own0 b hb
        exact .inr (.inr ⟨i, e, s, q2, q3, q4⟩) }

end Eng
end Go.Proofs.Ytgcmahhejblpkaa
