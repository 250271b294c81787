/-
An abstract interpreter of the program's code on plain data: part K, how contracts and loops are used.
No condition.
-/
import Derived.Test.YtgcmahhejblpkaaVJ
namespace Go.Proofs.Ytgcmahhejblpkaa
namespace Eng
set_option linter.unusedVariables false
set_option linter.unusedSimpArgs false

variable {P : Program} {n0 : Nat} {pl : List (Nat × Plan)} {hp hs : List Ent} {l : List (Nat × AV)}

/- reading -/
theorem plnLL_map {α : Type} {f : α → List AV} (h : ∀ t, (f t).all pln = true) (ts : List α) : plnLL (ts.map f) = true := by
  induction ts with
  | nil => rfl
  | cons t ts ih => simp only [List.map_cons, plnLL, h t, ih, Bool.and_self]

theorem rd_v {x : Value} : Rd hp (.v x) (.v x) := .same _ rfl
theorem rd_sl {sz : Nat} {xs : List (List AV)} : Rd hp (.sl sz xs) (.sl sz xs) := .same _ rfl
theorem rd_nil {α : Type} {sz : Nat} {f : α → List AV} : Rd hp (.v (.slice none 0 0)) (.sl sz (List.map f [])) := .nil sz
theorem rd_ref {α : Type} {id len sz : Nat} {ts : List α} {f : α → List AV} (h : hp[id]? = some (.arr sz (ts.map f))) (hl : len = ts.length) (hq : plnLL (ts.map f) = true) : Rd hp (.ref id len) (.sl sz (ts.map f)) := by
  have := Rd.ref (hp := hp) id len sz (ts.map f) h (by simp [hl]) hq
  rw [List.take_of_length_le (by simp [hl])] at this
  exact this
theorem rd_rs {α : Type} {id lo len sz : Nat} {ts : List α} {f : α → List AV} (h : hp[id]? = some (.arr sz (ts.map f))) (hl : lo + len ≤ ts.length) (hq : plnLL (ts.map f) = true) : Rd hp (.rs id lo len) (.sl sz (((ts.drop lo).take len).map f)) := by
  have := Rd.rs (hp := hp) id lo len sz (ts.map f) h (by simpa using hl) hq
  rw [List.map_take, List.map_drop]
  exact this
theorem rdL_get : ∀ {xs ds : List AV}, RdL hp xs ds → ds.length = xs.length ∧ ∀ (i : Nat) (x d : AV), xs[i]? = some x → ds[i]? = some d → Rd hp x d := RdL.get
theorem rd_agg {cs ds : List AV} (h : RdL hp cs ds) : Rd hp (.agg cs) (.agg ds) := .agg cs ds h.get.1 h.get.2
theorem rdL_nil : RdL hp [] [] := trivial
theorem rdL_cons {x d : AV} {xs ds : List AV} (h : Rd hp x d) (t : RdL hp xs ds) : RdL hp (x :: xs) (d :: ds) := ⟨h, t⟩

/-- a call of what only computes -/
theorem GC.pureU {k : FuncId} {args as : List AV} {r0 : AV} {K : AV → List Ent → Prop} (h : GC P k as [] (fun r hs => r = r0 ∧ hs = [])) (hf : flat r0 = true) (hr : RdL hp args as) (hK : K r0 hp) : GC P k args hp K :=
  GC.pure (K0 := fun r => r = r0) (h.mono fun r hs h => by obtain ⟨rfl, _⟩ := h; exact ⟨rfl, hf⟩) hr (fun r hr => by subst hr; exact hK)
theorem qcall_use {k : FuncId} {args as : List AV} {r0 : AV} {c : AV → Prop} (h : GC P k as [] (fun r hs => r = r0 ∧ hs = [])) (hf : flat r0 = true) (hr : RdL hp args as) (hc : c r0) : qcall P k args hp c :=
  ⟨as, r0, hr, h.mono fun r hs h => h.1, hf, hc⟩

/- calls that make or write -/
theorem ar_v {rd : Bool} {ρ : List Nat} {x : Value} : Ar rd ρ hp (.v x) (.v x) := .up (.v x)
theorem ar_sl {rd : Bool} {ρ : List Nat} {sz : Nat} {xs : List (List AV)} : Ar rd ρ hp (.sl sz xs) (.sl sz xs) := .up (.sl sz xs)
theorem ar_nil {rd : Bool} {ρ : List Nat} {α : Type} {sz : Nat} {f : α → List AV} : Ar rd ρ hp (.v (.slice none 0 0)) (.sl sz (List.map f [])) := .nil sz
theorem ar_ref {ρ : List Nat} {α : Type} {id len sz : Nat} {ts : List α} {f : α → List AV} (hi : ρ.contains id = false) (h : hp[id]? = some (.arr sz (ts.map f))) (hl : len = ts.length) (hq : plnLL (ts.map f) = true) : Ar true ρ hp (.ref id len) (.sl sz (ts.map f)) := by
  have := Ar.ref (rd := true) (ρ := ρ) (hp := hp) id len sz (ts.map f) rfl (by simpa using hi) h (by simp [hl]) hq
  rw [List.take_of_length_le (by simp [hl])] at this
  exact this
theorem ar_rs {ρ : List Nat} {α : Type} {id lo len sz : Nat} {ts : List α} {f : α → List AV} (hi : ρ.contains id = false) (h : hp[id]? = some (.arr sz (ts.map f))) (hl : lo + len ≤ ts.length) (hq : plnLL (ts.map f) = true) : Ar true ρ hp (.rs id lo len) (.sl sz (((ts.drop lo).take len).map f)) := by
  have := Ar.rs (rd := true) (ρ := ρ) (hp := hp) id lo len sz (ts.map f) rfl (by simpa using hi) h (by simpa using hl) hq
  rw [List.map_take, List.map_drop]
  exact this
/-- an own block that goes along: number j of the few -/
theorem ar_own {rd : Bool} {ρ : List Nat} {id j len : Nat} (h : id = upId ρ hp.length j) : Ar rd ρ hp (.ref id len) (.ref j len) := by
  subst h; exact .up (.ref j len)
theorem ar_ptr {rd : Bool} {ρ : List Nat} {id j i o : Nat} (h : id = upId ρ hp.length j) : Ar rd ρ hp (.ptr id i o) (.ptr j i o) := by
  subst h; exact .up (.ptr j i o)
theorem ar_agg {rd : Bool} {ρ : List Nat} {cs ds : List AV} (h : ArL rd ρ hp cs ds) : Ar rd ρ hp (.agg cs) (.agg ds) := .agg cs ds h.get.1 h.get.2
theorem arL_nil {rd : Bool} {ρ : List Nat} : ArL rd ρ hp [] [] := trivial
theorem arL_cons {rd : Bool} {ρ : List Nat} {x d : AV} {xs ds : List AV} (h : Ar rd ρ hp x d) (t : ArL rd ρ hp xs ds) : ArL rd ρ hp (x :: xs) (d :: ds) := ⟨h, t⟩

def embL (hp : List Ent) (ρ : List Nat) : List Nat → List Ent → Prop
  | [], [] => True
  | i :: r, e :: hs => e.alive = true ∧ hp[i]? = some (upE ρ hp.length e) ∧ embL hp ρ r hs
  | _, _ => False
theorem embL_get {ρ : List Nat} : ∀ {r : List Nat} {hs : List Ent}, embL hp ρ r hs → r.length = hs.length ∧ ∀ (j : Nat) (e : Ent), hs[j]? = some e → e.alive = true ∧ ∀ i, r[j]? = some i → hp[i]? = some (upE ρ hp.length e)
  | [], [], _ => ⟨rfl, fun j e h => by simp at h⟩
  | i :: r, e :: hs, h => by
    obtain ⟨h1, h2⟩ := embL_get h.2.2
    refine ⟨by simp [h1], ?_⟩
    intro j e' he
    cases j with
    | zero => simp at he; subst he; exact ⟨h.1, fun i' hi => by simp at hi; subst hi; exact h.2.1⟩
    | succ j => exact ⟨(h2 j e' (by simpa using he)).1, fun i' hi => (h2 j e' (by simpa using he)).2 i' (by simpa using hi)⟩
theorem embL_nil {ρ : List Nat} : embL hp ρ [] [] = True := (rfl)
theorem embL_cons {ρ : List Nat} {i : Nat} {r : List Nat} {e : Ent} {hs : List Ent} : embL hp ρ (i :: r) (e :: hs) = (e.alive = true ∧ hp[i]? = some (upE ρ hp.length e) ∧ embL hp ρ r hs) := (rfl)

/-- A CALL, by a contract over its own entries, whose outcome may be one of many -/
theorem GC.useP {k : FuncId} {as args : List AV} {K0 K : AV → List Ent → Prop} (rd : Bool) (ρ : List Nat) (h : GC P k as hs K0) (hnd : ndB ρ = true) (he : embL hp ρ ρ hs) (ha : ArL rd ρ hp args as)
    (hf : rd = true → ∀ r hs', K0 r hs' → nosl r = true ∧ hs'.all noslE = true) (hK : ∀ r hs', K0 r hs' → K (up ρ hp.length r) (mrg hp ρ hs')) : GC P k args hp K :=
  GC.frame rd ρ h (ndB_nodup hnd) (embL_get he).1 (embL_get he).2 ha (fun hr r hs' hk => ⟨(hf hr r hs' hk).1, fun e he => List.all_eq_true.1 (hf hr r hs' hk).2 e he⟩) (fun r hs' hk _ => hK r hs' hk)
/-- A CALL, by a contract over its own entries -/
theorem GC.use {k : FuncId} {as args : List AV} {r0 : AV} {h1 : List Ent} {K : AV → List Ent → Prop} (rd : Bool) (ρ : List Nat) (h : GC P k as hs (fun r hs' => r = r0 ∧ hs' = h1)) (hnd : ndB ρ = true) (he : embL hp ρ ρ hs) (ha : ArL rd ρ hp args as)
    (hf : rd = false ∨ (nosl r0 = true ∧ h1.all noslE = true)) (hK : K (up ρ hp.length r0) (mrg hp ρ h1)) : GC P k args hp K :=
  GC.useP rd ρ h hnd he ha (fun hr r hs' hk => by
    obtain ⟨rfl, rfl⟩ := hk
    rcases hf with hf | hf
    · rw [hr] at hf; cases hf
    · exact hf) (fun r hs' hk => by obtain ⟨rfl, rfl⟩ := hk; exact hK)

theorem nosl_map {α : Type} {f : α → List AV} {sz : Nat} (h : ∀ t, (f t).all nosl = true) (ts : List α) : noslE (.arr sz (ts.map f)) = true := by
  simp only [noslE, List.all_map, List.all_eq_true]
  intro t _
  exact List.all_eq_true.2 fun x hx => List.all_eq_true.1 (h t) x hx

theorem upE_pln {ρ : List Nat} {n sz : Nat} {elems : List (List AV)} (h : plnLL elems = true) : upE ρ n (.arr sz elems) = .arr sz elems := by simp [upE, upLL, h]
theorem upE_dead {ρ : List Nat} {n : Nat} : upE ρ n .dead = .dead := (rfl)
theorem upE_one {ρ : List Nat} {n sz : Nat} {b : List AV} : upE ρ n (.arr sz [b]) = .arr sz [up.upL ρ n b] := by
  simp only [upE, upLL]
  split
  · rename_i h
    have key : ∀ b : List AV, b.all pln = true → up.upL ρ n b = b := by
      intro b
      induction b with
      | nil => intro _; rfl
      | cons x b ih =>
        intro h
        simp only [List.all_cons, Bool.and_eq_true] at h
        simp only [up.upL, ih h.2]
        cases x <;> simp [pln] at h <;> rfl
    simp only [plnLL, Bool.and_true] at h
    rw [key b h]
  · rfl
theorem up_v {ρ : List Nat} {n : Nat} {x : Value} : up ρ n (.v x) = .v x := (rfl)
theorem up_sl {ρ : List Nat} {n z : Nat} {xs : List (List AV)} : up ρ n (.sl z xs) = .sl z xs := (rfl)
theorem up_agg {ρ : List Nat} {n : Nat} {cs : List AV} : up ρ n (.agg cs) = .agg (up.upL ρ n cs) := (rfl)
theorem up_tup {ρ : List Nat} {n : Nat} {cs : List AV} : up ρ n (.tup cs) = .tup (up.upL ρ n cs) := (rfl)
theorem up_ref {ρ : List Nat} {n i len : Nat} : up ρ n (.ref i len) = .ref (upId ρ n i) len := (rfl)
theorem up_rs {ρ : List Nat} {n i lo len : Nat} : up ρ n (.rs i lo len) = .rs (upId ρ n i) lo len := (rfl)
theorem up_ptr {ρ : List Nat} {n i j o : Nat} : up ρ n (.ptr i j o) = .ptr (upId ρ n i) j o := (rfl)
theorem upL_nil {ρ : List Nat} {n : Nat} : up.upL ρ n [] = [] := (rfl)
theorem upL_cons {ρ : List Nat} {n : Nat} {c : AV} {cs : List AV} : up.upL ρ n (c :: cs) = up ρ n c :: up.upL ρ n cs := (rfl)
theorem upId_eq {ρ : List Nat} {n j : Nat} : upId ρ n j = if j < ρ.length then ρ.getD j 0 else n + (j - ρ.length) := (rfl)
theorem mrg_eq {ρ : List Nat} {h1 : List Ent} : mrg hp ρ h1 = setL hp ρ (h1.map (upE ρ hp.length)) ++ (h1.drop ρ.length).map (upE ρ hp.length) := (rfl)
theorem setL_nil {es : List Ent} : setL hp [] es = hp := by simp [setL]
theorem setL_cons {i : Nat} {ρ : List Nat} {e : Ent} {es : List Ent} : setL hp (i :: ρ) (e :: es) = setL (hp.set i e) ρ es := (rfl)

/- more is asked behind -/
theorem aop_imp {o : Oper} {s : St} {K K' : St → Prop} (h : aop P o s K) (hK : ∀ s, K s → K' s) : aop P o s K' := by
  unfold aop at *
  split at h
  · rename_i he; rw [if_pos he]; exact aeff_mono (fun v hp hk => hK _ hk) h
  · rename_i he; rw [if_neg he]; exact (pt_val _ _ _).mono h fun x hx => hK _ hx
theorem aops_imp {ops : Array Oper} {K K' : St → Prop} (hK : ∀ s, K s → K' s) : ∀ {l : List Oper} {s : St}, aops P ops l K s → aops P ops l K' s
  | [], s, h => hK s h
  | o :: rest, s, h => by
    simp only [aops, gop] at *
    exact gd_mono h (fun s' h' => aop_imp h' fun s h => aops_imp hK h) (fun s' h' => aops_imp hK h')
theorem acode_imp : ∀ {c : Code} {Q Q' : Exit → St → Prop} {s : St}, acode P n0 pl c Q s → (∀ e s, Q e s → Q' e s) → acode P n0 pl c Q' s
  | .skip, Q, Q', s, h, hQ => hQ _ _ h
  | .seq a b, Q, Q', s, h, hQ => acode_imp (c := a) h fun e s hq => by
    cases e with
    | normal => exact acode_imp (c := b) hq hQ
    | _ => exact hQ _ _ hq
  | .cond c x y, Q, Q', s, h, hQ => by
    simp only [acode, acnd] at *
    split at h
    · exact ⟨fun hb => acode_imp (c := x) (h.1 hb) hQ, fun hb => acode_imp (c := y) (h.2 hb) hQ⟩
    · exact h.elim
  | .block id c, Q, Q', s, h, hQ => acode_imp (c := c) h fun e s hq => by
    cases e with
    | exit i =>
      simp only [blq] at *
      split
      · rename_i hi; rw [if_pos hi] at hq; exact hQ _ _ hq
      · rename_i hi; rw [if_neg hi] at hq; exact hQ _ _ hq
    | _ => exact hQ _ _ hq
  | .loop c, Q, Q', s, h, hQ => by
    obtain ⟨J, h1, h2⟩ := h
    refine ⟨J, h1, fun n s0 hJ => acode_imp (c := c) (h2 n s0 hJ) fun e s hq => ?_⟩
    cases e with
    | normal => exact hq
    | _ => exact hQ _ _ hq
  | .exit id, Q, Q', s, h, hQ => hQ _ _ h
  | .ret, Q, Q', s, h, hQ => hQ _ _ h
  | .region id ops false, Q, Q', s, h, hQ => aops_imp (fun s hq => hQ _ s hq) h
  | .region id ops true, Q, Q', s, h, hQ => apl_mono (fun s hq => hQ _ s hq) _ _ _ h
  | .rangeFunc .., Q, Q', s, h, hQ => h.elim
  | .scope _, Q, Q', s, h, hQ => h.elim
  | .label _, Q, Q', s, h, hQ => h.elim
  | .goto _, Q, Q', s, h, hQ => h.elim
  | .refuse _, Q, Q', s, h, hQ => h.elim

theorem acode_loop_wk {c : Code} {Q : Exit → St → Prop} {s s' : St} (h : Wk n0 s s') (h' : acode P n0 pl (.loop c) Q s') : acode P n0 pl (.loop c) Q s := by
  obtain ⟨J, ⟨n, s0, h1, h2⟩, h3⟩ := h'
  exact ⟨J, ⟨n, s0, h.trans h1, h2⟩, h3⟩

/- loops -/
/-- the first region of a piece of code -/
def lid : Code → Nat
  | .seq a _ => lid a
  | .block _ c => lid c
  | .loop c => lid c
  | .region id _ _ => id
  | _ => 0

def agr (l : List (Nat × AV)) : List (Nat × AV) → Prop
  | [] => True
  | (k, v) :: r => lk l k = v ∧ agr l r
def und (ks : List Nat) (l : List (Nat × AV)) : List (Nat × AV) → Prop
  | [] => l = []
  | (k, v) :: r => (k, v) :: r = l ∨ (ks.contains k = true ∧ und ks l r)
def tp (ks : List Nat) (l : List (Nat × AV)) : List (Nat × AV) := ks.map (fun k => (k, AV.top)) ++ l

theorem agr_nil : agr l [] = True := (rfl)
theorem agr_cons {k : Nat} {v : AV} {r : List (Nat × AV)} : agr l ((k, v) :: r) = (lk l k = v ∧ agr l r) := (rfl)
theorem und_same {ks : List Nat} : und ks l l = True := by cases l <;> simp [und]
theorem und_cons {ks : List Nat} {k : Nat} {v : AV} {r : List (Nat × AV)} (h : ks.contains k = true) (h2 : und ks l r) : und ks l ((k, v) :: r) := .inr ⟨h, h2⟩
theorem tp_nil : tp [] l = l := (rfl)
theorem tp_cons {k : Nat} {ks : List Nat} : tp (k :: ks) l = (k, .top) :: tp ks l := (rfl)

theorem agr_lk {ms : List (Nat × AV)} (h : agr l ms) : ∀ {t : Nat} (r : List (Nat × AV)), (ms.map (·.1)).contains t = true → lk (ms ++ r) t = lk l t := by
  induction ms with
  | nil => intro t r ht; simp at ht
  | cons q ms ih =>
    obtain ⟨k, v⟩ := q
    intro t r ht
    simp only [List.cons_append, lk]
    split
    · rename_i e; subst e; exact h.1.symm
    · rename_i e
      refine ih h.2 r ?_
      simp at ht ⊢
      rcases ht with ht | ht
      · exact absurd ht.symm e
      · exact ht
theorem lk_skip {ms : List (Nat × AV)} : ∀ {t : Nat} (r : List (Nat × AV)), (ms.map (·.1)).contains t = false → lk (ms ++ r) t = lk r t := by
  induction ms with
  | nil => intro t r _; rfl
  | cons q ms ih =>
    obtain ⟨k, v⟩ := q
    intro t r ht
    simp at ht
    simp only [List.cons_append, lk]
    rw [if_neg (Ne.symm ht.1)]
    exact ih r (by simpa using ht.2)
theorem lk_tp {ks : List Nat} {t : Nat} : lk (tp ks l) t = if ks.contains t = true then .top else lk l t := by
  induction ks with
  | nil => simp [tp]
  | cons k ks ih =>
    rw [tp_cons]
    simp only [lk, ih, List.contains_cons, Bool.or_eq_true, beq_iff_eq]
    by_cases h : k = t
    · subst h; simp
    · simp [h, Ne.symm h]
theorem und_lk {ks : List Nat} : ∀ {l' : List (Nat × AV)}, und ks l l' → ∀ {t : Nat}, ks.contains t = false → lk l' t = lk l t
  | [], h, t, _ => by simp only [und] at h; rw [h]
  | (k, v) :: r, h, t, ht => by
    rcases h with h | ⟨h1, h2⟩
    · rw [h]
    · simp only [lk]
      have hne : k ≠ t := by rintro rfl; rw [ht] at h1; cases h1
      rw [if_neg hne]
      exact und_lk h2 ht

/-- what a round's end is asked, where no entry has turned -/
def lps {α : Type} (mods : α → List (Nat × AV)) (tops : List Nat) (l : List (Nat × AV)) (hp : List Ent) (J : α → Prop) (ν : α → Nat) (a : α) (Q : Exit → St → Prop) : Exit → St → Prop
  | .normal, s => ∃ a', agr s.sl (mods a') ∧ und ((mods a').map (·.1) ++ tops) l s.sl ∧ s.hp = hp ∧ J a' ∧ ν a' < ν a
  | e, s => Q e s

theorem acode_loopS {c : Code} {Q : Exit → St → Prop} {α : Type} (id : Nat) (hid : lid c = id) (mods : α → List (Nat × AV)) (tops : List Nat) (J : α → Prop) (ν : α → Nat) (a0 : α)
    (h0 : agr l (mods a0)) (hJ : J a0) (hr : ∀ a, J a → acode P n0 pl c (lps mods tops l hp J ν a Q) ⟨mods a ++ tp tops l, hp⟩) : acode P n0 pl (.loop c) Q ⟨l, hp⟩ := by
  have wk : ∀ (s : St) (a : α), agr s.sl (mods a) → und ((mods a).map (·.1) ++ tops) l s.sl → s.hp = hp → Wk n0 s ⟨mods a ++ tp tops l, hp⟩ := by
    rintro ⟨sl, sh⟩ a h1 h2 rfl
    refine Wk.le fun t => ?_
    by_cases ht : ((mods a).map (·.1)).contains t = true
    · exact .inr (agr_lk h1 _ ht)
    · rw [lk_skip _ (by simpa using ht), lk_tp]
      by_cases hk : tops.contains t = true
      · rw [if_pos hk]; exact .inl rfl
      · rw [if_neg hk]
        refine .inr (und_lk h2 ?_).symm
        simp at ht hk ⊢
        exact ⟨ht, hk⟩
  refine acode_loopT (fun a => ⟨mods a ++ tp tops l, hp⟩) J ν a0 (wk ⟨l, hp⟩ a0 h0 (by rw [und_same]; trivial) rfl) hJ ?_
  intro a ha
  refine acode_imp (hr a ha) ?_
  intro e s hq
  cases e with
  | normal =>
    obtain ⟨a', h1, h2, h3, h4, h5⟩ := hq
    exact ⟨a', wk s a' h1 h2 h3, h4, h5⟩
  | _ => exact hq

/- the same, where entries turn or are added -/
def AV.big (H : Nat) (V : List Nat) : AV → Bool
  | .ref id _ | .rs id _ _ | .ptr id _ _ => decide (H ≤ id) || V.contains id
  | .agg cs | .tup cs => bigL H V cs
  | _ => false
where
  bigL (H : Nat) (V : List Nat) : List AV → Bool
    | [] => false
    | c :: cs => AV.big H V c || bigL H V cs
/-- slots that name an entry that turns, or one behind H, are forgotten -/
def clr (H : Nat) (V : List Nat) : List (Nat × AV) → List (Nat × AV)
  | [] => []
  | (k, v) :: r => (k, if AV.big H V v = true then .top else v) :: clr H V r
theorem clr_nil {H : Nat} {V : List Nat} : clr H V [] = [] := (rfl)
theorem clr_cons {H : Nat} {V : List Nat} {k : Nat} {v : AV} {r : List (Nat × AV)} : clr H V ((k, v) :: r) = (k, if AV.big H V v = true then .top else v) :: clr H V r := (rfl)
theorem big_v {H : Nat} {V : List Nat} {x : Value} : AV.big H V (.v x) = false := (rfl)
theorem big_sl {H z : Nat} {V : List Nat} {xs : List (List AV)} : AV.big H V (.sl z xs) = false := (rfl)
theorem big_ep {H o : Nat} {V : List Nat} {b : List AV} : AV.big H V (.ep b o) = false := (rfl)
theorem big_top {H : Nat} {V : List Nat} : AV.big H V .top = false := (rfl)
theorem big_ref {H i n : Nat} {V : List Nat} : AV.big H V (.ref i n) = (decide (H ≤ i) || V.contains i) := (rfl)
theorem big_rs {H i j n : Nat} {V : List Nat} : AV.big H V (.rs i j n) = (decide (H ≤ i) || V.contains i) := (rfl)
theorem big_ptr {H i j n : Nat} {V : List Nat} : AV.big H V (.ptr i j n) = (decide (H ≤ i) || V.contains i) := (rfl)
theorem big_agg {H : Nat} {V : List Nat} {cs : List AV} : AV.big H V (.agg cs) = AV.big.bigL H V cs := (rfl)
theorem big_tup {H : Nat} {V : List Nat} {cs : List AV} : AV.big H V (.tup cs) = AV.big.bigL H V cs := (rfl)
theorem bigL_nil {H : Nat} {V : List Nat} : AV.big.bigL H V [] = false := (rfl)
theorem bigL_cons {H : Nat} {V : List Nat} {c : AV} {cs : List AV} : AV.big.bigL H V (c :: cs) = (AV.big H V c || AV.big.bigL H V cs) := (rfl)

/-- the numbers below H that do not turn stay -/
def fixB (n0 H : Nat) (V is : List Nat) : Bool := (List.range H).all fun i => decide (i < n0) || V.contains i || pos i is == some (i - n0)
theorem fixB_rnId {H : Nat} {V is : List Nat} (h : fixB n0 H V is = true) {i : Nat} (hi : i < H) (hV : V.contains i = false) : rnId n0 is i = some i := by
  simp only [fixB, List.all_eq_true, List.mem_range, Bool.or_eq_true, decide_eq_true_eq, beq_iff_eq] at h
  rcases h i hi with (h | h) | h
  · simp [rnId, h]
  · rw [hV] at h; cases h
  · unfold rnId
    split
    · rfl
    · rw [h]; simp; omega
theorem rn_fix {H : Nat} {V is : List Nat} (h : fixB n0 H V is = true) : ∀ {x : AV}, AV.big H V x = false → rn n0 is x = x := by
  have id1 : ∀ {i : Nat}, (decide (H ≤ i) || V.contains i) = false → rnId n0 is i = some i := by
    intro i hi
    simp only [Bool.or_eq_false_iff, decide_eq_false_iff_not] at hi
    exact fixB_rnId h (by omega) hi.2
  intro x
  exact AV.rec (motive_1 := fun x => AV.big H V x = false → rn n0 is x = x) (motive_2 := fun _ => True) (motive_3 := fun cs => AV.big.bigL H V cs = false → rn.rnL n0 is cs = cs)
    (fun _ _ => rfl) (fun _ _ _ _ => rfl) (fun cs ih h => by simp only [rn, ih h]) (fun cs ih h => by simp only [rn, ih h])
    (fun i n h => by simp only [rn, id1 h]) (fun i j n h => by simp only [rn, id1 h]) (fun i j n h => by simp only [rn, id1 h]) (fun _ _ _ _ => rfl) (fun _ => rfl)
    trivial (fun _ _ _ _ => trivial) (fun _ => rfl) (fun c cs h1 h2 h => by
      simp only [AV.big.bigL, Bool.or_eq_false_iff] at h
      simp only [rn.rnL, h1 h.1, h2 h.2]) x
theorem clr_lk {H : Nat} {V : List Nat} : ∀ {l : List (Nat × AV)} {t : Nat}, lk (clr H V l) t = .top ∨ (lk (clr H V l) t = lk l t ∧ AV.big H V (lk l t) = false)
  | [], t => .inl rfl
  | (k, v) :: r, t => by
    simp only [clr, lk]
    by_cases h : k = t
    · rw [if_pos h, if_pos h]
      by_cases hb : AV.big H V v = true
      · rw [if_pos hb]; exact .inl rfl
      · rw [if_neg hb]; exact .inr ⟨rfl, by simpa using hb⟩
    · rw [if_neg h, if_neg h]
      exact clr_lk

def agrR (n0 : Nat) (is : List Nat) (l : List (Nat × AV)) : List (Nat × AV) → Prop
  | [] => True
  | (k, v) :: r => rn n0 is (lk l k) = v ∧ agrR n0 is l r
theorem agrR_nil {is : List Nat} : agrR n0 is l [] = True := (rfl)
theorem agrR_cons {is : List Nat} {k : Nat} {v : AV} {r : List (Nat × AV)} : agrR n0 is l ((k, v) :: r) = (rn n0 is (lk l k) = v ∧ agrR n0 is l r) := (rfl)
theorem agrR_lk {is : List Nat} {ms : List (Nat × AV)} (h : agrR n0 is l ms) : ∀ {t : Nat} (r : List (Nat × AV)), (ms.map (·.1)).contains t = true → lk (ms ++ r) t = rn n0 is (lk l t) := by
  induction ms with
  | nil => intro t r ht; simp at ht
  | cons q ms ih =>
    obtain ⟨k, v⟩ := q
    intro t r ht
    simp only [List.cons_append, lk]
    split
    · rename_i e; subst e; exact h.1.symm
    · rename_i e
      refine ih h.2 r ?_
      simp at ht ⊢
      rcases ht with ht | ht
      · exact absurd ht.symm e
      · exact ht

/-- number of the entry that a slot names -/
def idOf : AV → Nat
  | .ref id _ | .rs id _ _ | .ptr id _ _ => id
  | _ => 0
/-- of each place behind n0, which entry goes there: that which a slot names, where the place turns -/
def isOf (l : List (Nat × AV)) (W : List (Nat × Nat)) : Nat → Nat → List Nat
  | _, 0 => []
  | p, n + 1 => (match W.find? (fun q => q.2 == p) with | some q => idOf (lk l q.1) | none => p) :: isOf l W (p + 1) n
theorem idOf_ref {i n : Nat} : idOf (.ref i n) = i := (rfl)
theorem idOf_ptr {i j n : Nat} : idOf (.ptr i j n) = i := (rfl)

/-- what a round's end is asked, where entries turn or are added: W: slots whose entries turn, with their places -/
def lpe {α : Type} (n0 : Nat) (mods : α → List (Nat × AV)) (tops : List Nat) (l : List (Nat × AV)) (W : List (Nat × Nat)) (hps : α → List Ent) (J : α → Prop) (ν : α → Nat) (a : α) (Q : Exit → St → Prop) : Exit → St → Prop
  | .normal, s => ∃ is a', is = isOf s.sl W n0 ((hps a').length - n0) ∧ (isB n0 s.hp.length is = true ∧ fixB n0 (hps a').length (W.map (·.2)) is = true ∧ okL (kept n0 is s.hp) = true) ∧ kept n0 is s.hp = hps a' ∧ agrR n0 is s.sl (mods a') ∧
      und ((mods a').map (·.1) ++ tops) (clr (hps a').length (W.map (·.2)) l) s.sl ∧ J a' ∧ ν a' < ν a
  | e, s => Q e s
theorem lpe_ret {α : Type} {mods : α → List (Nat × AV)} {tops : List Nat} {W : List (Nat × Nat)} {hps : α → List Ent} {J : α → Prop} {ν : α → Nat} {a : α} {Q : Exit → St → Prop} {s : St} : lpe n0 mods tops l W hps J ν a Q .ret s = Q .ret s := (rfl)
theorem lpe_exit {α : Type} {mods : α → List (Nat × AV)} {tops : List Nat} {W : List (Nat × Nat)} {hps : α → List Ent} {J : α → Prop} {ν : α → Nat} {a : α} {Q : Exit → St → Prop} {id : Nat} {s : St} : lpe n0 mods tops l W hps J ν a Q (.exit id) s = Q (.exit id) s := (rfl)
theorem lps_ret {α : Type} {mods : α → List (Nat × AV)} {tops : List Nat} {J : α → Prop} {ν : α → Nat} {a : α} {Q : Exit → St → Prop} {s : St} : lps mods tops l hp J ν a Q .ret s = Q .ret s := (rfl)
theorem lps_exit {α : Type} {mods : α → List (Nat × AV)} {tops : List Nat} {J : α → Prop} {ν : α → Nat} {a : α} {Q : Exit → St → Prop} {id : Nat} {s : St} : lps mods tops l hp J ν a Q (.exit id) s = Q (.exit id) s := (rfl)
@[congr] theorem lpe_congr {α : Type} {mods : α → List (Nat × AV)} {tops : List Nat} {W : List (Nat × Nat)} {hps : α → List Ent} {J : α → Prop} {ν : α → Nat} {a : α} {Q : Exit → St → Prop} {e : Exit} {s s' : St} (h : s = s') : lpe n0 mods tops l W hps J ν a Q e s = lpe n0 mods tops l W hps J ν a Q e s' := by rw [h]
@[congr] theorem lps_congr {α : Type} {mods : α → List (Nat × AV)} {tops : List Nat} {J : α → Prop} {ν : α → Nat} {a : α} {Q : Exit → St → Prop} {e : Exit} {s s' : St} (h : s = s') : lps mods tops l hp J ν a Q e s = lps mods tops l hp J ν a Q e s' := by rw [h]

theorem acode_loopE {c : Code} {Q : Exit → St → Prop} {α : Type} (id : Nat) (hid : lid c = id) (mods : α → List (Nat × AV)) (tops : List Nat) (W : List (Nat × Nat)) (hps : α → List Ent) (hlen : ∀ a, n0 ≤ (hps a).length) (hsame : ∀ a a', (hps a).length = (hps a').length) (J : α → Prop) (ν : α → Nat) (a0 : α)
    (h0 : agr l (mods a0)) (hh : hp = hps a0) (hJ : J a0) (hr : ∀ a, J a → acode P n0 pl c (lpe n0 mods tops l W hps J ν a Q) ⟨mods a ++ tp tops (clr (hps a).length (W.map (·.2)) l), hps a⟩) : acode P n0 pl (.loop c) Q ⟨l, hp⟩ := by
  subst hh
  refine acode_loopT (fun a => ⟨mods a ++ tp tops (clr (hps a).length (W.map (·.2)) l), hps a⟩) J ν a0 ?_ hJ ?_
  · refine Wk.le fun t => ?_
    by_cases ht : ((mods a0).map (·.1)).contains t = true
    · exact .inr (agr_lk h0 _ ht)
    · rw [lk_skip _ (by simpa using ht), lk_tp]
      by_cases hk : tops.contains t = true
      · rw [if_pos hk]; exact .inl rfl
      · rw [if_neg hk]
        rcases clr_lk (H := (hps a0).length) (V := W.map (·.2)) (l := l) (t := t) with h | h
        · exact .inl h
        · exact .inr h.1
  · intro a ha
    refine acode_imp (hr a ha) ?_
    rintro e ⟨sl, sh⟩ hq
    cases e with
    | normal =>
      obtain ⟨is, a', _, ⟨h1, h2, h3⟩, h4, h5, h6, h7, h8⟩ := hq
      refine ⟨a', ?_, h7, h8⟩
      simp only at h1 h3 h4 h5 h6
      have hn0 : n0 ≤ sh.length := by
        rcases Nat.lt_or_ge sh.length n0 with hlt | hge
        · exfalso
          have h9 := hlen a'
          rw [← h4] at h9
          have hz : is = [] := by
            cases is with
            | nil => rfl
            | cons i r => simp [isB] at h1; omega
          subst hz
          simp [kept] at h9
          omega
        · exact hge
      refine Wk.keep (is := is) hn0 ⟨h1, h3⟩ h4 fun t => ?_
      by_cases ht : ((mods a').map (·.1)).contains t = true
      · exact .inr (agrR_lk h5 _ ht)
      · rw [lk_skip _ (by simpa using ht), lk_tp]
        by_cases hk : tops.contains t = true
        · rw [if_pos hk]; exact .inl rfl
        · rw [if_neg hk]
          have hu := und_lk h6 (t := t) (by simp at ht hk ⊢; exact ⟨ht, hk⟩)
          rw [hu]
          rcases clr_lk (H := (hps a').length) (V := W.map (·.2)) (l := l) (t := t) with h | h
          · exact .inl h
          · exact .inr (by rw [rn_fix h2 (by rw [h.1]; exact h.2)])
    | _ => exact hq

-- SIM BEGIN
theorem sim0 : (type_of% @acode_skip) ∧ (type_of% @acode_seq) ∧ (type_of% @acode_cond) ∧ (type_of% @acode_block) ∧ (type_of% @acode_exit) ∧ (type_of% @acode_ret) ∧ (type_of% @acode_region) ∧ (type_of% @acode_draw) ∧ (type_of% @lkp_cons) ∧ (type_of% @thn_normal) ∧ (type_of% @thn_ret) ∧ (type_of% @thn_exit) ∧ (type_of% @blq_normal) ∧ (type_of% @blq_ret) ∧ (type_of% @blq_exit) ∧ (type_of% @lpt_ret) ∧ (type_of% @lpt_exit) ∧ (type_of% @acnd_b) ∧ (type_of% @aops_nil) ∧ (type_of% @aops_cons) ∧ (type_of% @gd_none) ∧ (type_of% @gd_some) ∧ (type_of% @gdO_some) ∧ (type_of% @gdV_t) ∧ (type_of% @gdV_u) ∧ (type_of% @gdV_f) ∧ (type_of% @gslot_lit) ∧ (type_of% @apl_done) ∧ (type_of% @apl_val) ∧ (type_of% @aplV_some) ∧ (type_of% @apl_eff) ∧ (type_of% @apls_nil) ∧ (type_of% @apls_cons) ∧ (type_of% @aplE_some) ∧ (type_of% @pids_none) ∧ (type_of% @pids_nil) ∧ (type_of% @pids_e) ∧ (type_of% @pids_cons) ∧ (type_of% @keep_nil) ∧ (type_of% @keep_cons) :=
  ⟨@acode_skip, @acode_seq, @acode_cond, @acode_block, @acode_exit, @acode_ret, @acode_region, @acode_draw, @lkp_cons, @thn_normal, @thn_ret, @thn_exit, @blq_normal, @blq_ret, @blq_exit, @lpt_ret, @lpt_exit, @acnd_b, @aops_nil, @aops_cons, @gd_none, @gd_some, @gdO_some, @gdV_t, @gdV_u, @gdV_f, @gslot_lit, @apl_done, @apl_val, @aplV_some, @apl_eff, @apls_nil, @apls_cons, @aplE_some, @pids_none, @pids_nil, @pids_e, @pids_cons, @keep_nil, @keep_cons⟩
theorem sim1 : (type_of% @kv_some) ∧ (type_of% @kv_none) ∧ (type_of% @ke_some) ∧ (type_of% @ke_none) ∧ (type_of% @put_some) ∧ (type_of% @put_none) ∧ (type_of% @aop_move) ∧ (type_of% @aop_assign) ∧ (type_of% @aop_pick) ∧ (type_of% @aop_extract) ∧ (type_of% @aop_bin) ∧ (type_of% @aop_un) ∧ (type_of% @aop_load) ∧ (type_of% @aop_fld) ∧ (type_of% @aop_idx) ∧ (type_of% @aop_ind) ∧ (type_of% @aop_slice) ∧ (type_of% @aop_conv) ∧ (type_of% @aop_nilc) ∧ (type_of% @aop_build) ∧ (type_of% @aop_field) ∧ (type_of% @aop_len) ∧ (type_of% @aop_max) ∧ (type_of% @aop_min) ∧ (type_of% @aop_box) ∧ (type_of% @aop_alloc) ∧ (type_of% @aop_make) ∧ (type_of% @aop_lit) ∧ (type_of% @aop_store) ∧ (type_of% @aop_call) ∧ (type_of% @aop_append) ∧ (type_of% @aop_copy) ∧ (type_of% @v_move) ∧ (type_of% @v_assign) ∧ (type_of% @v_pick) ∧ (type_of% @v_extract) ∧ (type_of% @v_bin) ∧ (type_of% @v_un) ∧ (type_of% @v_load) ∧ (type_of% @loadO_ep) :=
  ⟨@kv_some, @kv_none, @ke_some, @ke_none, @put_some, @put_none, @aop_move, @aop_assign, @aop_pick, @aop_extract, @aop_bin, @aop_un, @aop_load, @aop_fld, @aop_idx, @aop_ind, @aop_slice, @aop_conv, @aop_nilc, @aop_build, @aop_field, @aop_len, @aop_max, @aop_min, @aop_box, @aop_alloc, @aop_make, @aop_lit, @aop_store, @aop_call, @aop_append, @aop_copy, @v_move, @v_assign, @v_pick, @v_extract, @v_bin, @v_un, @v_load, @loadO_ep⟩
theorem sim2 : (type_of% @loadO_ptr) ∧ (type_of% @loadP_arr) ∧ (type_of% @loadS_one) ∧ (type_of% @rd_true) ∧ (type_of% @rd_false) ∧ (type_of% @rdO_some) ∧ (type_of% @v_fld) ∧ (type_of% @fldO_ep) ∧ (type_of% @fldO_ptr) ∧ (type_of% @v_idx) ∧ (type_of% @idxO_some) ∧ (type_of% @idxZ_sl) ∧ (type_of% @idxZ_ref) ∧ (type_of% @idxZ_rs) ∧ (type_of% @idxE_arr) ∧ (type_of% @idxE0_arr) ∧ (type_of% @v_ind) ∧ (type_of% @aind_eq) ∧ (type_of% @indK_s) ∧ (type_of% @v_slice) ∧ (type_of% @slL_some) ∧ (type_of% @slB_some) ∧ (type_of% @sbd_none) ∧ (type_of% @sbd_some) ∧ (type_of% @slen_sl) ∧ (type_of% @slen_str) ∧ (type_of% @slen_nil) ∧ (type_of% @slen_ref) ∧ (type_of% @slen_rs) ∧ (type_of% @slP_str) ∧ (type_of% @slP_sl) ∧ (type_of% @slP_nil) ∧ (type_of% @slP_ref) ∧ (type_of% @slP_rs) ∧ (type_of% @slR_arr) ∧ (type_of% @v_conv) ∧ (type_of% @aconv_eq) ∧ (type_of% @convK_int) ∧ (type_of% @convK_str) ∧ (type_of% @isU8_yes) :=
  ⟨@loadO_ptr, @loadP_arr, @loadS_one, @rd_true, @rd_false, @rdO_some, @v_fld, @fldO_ep, @fldO_ptr, @v_idx, @idxO_some, @idxZ_sl, @idxZ_ref, @idxZ_rs, @idxE_arr, @idxE0_arr, @v_ind, @aind_eq, @indK_s, @v_slice, @slL_some, @slB_some, @sbd_none, @sbd_some, @slen_sl, @slen_str, @slen_nil, @slen_ref, @slen_rs, @slP_str, @slP_sl, @slP_nil, @slP_ref, @slP_rs, @slR_arr, @v_conv, @aconv_eq, @convK_int, @convK_str, @isU8_yes⟩
theorem sim3 : (type_of% @bytO_some) ∧ (type_of% @byts_nil) ∧ (type_of% @byts_cons) ∧ (type_of% @srd_sl) ∧ (type_of% @srd_nil) ∧ (type_of% @v_nilc) ∧ (type_of% @v_build) ∧ (type_of% @abld_nil) ∧ (type_of% @abld_cons) ∧ (type_of% @bldO_some) ∧ (type_of% @abuild_eq) ∧ (type_of% @buildO_some) ∧ (type_of% @evps_nil) ∧ (type_of% @evps_cons) ∧ (type_of% @v_field) ∧ (type_of% @afval_eq) ∧ (type_of% @fvalO_some) ∧ (type_of% @fvalR_some) ∧ (type_of% @v_len) ∧ (type_of% @v_max) ∧ (type_of% @v_min) ∧ (type_of% @amm_max) ∧ (type_of% @amm_min) ∧ (type_of% @alen_eq) ∧ (type_of% @lenK_sl) ∧ (type_of% @lenK_nil) ∧ (type_of% @lenK_ref) ∧ (type_of% @lenK_rs) ∧ (type_of% @lenK_str) ∧ (type_of% @abin_int) ∧ (type_of% @abin_str) ∧ (type_of% @abin_bool) ∧ (type_of% @abin_agg) ∧ (type_of% @eqO_eql) ∧ (type_of% @eqO_neq) ∧ (type_of% @aeq_nil) ∧ (type_of% @aeq_cons) ∧ (type_of% @ibin_add) ∧ (type_of% @ibin_sub) ∧ (type_of% @ibin_mul) :=
  ⟨@bytO_some, @byts_nil, @byts_cons, @srd_sl, @srd_nil, @v_nilc, @v_build, @abld_nil, @abld_cons, @bldO_some, @abuild_eq, @buildO_some, @evps_nil, @evps_cons, @v_field, @afval_eq, @fvalO_some, @fvalR_some, @v_len, @v_max, @v_min, @amm_max, @amm_min, @alen_eq, @lenK_sl, @lenK_nil, @lenK_ref, @lenK_rs, @lenK_str, @abin_int, @abin_str, @abin_bool, @abin_agg, @eqO_eql, @eqO_neq, @aeq_nil, @aeq_cons, @ibin_add, @ibin_sub, @ibin_mul⟩
theorem sim4 : (type_of% @ibin_quo) ∧ (type_of% @ibin_rem) ∧ (type_of% @ibin_eql) ∧ (type_of% @ibin_neq) ∧ (type_of% @ibin_lss) ∧ (type_of% @ibin_leq) ∧ (type_of% @ibin_gtr) ∧ (type_of% @ibin_geq) ∧ (type_of% @sbin_add) ∧ (type_of% @sbin_eql) ∧ (type_of% @sbin_neq) ∧ (type_of% @bbin_eql) ∧ (type_of% @bbin_neq) ∧ (type_of% @aun_neg) ∧ (type_of% @aun_not) ∧ (type_of% @apick_b) ∧ (type_of% @aext_zero) ∧ (type_of% @aext_succ) ∧ (type_of% @e_box) ∧ (type_of% @e_alloc) ∧ (type_of% @allocO_some) ∧ (type_of% @e_make) ∧ (type_of% @makeV_int) ∧ (type_of% @makeT_some) ∧ (type_of% @makeO_some) ∧ (type_of% @e_lit) ∧ (type_of% @litS_some) ∧ (type_of% @litO_some) ∧ (type_of% @bparts_nil) ∧ (type_of% @bparts_cons) ∧ (type_of% @e_store) ∧ (type_of% @stoO_some) ∧ (type_of% @stoX_ptr) ∧ (type_of% @stoP_arr) ∧ (type_of% @stoS_one) ∧ (type_of% @e_call) ∧ (type_of% @e_append) ∧ (type_of% @appO_some) ∧ (type_of% @srdK_nil) ∧ (type_of% @srdK_sl) :=
  ⟨@ibin_quo, @ibin_rem, @ibin_eql, @ibin_neq, @ibin_lss, @ibin_leq, @ibin_gtr, @ibin_geq, @sbin_add, @sbin_eql, @sbin_neq, @bbin_eql, @bbin_neq, @aun_neg, @aun_not, @apick_b, @aext_zero, @aext_succ, @e_box, @e_alloc, @allocO_some, @e_make, @makeV_int, @makeT_some, @makeO_some, @e_lit, @litS_some, @litO_some, @bparts_nil, @bparts_cons, @e_store, @stoO_some, @stoX_ptr, @stoP_arr, @stoS_one, @e_call, @e_append, @appO_some, @srdK_nil, @srdK_sl⟩
theorem sim5 : (type_of% @srdK_ref) ∧ (type_of% @srdK_rs) ∧ (type_of% @srdE_arr) ∧ (type_of% @srdE2_arr) ∧ (type_of% @appX_nil) ∧ (type_of% @appX_ref) ∧ (type_of% @appE_arr) ∧ (type_of% @e_copy) ∧ (type_of% @cpyO_some) ∧ (type_of% @cpyX_rs) ∧ (type_of% @cpyE_arr) ∧ (type_of% @ev_tmp) ∧ (type_of% @ev_const) ∧ (type_of% @lk_cons) ∧ (type_of% @lit_int) ∧ (type_of% @lit_bool) ∧ (type_of% @lit_str) ∧ (type_of% @lit_slice) ∧ (type_of% @lit_agg) ∧ (type_of% @oneL_nil) ∧ (type_of% @oneL_cons) ∧ (type_of% @one_int) ∧ (type_of% @one_bool) ∧ (type_of% @one_str) ∧ (type_of% @one_slc) ∧ (type_of% @one_sl) ∧ (type_of% @one_ref) ∧ (type_of% @one_ptr) ∧ (type_of% @acells_agg) ∧ (type_of% @acells_v) ∧ (type_of% @acells_sl) ∧ (type_of% @acells_ref) ∧ (type_of% @acells_ptr) ∧ (type_of% @wr_eq) ∧ (type_of% @cells_int) ∧ (type_of% @cells_str) ∧ (type_of% @cells_slc) ∧ (type_of% @cells_agg) ∧ (type_of% @rids_move) ∧ (type_of% @rids_assign) :=
  ⟨@srdK_ref, @srdK_rs, @srdE_arr, @srdE2_arr, @appX_nil, @appX_ref, @appE_arr, @e_copy, @cpyO_some, @cpyX_rs, @cpyE_arr, @ev_tmp, @ev_const, @lk_cons, @lit_int, @lit_bool, @lit_str, @lit_slice, @lit_agg, @oneL_nil, @oneL_cons, @one_int, @one_bool, @one_str, @one_slc, @one_sl, @one_ref, @one_ptr, @acells_agg, @acells_v, @acells_sl, @acells_ref, @acells_ptr, @wr_eq, @cells_int, @cells_str, @cells_slc, @cells_agg, @rids_move, @rids_assign⟩
theorem sim6 : (type_of% @rids_pick) ∧ (type_of% @rids_extract) ∧ (type_of% @rids_bin) ∧ (type_of% @rids_un) ∧ (type_of% @rids_fld) ∧ (type_of% @rids_ind) ∧ (type_of% @rids_nilc) ∧ (type_of% @rids_build) ∧ (type_of% @rids_field) ∧ (type_of% @rids_bi) ∧ (type_of% @rids_load) ∧ (type_of% @rids_idx) ∧ (type_of% @rids_slice) ∧ (type_of% @rids_conv) ∧ (type_of% @rids_call) ∧ (type_of% @ids_v) ∧ (type_of% @ids_sl) ∧ (type_of% @ids_ep) ∧ (type_of% @ids_ref) ∧ (type_of% @ids_rs) ∧ (type_of% @ids_ptr) ∧ (type_of% @ids_agg) ∧ (type_of% @idsL_nil) ∧ (type_of% @idsL_cons) ∧ (type_of% @endq_normal) ∧ (type_of% @endq_ret) ∧ (type_of% @ares_one) ∧ (type_of% @ares_two) ∧ (type_of% @ares_three) ∧ (type_of% @ares_four) ∧ (type_of% @ares1_tmp) ∧ (type_of% @ares1_cell) ∧ (type_of% @argSl_nil) ∧ (type_of% @argSl_cons) ∧ (type_of% @ne_z) ∧ (type_of% @z_ne) ∧ (type_of% @aload_eq) ∧ (type_of% @srdR_full) ∧ (type_of% @srd_ref) ∧ (type_of% @v_call) :=
  ⟨@rids_pick, @rids_extract, @rids_bin, @rids_un, @rids_fld, @rids_ind, @rids_nilc, @rids_build, @rids_field, @rids_bi, @rids_load, @rids_idx, @rids_slice, @rids_conv, @rids_call, @ids_v, @ids_sl, @ids_ep, @ids_ref, @ids_rs, @ids_ptr, @ids_agg, @idsL_nil, @idsL_cons, @endq_normal, @endq_ret, @ares_one, @ares_two, @ares_three, @ares_four, @ares1_tmp, @ares1_cell, @argSl_nil, @argSl_cons, @ne_z, @z_ne, @aload_eq, @srdR_full, @srd_ref, @v_call⟩
-- SIM END
end Eng
end Go.Proofs.Ytgcmahhejblpkaa
