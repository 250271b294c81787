/-
An abstract interpreter of the program's code on plain data: part S, how calls, loops and the ends of functions are met in a proof.
No condition: everything here is stated over any program.
-/
import Derived.Test.YtgcmahhejblpkaaVQ
namespace Go.Proofs.Ytgcmahhejblpkaa
namespace Eng
set_option linter.unusedVariables false
set_option linter.unusedSimpArgs false

variable {P : Program} {n0 : Nat} {pl : List (Nat × Plan)} {hp hs : List Ent} {l : List (Nat × AV)}

theorem rdL_same : ∀ {as : List AV}, noid.noidL as = true → RdL hp as as
  | [], _ => trivial
  | a :: as, h => by
    simp only [noid.noidL, Bool.and_eq_true] at h
    exact ⟨.same a h.1, rdL_same h.2⟩
theorem GC.callS {k : FuncId} {args : List AV} {r0 : AV} {K : AV → List Ent → Prop} (h : GC P k args [] (fun r hs => r = r0 ∧ hs = [])) (hn : noid.noidL args = true) (hf : flat r0 = true) (hK : K r0 hp) : GC P k args hp K :=
  GC.pureU h hf (rdL_same hn) hK
theorem qcallS {k : FuncId} {args : List AV} {r0 : AV} {c : AV → Prop} (h : GC P k args [] (fun r hs => r = r0 ∧ hs = [])) (hn : noid.noidL args = true) (hf : flat r0 = true) (hc : c r0) : qcall P k args hp c :=
  qcall_use h hf (rdL_same hn) hc
theorem GC.callR {k : FuncId} {args as : List AV} {r0 : AV} {K : AV → List Ent → Prop} (hr : RdL hp args as) (h : GC P k as [] (fun r hs => r = r0 ∧ hs = [])) (hf : flat r0 = true) (hK : K r0 hp) : GC P k args hp K :=
  GC.pureU h hf hr hK
theorem qcallR {k : FuncId} {args as : List AV} {r0 : AV} {c : AV → Prop} (hr : RdL hp args as) (h : GC P k as [] (fun r hs => r = r0 ∧ hs = [])) (hf : flat r0 = true) (hc : c r0) : qcall P k args hp c :=
  qcall_use h hf hr hc

theorem wrap_id {n : Int} (h1 : -9223372036854775808 ≤ n) (h2 : n ≤ 9223372036854775807) : IntKind.i64.wrap n = n := by
  rw [IntKind.wrap_i64]; omega

/- ends of functions -/
theorem rn_v {is : List Nat} {x : Value} : rn n0 is (.v x) = .v x := (rfl)
theorem rn_sl {is : List Nat} {z : Nat} {xs : List (List AV)} : rn n0 is (.sl z xs) = .sl z xs := (rfl)
theorem rn_agg {is : List Nat} {cs : List AV} : rn n0 is (.agg cs) = .agg (rn.rnL n0 is cs) := (rfl)
theorem rn_tup {is : List Nat} {cs : List AV} : rn n0 is (.tup cs) = .tup (rn.rnL n0 is cs) := (rfl)
theorem rnL_nil {is : List Nat} : rn.rnL n0 is [] = [] := (rfl)
theorem rnL_cons {is : List Nat} {c : AV} {cs : List AV} : rn.rnL n0 is (c :: cs) = rn n0 is c :: rn.rnL n0 is cs := (rfl)
def rnO (f : Nat → AV) : Option Nat → AV
  | some j => f j
  | none => .top
theorem rnO_some {f : Nat → AV} {j : Nat} : rnO f (some j) = f j := (rfl)
theorem rn_ref {is : List Nat} {id len : Nat} : rn n0 is (.ref id len) = rnO (fun j => .ref j len) (rnId n0 is id) := (rfl)
theorem rn_rs {is : List Nat} {id lo len : Nat} : rn n0 is (.rs id lo len) = rnO (fun j => .rs j lo len) (rnId n0 is id) := (rfl)
theorem rn_ptr {is : List Nat} {id i o : Nat} : rn n0 is (.ptr id i o) = rnO (fun j => .ptr j i o) (rnId n0 is id) := (rfl)
theorem rnId_eq {is : List Nat} {id : Nat} : rnId n0 is id = if id < n0 then some id else (pos id is).map (n0 + ·) := (rfl)
theorem pos_nil {x : Nat} : pos x [] = none := (rfl)
theorem pos_cons {x y : Nat} {l : List Nat} : pos x (y :: l) = if y = x then some 0 else (pos x l).map (· + 1) := (rfl)
theorem rnE_pln {is : List Nat} {sz : Nat} {elems : List (List AV)} (h : plnLL elems = true) : rnE n0 is (.arr sz elems) = .arr sz elems := by simp [rnE, rnLL, h]
theorem rnE_dead {is : List Nat} : rnE n0 is .dead = .dead := (rfl)
theorem rnE_one {is : List Nat} {sz : Nat} {b : List AV} : rnE n0 is (.arr sz [b]) = .arr sz [rn.rnL n0 is b] := by
  simp only [rnE, rnLL]
  split
  · rename_i h
    have key : ∀ b : List AV, b.all pln = true → rn.rnL n0 is b = b := by
      intro b
      induction b with
      | nil => intro _; rfl
      | cons x b ih =>
        intro h
        simp only [List.all_cons, Bool.and_eq_true] at h
        simp only [rn.rnL, ih h.2]
        cases x <;> simp [pln] at h <;> rfl
    simp only [plnLL, Bool.and_true] at h
    rw [key b h]
  · rfl
theorem kept_eq {is : List Nat} : kept n0 is hp = (hp.take n0).map (rnE n0 is) ++ is.map (fun i => rnE n0 is (hp.getD i .dead)) := (rfl)
theorem fin_nil {r r0 : AV} (h : rn 0 [] r = r0) : fin 0 r hp (fun r hs => r = r0 ∧ hs = []) := ⟨[], ⟨rfl, rfl⟩, h, rfl⟩
theorem fin_law {b : Bool} (h : b = true) : fin 0 (vb b) hp (fun r _ => r = vb true) := ⟨[], ⟨rfl, rfl⟩, by rw [h]; rfl⟩

/- loops' ends -/
theorem lps_end {α : Type} {mods : α → List (Nat × AV)} {tops : List Nat} {J : α → Prop} {ν : α → Nat} {a : α} {Q : Exit → St → Prop} {sl : List (Nat × AV)} (a' : α) (h1 : agr sl (mods a'))
    (h2 : und ((mods a').map (·.1) ++ tops) l sl) (h3 : J a') (h4 : ν a' < ν a) : lps mods tops l hp J ν a Q .normal ⟨sl, hp⟩ := ⟨a', h1, h2, rfl, h3, h4⟩
theorem und_drop {ks : List Nat} {k : Nat} {v : AV} {r : List (Nat × AV)} (h : ks.contains k = true) (h2 : und ks l r) : und ks l ((k, v) :: r) := .inr ⟨h, h2⟩
theorem und_refl {ks : List Nat} : und ks l l := by rw [und_same]; trivial
theorem agr_one {k : Nat} {v : AV} {r : List (Nat × AV)} (h : lk l k = v) (h2 : agr l r) : agr l ((k, v) :: r) := ⟨h, h2⟩
theorem ite_intro {c : Prop} [Decidable c] {A B : Prop} (h : c → A) (h' : ¬c → B) : if c then A else B := by split <;> simp_all
theorem lk_hd {k : Nat} {v : AV} {r : List (Nat × AV)} : lk ((k, v) :: r) k = v := by simp [lk]
theorem lk_tl {k j : Nat} {u v : AV} {r : List (Nat × AV)} (h : ¬ k = j) (h2 : lk r j = v) : lk ((k, u) :: r) j = v := by simp [lk, h, h2]
theorem agr_none : agr l [] := trivial

/- loops whose rounds make entries that are dropped at their ends -/
def plnH (hp : List Ent) : Bool := hp.all fun e => match e with | .arr _ es => plnLL es | .dead => true
def nbig (H : Nat) (l : List (Nat × AV)) : Bool := l.all fun p => !AV.big H [] p.2
theorem nbig_lk {H : Nat} : ∀ {l : List (Nat × AV)}, nbig H l = true → ∀ t, AV.big H [] (lk l t) = false
  | [], _, t => rfl
  | (k, v) :: r, h, t => by
    simp only [nbig, List.all_cons, Bool.and_eq_true, Bool.not_eq_true'] at h
    simp only [lk]
    split
    · exact h.1
    · exact nbig_lk (l := r) h.2 t
def rngL (n0 H : Nat) : List Nat := List.range' n0 (H - n0)
theorem pos_range' : ∀ (m s i : Nat), s ≤ i → i < s + m → pos i (List.range' s m) = some (i - s)
  | 0, s, i, h1, h2 => by omega
  | m + 1, s, i, h1, h2 => by
    simp only [List.range'_succ, pos]
    split
    · rename_i h; subst h; simp
    · rw [pos_range' m (s + 1) i (by omega) (by omega)]
      simp; omega
theorem fixB_rng {H : Nat} : fixB n0 H [] (rngL n0 H) = true := by
  simp only [fixB, List.all_eq_true, List.mem_range, Bool.or_eq_true, decide_eq_true_eq, beq_iff_eq]
  intro i hi
  by_cases h : i < n0
  · exact .inl (.inl h)
  · exact .inr (pos_range' _ _ _ (by omega) (by omega))
theorem ndB_range' : ∀ (m s : Nat), ndB (List.range' s m) = true
  | 0, s => rfl
  | m + 1, s => by
    simp only [List.range'_succ, ndB, Bool.and_eq_true, ndB_range' m (s + 1), and_true]
    simp [List.mem_range']
    intro x hx; omega
theorem plnH_get {e : Ent} (h : plnH hp = true) (he : e ∈ hp) : ∀ (is : List Nat), rnE n0 is e = e := by
  intro is
  have := List.all_eq_true.1 h e he
  cases e with
  | dead => rfl
  | arr sz es => exact rnE_pln this
theorem okL_all : ∀ {l : List Ent}, (∀ e ∈ l, okE e = true) → okL l = true
  | [], _ => rfl
  | e :: l, h => by simp only [okL, h e (by simp), okL_all (l := l) fun x hx => h x (by simp [hx]), Bool.and_self]
theorem kept_rng {ex : List Ent} (h : plnH hp = true) (hn : n0 ≤ hp.length) : kept n0 (rngL n0 hp.length) (hp ++ ex) = hp := by
  apply List.ext_getElem?
  intro j
  have e1 : ((hp ++ ex).take n0).map (rnE n0 (rngL n0 hp.length)) = hp.take n0 := by
    rw [List.take_append_of_le_length hn]
    refine List.ext_getElem? fun i => ?_
    rw [List.getElem?_map]
    cases hi : (hp.take n0)[i]? with
    | none => rfl
    | some e => simp only [Option.map_some]; rw [plnH_get h (List.mem_of_mem_take (List.mem_of_getElem? hi))]
  unfold kept
  rw [e1]
  by_cases hj : j < n0
  · rw [List.getElem?_append_left (by simp; omega), List.getElem?_take_of_lt hj]
  · have hl : (hp.take n0).length = n0 := by simp; omega
    rw [List.getElem?_append_right (by rw [hl]; omega), hl, List.getElem?_map]
    by_cases hj2 : j < hp.length
    · have : (rngL n0 hp.length)[j - n0]? = some j := by
        unfold rngL
        rw [List.getElem?_range' (by omega)]
        simp; omega
      rw [this]
      simp only [Option.map_some]
      have e2 : (hp ++ ex).getD j .dead = hp[j] := by simp [List.getD, List.getElem?_append_left hj2, hj2]
      rw [e2, plnH_get h (List.getElem_mem _), List.getElem?_eq_getElem hj2]
    · have : (rngL n0 hp.length)[j - n0]? = none := by
        unfold rngL
        rw [List.getElem?_eq_none_iff]; simp; omega
      rw [this, List.getElem?_eq_none (by omega)]; rfl

/-- what a round's end is asked, where entries behind are dropped -/
def lpd {α : Type} (mods : α → List (Nat × AV)) (tops : List Nat) (l : List (Nat × AV)) (hp : List Ent) (J : α → Prop) (ν : α → Nat) (a : α) (Q : Exit → St → Prop) : Exit → St → Prop
  | .normal, s => ∃ a', agr s.sl (mods a') ∧ und ((mods a').map (·.1) ++ tops) l s.sl ∧ (∃ ex, s.hp = hp ++ ex) ∧ nbig hp.length (mods a') = true ∧ J a' ∧ ν a' < ν a
  | e, s => Q e s
theorem lpd_ret {α : Type} {mods : α → List (Nat × AV)} {tops : List Nat} {J : α → Prop} {ν : α → Nat} {a : α} {Q : Exit → St → Prop} {s : St} : lpd mods tops l hp J ν a Q .ret s = Q .ret s := (rfl)
theorem lpd_exit {α : Type} {mods : α → List (Nat × AV)} {tops : List Nat} {J : α → Prop} {ν : α → Nat} {a : α} {Q : Exit → St → Prop} {id : Nat} {s : St} : lpd mods tops l hp J ν a Q (.exit id) s = Q (.exit id) s := (rfl)
@[congr] theorem lpd_congr {α : Type} {mods : α → List (Nat × AV)} {tops : List Nat} {J : α → Prop} {ν : α → Nat} {a : α} {Q : Exit → St → Prop} {e : Exit} {s s' : St} (h : s = s') : lpd mods tops l hp J ν a Q e s = lpd mods tops l hp J ν a Q e s' := by rw [h]

theorem acode_loopD {c : Code} {Q : Exit → St → Prop} {α : Type} (id : Nat) (hid : lid c = id) (mods : α → List (Nat × AV)) (tops : List Nat) (J : α → Prop) (ν : α → Nat) (a0 : α)
    (h0 : agr l (mods a0)) (hp0 : plnH hp = true) (hn : n0 ≤ hp.length) (hb : nbig hp.length l = true) (hJ : J a0) (hr : ∀ a, J a → acode P n0 pl c (lpd mods tops l hp J ν a Q) ⟨mods a ++ tp tops l, hp⟩) : acode P n0 pl (.loop c) Q ⟨l, hp⟩ := by
  refine acode_loopT (fun a => ⟨mods a ++ tp tops l, hp⟩) J ν a0 (Wk.le fun t => ?_) hJ ?_
  · by_cases ht : ((mods a0).map (·.1)).contains t = true
    · exact .inr (agr_lk h0 _ ht)
    · rw [lk_skip _ (by simpa using ht), lk_tp]
      by_cases hk : tops.contains t = true
      · rw [if_pos hk]; exact .inl rfl
      · rw [if_neg hk]; exact .inr rfl
  intro a ha
  refine acode_imp (hr a ha) ?_
  rintro e ⟨sl, sh⟩ hq
  cases e with
  | normal =>
    obtain ⟨a', h1, h2, ⟨ex, h3⟩, h4, h5, h6⟩ := hq
    refine ⟨a', ?_, h5, h6⟩
    simp only at h1 h2 h3
    subst h3
    have hk := kept_rng (ex := ex) hp0 hn
    refine Wk.keep (is := rngL n0 hp.length) (by simp; omega) ⟨?_, ?_⟩ hk fun t => ?_
    · simp only [isB, Bool.and_eq_true, List.all_eq_true, decide_eq_true_eq]
      refine ⟨ndB_range' _ _, fun i hi => ?_⟩
      simp only [rngL, List.mem_range'] at hi
      obtain ⟨j, hj, rfl⟩ := hi
      simp; omega
    · rw [hk]
      refine okL_all fun e he => ?_
      have := List.all_eq_true.1 hp0 e he
      cases e with
      | dead => rfl
      | arr sz es => simp only [okE, this, Bool.true_or]
    · by_cases ht : ((mods a').map (·.1)).contains t = true
      · have e1 := agr_lk h1 (tp tops l) ht
        have e2 : AV.big hp.length [] (lk (mods a' ++ tp tops l) t) = false := by
          have := nbig_lk h4 t
          have e3 : lk (mods a' ++ tp tops l) t = lk (mods a') t := by
            clear e1 this h4 h1 h2
            generalize mods a' = ms at ht
            induction ms with
            | nil => simp at ht
            | cons q ms ih =>
              obtain ⟨k, v⟩ := q
              simp only [List.cons_append, lk]
              split
              · rfl
              · rename_i hne
                refine ih ?_
                simp at ht ⊢
                rcases ht with ht | ht
                · exact absurd ht.symm hne
                · exact ht
          rw [e3]; exact this
        refine .inr ?_
        rw [← e1, rn_fix fixB_rng e2]
      · rw [lk_skip _ (by simpa using ht), lk_tp]
        by_cases hk2 : tops.contains t = true
        · rw [if_pos hk2]; exact .inl rfl
        · rw [if_neg hk2]
          have e1 := und_lk h2 (t := t) (by simp at ht hk2 ⊢; exact ⟨ht, hk2⟩)
          rw [e1]
          exact .inr (rn_fix fixB_rng (nbig_lk hb t)).symm
  | _ => exact hq
theorem lpd_end {α : Type} {mods : α → List (Nat × AV)} {tops : List Nat} {J : α → Prop} {ν : α → Nat} {a : α} {Q : Exit → St → Prop} {sl : List (Nat × AV)} {sh : List Ent} (a' : α) (h1 : agr sl (mods a'))
    (h2 : und ((mods a').map (·.1) ++ tops) l sl) (ex : List Ent) (he : sh = hp ++ ex) (hb : nbig hp.length (mods a') = true) (h3 : J a') (h4 : ν a' < ν a) : lpd mods tops l hp J ν a Q .normal ⟨sl, sh⟩ := ⟨a', h1, h2, ⟨ex, he⟩, hb, h3, h4⟩

theorem kept0 {is : List Nat} {hs : List Ent} (h5 : is.map (fun i => hp.getD i .dead) = hs) (hq : plnH hs = true) : kept 0 is hp = hs := by
  subst h5
  unfold kept
  simp only [List.take_zero, List.map_nil, List.nil_append]
  refine List.map_congr_left fun i hi => ?_
  exact plnH_get hq (List.mem_map.2 ⟨i, hi, rfl⟩) is
theorem lpe_end0 {α : Type} {mods : α → List (Nat × AV)} {tops : List Nat} {W : List (Nat × Nat)} {hps : α → List Ent} {J : α → Prop} {ν : α → Nat} {a : α} {Q : Exit → St → Prop} {sl : List (Nat × AV)} {sh : List Ent} (is : List Nat) (a' : α)
    (h1 : is = isOf sl W 0 (hps a').length) (h2 : isB 0 sh.length is = true) (h3 : fixB 0 (hps a').length (W.map (·.2)) is = true) (h5 : is.map (fun i => sh.getD i .dead) = hps a') (hq : plnH (hps a') = true)
    (h6 : agrR 0 is sl (mods a')) (h7 : und ((mods a').map (·.1) ++ tops) (clr (hps a').length (W.map (·.2)) l) sl) (h8 : J a') (h9 : ν a' < ν a) : lpe 0 mods tops l W hps J ν a Q .normal ⟨sl, sh⟩ := by
  have hk := kept0 h5 hq
  refine ⟨is, a', by simpa using h1, ⟨h2, h3, ?_⟩, hk, h6, h7, h8, h9⟩
  rw [hk]
  refine okL_all fun e he => ?_
  have := List.all_eq_true.1 hq e he
  cases e with
  | dead => rfl
  | arr sz es => simp only [okE, this, Bool.true_or]
theorem agrR_none {is : List Nat} : agrR n0 is l [] := trivial
theorem agrR_one {is : List Nat} {k : Nat} {u v : AV} {r : List (Nat × AV)} (h : lk l k = u) (h1 : rn n0 is u = v) (h2 : agrR n0 is l r) : agrR n0 is l ((k, v) :: r) := ⟨by rw [h, h1], h2⟩
/-- a function that leaves one plain slice -/
theorem fin_own {id len : Nat} {hs : List Ent} (h : [id].map (fun i => hp.getD i .dead) = hs) (hi : id < hp.length) (hq : plnH hs = true) : fin 0 (.ref id len) hp (fun r h' => r = .ref 0 len ∧ h' = hs) := by
  have hk := kept0 h hq
  refine ⟨[id], ⟨by simp [isB, ndB, hi], ?_⟩, by simp [rn, rnId, pos], hk⟩
  rw [hk]
  refine okL_all fun e he => ?_
  have := List.all_eq_true.1 hq e he
  cases e with
  | dead => rfl
  | arr sz es => simp only [okE, this, Bool.true_or]
theorem fin_ownT {id len : Nat} {hs : List Ent} {vs : List AV} (h : [id].map (fun i => hp.getD i .dead) = hs) (hi : id < hp.length) (hq : plnH hs = true) (hv : rn.rnL 0 [id] vs = vs) : fin 0 (.tup (.ref id len :: vs)) hp (fun r h' => r = .tup (.ref 0 len :: vs) ∧ h' = hs) := by
  have hk := kept0 h hq
  refine ⟨[id], ⟨by simp [isB, ndB, hi], ?_⟩, by simp [rn, rn.rnL, hv, rnId, pos], hk⟩
  rw [hk]
  refine okL_all fun e he => ?_
  have := List.all_eq_true.1 hq e he
  cases e with
  | dead => rfl
  | arr sz es => simp only [okE, this, Bool.true_or]

theorem fin_own' {id len len' : Nat} {hs : List Ent} (hl : len = len') (h : [hp.getD id .dead] = hs) (hi : id < hp.length) (hq : plnH hs = true) : fin 0 (.ref id len) hp (fun r h' => r = .ref 0 len' ∧ h' = hs) := by
  subst hl; exact fin_own h hi hq
theorem fin_ownT' {id len len' : Nat} {hs : List Ent} {vs vs' : List AV} (hl : len = len') (hw : vs = vs') (h : [hp.getD id .dead] = hs) (hi : id < hp.length) (hq : plnH hs = true) (hv : rn.rnL 0 [id] vs = vs) : fin 0 (.tup (.ref id len :: vs)) hp (fun r h' => r = .tup (.ref 0 len' :: vs') ∧ h' = hs) := by
  subst hl; subst hw; exact fin_ownT h hi hq hv

theorem take_set' {α : Type} [Inhabited α] {us ts : List α} {k : Nat} {t : α} (ht : t = ts.getD k default) (hl : us.length = ts.length) (hk : k < ts.length) (h : us.take k = ts.take k) : (us.set k t).take (k + 1) = ts.take (k + 1) := by
  subst ht
  have hk2 : k < us.length := by omega
  rw [List.take_succ_eq_append_getElem (by simpa using hk2), List.take_succ_eq_append_getElem hk, List.take_set_of_le (Nat.le_refl k), h]
  simp [List.getD, hk]
theorem sz_neg {n k : Int} : ((if n < k then (-1 : Int) else n - k) < 0) = (n < k) := by
  split <;> (simp only [eq_iff_iff]; omega)

theorem sim7 : (type_of% @lpd_ret) ∧ (type_of% @lpd_exit) ∧ (type_of% @lps_ret) ∧ (type_of% @lps_exit) ∧ (type_of% @lpe_ret) ∧ (type_of% @lpe_exit) ∧ (type_of% @tp_nil) ∧ (type_of% @tp_cons) ∧ (type_of% @clr_nil) ∧ (type_of% @clr_cons) ∧ (type_of% @big_v) ∧ (type_of% @big_sl) ∧ (type_of% @big_ep) ∧ (type_of% @big_top) ∧ (type_of% @big_ref) ∧ (type_of% @big_rs) ∧ (type_of% @big_ptr) ∧ (type_of% @big_agg) ∧ (type_of% @big_tup) ∧ (type_of% @bigL_nil) ∧ (type_of% @bigL_cons) ∧ (type_of% @up_v) ∧ (type_of% @up_sl) ∧ (type_of% @up_agg) ∧ (type_of% @up_tup) ∧ (type_of% @up_ref) ∧ (type_of% @up_rs) ∧ (type_of% @up_ptr) ∧ (type_of% @upL_nil) ∧ (type_of% @upL_cons) ∧ (type_of% @upId_eq) ∧ (type_of% @mrg_eq) ∧ (type_of% @setL_nil) ∧ (type_of% @setL_cons) ∧ (type_of% @upE_dead) ∧ (type_of% @upE_one) :=
  ⟨@lpd_ret, @lpd_exit, @lps_ret, @lps_exit, @lpe_ret, @lpe_exit, @tp_nil, @tp_cons, @clr_nil, @clr_cons, @big_v, @big_sl, @big_ep, @big_top, @big_ref, @big_rs, @big_ptr, @big_agg, @big_tup, @bigL_nil, @bigL_cons, @up_v, @up_sl, @up_agg, @up_tup, @up_ref, @up_rs, @up_ptr, @upL_nil, @upL_cons, @upId_eq, @mrg_eq, @setL_nil, @setL_cons, @upE_dead, @upE_one⟩
theorem fins : (type_of% @rn_v) ∧ (type_of% @rn_sl) ∧ (type_of% @rn_agg) ∧ (type_of% @rn_tup) ∧ (type_of% @rnL_nil) ∧ (type_of% @rnL_cons) ∧ (type_of% @rnO_some) ∧ (type_of% @rn_ref) ∧ (type_of% @rn_rs) ∧ (type_of% @rn_ptr) ∧ (type_of% @rnId_eq) ∧ (type_of% @pos_nil) ∧ (type_of% @pos_cons) ∧ (type_of% @rnE_dead) ∧ (type_of% @rnE_one) ∧ (type_of% @kept_eq) :=
  ⟨@rn_v, @rn_sl, @rn_agg, @rn_tup, @rnL_nil, @rnL_cons, @rnO_some, @rn_ref, @rn_rs, @rn_ptr, @rnId_eq, @pos_nil, @pos_cons, @rnE_dead, @rnE_one, @kept_eq⟩
end Eng
end Go.Proofs.Ytgcmahhejblpkaa
