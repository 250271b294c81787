/-
An abstract interpreter of the program's code on plain data: part I, soundness of code and of whole functions.
No condition: everything here is stated over any program.
-/
import Derived.Test.YtbfonmedgcemjaaEngM
namespace Go.Proofs.Ytbfonmedgcemjaa
namespace Eng
set_option linter.unusedVariables false
set_option linter.unusedSimpArgs false

variable {P : Program} {n0 N : Nat} {B : Bs} {m : Mp} {F : Nat → Prop} {s : St} {a : Act} {w : World} {K : St → Prop} {Q : Exit → Act → World → Prop} {o : Oper}

theorem op_wp_mono {n1 n2 : Act → World → Prop} (h : ∀ a w, n1 a w → n2 a w) (hw : o.wp P a w n1 Q) : o.wp P a w n2 Q := by
  unfold Oper.wp at *
  generalize (execOp a.eval o).run P w = r at *
  cases r with
  | ok x w' =>
    cases x <;> simp only [Oper.upon] at hw ⊢ <;> try exact hw.elim
    case value v => exact h _ _ hw
    case skip => exact h _ _ hw
    case defer d => exact h _ _ hw
    case enter f args =>
      refine hw.mono ?_
      intro e w'' he
      cases e <;> first | exact h _ _ he | exact he
    case row row args => exact hw.mono fun v w'' h' => h _ _ h'
  | halt x w' => cases x <;> first | exact hw | exact hw.elim

theorem aop_sound (r : R B m F N s a w) (hd : ∀ d, o.dst = some d → d < N) (hn : B.m.length = n0) (h : aop P n0 o s K) : o.wp P a w (Nx B N K) Q := by
  unfold aop at h
  split at h
  · rename_i x ho; exact op_move r hd (.inl ho) h
  · rename_i x ho; exact op_move r hd (.inr ho) h
  · rename_i c x y ho; exact op_pick r hd ho h
  · rename_i t i ho; exact op_extract r hd ho h
  · rename_i op t x y t' ho; exact op_bin r hd ho h
  · rename_i op t x ho; exact op_un r hd ho h
  · rename_i t x ho; exact op_load r hd ho h
  · rename_i t x y ho; exact op_store r hd ho h
  · rename_i t x f ho; exact op_fld r hd ho h
  · rename_i t x i ho; exact op_idx r hd ho h
  · rename_i t x ho; exact op_box r hd ho h
  · rename_i t ho; exact op_alloc r hd ho h
  · rename_i t ps ho; exact op_build r hd ho h
  · rename_i t x f ho; exact op_field r hd ho h
  · rename_i t l c ho; exact op_make r hd ho h
  · rename_i k as ts ho; exact op_call r hd ho hn h
  · rename_i as ts ho
    split at h
    · rename_i x t tr has hts
      exact op_len r hd (x := x) ho (by cases as; simp_all) (by cases ts; simp_all) h
    · exact h.elim
  · exact h.elim

/-- every slot that is written lies in the frame -/
def dstL (N : Nat) : List Oper → Bool
  | [] => true
  | o :: l => (match o.dst with | some d => decide (d < N) | none => true) && dstL N l
def dstOk (N : Nat) : Code → Bool
  | .seq x y => dstOk N x && dstOk N y
  | .cond _ x y => dstOk N x && dstOk N y
  | .block _ c => dstOk N c
  | .loop c => dstOk N c
  | .region _ ops _ => dstL N ops.toList
  | _ => true

theorem dstL_mem : ∀ {l : List Oper} {o : Oper}, dstL N l = true → o ∈ l → ∀ d, o.dst = some d → d < N
  | [], _, _, h, _, _ => by simp at h
  | x :: l, o, hl, h, d, hd => by
    simp only [dstL, Bool.and_eq_true] at hl
    rcases List.mem_cons.1 h with rfl | h'
    · rw [hd] at hl; simpa using hl.1
    · exact dstL_mem hl.2 h' d hd

def LQ (B : Bs) (N : Nat) (Q : Exit → St → Prop) (e : Exit) (a : Act) (w : World) : Prop := ∃ s m F, Q e s ∧ R B m F N s a w

theorem yielded_of {ops : Array Oper} {j d : Nat} {b : Bool} (r : R B m F N s a w) (hg : gslot ops j = some d) (hl : lk s.sl d = .d (.v (.bool b))) :
    yielded ops a.tmps j = some b := by
  have hv := (hl ▸ r.sl d : RepA m w F (.d (.v (.bool b))) _).inv_v
  have hv' : a.tmps[d]? = some (.bool b) := by
    rw [Array.getD_eq_getD_getElem?] at hv
    cases hh : a.tmps[d]? with
    | none => rw [hh] at hv; simp [undef] at hv
    | some x => rw [hh] at hv; simp at hv; rw [hv]
  unfold gslot at hg
  simp [yielded, hg, hv']

theorem R.know (r : R B m F N s a w) {d : Nat} {b : Bool} (hl : lk s.sl d = .d (.v (.bool b))) : R B m F N ⟨(d, vb b) :: s.sl, s.hp⟩ a w := by
  refine ⟨r.hp, fun t => ?_, r.size, r.defers, r.base⟩
  simp only [lk]
  split
  · rename_i h; subst h; have := r.sl d; rw [hl] at this; exact this
  · exact r.sl t

theorem aops_sound {ops : Array Oper} {Q : Exit → St → Prop} (hn : B.m.length = n0) : ∀ (l : List Oper) (m : Mp) (F : Nat → Prop) (s : St) (a : Act) (w : World), dstL N l = true → R B m F N s a w →
    aops P n0 ops l (Q .normal) s → wpList P ops (LQ B N Q) l a w
  | [], m, F, s, a, w, _, r, h => ⟨s, m, F, h, r⟩
  | o :: rest, m, F, s, a, w, hd, r, h => by
    have hd1 := dstL_mem hd (List.mem_cons_self)
    have hd2 : dstL N rest = true := by simp only [dstL, Bool.and_eq_true] at hd; exact hd.2
    have next : ∀ a' w', Nx B N (aops P n0 ops rest (Q .normal)) a' w' → wpList P ops (LQ B N Q) rest a' w' := by
      rintro a' w' ⟨s', m', F', hk, r'⟩
      exact aops_sound hn rest m' F' s' a' w' hd2 r' hk
    simp only [aops, gop] at h
    simp only [wpList]
    split at h
    · rename_i hg
      rw [if_pos (by simp [Region.wanted, hg])]
      exact .inl (op_wp_mono next (aop_sound r hd1 hn h))
    · rename_i j want hg
      split at h
      · rename_i d hgs
        split at h
        · rename_i b hl
          have hy := yielded_of (ops := ops) r hgs hl
          by_cases hb : b = want
          · rw [if_pos (by simp [Region.wanted, hg, hy, hb])]
            subst hb
            exact .inl (op_wp_mono next (aop_sound (r.know hl) hd1 hn (h.1 rfl)))
          · have hb' : b = !want := by cases b <;> cases want <;> simp_all
            rw [if_neg (by simp [Region.wanted, hg, hy, hb])]
            have r2 := r.know hl
            rw [hb'] at r2
            have r3 := r2.put (x := .top) (v := undef) (dst := o.dst) (Tr.refl m w F) r2.hp (.top _) hd1
            exact aops_sound hn rest m F _ _ w hd2 r3 (h.2 hb')
        · exact h.elim
      · exact h.elim

theorem qops_sound {ops : Array Oper} {K' : St → Prop} (hn : B.m.length = n0) : ∀ (l : List Oper) (s : St) (a : Act), dstL N l = true → R B m F N s a w →
    qops P n0 ops l K' s → wpQuiet P ops (Cw w) (fun a' => ∃ s', K' s' ∧ R B m F N s' a' w) l a
  | [], s, a, _, r, h => ⟨s, h, r⟩
  | o :: rest, s, a, hd, r, h => by
    have hd1 := dstL_mem hd (List.mem_cons_self)
    have hd2 : dstL N rest = true := by simp only [dstL, Bool.and_eq_true] at hd; exact hd.2
    have next : ∀ (s0 : St) (x : AV) (v : Value), R B m F N s0 a w → qops P n0 ops rest K' (put s0 o.dst x) → RepA m w F x v → wpQuiet P ops (Cw w) (fun a' => ∃ s', K' s' ∧ R B m F N s' a' w) rest (a.put o.dst v) := by
      intro s0 x v r0 hk hx
      exact qops_sound hn rest _ _ hd2 (r0.put (Tr.refl m w F) r0.hp hx hd1) hk
    simp only [qops, gqop] at h
    simp only [wpQuiet]
    split at h
    · rename_i hg
      rw [if_pos (by simp [Region.wanted, hg])]
      obtain ⟨x, v, h1, h2, h3⟩ := qop_quiet r h
      exact ⟨v, h3, next s x v r h1 h2⟩
    · rename_i j want hg
      split at h
      · rename_i d hgs
        split at h
        · rename_i b hl
          have hy := yielded_of (ops := ops) r hgs hl
          by_cases hb : b = want
          · rw [if_pos (by simp [Region.wanted, hg, hy, hb])]
            subst hb
            have r2 := r.know hl
            obtain ⟨x, v, h1, h2, h3⟩ := qop_quiet r2 (h.1 rfl)
            exact ⟨v, h3, next _ x v r2 h1 h2⟩
          · have hb' : b = !want := by cases b <;> cases want <;> simp_all
            rw [if_neg (by simp [Region.wanted, hg, hy, hb])]
            have r2 := r.know hl
            rw [hb'] at r2
            exact next _ .top undef r2 (h.2 hb') (.top _)
        · exact h.elim
      · exact h.elim

theorem exists_least {p : Nat → Prop} (h : ∃ n, p n) : ∃ n, p n ∧ ∀ k, k < n → ¬ p k := by
  obtain ⟨n, hn⟩ := h
  induction n using Nat.strongRecOn with
  | _ n ih =>
    by_cases hk : ∃ k, k < n ∧ p k
    · obtain ⟨k, h1, h2⟩ := hk; exact ih k h1 h2
    · exact ⟨n, hn, fun k h1 h2 => hk ⟨k, h1, h2⟩⟩

theorem wp_loop_ind {c : Code} {Q : Exit → Act → World → Prop} (J : Nat → Act → World → Prop)
    (round : ∀ n a w, J n a w → c.wp P (Exit.then (fun a' w' => ∃ k, k < n ∧ J k a' w') Q) a w) {n : Nat} {a : Act} {w : World} (h : J n a w) : (Code.loop c).wp P Q a w := by
  have key : ∀ a w, (∃ n, J n a w) → ∃ n, J n a w ∧ ∀ k, k < n → ¬ J k a w := fun a w h => exists_least h
  let μ : Act → World → Nat := fun a w => @dite _ (∃ n, J n a w) (Classical.propDecidable _) (fun h => Classical.choose (key a w h)) (fun _ => 0)
  have hμ : ∀ a w (h : ∃ n, J n a w), J (μ a w) a w ∧ ∀ k, k < μ a w → ¬ J k a w := by
    intro a w h
    have e : μ a w = Classical.choose (key a w h) := by simp only [μ]; rw [dif_pos h]
    rw [e]
    exact Classical.choose_spec (key a w h)
  refine wp_loop (fun a w => ∃ n, J n a w) μ ⟨n, h⟩ ?_
  intro a w hI
  refine wp_mono (round (μ a w) a w (hμ a w hI).1) ?_
  intro e a' w' he
  cases e with
  | normal =>
    obtain ⟨k, hk, hJ⟩ := he
    refine ⟨⟨k, hJ⟩, ?_⟩
    have := (hμ a' w' ⟨k, hJ⟩).2 k
    rcases Nat.lt_or_ge k (μ a' w') with h' | h'
    · exact absurd hJ (this h')
    · omega
  | _ => exact he

theorem acode_sound (hn : B.m.length = n0) : ∀ (c : Code) (Q : Exit → St → Prop) (m : Mp) (F : Nat → Prop) (s : St) (a : Act) (w : World), dstOk N c = true → R B m F N s a w →
    acode P n0 c Q s → c.wp P (LQ B N Q) a w
  | .skip, Q, m, F, s, a, w, _, r, h => wp_skip ⟨s, m, F, h, r⟩
  | .seq x y, Q, m, F, s, a, w, hd, r, h => by
    simp only [dstOk, Bool.and_eq_true] at hd
    refine wp_seq (wp_mono (acode_sound hn x _ m F s a w hd.1 r h) ?_)
    rintro e a' w' ⟨s', m', F', hq, r'⟩
    cases e with
    | normal => exact acode_sound hn y Q m' F' s' a' w' hd.2 r' hq
    | _ => exact ⟨s', m', F', hq, r'⟩
  | .cond c x y, Q, m, F, s, a, w, hd, r, h => by
    simp only [dstOk, Bool.and_eq_true] at hd
    simp only [acode, acnd] at h
    split at h
    · rename_i b hb
      have hv := (hb ▸ r.ev c).inv_v
      cases b with
      | true => exact wp_cond_true hv (acode_sound hn x Q m F s a w hd.1 r (h.1 rfl))
      | false => exact wp_cond_false hv (acode_sound hn y Q m F s a w hd.2 r (h.2 rfl))
    · exact h.elim
  | .block id c, Q, m, F, s, a, w, hd, r, h => by
    refine wp_block (wp_mono (acode_sound hn c _ m F s a w hd r h) ?_)
    rintro e a' w' ⟨s', m', F', hq, r'⟩
    cases e with
    | exit i =>
      simp only [Exit.inBlock]
      simp only [blq] at hq
      split
      · rename_i hi; rw [if_pos hi] at hq; exact ⟨s', m', F', hq, r'⟩
      · rename_i hi; rw [if_neg hi] at hq; exact ⟨s', m', F', hq, r'⟩
    | _ => exact ⟨s', m', F', hq, r'⟩
  | .loop c, Q, m, F, s, a, w, hd, r, h => by
    obtain ⟨J, ⟨n, s0, hW, hI⟩, round⟩ := h
    obtain ⟨m', F', r'⟩ := hW B m F N a w hn r
    refine wp_loop_ind (fun n a w => ∃ s m F, J n s ∧ R B m F N s a w) ?_ (n := n) ⟨s0, m', F', hI, r'⟩
    rintro n a1 w1 ⟨s1, m1, F1, hI1, r1⟩
    refine wp_mono (acode_sound hn c _ m1 F1 s1 a1 w1 hd r1 (round n s1 hI1)) ?_
    rintro e a2 w2 ⟨s2, m2, F2, hq, r2⟩
    cases e with
    | normal =>
      obtain ⟨k, s3, hW3, hI3, hlt⟩ := hq
      obtain ⟨m3, F3, r3⟩ := hW3 B m2 F2 N a2 w2 hn r2
      exact ⟨k, hlt, s3, m3, F3, hI3, r3⟩
    | _ => exact ⟨s2, m2, F2, hq, r2⟩
  | .exit id, Q, m, F, s, a, w, _, r, h => wp_exit ⟨s, m, F, h, r⟩
  | .ret, Q, m, F, s, a, w, _, r, h => wp_ret ⟨s, m, F, h, r⟩
  | .region id ops false, Q, m, F, s, a, w, hd, r, h => wp_region_list (aops_sound hn ops.toList m F s a w hd r h)
  | .region id ops true, Q, m, F, s, a, w, hd, r, h => by
    obtain ⟨⟨h1, h2⟩, h3⟩ := h
    refine wp_region_quiet (C := Cw w) h2 h1 ⟨rfl, rfl, rfl, Nat.le_refl _, fun _ _ => rfl⟩ ?_
    have := qops_sound (ops := ops) (K' := Q .normal) hn ops.toList s a hd r h3
    have mono : ∀ (l : List Oper) (a : Act), wpQuiet P ops (Cw w) (fun a' => ∃ s', Q .normal s' ∧ R B m F N s' a' w) l a →
        wpQuiet P ops (Cw w) (fun a' => ∀ w', Cw w w' → LQ B N Q .normal a' w') l a := by
      intro l
      induction l with
      | nil => rintro a ⟨s', hq, r'⟩ w' hC; exact ⟨s', m, F, hq, r'.cw hC⟩
      | cons o l ih =>
        intro a h
        simp only [wpQuiet] at h ⊢
        split
        · rename_i hw; rw [if_pos hw] at h; exact Oper.quiet_mono ih h
        · rename_i hw; rw [if_neg hw] at h; exact ih _ h
    exact mono _ _ this
  | .rangeFunc .., Q, m, F, s, a, w, hd, r, h => h.elim
  | .scope _, Q, m, F, s, a, w, hd, r, h => h.elim
  | .label _, Q, m, F, s, a, w, hd, r, h => h.elim
  | .goto _, Q, m, F, s, a, w, hd, r, h => h.elim
  | .refuse _, Q, m, F, s, a, w, hd, r, h => h.elim

end Eng
end Go.Proofs.Ytbfonmedgcemjaa
