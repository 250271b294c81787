/-
Plain laws on clocks: how many links are needless, how far offsets go, a link that the offsets tell.
No condition but those that the theorems name.
-/
import Derived.Test.YtpcaijpolkcipaaB13
import Derived.Test.YtpcaijpolkcipaaB14
namespace Go.Proofs.Ytpcaijpolkcipaa
open Eng
set_option linter.unusedSimpArgs false
set_option linter.unusedVariables false
/-- how many numbers below n have a property -/
def cnt (p : Nat → Bool) : Nat → Int
  | 0 => 0
  | n + 1 => cnt p n + (if p n = true then 1 else 0)
theorem cnt_congr {p q : Nat → Bool} : ∀ {n : Nat}, (∀ i, i < n → p i = q i) → cnt p n = cnt q n
  | 0, _ => rfl
  | n + 1, h => by
    simp only [cnt]
    rw [cnt_congr (fun i hi => h i (by omega)), h n (by omega)]
theorem cnt_less {p q : Nat → Bool} {a : Nat} (hp : p a = true) (hq : q a = false) : ∀ {n : Nat}, a < n → (∀ i, i < n → i ≠ a → q i = p i) → cnt q n = cnt p n - 1
  | 0, h, _ => by omega
  | n + 1, h, e => by
    simp only [cnt]
    by_cases hn : a = n
    · subst hn
      rw [cnt_congr (p := q) (q := p) (fun i hi => e i (by omega) (by omega)), hp, hq]
      simp
    · rw [cnt_less hp hq (n := n) (by omega) (fun i hi => e i (by omega)), e n (by omega) (by omega)]
      omega
theorem cnt_all {p : Nat → Bool} : ∀ {n : Nat}, (∀ i, i < n → p i = true) → cnt p n = n
  | 0, _ => rfl
  | n + 1, h => by
    simp only [cnt]
    rw [cnt_all (fun i hi => h i (by omega)), h n (by omega)]; simp
theorem cnt_none {p : Nat → Bool} : ∀ {n : Nat}, (∀ i, i < n → p i = false) → cnt p n = 0
  | 0, _ => rfl
  | n + 1, h => by
    simp only [cnt]
    rw [cnt_none (fun i hi => h i (by omega)), h n (by omega)]; simp
theorem cnt_one {p : Nat → Bool} {a : Nat} {n : Nat} (ha : a < n) (h : ∀ i, i < n → (p i = true ↔ i = a)) : cnt p n = 1 := by
  have h0 := cnt_less (p := p) (q := fun i => false) (a := a) ((h a ha).2 rfl) rfl (n := n) ha (fun i hi hne => by
    cases hp : p i with
    | false => rfl
    | true => exact absurd ((h i hi).1 hp) hne)
  have h1 : cnt (fun _ => false) n = 0 := cnt_none (fun i hi => rfl)
  omega
/-- each clock's group is named by a clock of the group -/
def Rep (n : Int) (G : Int → Int) : Prop := ∀ i, 0 ≤ i → i < n → (0 ≤ G i ∧ G i < n) ∧ G (G i) = G i
def grps (n : Int) (G : Int → Int) : Int := cnt (fun i => decide (G i = i)) n.toNat
theorem Rep.join {n f t : Int} {G G' : Int → Int} (h : Rep n G) (hf : 0 ≤ f ∧ f < n) (ht : 0 ≤ t ∧ t < n) (e : G f ≠ G t) (hG : ∀ i, 0 ≤ i → i < n → G' i = if G i = G t then G f else G i) :
    Rep n G' ∧ grps n G' = grps n G - 1 := by
  have hf2 := h f hf.1 hf.2
  have ht2 := h t ht.1 ht.2
  constructor
  · intro i h0 h1
    have hi := h i h0 h1
    rw [hG i h0 h1]
    split
    · refine ⟨hf2.1, ?_⟩
      rw [hG _ hf2.1.1 hf2.1.2, hf2.2, if_neg e]
    · rename_i hne
      refine ⟨hi.1, ?_⟩
      rw [hG _ hi.1.1 hi.1.2, hi.2, if_neg hne]
  · unfold grps
    refine cnt_less (a := (G t).toNat) ?_ ?_ (by omega) ?_
    · have e0 : (((G t).toNat : Nat) : Int) = G t := by omega
      simp only [e0]; simpa using ht2.2
    · have e0 : (((G t).toNat : Nat) : Int) = G t := by omega
      simp only [e0]
      rw [hG _ ht2.1.1 ht2.1.2, ht2.2, if_pos rfl]
      simpa using e
    · intro i hi hne
      have hne : ¬ (i : Int) = G t := by omega
      rw [hG i (by omega) (by omega)]
      split
      · rename_i h2
        have h3 : ¬ G f = (i : Int) := by
          intro h3
          have := hf2.2
          rw [h3] at this
          rw [h2] at this
          rw [← h3] at this; exact e this.symm
        have h4 : ¬ G (i : Int) = (i : Int) := by rw [h2]; exact fun h5 => hne h5.symm
        simp [h3, h4]
      · rfl
section
variable {ls : List Lnk} {i j k n s c o : Int}
theorem agP_all : agP n ls ls.length = agR n ls := rfl
theorem agP_step (hn : 0 ≤ n) (hk : lkOk n ls) (h0 : 0 ≤ i) (h1 : i < ls.length) :
    (lnN (agP n ls i).1 (lk' ls i).f (lk' ls i).t = true → (agP n ls (i + 1)).1 = (agP n ls i).1 ∧ (agP n ls (i + 1)).2.1 = (agP n ls i).2.1) ∧
    (lnN (agP n ls i).1 (lk' ls i).f (lk' ls i).t = false → ∀ j, 0 ≤ j → j < n →
      ig (agP n ls (i + 1)).1 j = (if ig (agP n ls i).1 j = ig (agP n ls i).1 (lk' ls i).t then ig (agP n ls i).1 (lk' ls i).f else ig (agP n ls i).1 j) ∧
      ig (agP n ls (i + 1)).2.1 j = (if ig (agP n ls i).1 j = ig (agP n ls i).1 (lk' ls i).t then w64 (ig (agP n ls i).2.1 j + w64 (w64 (ig (agP n ls i).2.1 (lk' ls i).f + (lk' ls i).o) - ig (agP n ls i).2.1 (lk' ls i).t)) else ig (agP n ls i).2.1 j)) := by
  have hl := (agR_inv hn (lkOk_take hk (m := i.toNat))).1
  rw [agP_take h0 (by omega)] at hl
  rw [agP_go h0]
  constructor
  · intro h
    simp only [agF, lnR_same h, and_self]
  · intro h j h2 h3
    have h' : ¬ (ig (agP n ls i).1 (lk' ls i).f == ig (agP n ls i).1 (lk' ls i).t) = true := by
      have h4 : (ig (agP n ls i).1 (lk' ls i).f == ig (agP n ls i).1 (lk' ls i).t) = false := h
      rw [h4]; decide
    simp only [agF]
    rw [lnR_else h']
    have e : (((agP n ls i).1.length : Nat) : Int) = n := by omega
    rw [e]
    exact ln_point hl.1 hl.2 h2 h3
theorem ig_ext {a b : List It} (h : a = b) (j : Int) : ig a j = ig b j := by rw [h]
theorem agP_rep (hn : 0 ≤ n) (hk : lkOk n ls) : ∀ (m : Nat), (m : Int) ≤ ls.length → Rep n (ig (agP n ls m).1)
  | 0, _ => by
    intro i h0 h1
    have e : agP n ls ((0 : Nat) : Int) = (idL n.toNat, zrL n.toNat, true) := agP_zero
    rw [e]
    simp only []
    rw [ig_idL h0 h1, ig_idL h0 h1]; exact ⟨⟨h0, h1⟩, rfl⟩
  | m + 1, h => by
    have ih := agP_rep hn hk m (by omega)
    have hs := agP_step hn hk (i := m) (by omega) (by omega)
    have hl := hk m (by omega) (by omega)
    have e : (((m + 1 : Nat) : Nat) : Int) = (m : Int) + 1 := by omega
    rw [e]
    cases hc : lnN (agP n ls m).1 (lk' ls m).f (lk' ls m).t with
    | true => rw [(hs.1 hc).1]; exact ih
    | false =>
      refine (Rep.join ih hl.1 hl.2 ?_ (fun j h2 h3 => (hs.2 hc j h2 h3).1)).1
      simpa [lnN] using hc
theorem agP_grps (hn : 0 ≤ n) (hk : lkOk n ls) (h0 : 0 ≤ i) (h1 : i < ls.length) : grps n (ig (agP n ls (i + 1)).1) = grps n (ig (agP n ls i).1) - (if lnN (agP n ls i).1 (lk' ls i).f (lk' ls i).t = true then 0 else 1) := by
  have hr := agP_rep hn hk i.toNat (by omega)
  have e : ((i.toNat : Nat) : Int) = i := by omega
  rw [e] at hr
  have hs := agP_step hn hk h0 h1
  have hl := hk i h0 h1
  cases hc : lnN (agP n ls i).1 (lk' ls i).f (lk' ls i).t with
  | true => rw [(hs.1 hc).1]; simp
  | false =>
    rw [if_neg (by decide)]
    refine (Rep.join hr hl.1 hl.2 ?_ (fun j h2 h3 => (hs.2 hc j h2 h3).1)).2
    simpa [lnN] using hc
theorem grps_start (hn : 0 ≤ n) : grps n (ig (agP n ls 0).1) = n := by
  rw [agP_zero]
  unfold grps
  rw [cnt_all (fun i hi => by simp only []; rw [ig_idL (by omega) (by omega)]; simp)]
  omega
theorem nl_count (hn : 0 ≤ n) (hk : lkOk n ls) (hl : (ls.length : Int) ≤ 12) : nlC n ls = ls.length - n + grps n (ig (agR n ls).1) := by
  have key := foldI_ind (f := nlF n ls) (n := ls.length) (a := 0) (i := 0) (fun (c : Int) i => (0 ≤ c ∧ c ≤ i) ∧ c = i - n + grps n (ig (agP n ls i).1)) (by omega)
    ⟨by omega, by rw [grps_start hn]; omega⟩
    (fun c j h1 h2 hp => by
      (try simp only [] at hp ⊢)
      have hg := agP_grps hn hk h1 h2
      unfold nlF
      split
      · rename_i hc
        rw [if_pos hc] at hg
        have e : w64 (c + 1) = c + 1 := wrap_id (by omega) (by omega)
        rw [e]; omega
      · rename_i hc
        rw [if_neg hc] at hg
        omega)
  exact key.2
/-- where all clocks are connected: one group -/
theorem grps_one (hn : 1 ≤ n) (hk : lkOk n ls) (h : allI (coP n ls) 0 n = true) : grps n (ig (agR n ls).1) = 1 := by
  have hr := agP_rep (by omega) hk ls.length (by omega)
  rw [agP_all] at hr
  have h0 := hr 0 (by omega) (by omega)
  unfold grps
  refine cnt_one (a := (ig (agR n ls).1 0).toNat) (by omega) (fun i hi => ?_)
  have h1 := allI_iff.1 h i (by omega) (by omega)
  have h2 : ig (agR n ls).1 i = ig (agR n ls).1 0 := by simpa [coP] using h1
  simp only [h2, decide_eq_true_eq]
  omega
/-- how far offsets go -/
theorem agP_far (hn : 0 ≤ n) (hk : lkB n ls = true) : ∀ (m : Nat), (m : Int) ≤ ls.length → ∀ j, 0 ≤ j → j < n → -(1000000 * (4 ^ m : Nat) : Int) ≤ ig (agP n ls m).2.1 j ∧ ig (agP n ls m).2.1 j ≤ 1000000 * (4 ^ m : Nat)
  | 0, _ => by
    intro j h0 h1
    have e : agP n ls ((0 : Nat) : Int) = (idL n.toNat, zrL n.toNat, true) := agP_zero
    rw [e]
    simp only []
    rw [ig_zrL h0]; simp
  | m + 1, h => by
    intro j h0 h1
    have hb := lkB_ok hk
    have ih := agP_far hn hk m (by omega)
    have hs := agP_step hn hb.2 (i := m) (by omega) (by omega)
    have hl := hb.2 m (by omega) (by omega)
    have e : (((m + 1 : Nat) : Nat) : Int) = (m : Int) + 1 := by omega
    have hm : 4 ^ m ≤ 4 ^ 12 := Nat.pow_le_pow_right (by omega) (by omega)
    have hm1 : 1 ≤ 4 ^ m := Nat.pow_pos (by omega)
    have e4 : 4 ^ (m + 1) = 4 * 4 ^ m := by rw [Nat.pow_succ, Nat.mul_comm]
    rw [e, e4]
    have ij := ih j h0 h1
    have if' := ih _ hl.1.1 hl.1.2
    have it := ih _ hl.2.1 hl.2.2
    have ho : -1000000 ≤ (lk' ls m).o ∧ (lk' ls m).o ≤ 1000000 := by
      simp only [lkB, Bool.and_eq_true] at hk
      have h4 := allI_iff.1 hk.2 m (by omega) (by omega)
      simp only [lkP, lnkB, Bool.and_eq_true] at h4
      exact inB_iff.1 h4.2
    have h12 : (4 : Nat) ^ 12 = 16777216 := rfl
    rw [h12] at hm
    cases hc : lnN (agP n ls m).1 (lk' ls m).f (lk' ls m).t with
    | true =>
      rw [(hs.1 hc).2]
      generalize 4 ^ m = M at *
      generalize ig (agP n ls (m : Int)).2.1 j = A at *
      omega
    | false =>
      rw [(hs.2 hc j h0 h1).2]
      generalize 4 ^ m = M at *
      generalize ig (agP n ls (m : Int)).2.1 j = A at *
      generalize ig (agP n ls (m : Int)).2.1 (lk' ls m).f = B at *
      generalize ig (agP n ls (m : Int)).2.1 (lk' ls m).t = C at *
      generalize (lk' ls m).o = D at *
      split
      · have e1 : w64 (B + D) = B + D := wrap_id (by omega) (by omega)
        have e2 : w64 (B + D - C) = B + D - C := wrap_id (by omega) (by omega)
        have e3 : w64 (A + (B + D - C)) = A + (B + D - C) := wrap_id (by omega) (by omega)
        rw [e1, e2, e3]; omega
      · omega
theorem coA_far (hk : lkB n ls = true) (h0 : 0 ≤ j) (h1 : j < n) : -40000000000000 ≤ coA n ls j ∧ coA n ls j ≤ 40000000000000 := by
  have hb := lkB_ok hk
  have hf := agP_far (by omega) hk ls.length (by omega)
  have hm : 4 ^ ls.length ≤ 4 ^ 12 := Nat.pow_le_pow_right (by omega) (by omega)
  have h12 : (4 : Nat) ^ 12 = 16777216 := rfl
  rw [h12] at hm
  have f1 := hf j h0 h1
  have f2 := hf 0 (by omega) (by omega)
  rw [agP_all] at f1 f2
  generalize 4 ^ ls.length = M at *
  unfold coA
  rw [show w64 (ig (agR n ls).2.1 j - ig (agR n ls).2.1 0) = ig (agR n ls).2.1 j - ig (agR n ls).2.1 0 from wrap_id (by omega) (by omega)]
  omega
theorem co_parts (h : coO n ls = true) : lkB n ls = true ∧ (agR n ls).2.2 = true ∧ allI (coP n ls) 0 n = true := by
  simp only [coO, Bool.and_eq_true] at h
  exact h
theorem co_len (h : coO n ls = true) : (1 ≤ n ∧ n ≤ 6) ∧ ((coV n ls).length : Int) = n := by
  have hb := lkB_ok (co_parts h).1
  refine ⟨hb.1.1, ?_⟩
  unfold coV; rw [if_pos h, coL_len]; omega
theorem coV_at (h : coO n ls = true) (h0 : 0 ≤ j) (h1 : j < n) : ig (coV n ls) j = coA n ls j := by
  have e : ((j.toNat : Nat) : Int) = j := by omega
  unfold coV; rw [if_pos h]
  simp [ig, coL, List.getD, show j.toNat < n.toNat by omega, e]
theorem coV_zero (h : coO n ls = true) : ig (coV n ls) 0 = 0 := by
  have hb := co_len h
  rw [coV_at h (by omega) (by omega)]
  unfold coA; rw [Int.sub_self]; rfl
theorem nl_co (h : coO n ls = true) : nlV n ls = ls.length - n + 1 := by
  obtain ⟨h1, h2, h3⟩ := co_parts h
  have hb := lkB_ok h1
  unfold nlV; rw [if_pos h1, nl_count (by omega) hb.2 hb.1.2, grps_one hb.1.1.1 hb.2 h3]
theorem cg_coA {i j : Int} {p q : Int → Int} : cg (p i - p 0) (q i - q 0) ↔ w64 (p i - p 0) = w64 (q i - q 0) := cg_w.symm
theorem co_link (h : coO n ls = true) (h0 : 0 ≤ i) (h1 : i < ls.length) : ig (coV n ls) (lk' ls i).t = w64 (ig (coV n ls) (lk' ls i).f + (lk' ls i).o) := by
  obtain ⟨k1, k2, k3⟩ := co_parts h
  have hb := lkB_ok k1
  have hl := hb.2 i h0 h1
  rw [coV_at h hl.1.1 hl.1.2, coV_at h hl.2.1 hl.2.2]
  have hp := (agR_inv (by omega) hb.2).2.pot k2 _ (lk_mem h0 h1)
  unfold coA
  rw [w_al]
  apply cg_w.2
  simp only [cg] at *; omega
/-- all links agree -/
def pot (n : Int) (ls : List Lnk) : Int → Int := ig (agR n ls).2.1
theorem co_conn (h : coO n ls = true) (h0 : 0 ≤ j) (h1 : j < n) : Cn ls 0 j := by
  obtain ⟨k1, k2, k3⟩ := co_parts h
  have hb := lkB_ok k1
  rw [co_all (by omega) hb.2] at k3
  exact (shR_seen (by omega) hb.2 h0 h1).1 (allI_iff.1 k3 j h0 h1)
theorem co_of {ls : List Lnk} {n : Int} {p : Int → Int} (h1 : lkB n ls = true) (hp : ∀ l ∈ ls, cg (p l.t) (p l.f + l.o)) (hc : ∀ j, 0 ≤ j → j < n → Cn ls 0 j) : coO n ls = true := by
  have hb := lkB_ok h1
  have e : coO n ls = (shO n ls 0 && allI (sb (shR n ls 0).1) 0 n) := co_S h1
  rw [e, Bool.and_eq_true]
  refine ⟨(shO_iff (by omega) hb.2).2 ⟨p, fun l hl _ => hp l hl⟩, allI_iff.2 fun j h2 h3 => ?_⟩
  exact (shR_seen (by omega) hb.2 h2 h3).2 (hc j h2 h3)
theorem co_new (h : coO n ls = true) (hn : 1 < n) (hl : (ls.length : Int) < 12) (ho : o = ig (coV n ls) (n - 1)) (hs : -1000000 ≤ o ∧ o ≤ 1000000) :
    acO n ls 0 (n - 1) o = true ∧ acV n ls 0 (n - 1) o = ls ++ [⟨0, n - 1, o⟩] ∧ coO n (ls ++ [⟨0, n - 1, o⟩]) = true ∧ coV n (ls ++ [⟨0, n - 1, o⟩]) = coV n ls := by
  obtain ⟨k1, k2, k3⟩ := co_parts h
  have hb := lkB_ok k1
  have hpot := (agR_inv (by omega) hb.2).2.pot k2
  have e1 : lkB n (ls ++ [(⟨0, n - 1, o⟩ : Lnk)]) = true := by
    have k0 := k1
    simp only [lkB, Bool.and_eq_true, decide_eq_true_eq] at k1 ⊢
    refine ⟨⟨k1.1.1, by simp; omega⟩, allI_iff.2 fun i h2 h3 => ?_⟩
    simp only [List.length_append, List.length_cons, List.length_nil] at h3
    by_cases hi : i < ls.length
    · have h4 := allI_iff.1 k1.2 i h2 hi
      have e : lk' (ls ++ [(⟨0, n - 1, o⟩ : Lnk)]) i = lk' ls i := by
        unfold lk'; simp only [List.getD]; rw [List.getElem?_append_left (by omega)]
      simpa [lkP, e] using h4
    · have hi' : i.toNat = ls.length := by omega
      have e : lk' (ls ++ [(⟨0, n - 1, o⟩ : Lnk)]) i = ⟨0, n - 1, o⟩ := by
        unfold lk'; simp [List.getD, hi']
      simp only [lkP, e, lnkB, Bool.and_eq_true]
      have ew : w64 (n - 1) = n - 1 := wrap_id (by omega) (by omega)
      rw [ew]
      refine ⟨⟨⟨inB_iff.2 (by omega), inB_iff.2 (by omega)⟩, ?_⟩, inB_iff.2 hs⟩
      have : ¬ (0 : Int) = n - 1 := by omega
      simpa using this
  have hb1 := lkB_ok e1
  have hp1 : ∀ l ∈ ls ++ [(⟨0, n - 1, o⟩ : Lnk)], cg (pot n ls l.t) (pot n ls l.f + l.o) := by
    intro l hm
    rcases List.mem_append.1 hm with g | g
    · exact hpot l g
    · have e : l = ⟨0, n - 1, o⟩ := by simpa using g
      subst e
      simp only []
      rw [ho, coV_at h (by omega) (by omega)]
      unfold coA pot
      simp only [w64, IntKind.wrap_i64, cg]; omega
  have hc1 : ∀ j, 0 ≤ j → j < n → Cn (ls ++ [(⟨0, n - 1, o⟩ : Lnk)]) 0 j := fun j h2 h3 => (co_conn h h2 h3).grow
  have e2 : coO n (ls ++ [(⟨0, n - 1, o⟩ : Lnk)]) = true := co_of e1 hp1 hc1
  have e3 : allI (shO n (ls ++ [(⟨0, n - 1, o⟩ : Lnk)])) 0 n = true := allI_iff.2 fun s h2 h3 => (shO_iff ⟨h2, h3⟩ hb1.2).2 ⟨_, fun l hl _ => hp1 l hl⟩
  have e4 := ac_y e1 e3
  refine ⟨e4.1, e4.2, e2, ?_⟩
  unfold coV
  rw [if_pos h, if_pos e2]
  unfold coL
  apply List.map_congr_left
  intro j hj
  have hj : (j : Int) < n := by simp at hj; omega
  congr 1
  unfold coA
  apply cg_w.2
  have hpn := (agR_inv (by omega) hb1.2).2.pot (co_parts e2).2.1
  have hA : PotA (ls ++ [(⟨0, n - 1, o⟩ : Lnk)]) 0 (ig (agR n (ls ++ [(⟨0, n - 1, o⟩ : Lnk)])).2.1) := fun l hl _ => hpn l hl
  have hB : PotA (ls ++ [(⟨0, n - 1, o⟩ : Lnk)]) 0 (pot n ls) := fun l hl _ => hp1 l hl
  exact hA.diff hB (.refl 0) (hc1 j (by omega) hj)
end
end Go.Proofs.Ytpcaijpolkcipaa
