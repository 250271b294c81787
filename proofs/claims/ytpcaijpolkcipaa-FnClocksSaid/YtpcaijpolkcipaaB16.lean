/-
Plain laws on clock pairs: the median lies in the middle, the worst pair is as far as it is told.
No condition but those that the theorems name.
-/
import Derived.Test.YtpcaijpolkcipaaB15
namespace Go.Proofs.Ytpcaijpolkcipaa
open Eng
set_option linter.unusedSimpArgs false
set_option linter.unusedVariables false
theorem cnt_range {p : Nat → Bool} : ∀ {n : Nat}, cnt p n = (((List.range n).countP p : Nat) : Int)
  | 0 => rfl
  | n + 1 => by
    rw [List.range_succ, List.countP_append]
    simp only [cnt, cnt_range (n := n), List.countP_cons, List.countP_nil, Nat.zero_add]
    split <;> simp
theorem insK_spec {xs : List It} {n : Int} : ∀ (m : Nat) (k : Int), k.toNat ≤ m → 0 ≤ k → (∀ j, insK xs n k ≤ j → j < k → n < ig xs j) ∧ (0 < insK xs n k → ¬ n < ig xs (insK xs n k - 1))
  | 0, k, h, h0 => by
    rw [insK.eq_1, if_neg (by omega)]
    exact ⟨fun j h1 h2 => by omega, fun h => by omega⟩
  | m + 1, k, h, h0 => by
    rw [insK.eq_1]
    split
    · split
      · rename_i h1 h2
        obtain ⟨a, b⟩ := insK_spec (xs := xs) (n := n) m (k - 1) (by omega) (by omega)
        refine ⟨fun j h3 h4 => ?_, b⟩
        by_cases e : j = k - 1
        · subst e; exact h2
        · exact a j h3 (by omega)
      · rename_i h1 h2
        exact ⟨fun j h3 h4 => by omega, fun _ => h2⟩
    · exact ⟨fun j h1 h2 => by omega, fun h => by omega⟩
abbrev Srt (us : List It) : Prop := us.Pairwise (fun a b => a.n ≤ b.n)
theorem insV_srt {xs : List It} {n : Int} (h : Srt xs) : Srt (insV xs n) := by
  have h1 := insK_rng (xs := xs) (n := n) (k := xs.length) (by omega)
  obtain ⟨h2, h3⟩ := insK_spec (xs := xs) (n := n) _ xs.length (Nat.le_refl _) (by omega)
  unfold insV
  generalize insK xs n xs.length = r at *
  have hT : ∀ a ∈ xs.take r.toNat, a.n ≤ n := by
    intro a ha
    obtain ⟨i, hi, rfl⟩ := List.mem_iff_getElem.1 ha
    simp only [List.length_take] at hi
    have h4 := h3 (by omega)
    have hr : (r - 1).toNat < xs.length := by omega
    have e : ig xs (r - 1) = (xs[(r - 1).toNat]).n := by simp only [ig, List.getD, List.getElem?_eq_getElem hr, Option.getD_some]
    rw [e] at h4
    rw [List.getElem_take]
    by_cases hc : i = (r - 1).toNat
    · subst hc; omega
    · have := List.pairwise_iff_getElem.1 h i (r - 1).toNat (by omega) hr (by omega)
      omega
  have hD : ∀ b ∈ xs.drop r.toNat, n ≤ b.n := by
    intro b hb
    obtain ⟨i, hi, rfl⟩ := List.mem_iff_getElem.1 hb
    simp only [List.length_drop] at hi
    rw [List.getElem_drop]
    have h4 := h2 ((r.toNat + i : Nat) : Int) (by omega) (by omega)
    have hr : r.toNat + i < xs.length := by omega
    have e : ig xs ((r.toNat + i : Nat) : Int) = (xs[r.toNat + i]).n := by
      have : (((r.toNat + i : Nat) : Int)).toNat = r.toNat + i := by omega
      simp only [ig, this]
      simp [List.getD, List.getElem?_eq_getElem hr]
    rw [e] at h4; omega
  have hs : (xs.take r.toNat ++ xs.drop r.toNat).Pairwise (fun a b => a.n ≤ b.n) := by rw [List.take_append_drop]; exact h
  rw [List.pairwise_append] at hs
  obtain ⟨s1, s2, s3⟩ := hs
  show List.Pairwise _ _
  rw [List.append_assoc, List.pairwise_append]
  refine ⟨s1, ?_, ?_⟩
  · rw [List.singleton_append, List.pairwise_cons]
    exact ⟨fun b hb => hD b hb, s2⟩
  · intro a ha b hb
    rcases List.mem_append.1 hb with hb | hb
    · have e : b = ⟨n⟩ := by simpa using hb
      subst e; exact hT a ha
    · exact s3 a ha b hb
theorem insV_perm {xs : List It} {n : Int} : (insV xs n).Perm (⟨n⟩ :: xs) := by
  unfold insV
  generalize (insK xs n xs.length).toNat = r
  have h : (List.take r xs ++ [(⟨n⟩ : It)] ++ List.drop r xs).Perm ((⟨n⟩ : It) :: (List.take r xs ++ List.drop r xs)) := by
    rw [List.append_assoc]; exact List.perm_middle
  rwa [List.take_append_drop] at h
theorem dfR_spec {ts : List Pr} : Srt (dfR ts) ∧ (dfR ts).Perm ((List.range ts.length).map (fun (i : Nat) => (⟨prd ts i⟩ : It))) := by
  have h := foldI_ind (f := dfF ts) (n := ts.length) (fun (us : List It) i => Srt us ∧ us.Perm ((List.range i.toNat).map (fun (i : Nat) => (⟨prd ts i⟩ : It)))) (a := []) (i := 0) (by omega)
    ⟨List.Pairwise.nil, by simp⟩
    (fun a j h1 h2 h => by
      (try simp only [] at h ⊢)
      refine ⟨insV_srt h.1, ?_⟩
      have e : (j + 1).toNat = j.toNat + 1 := by omega
      have e2 : ((j.toNat : Nat) : Int) = j := by omega
      rw [e, List.range_succ, List.map_append]
      simp only [List.map_cons, List.map_nil, e2]
      refine insV_perm.trans ?_
      refine (List.Perm.cons _ h.2).trans ?_
      exact (List.perm_append_singleton _ _).symm)
  refine ⟨h.1, ?_⟩
  have h2 := h.2
  simp only [Int.toNat_natCast] at h2
  exact h2
theorem med_split {us : List It} (h : Srt us) {m : Nat} (hm : m < us.length) :
    us.countP (fun x => decide (x.n < (us[m]).n)) ≤ m ∧ us.countP (fun x => decide ((us[m]).n < x.n)) ≤ us.length - 1 - m := by
  have e : us = us.take m ++ us[m] :: us.drop (m + 1) := by
    rw [← List.drop_eq_getElem_cons hm, List.take_append_drop]
  have hs : (us.take m ++ us[m] :: us.drop (m + 1)).Pairwise (fun a b => a.n ≤ b.n) := by rw [← e]; exact h
  rw [List.pairwise_append] at hs
  obtain ⟨s1, s2, s3⟩ := hs
  rw [List.pairwise_cons] at s2
  generalize us[m] = v at *
  constructor
  · rw [e, List.countP_append, List.countP_cons]
    have h1 : (us.take m).countP (fun x => decide (x.n < v.n)) ≤ m := by
      have := List.countP_le_length (p := fun x => decide (x.n < v.n)) (l := us.take m)
      simp only [List.length_take] at this; omega
    have h2 : (us.drop (m + 1)).countP (fun x => decide (x.n < v.n)) = 0 := by
      rw [List.countP_eq_zero]
      intro a ha
      have := s2.1 a ha
      simp; omega
    rw [h2]; simp; omega
  · rw [e, List.countP_append, List.countP_cons]
    have h1 : (us.take m).countP (fun x => decide (v.n < x.n)) = 0 := by
      rw [List.countP_eq_zero]
      intro a ha
      have := s3 a ha v (by simp)
      simp; omega
    have h2 : (us.drop (m + 1)).countP (fun x => decide (v.n < x.n)) ≤ us.length - 1 - m := by
      have := List.countP_le_length (p := fun x => decide (v.n < x.n)) (l := us.drop (m + 1))
      simp only [List.length_drop] at this; omega
    have h3 : (us.take m ++ v :: us.drop (m + 1)).length = us.length := by rw [← e]
    rw [h1, h3]; simp; omega
section
variable {ts : List Pr} {i d k : Int}
def bel (ts : List Pr) (k : Int) : Int := cnt (fun i => decide (prd ts i < medV ts)) k.toNat
def abv (ts : List Pr) (k : Int) : Int := cnt (fun i => decide (medV ts < prd ts i)) k.toNat
theorem cnt_rng {p : Nat → Bool} : ∀ {n : Nat}, 0 ≤ cnt p n ∧ cnt p n ≤ n
  | 0 => by simp [cnt]
  | n + 1 => by
    have := cnt_rng (p := p) (n := n)
    simp only [cnt]; split <;> omega
theorem bel_zero : bel ts 0 = 0 := rfl
theorem abv_zero : abv ts 0 = 0 := rfl
theorem bel_go (h : 0 ≤ k) : bel ts (k + 1) = if prd ts k < medV ts then bel ts k + 1 else bel ts k := by
  have e : (k + 1).toNat = k.toNat + 1 := by omega
  have e2 : ((k.toNat : Nat) : Int) = k := by omega
  simp only [bel, e, cnt, e2, decide_eq_true_eq]
  split <;> omega
theorem abv_go (h : 0 ≤ k) : abv ts (k + 1) = if medV ts < prd ts k then abv ts k + 1 else abv ts k := by
  have e : (k + 1).toNat = k.toNat + 1 := by omega
  have e2 : ((k.toNat : Nat) : Int) = k := by omega
  simp only [abv, e, cnt, e2, decide_eq_true_eq]
  split <;> omega
theorem med_law (h : cpB ts = true) : 2 * bel ts ts.length ≤ ts.length ∧ 2 * abv ts ts.length ≤ ts.length := by
  have hl := cpB_len h
  obtain ⟨s1, s2⟩ := dfR_spec (ts := ts)
  have hd := dfR_len (ts := ts)
  have h2 := half_lt (n := (dfR ts).length) (by omega) (by omega)
  have ew : IntKind.i64.wrap (((dfR ts).length : Int) - 1) = ((dfR ts).length : Int) - 1 := wrap_id (by omega) (by omega)
  have hm : ∃ m : Nat, m < (dfR ts).length ∧ medV ts = ((dfR ts).getD m default).n ∧ 2 * m + 1 ≤ (dfR ts).length ∧ (dfR ts).length ≤ 2 * m + 2 := by
    refine ⟨((IntKind.i64.wrap (((dfR ts).length : Int) - 1)).tdiv 2).toNat, by omega, rfl, ?_, ?_⟩
    · rw [ew, Int.tdiv_eq_ediv_of_nonneg (by omega)]; omega
    · rw [ew, Int.tdiv_eq_ediv_of_nonneg (by omega)]; omega
  obtain ⟨m, m1, m2, m3, m4⟩ := hm
  have e : ((dfR ts).getD m default) = (dfR ts)[m] := by simp [List.getD, List.getElem?_eq_getElem m1]
  rw [e] at m2
  obtain ⟨k1, k2⟩ := med_split s1 m1
  rw [← m2] at k1 k2
  rw [s2.countP_eq, List.countP_map] at k1 k2
  have e1 : bel ts ts.length = (((List.range ts.length).countP ((fun (x : It) => decide (x.n < medV ts)) ∘ fun (i : Nat) => (⟨prd ts i⟩ : It)) : Nat) : Int) := by
    unfold bel
    have : ((ts.length : Nat) : Int).toNat = ts.length := by omega
    rw [this, cnt_range]; rfl
  have e2 : abv ts ts.length = (((List.range ts.length).countP ((fun (x : It) => decide (medV ts < x.n)) ∘ fun (i : Nat) => (⟨prd ts i⟩ : It)) : Nat) : Int) := by
    unfold abv
    have : ((ts.length : Nat) : Int).toNat = ts.length := by omega
    rw [this, cnt_range]; rfl
  rw [e1, e2]
  omega
theorem absV_nn {n : Int} (h : -9223372036854775808 < n ∧ n ≤ 9223372036854775807) : 0 ≤ absV n := by
  unfold absV
  split
  · rw [wrap_id (by omega) (by omega)]; omega
  · omega
theorem prd_bd (h : cpB ts = true) (h0 : 0 ≤ i) (h1 : i < ts.length) : -1000000 ≤ prd ts i ∧ prd ts i ≤ 1000000 := by
  have key : ∀ (m : Nat) (k : Int), (ts.length - k).toNat ≤ m → 0 ≤ k → cpGo ts k = true → ∀ j, k ≤ j → j < ts.length → Pr.b' (ts.getD j.toNat default) = true := by
    intro m
    induction m with
    | zero => intro k h1 h2 h3 j h4 h5; omega
    | succ m ih =>
      intro k h1 h2 h3 j h4 h5
      rw [cpGo.eq_1, if_pos (by omega)] at h3
      split at h3
      · rename_i hc
        by_cases e : j = k
        · subst e; exact hc.1
        · exact ih (k + 1) (by omega) (by omega) h3 j (by omega) h5
      · cases h3
  simp only [cpB, Bool.and_eq_true] at h
  have h2 := key _ 0 (Nat.le_refl _) (by omega) h.2 i h0 h1
  simp only [Pr.b', Bool.and_eq_true] at h2
  have a := inB_iff.1 h2.1
  have b := inB_iff.1 h2.2
  unfold prd
  have e : w64 ((ts.getD i.toNat default).b - (ts.getD i.toNat default).a) = (ts.getD i.toNat default).b - (ts.getD i.toNat default).a := wrap_id (by omega) (by omega)
  rw [e]; omega
theorem medV_bd (h : cpB ts = true) : -1000000 ≤ medV ts ∧ medV ts ≤ 1000000 := by
  have hl := cpB_len h
  obtain ⟨s1, s2⟩ := dfR_spec (ts := ts)
  have hd := dfR_len (ts := ts)
  have h2 := half_lt (n := (dfR ts).length) (by omega) (by omega)
  unfold medV ig
  generalize ((IntKind.i64.wrap (((dfR ts).length : Int) - 1)).tdiv 2) = q at *
  have hq : q.toNat < (dfR ts).length := by omega
  have e : ((dfR ts).getD q.toNat default) = (dfR ts)[q.toNat] := by simp [List.getD, List.getElem?_eq_getElem hq]
  rw [e]
  have hmem := s2.mem_iff.1 (List.getElem_mem hq)
  obtain ⟨i, hi, hx⟩ := List.mem_map.1 hmem
  have hi : i < ts.length := by simpa using hi
  rw [← hx]
  exact prd_bd h (by omega) (by omega)
theorem wp_law (h : cpB ts = true) : (0 ≤ (wpR ts).1 ∧ (wpR ts).1 < ts.length) ∧ (wpR ts).2 = wpD ts (wpR ts).1 := by
  have hl := cpB_len h
  have hm := medV_bd h
  have key := foldI_ind (f := wpF ts) (n := ts.length) (a := (0, -1)) (i := 0) (fun (q : Int × Int) i => (i = 0 ∧ q = (0, -1)) ∨ (0 < i ∧ (0 ≤ q.1 ∧ q.1 < ts.length) ∧ q.2 = wpD ts q.1)) (by omega)
    (.inl ⟨rfl, rfl⟩)
    (fun q j h1 h2 hp => by
      (try simp only [] at hp ⊢)
      have hj := prd_bd h h1 h2
      have hn : 0 ≤ wpD ts j := by
        unfold wpD
        have e : w64 (prd ts j - medV ts) = prd ts j - medV ts := wrap_id (by omega) (by omega)
        rw [e]; exact absV_nn (by omega)
      right
      refine ⟨by omega, ?_⟩
      unfold wpF
      rcases hp with ⟨h3, h4⟩ | ⟨h3, h4, h5⟩
      · rw [if_pos (by rw [h4]; simp only []; omega)]
        exact ⟨⟨h1, h2⟩, rfl⟩
      · split
        · exact ⟨⟨h1, h2⟩, rfl⟩
        · exact ⟨h4, h5⟩)
  rcases key with ⟨h3, _⟩ | ⟨_, h4, h5⟩
  · omega
  · exact ⟨h4, h5⟩
end
end Go.Proofs.Ytpcaijpolkcipaa
