/-
Contracts of what reads a number, over plain data.
No condition but those that the contracts name.
-/
import Derived.Test.YtgcmahhejblpkaaW6
import Derived.Test.YtgcmahhejblpkaaVZ
namespace Go.Proofs.Ytgcmahhejblpkaa
open Eng
set_option linter.unusedSimpArgs false
set_option linter.unusedVariables false
def valD (l : List UInt8) : Int := l.foldl (fun a x => 10 * a + ((x.toNat : Int) - 48)) 0
theorem valD_snoc {l : List UInt8} {x : UInt8} : valD (l ++ [x]) = 10 * valD l + ((x.toNat : Int) - 48) := by simp [valD, List.foldl_append]
def digL (l : List UInt8) : Prop := ∀ x ∈ l, 48 ≤ x.toNat ∧ x.toNat ≤ 57
theorem dgS_b {d : Nat} (h : d < 10) : bs (dgS d) = [UInt8.ofNat (48 + d)] ∧ (UInt8.ofNat (48 + d)).toNat = 48 + d := by
  refine ⟨rfl, ?_⟩
  rw [UInt8.toNat_ofNat']; omega
theorem numS_val : ∀ (j : Nat), digL (bs (numS j)) ∧ valD (bs (numS j)) = j ∧ 1 ≤ (bs (numS j)).length ∧ (0 < j → ∀ x, (bs (numS j))[0]? = some x → x.toNat ≠ 48)
  | j => by
    by_cases h : j < 10
    · rw [numS_small h]
      obtain ⟨e1, e2⟩ := dgS_b h
      rw [e1]
      refine ⟨?_, ?_, by simp, ?_⟩
      · intro x hx
        simp only [List.mem_singleton] at hx; subst hx; rw [e2]; omega
      · have e3 : valD [UInt8.ofNat (48 + j)] = 10 * 0 + (((UInt8.ofNat (48 + j)).toNat : Int) - 48) := rfl
        rw [e3, e2]; omega
      · intro h0 x hx
        simp only [List.getElem?_cons_zero, Option.some.injEq] at hx; subst hx; rw [e2]; omega
    · rw [numS_big h, bs_app]
      obtain ⟨g1, g2, g3, g4⟩ := numS_val (j / 10)
      obtain ⟨e1, e2⟩ := dgS_b (d := j % 10) (by omega)
      rw [e1]
      refine ⟨?_, ?_, by simp, ?_⟩
      · intro x hx
        rcases List.mem_append.1 hx with hx | hx
        · exact g1 x hx
        · simp only [List.mem_singleton] at hx; subst hx; rw [e2]; omega
      · rw [valD_snoc, g2, e2]; omega
      · intro h0 x hx
        rw [List.getElem?_append_left (by omega)] at hx
        exact g4 (by omega) x hx
theorem numS_sz : ∀ (k j : Nat), j < 10 ^ (k + 1) → (numS j).size ≤ k + 1
  | 0, j, h => by rw [numS_small (by simpa using h), dgS_size]; omega
  | k + 1, j, h => by
    by_cases h1 : j < 10
    · rw [numS_small h1, dgS_size]; omega
    · rw [numS_big h1, ByteArray.size_append, dgS_size]
      have := numS_sz k (j / 10) (by rw [Nat.pow_succ] at h; omega)
      omega
section
variable {s : ByteArray} {j : Nat} {i n : Int}
theorem nm_sz (hj : j ≤ 999999) (e : s = numS j) : 1 ≤ s.size ∧ s.size ≤ 6 := by
  have h1 := (numS_val j).2.2.1
  have h2 := numS_sz 5 j (by omega)
  rw [bs_len] at h1
  rw [e]; omega
theorem bs_at {n : Nat} (h : n < s.size) : ∃ x, (bs s)[n]? = some x ∧ s.data.toList[n]? = some x ∧ x ∈ bs s := by
  have hi : n < (bs s).length := by rw [bs_len]; omega
  exact ⟨(bs s)[n], List.getElem?_eq_getElem hi, List.getElem?_eq_getElem hi, List.getElem_mem hi⟩
theorem nm_dig (e : s = numS j) {n : Nat} (h : n < s.size) : 48 ≤ ((s.data.toList[n]?).getD 0).toNat ∧ ((s.data.toList[n]?).getD 0).toNat ≤ 57 := by
  obtain ⟨x, h1, h2, h3⟩ := bs_at h
  rw [h2]
  have := (numS_val j).1 x (by rw [← e]; exact h3)
  exact this
theorem nm_hd (e : s = numS j) (h : 1 < s.size) : ((s.data.toList[0]?).getD 0).toNat ≠ 48 := by
  obtain ⟨x, h1, h2, h3⟩ := bs_at (s := s) (n := 0) (by omega)
  rw [h2]
  refine (numS_val j).2.2.2 ?_ x (by rw [← e]; exact h1)
  by_cases h0 : j = 0
  · subst h0
    have h9 : (numS 0).size = 1 := by rw [numS_small (by omega), dgS_size]
    rw [e, h9] at h; omega
  · omega
theorem valD_le : ∀ {l : List UInt8}, digL l → 0 ≤ valD l ∧ ∀ m, valD (l.take m) ≤ valD l := by
  have key : ∀ (k : Nat) (l : List UInt8), l.length = k → digL l → 0 ≤ valD l ∧ ∀ m, valD (l.take m) ≤ valD l := by
    intro k
    induction k with
    | zero => intro l h _; have := List.eq_nil_of_length_eq_zero h; subst this; simp [valD]
    | succ k ih =>
      intro l h hd
      have hne : l ≠ [] := by intro e; subst e; simp at h
      obtain ⟨l', x, rfl⟩ : ∃ l' x, l = l' ++ [x] := ⟨l.dropLast, l.getLast hne, (List.dropLast_concat_getLast hne).symm⟩
      have hx := hd x (by simp)
      obtain ⟨h1, h2⟩ := ih l' (by simp at h; exact h) fun y hy => hd y (by simp [hy])
      rw [valD_snoc]
      refine ⟨by omega, fun m => ?_⟩
      by_cases hm : m ≤ l'.length
      · rw [List.take_append_of_le_length hm]
        have := h2 m; omega
      · rw [List.take_of_length_le (by simp; omega), valD_snoc]; omega
  exact fun {l} h => key _ l rfl h
theorem nm_take (hj : j ≤ 999999) (e : s = numS j) (m : Nat) : 0 ≤ valD ((bs s).take m) ∧ valD ((bs s).take m) ≤ 999999 := by
  obtain ⟨h1, h2, _⟩ := numS_val j
  rw [← e] at h1 h2
  have h3 := (valD_le h1).2 m
  have h4 : 0 ≤ valD ((bs s).take m) := (valD_le (l := (bs s).take m) fun x hx => h1 x (List.mem_of_mem_take hx)).1
  omega
theorem u8sub {x : Int} (h0 : 48 ≤ x) (h1 : x ≤ 57) : IntKind.u8.wrap (x - 48) = x - 48 := by
  rw [IntKind.wrap_u8]; omega
theorem nm_step (hj : j ≤ 999999) (e : s = numS j) (h0 : 0 ≤ i) (h1 : i < s.size) (h : n = valD ((bs s).take i.toNat)) (hd : 48 ≤ (((s.data.toList[i.toNat]?).getD 0).toNat : Int) ∧ (((s.data.toList[i.toNat]?).getD 0).toNat : Int) ≤ 57) :
    10 * n + ((((s.data.toList[i.toNat]?).getD 0).toNat : Int) - 48) = valD ((bs s).take (i + 1).toNat) := by
  have e1 : (i + 1).toNat = i.toNat + 1 := by omega
  have hi : i.toNat < (bs s).length := by rw [bs_len]; omega
  have e2 : s.data.toList[i.toNat]? = some (bs s)[i.toNat] := List.getElem?_eq_getElem hi
  rw [e1, List.take_add_one, List.getElem?_eq_getElem hi]
  simp only [Option.toList_some]
  rw [valD_snoc, ← h, e2]; rfl
theorem nm_pos {m : Nat} (h : ¬ (((m : Int) == 0) = true)) : 0 < (m : Int) := by
  have : ¬ (m : Int) = 0 := by simpa using h
  omega
theorem nm_ne {m : Nat} (h : ((m : Int) == 0) = true) : m = 0 := by
  have : (m : Int) = 0 := by simpa using h
  omega
theorem nm_all (e : s = numS j) (h0 : 0 ≤ i) (h1 : ¬ i < s.size) (h : n = valD ((bs s).take i.toNat)) : n = j := by
  rw [h, List.take_of_length_le (by rw [bs_len]; omega), e, (numS_val j).2.1]
end
set_option maxRecDepth 100000 in
set_option maxHeartbeats 4000000 in
theorem number_gc {s : ByteArray} (hl : s.size ≤ 1048576) : GC Try.prog 105 [vs s] [] (fun r_ hs_ => ∃ (v : Int) (b : Bool), (∀ j : Nat, j ≤ 999999 → s = numS j → v = j ∧ b = true) ∧ r_ = .tup [vi v, vb b] ∧ hs_ = []) := by
  refine GC.of_func [] Try.call105 Try.func105 rfl ⟨by kernel_rfl, by kernel_rfl⟩ (by kernel_rfl) ?_
  rw [Try.results105]
  simp -implicitDefEqProofs (maxSteps := 4000000) only [sim0, sim1, sim2, sim3, sim4, sim5, sim6, sim7, sim8, ↓reduceIte, Nat.reduceEqDiff, Nat.reduceAdd, Nat.reduceMul, Nat.reduceSub, Nat.reduceLT, Nat.reduceLeDiff, reduceCtorEq, Int.reduceToNat, Int.reduceNeg, Nat.reduceBEq, simx, ty]
  repeat' (first
    | ((with_reducible refine onCode ?_); first
      | (refine onLid 5 ?_ (by rfl); refine acode_prune [0, 2, 3, 4, 5] ?_; simp only [prn_cons, prn_nil, lk_cons, lk_emp, Nat.reduceEqDiff, ↓reduceIte]; refine acode_loopS2 5 (by rfl) (α := Int × Int) (fun ⟨i, n⟩ => [(5, vi i), (4, vi n)]) [2, 3, 24, 25, 26, 27, 28, 29, 30, 31, 32, 33, 34, 35, 36, 37, 38, 39, 40, 41, 42, 43, 44, 45, 46, 47] [2, 3] (by kernel_rfl) (fun ⟨i, n⟩ => (0 ≤ i ∧ i ≤ s.size) ∧ s.size ≤ 9 ∧ (∀ j : Nat, j ≤ 999999 → s = numS j → n = valD ((bs s).take i.toNat))) (fun ⟨i, n⟩ => (s.size - i).toNat) ((0, 0)) ?_ (by (try simp only []) <;> first | (exact ⟨by omega, by omega, fun j _ _ => by simp [valD]⟩) | fail) ?_; (focus ((try dsimp only []); (repeat' (first | exact agr_none | exact lk_hd | refine lk_tl (by decide) ?_ | refine agr_one ?_ ?_)); done)); rintro ⟨i, n⟩ hJ; (try simp only [] at hJ); have hJ5 := hJ; simp -implicitDefEqProofs (maxSteps := 4000000) only [sim0, sim1, sim2, sim3, sim4, sim5, sim6, sim7, sim8, ↓reduceIte, Nat.reduceEqDiff, Nat.reduceAdd, Nat.reduceMul, Nat.reduceSub, Nat.reduceLT, Nat.reduceLeDiff, reduceCtorEq, Int.reduceToNat, Int.reduceNeg, Nat.reduceBEq, simx, ty])
      | fail)
    | ((with_reducible refine onLps ?_); first
      | (refine lps2_end (α := Int × Int) (mods := (fun ⟨i, n⟩ => [(5, vi i), (4, vi n)])) (_, _) (by (try dsimp only []); simp only [agr_cons, agr_nil, lk_cons, lk_emp, Nat.reduceEqDiff, ↓reduceIte, and_true]; repeat' (first | rfl | apply And.intro)) (by unfold undK; kernel_rfl) ?_ ?_ <;> ((try simp only []); ((have e_ : IntKind.i64.wrap (i + 1) = i + 1 := wrap_id (by omega) (by omega); (try simp only [e_] at hq ⊢); first | omega | (refine ⟨by omega, by omega, fun j hj e => ?_⟩; have g := hJ5.2.2 j hj e; have g1 := nm_take hj e i.toNat; have g2 := nm_step hj e hJ5.1.1 (by omega) g (by omega); rw [u8sub (by omega) (by omega), wrap_id (n := 10 * n) (by omega) (by omega), wrap_id (n := (((s.data.toList[i.toNat]?).getD 0).toNat : Int) - 48) (by omega) (by omega), wrap_id (by omega) (by omega)]; exact g2)))))
      | fail)
    | ((with_reducible refine onFin ?_); first
      | (refine fin_K (by (try simp -implicitDefEqProofs (maxSteps := 4000000) only [sim0, sim1, sim2, sim3, sim4, sim5, sim6, sim7, sim8, ↓reduceIte, Nat.reduceEqDiff, Nat.reduceAdd, Nat.reduceMul, Nat.reduceSub, Nat.reduceLT, Nat.reduceLeDiff, reduceCtorEq, Int.reduceToNat, Int.reduceNeg, Nat.reduceBEq, simx, ty, fins, funs, idn, ids, List.filter_nil, List.filter_cons, List.map_nil, fins]); first | done | (simp only [plnLL, pln, Value.oneCell', List.all_cons, List.all_nil, plnH, Sg.pl, Bool.and_true, Bool.and_self]; done) | rfl) (by rfl) ?_; simp -implicitDefEqProofs (maxSteps := 4000000) only [sim0, sim1, sim2, sim3, sim4, sim5, sim6, sim7, sim8, ↓reduceIte, Nat.reduceEqDiff, Nat.reduceAdd, Nat.reduceMul, Nat.reduceSub, Nat.reduceLT, Nat.reduceLeDiff, reduceCtorEq, Int.reduceToNat, Int.reduceNeg, Nat.reduceBEq, simx, ty, fins, funs, idn, ids, List.filter_nil, List.filter_cons, List.map_nil]; (first | (refine ⟨_, _, fun j hj e => ⟨?_, rfl⟩, rfl⟩; exact nm_all e hJ5.1.1 (by assumption) (hJ5.2.2 j hj e)) | (refine ⟨_, _, fun j hj e => ?_, rfl⟩; exfalso; have g1 := nm_sz hj e; first | omega | (have g3 := nm_ne hq; omega) | (have g2 := nm_dig (n := i.toNat) e (by omega); omega) | (have g2 := nm_hd e (by omega); simp at *; omega)) | fail))
      | fail)
    | (with_reducible refine ite_intro (fun hq => ?_) (fun hq => ?_))
    | (with_reducible refine And.intro (fun hq => ?_) (fun hq => ?_))
    | (with_reducible refine And.intro ?_ ?_)
    | ((fail_if_success (with_reducible refine onCode ?_)); (fail_if_success (with_reducible refine onLps ?_)); (fail_if_success (with_reducible refine onLpd ?_)); (fail_if_success (with_reducible refine onLpe ?_)); (fail_if_success (with_reducible refine onFin ?_)); (fail_if_success (with_reducible refine onCall ?_)); (fail_if_success (with_reducible refine onQcall ?_)); first | ((first | omega | (refine nm_pos ?_; assumption)); done) | omega | (rw [wrap_id (by omega) (by omega)]; omega) | (first | (refine ⟨_, _, fun j hj e => ⟨?_, rfl⟩, rfl⟩; exact nm_all e hJ5.1.1 (by assumption) (hJ5.2.2 j hj e)) | (refine ⟨_, _, fun j hj e => ?_, rfl⟩; exfalso; have g1 := nm_sz hj e; first | omega | (have g3 := nm_ne hq; omega) | (have g2 := nm_dig (n := i.toNat) e (by omega); omega) | (have g2 := nm_hd e (by omega); simp at *; omega)) | fail)))

set_option maxRecDepth 100000 in
set_option maxHeartbeats 4000000 in
theorem l1NumN_gc {n : Int} (h : -1000000 ≤ n ∧ n < 0) : GC Try.prog 101 [vi n] [] (fun r_ hs_ => r_ = vs (⟨#[45]⟩ ++ numS (-n).toNat) ∧ hs_ = []) := by
  refine GC.of_func [(5, .val 0 (.val 1 (.val 2 (.val 3 (.val 4 (.val 5 (.val 6 (.val 7 (.val 8 (.val 9 (.val 10 (.done))))))))))))] Try.call101 Try.func101 rfl ⟨by kernel_rfl, by kernel_rfl⟩ (by kernel_rfl) ?_
  rw [Try.results101]
  simp -implicitDefEqProofs (maxSteps := 4000000) only [sim0, sim1, sim2, sim3, sim4, sim5, sim6, sim7, sim8, ↓reduceIte, Nat.reduceEqDiff, Nat.reduceAdd, Nat.reduceMul, Nat.reduceSub, Nat.reduceLT, Nat.reduceLeDiff, reduceCtorEq, Int.reduceToNat, Int.reduceNeg, Nat.reduceBEq, simx, ty]
  repeat' (first
    | ((with_reducible refine onCall ?_); first
      | (refine GC.callS (l1Num_gc ?_) rfl rfl ?_ <;> try simp -implicitDefEqProofs (maxSteps := 4000000) only [sim0, sim1, sim2, sim3, sim4, sim5, sim6, sim7, sim8, ↓reduceIte, Nat.reduceEqDiff, Nat.reduceAdd, Nat.reduceMul, Nat.reduceSub, Nat.reduceLT, Nat.reduceLeDiff, reduceCtorEq, Int.reduceToNat, Int.reduceNeg, Nat.reduceBEq, simx, ty])
      | fail)
    | ((with_reducible refine onQcall ?_); first
      | (refine qcallS (l1Num_gc ?_) rfl rfl ?_ <;> try simp -implicitDefEqProofs (maxSteps := 4000000) only [sim0, sim1, sim2, sim3, sim4, sim5, sim6, sim7, sim8, ↓reduceIte, Nat.reduceEqDiff, Nat.reduceAdd, Nat.reduceMul, Nat.reduceSub, Nat.reduceLT, Nat.reduceLeDiff, reduceCtorEq, Int.reduceToNat, Int.reduceNeg, Nat.reduceBEq, simx, ty])
      | fail)
    | ((with_reducible refine onFin ?_); first
      | (refine fin_nil ?_; (first | (first | (have e9 : IntKind.i64.wrap (0 - n) = -n := (by rw [wrap_id (n := 0 - n) (by omega) (by omega)]; omega); rw [e9]; rfl) | (exfalso; omega)) | (simp_all [fins]; done) | (simp_all [-Int.not_lt, -Int.not_le, fins]; done) | (simp_all [fins]; omega)))
      | fail)
    | ((exfalso; omega))
    | (with_reducible refine ite_intro (fun hq => ?_) (fun hq => ?_))
    | (with_reducible refine And.intro (fun hq => ?_) (fun hq => ?_))
    | (with_reducible refine And.intro ?_ ?_)
    | ((fail_if_success (with_reducible refine onCode ?_)); (fail_if_success (with_reducible refine onLps ?_)); (fail_if_success (with_reducible refine onLpd ?_)); (fail_if_success (with_reducible refine onLpe ?_)); (fail_if_success (with_reducible refine onFin ?_)); (fail_if_success (with_reducible refine onCall ?_)); (fail_if_success (with_reducible refine onQcall ?_)); first | ((first | omega | (rw [wrap_id (n := 0 - n) (by omega) (by omega)]; omega) | ((try simp only [ByteArray.size_append, mx64]); rw [wrap_id (n := 0 - n) (by omega) (by omega)]; have s9 := numS_size (0 - n).toNat; have s8 : (⟨#[45]⟩ : ByteArray).size = 1 := rfl; omega)); done) | omega | (rw [wrap_id (by omega) (by omega)]; omega) | (first | (have e9 : IntKind.i64.wrap (0 - n) = -n := (by rw [wrap_id (n := 0 - n) (by omega) (by omega)]; omega); rw [e9]; rfl) | (exfalso; omega))))

def intS (n : Int) : ByteArray := if n < 0 then ⟨#[45]⟩ ++ numS (-n).toNat else numS n.toNat
theorem l1NumZ_gc {n : Int} (h : -1000000 ≤ n ∧ n ≤ 1000000) : GC Try.prog 101 [vi n] [] (fun r_ hs_ => r_ = vs (intS n) ∧ hs_ = []) := by
  unfold intS
  by_cases hn : n < 0
  · rw [if_pos hn]; exact l1NumN_gc ⟨h.1, hn⟩
  · rw [if_neg hn]; exact l1Num_gc ⟨by omega, h.2⟩
def bdN (i n : Int) : Prop := 0 ≤ n ∧ (i = 0 → n = 0) ∧ (i = 1 → n ≤ 9) ∧ (i = 2 → n ≤ 99) ∧ (i = 3 → n ≤ 999) ∧ (i = 4 → n ≤ 9999) ∧ (i = 5 → n ≤ 99999) ∧ (i = 6 → n ≤ 999999) ∧ 0 ≤ i ∧ i ≤ 6
theorem bdN_zero : bdN 0 0 := by unfold bdN; omega
theorem bdN_go {i n x : Int} (h : bdN i n) (hi : i < 6) (h0 : 48 ≤ x ∧ x ≤ 57) : bdN (i + 1) (10 * n + (x - 48)) := by unfold bdN at *; omega
theorem bdN_le {i n : Int} (h : bdN i n) : 0 ≤ n ∧ n ≤ 999999 := by unfold bdN at *; omega
theorem nm_w {n x : Int} (h : 0 ≤ n ∧ n ≤ 999999) (h0 : 48 ≤ x ∧ x ≤ 57) : IntKind.i64.wrap (IntKind.i64.wrap (10 * n) + IntKind.i64.wrap (IntKind.u8.wrap (x - 48))) = 10 * n + (x - 48) := by
  rw [u8sub h0.1 h0.2, wrap_id (n := 10 * n) (by omega) (by omega), wrap_id (n := x - 48) (by omega) (by omega), wrap_id (by omega) (by omega)]
theorem bdN_i {i n : Int} {Q : Prop} (h : bdN i n ∧ Q) : 0 ≤ i ∧ i ≤ 6 ∧ 0 ≤ n ∧ n ≤ 999999 := by
  have h1 := h.1
  unfold bdN at h1; omega
section
variable {s t : ByteArray} {j : Nat} {i n : Int} {Q : Prop}
theorem rd_neg (e : s = numS j) (h : 1 < (s.size : Int)) (h2 : (((((s.data.toList[0]?).getD 0).toNat : Nat) : Int) == 45) = true) : False := by
  have g := nm_dig (n := 0) e (by omega)
  have g2 : ((((s.data.toList[0]?).getD 0).toNat : Nat) : Int) = 45 := by simpa using h2
  omega
theorem rd_dig (e : s = numS j) (h : bdN i n ∧ Q) (hi : i < (s.size : Int)) : 48 ≤ ((((s.data.toList[i.toNat]?).getD 0).toNat : Nat) : Int) ∧ ((((s.data.toList[i.toNat]?).getD 0).toNat : Nat) : Int) ≤ 57 := by
  have h1 := h.1
  unfold bdN at h1
  have g := nm_dig (n := i.toNat) e (by omega)
  omega
theorem rd_sz (hj : j ≤ 999999) (e : s = numS j) (h : inB s.size 1 6 = false) : False := by
  have g := nm_sz hj e
  have : inB s.size 1 6 = true := inB_iff.2 (by omega)
  rw [this] at h; cases h
theorem rd_ne (e : s = numS j) (hn : n = j) (h : ((intS n).toList == s.toList) = false) : False := by
  have : intS n = s := by
    unfold intS
    rw [if_neg (by omega), e, hn]; rfl
  rw [this] at h; simp at h
def rdJ (s : ByteArray) (i n : Int) : Prop := ∀ j : Nat, j ≤ 999999 → s = numS j → i ≤ s.size ∧ n = valD ((bs s).take i.toNat)
theorem rd_all (hj : j ≤ 999999) (e : s = numS j) (h : bdN i n ∧ rdJ s i n) (hi : ¬ i < (s.size : Int)) : n = j := by
  have h1 := h.1
  unfold bdN at h1
  exact nm_all e (by omega) hi (h.2 j hj e).2
theorem rd_go (ht : t = s ∨ (1 < (s.size : Int) ∧ (((((s.data.toList[0]?).getD 0).toNat : Nat) : Int) == 45) = true)) (hJ : bdN i n ∧ rdJ s i n) (hs : ¬ inB t.size 1 6 = false) (hi : i < (t.size : Int)) (h1 : ¬ ((((t.data.toList[i.toNat]?).getD 0).toNat : Nat) : Int) < 48) (h2 : ¬ 57 < ((((t.data.toList[i.toNat]?).getD 0).toNat : Nat) : Int)) :
    (bdN (IntKind.i64.wrap (i + 1)) (IntKind.i64.wrap (IntKind.i64.wrap (10 * n) + IntKind.i64.wrap (IntKind.u8.wrap (((((t.data.toList[i.toNat]?).getD 0).toNat : Nat) : Int) - 48)))) ∧ rdJ s (IntKind.i64.wrap (i + 1)) (IntKind.i64.wrap (IntKind.i64.wrap (10 * n) + IntKind.i64.wrap (IntKind.u8.wrap (((((t.data.toList[i.toNat]?).getD 0).toNat : Nat) : Int) - 48))))) ∧ (7 - IntKind.i64.wrap (i + 1)).toNat < (7 - i).toNat := by
  have hs2 : 1 ≤ (t.size : Int) ∧ (t.size : Int) ≤ 6 := inB_iff.1 (by simpa using hs)
  have hb := bdN_le hJ.1
  have hb2 := bdN_i hJ
  have e1 : IntKind.i64.wrap (i + 1) = i + 1 := wrap_id (by omega) (by omega)
  rw [e1, nm_w hb ⟨by omega, by omega⟩]
  refine ⟨⟨bdN_go hJ.1 (by omega) ⟨by omega, by omega⟩, ?_⟩, by omega⟩
  intro j hj e
  rcases ht with rfl | ht
  · have g := hJ.2 j hj e
    exact ⟨by omega, nm_step hj e (by omega) hi g.2 ⟨by omega, by omega⟩⟩
  · exact (rd_neg e ht.1 ht.2).elim
theorem wr_neg {Q : Prop} (h : bdN i n ∧ Q) : IntKind.i64.wrap (0 - n) = 0 - n := by
  have := bdN_i h
  exact wrap_id (by omega) (by omega)
end
set_option maxRecDepth 100000 in
set_option maxHeartbeats 4000000 in
theorem l1Read_gc {s : ByteArray} (hl : s.size ≤ 1048576) : GC Try.prog 83 [vs s] [] (fun r_ hs_ => ∃ (v : Int) (b : Bool), (∀ j : Nat, j ≤ 999999 → s = numS j → v = j ∧ b = true) ∧ r_ = .tup [vi v, vb b] ∧ hs_ = []) := by
  refine GC.of_func [] Try.call83 Try.func83 rfl ⟨by kernel_rfl, by kernel_rfl⟩ (by kernel_rfl) ?_
  rw [Try.results83]
  simp -implicitDefEqProofs (maxSteps := 4000000) only [sim0, sim1, sim2, sim3, sim4, sim5, sim6, sim7, sim8, ↓reduceIte, Nat.reduceEqDiff, Nat.reduceAdd, Nat.reduceMul, Nat.reduceSub, Nat.reduceLT, Nat.reduceLeDiff, reduceCtorEq, Int.reduceToNat, Int.reduceNeg, Nat.reduceBEq, simx, ty]
  repeat' (first
    | ((with_reducible refine onCall ?_); first
      | (refine GC.callS (l1NumZ_gc ?_) rfl rfl ?_ <;> try simp -implicitDefEqProofs (maxSteps := 4000000) only [sim0, sim1, sim2, sim3, sim4, sim5, sim6, sim7, sim8, ↓reduceIte, Nat.reduceEqDiff, Nat.reduceAdd, Nat.reduceMul, Nat.reduceSub, Nat.reduceLT, Nat.reduceLeDiff, reduceCtorEq, Int.reduceToNat, Int.reduceNeg, Nat.reduceBEq, simx, ty])
      | (refine GC.callS l1In_gc rfl rfl ?_ <;> try simp -implicitDefEqProofs (maxSteps := 4000000) only [sim0, sim1, sim2, sim3, sim4, sim5, sim6, sim7, sim8, ↓reduceIte, Nat.reduceEqDiff, Nat.reduceAdd, Nat.reduceMul, Nat.reduceSub, Nat.reduceLT, Nat.reduceLeDiff, reduceCtorEq, Int.reduceToNat, Int.reduceNeg, Nat.reduceBEq, simx, ty])
      | fail)
    | ((with_reducible refine onQcall ?_); first
      | (refine qcallS (l1NumZ_gc ?_) rfl rfl ?_ <;> try simp -implicitDefEqProofs (maxSteps := 4000000) only [sim0, sim1, sim2, sim3, sim4, sim5, sim6, sim7, sim8, ↓reduceIte, Nat.reduceEqDiff, Nat.reduceAdd, Nat.reduceMul, Nat.reduceSub, Nat.reduceLT, Nat.reduceLeDiff, reduceCtorEq, Int.reduceToNat, Int.reduceNeg, Nat.reduceBEq, simx, ty])
      | fail)
    | ((with_reducible refine onCode ?_); first
      | (refine onLid 8 ?_ (by rfl); refine acode_prune [0, 2, 3, 4, 5, 6] ?_; simp only [prn_cons, prn_nil, lk_cons, lk_emp, Nat.reduceEqDiff, ↓reduceIte]; refine acode_loopS2 8 (by rfl) (α := Int × Int) (fun ⟨i, n⟩ => [(6, vi i), (5, vi n)]) [2, 3, 22, 23, 24, 25, 26, 27, 28, 29, 30, 31, 32, 33, 34, 35, 36, 37, 38, 39, 40, 41, 42, 43, 44, 45] [2, 3] (by kernel_rfl) (fun ⟨i, n⟩ => bdN i n ∧ rdJ s i n) (fun ⟨i, n⟩ => (7 - i).toNat) ((0, 0)) ?_ (by (try simp only []) <;> first | (exact ⟨bdN_zero, fun j _ _ => by simp [valD]⟩) | fail) ?_; (focus ((try dsimp only []); (repeat' (first | exact agr_none | exact lk_hd | refine lk_tl (by decide) ?_ | refine agr_one ?_ ?_)); done)); rintro ⟨i, n⟩ hJ; (try simp only [] at hJ); have hJ8 := hJ; simp -implicitDefEqProofs (maxSteps := 4000000) only [sim0, sim1, sim2, sim3, sim4, sim5, sim6, sim7, sim8, ↓reduceIte, Nat.reduceEqDiff, Nat.reduceAdd, Nat.reduceMul, Nat.reduceSub, Nat.reduceLT, Nat.reduceLeDiff, reduceCtorEq, Int.reduceToNat, Int.reduceNeg, Nat.reduceBEq, simx, ty])
      | fail)
    | ((with_reducible refine onLps ?_); first
      | (refine lps2_end (α := Int × Int) (mods := (fun ⟨i, n⟩ => [(6, vi i), (5, vi n)])) (_, _) (by (try dsimp only []); simp only [agr_cons, agr_nil, lk_cons, lk_emp, Nat.reduceEqDiff, ↓reduceIte, and_true]; repeat' (first | rfl | apply And.intro)) (by unfold undK; kernel_rfl) ?_ ?_ <;> ((try simp only []); (first | exact (rd_go (.inl rfl) hJ8 (by assumption) (by assumption) (by assumption) hq).1 | exact (rd_go (.inl rfl) hJ8 (by assumption) (by assumption) (by assumption) hq).2 | exact (rd_go (.inr ⟨by assumption, by assumption⟩) hJ8 (by assumption) (by assumption) (by assumption) hq).1 | exact (rd_go (.inr ⟨by assumption, by assumption⟩) hJ8 (by assumption) (by assumption) (by assumption) hq).2)))
      | fail)
    | ((with_reducible refine onFin ?_); first
      | (refine fin_K (by (try simp -implicitDefEqProofs (maxSteps := 4000000) only [sim0, sim1, sim2, sim3, sim4, sim5, sim6, sim7, sim8, ↓reduceIte, Nat.reduceEqDiff, Nat.reduceAdd, Nat.reduceMul, Nat.reduceSub, Nat.reduceLT, Nat.reduceLeDiff, reduceCtorEq, Int.reduceToNat, Int.reduceNeg, Nat.reduceBEq, simx, ty, fins, funs, idn, ids, List.filter_nil, List.filter_cons, List.map_nil, fins]); first | done | (simp only [plnLL, pln, Value.oneCell', List.all_cons, List.all_nil, plnH, Sg.pl, Bool.and_true, Bool.and_self]; done) | rfl) (by rfl) ?_; simp -implicitDefEqProofs (maxSteps := 4000000) only [sim0, sim1, sim2, sim3, sim4, sim5, sim6, sim7, sim8, ↓reduceIte, Nat.reduceEqDiff, Nat.reduceAdd, Nat.reduceMul, Nat.reduceSub, Nat.reduceLT, Nat.reduceLeDiff, reduceCtorEq, Int.reduceToNat, Int.reduceNeg, Nat.reduceBEq, simx, ty, fins, funs, idn, ids, List.filter_nil, List.filter_cons, List.map_nil]; (first | (refine ⟨_, _, fun j hj e => ?_, rfl⟩; exfalso; first | exact rd_neg e (by assumption) (by assumption) | omega | exact rd_sz hj e hq | (have g2 := rd_dig e hJ8 (by assumption); omega) | exact rd_ne e (rd_all hj e hJ8 (by assumption)) hq) | (refine ⟨_, _, fun j hj e => ⟨rd_all hj e hJ8 (by assumption), rfl⟩, rfl⟩) | fail))
      | fail)
    | (with_reducible refine ite_intro (fun hq => ?_) (fun hq => ?_))
    | (with_reducible refine And.intro (fun hq => ?_) (fun hq => ?_))
    | (with_reducible refine And.intro ?_ ?_)
    | ((fail_if_success (with_reducible refine onCode ?_)); (fail_if_success (with_reducible refine onLps ?_)); (fail_if_success (with_reducible refine onLpd ?_)); (fail_if_success (with_reducible refine onLpe ?_)); (fail_if_success (with_reducible refine onFin ?_)); (fail_if_success (with_reducible refine onCall ?_)); (fail_if_success (with_reducible refine onQcall ?_)); first | ((first | omega | (have g9 := bdN_i hJ8; omega) | (have g9 := bdN_i hJ8; rw [wr_neg hJ8]; omega)); done) | omega | (rw [wrap_id (by omega) (by omega)]; omega) | (first | (refine ⟨_, _, fun j hj e => ?_, rfl⟩; exfalso; first | exact rd_neg e (by assumption) (by assumption) | omega | exact rd_sz hj e hq | (have g2 := rd_dig e hJ8 (by assumption); omega) | exact rd_ne e (rd_all hj e hJ8 (by assumption)) hq) | (refine ⟨_, _, fun j hj e => ⟨rd_all hj e hJ8 (by assumption), rfl⟩, rfl⟩) | fail)))

end Go.Proofs.Ytgcmahhejblpkaa
