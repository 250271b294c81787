/-
Contracts of what writes a number, over plain data.
No condition but those that the contracts name.
-/
import Derived.Test.YtgcmahhejblpkaaW1
import Derived.Test.YtgcmahhejblpkaaW2
import Derived.Test.YtgcmahhejblpkaaVW
namespace Go.Proofs.Ytgcmahhejblpkaa
open Eng
set_option linter.unusedSimpArgs false
set_option linter.unusedVariables false
theorem srdR_one {e : List AV} {sz : Nat} : srdR sz 1 (some (.arr sz [e])) = some [e] := by simp [srdR]
def dgS (d : Nat) : ByteArray := ⟨#[UInt8.ofNat (48 + d)]⟩
def numS (n : Nat) : ByteArray := if n < 10 then dgS n else numS (n / 10) ++ dgS (n % 10)
theorem numS_small {n : Nat} (h : n < 10) : numS n = dgS n := by rw [numS.eq_1, if_pos h]
theorem numS_big {n : Nat} (h : ¬ n < 10) : numS n = numS (n / 10) ++ dgS (n % 10) := by rw [numS.eq_1, if_neg h]
theorem dgS_size {d : Nat} : (dgS d).size = 1 := rfl
theorem numS_size : ∀ (n : Nat), (numS n).size ≤ n + 1
  | n => by
    by_cases h : n < 10
    · rw [numS_small h, dgS_size]; omega
    · rw [numS_big h, ByteArray.size_append, dgS_size]
      have := numS_size (n / 10)
      omega
theorem dg_of {n : Int} (h0 : 0 ≤ n) (h : n < 10) : (⟨#[48, 49, 50, 51, 52, 53, 54, 55, 56, 57]⟩ : ByteArray).extract n.toNat (n + 1).toNat = dgS n.toNat := by
  have : n = 0 ∨ n = 1 ∨ n = 2 ∨ n = 3 ∨ n = 4 ∨ n = 5 ∨ n = 6 ∨ n = 7 ∨ n = 8 ∨ n = 9 := by omega
  rcases this with h | h | h | h | h | h | h | h | h | h <;> subst h <;> rfl
theorem tn {n : Int} (h : 0 ≤ n ∧ n ≤ 1000000) : IntKind.i64.wrap (n.tdiv 10) = n / 10 ∧ n.tmod 10 = n % 10 ∧ IntKind.i64.wrap (n % 10 + 1) = n % 10 + 1 ∧ IntKind.i64.wrap (n + 1) = n + 1 := by
  have e1 := Int.tdiv_eq_ediv_of_nonneg (b := 10) h.1
  have e2 := Int.tmod_eq_emod_of_nonneg (b := 10) h.1
  rw [e1, e2]
  exact ⟨wrap_id (by omega) (by omega), rfl, wrap_id (by omega) (by omega), wrap_id (by omega) (by omega)⟩
theorem mx64 : IntKind.i64.max = 9223372036854775807 := by decide
theorem digs : (⟨#[48, 49, 50, 51, 52, 53, 54, 55, 56, 57]⟩ : ByteArray).size = 10 := rfl
set_option maxRecDepth 100000 in
set_option maxHeartbeats 4000000 in
theorem l1NumF_gc {n : Int} (h : 0 ≤ n ∧ n ≤ 1000000) (IH : ∀ {m : Int}, 0 ≤ m → m < n → GC Try.prog 101 [vi m] [] (fun r_ hs_ => r_ = vs (numS m.toNat) ∧ hs_ = [])) : GC Try.prog 101 [vi n] [] (fun r_ hs_ => r_ = vs (numS n.toNat) ∧ hs_ = []) := by
  refine GC.of_func [(5, .val 0 (.val 1 (.val 2 (.val 3 (.val 4 (.val 5 (.val 6 (.val 7 (.val 8 (.val 9 (.val 10 (.done))))))))))))] Try.call101 Try.func101 rfl ⟨by kernel_rfl, by kernel_rfl⟩ (by kernel_rfl) ?_
  rw [Try.results101]
  simp -implicitDefEqProofs (maxSteps := 4000000) only [sim0, sim1, sim2, sim3, sim4, sim5, sim6, sim7, sim8, ↓reduceIte, Nat.reduceEqDiff, Nat.reduceAdd, Nat.reduceMul, Nat.reduceSub, Nat.reduceLT, Nat.reduceLeDiff, reduceCtorEq, Int.reduceToNat, Int.reduceNeg, Nat.reduceBEq, simx, ty]
  repeat' (first
    | ((with_reducible refine onQcall ?_); first
      | (refine qcallS (IH ?_ ?_) rfl rfl ?_ <;> try simp -implicitDefEqProofs (maxSteps := 4000000) only [sim0, sim1, sim2, sim3, sim4, sim5, sim6, sim7, sim8, ↓reduceIte, Nat.reduceEqDiff, Nat.reduceAdd, Nat.reduceMul, Nat.reduceSub, Nat.reduceLT, Nat.reduceLeDiff, reduceCtorEq, Int.reduceToNat, Int.reduceNeg, Nat.reduceBEq, simx, ty])
      | fail)
    | ((with_reducible refine onFin ?_); first
      | (refine fin_nil ?_; (first | (first | (have g := tn h; rw [g.2.2.2, dg_of h.1 hq, ← numS_small (by omega)]; rfl) | (have g := tn h; have e1 : (n / 10).toNat = n.toNat / 10 := (by omega); have e2 : (n % 10).toNat = n.toNat % 10 := (by omega); have e3 := numS_big (n := n.toNat) (by omega); rw [g.1, g.2.1, g.2.2.1, dg_of (by omega) (by omega), e3, e1, e2]; rfl)) | (simp_all [fins]; done) | (simp_all [-Int.not_lt, -Int.not_le, fins]; done) | (simp_all [fins]; omega)))
      | fail)
    | ((exfalso; omega))
    | (with_reducible refine ite_intro (fun hq => ?_) (fun hq => ?_))
    | (with_reducible refine And.intro (fun hq => ?_) (fun hq => ?_))
    | (with_reducible refine And.intro ?_ ?_)
    | ((fail_if_success (with_reducible refine onCode ?_)); (fail_if_success (with_reducible refine onLps ?_)); (fail_if_success (with_reducible refine onLpd ?_)); (fail_if_success (with_reducible refine onLpe ?_)); (fail_if_success (with_reducible refine onFin ?_)); (fail_if_success (with_reducible refine onCall ?_)); (fail_if_success (with_reducible refine onQcall ?_)); first | (((have g := tn h; (try simp only [g.1, g.2.1, g.2.2.1, g.2.2.2, ByteArray.size_append, ByteArray.size_extract, digs, mx64]); have s9 := numS_size (n / 10).toNat; omega)); done) | omega | (rw [wrap_id (by omega) (by omega)]; omega) | (first | (have g := tn h; rw [g.2.2.2, dg_of h.1 hq, ← numS_small (by omega)]; rfl) | (have g := tn h; have e1 : (n / 10).toNat = n.toNat / 10 := (by omega); have e2 : (n % 10).toNat = n.toNat % 10 := (by omega); have e3 := numS_big (n := n.toNat) (by omega); rw [g.1, g.2.1, g.2.2.1, dg_of (by omega) (by omega), e3, e1, e2]; rfl))))

theorem l1Num_gc {n : Int} (h : 0 ≤ n ∧ n ≤ 1000000) : GC Try.prog 101 [vi n] [] (fun r_ hs_ => r_ = vs (numS n.toNat) ∧ hs_ = []) := by
  have key : ∀ (m : Nat) (n : Int), n.toNat ≤ m → 0 ≤ n ∧ n ≤ 1000000 → GC Try.prog 101 [vi n] [] (fun r_ hs_ => r_ = vs (numS n.toNat) ∧ hs_ = []) := by
    intro m
    induction m with
    | zero => exact fun n h1 h2 => l1NumF_gc h2 (fun {k} h3 h4 => by omega)
    | succ m ih => exact fun n h1 h2 => l1NumF_gc h2 (fun {k} h3 h4 => ih k (by omega) ⟨h3, by omega⟩)
  exact key _ n (Nat.le_refl _) h
theorem dgc {n : Int} (h : 0 ≤ n) : (⟨#[UInt8.ofNat (IntKind.u8.wrap (IntKind.i64.wrap (48 + n % 10))).toNat]⟩ : ByteArray) = dgS (n % 10).toNat := by
  have : n % 10 = 0 ∨ n % 10 = 1 ∨ n % 10 = 2 ∨ n % 10 = 3 ∨ n % 10 = 4 ∨ n % 10 = 5 ∨ n % 10 = 6 ∨ n % 10 = 7 ∨ n % 10 = 8 ∨ n % 10 = 9 := by omega
  rcases this with h | h | h | h | h | h | h | h | h | h <;> rw [h] <;> decide
theorem one_size {x : UInt8} : (⟨#[x]⟩ : ByteArray).size = 1 := rfl
theorem text_go {N n : Int} {o : ByteArray} (h : 0 ≤ n ∧ n ≤ 1000000) (g : numS N.toNat = numS n.toNat ++ o) (hn : ¬ n / 10 = 0) : numS N.toNat = numS (n / 10).toNat ++ (dgS (n % 10).toNat ++ o) := by
  have e1 : (n / 10).toNat = n.toNat / 10 := by omega
  have e2 : (n % 10).toNat = n.toNat % 10 := by omega
  rw [g, numS_big (n := n.toNat) (by omega), e1, e2, ByteArray.append_assoc]
theorem text_end {N n : Int} {o : ByteArray} (h : 0 ≤ n ∧ n ≤ 1000000) (g : numS N.toNat = numS n.toNat ++ o) (hn : n / 10 = 0) : dgS (n % 10).toNat ++ o = numS N.toNat := by
  have e2 : (n % 10).toNat = n.toNat := by omega
  rw [g, numS_small (n := n.toNat) (by omega), e2]
set_option maxRecDepth 100000 in
set_option maxHeartbeats 4000000 in
theorem textF_gc {N : Int} (h : 0 ≤ N ∧ N ≤ 1000000) : GC Try.prog 102 [vi N] [] (fun r_ hs_ => r_ = vs (numS N.toNat) ∧ hs_ = []) := by
  refine GC.of_func [] Try.call102 Try.func102 rfl ⟨by kernel_rfl, by kernel_rfl⟩ (by kernel_rfl) ?_
  rw [Try.results102]
  simp -implicitDefEqProofs (maxSteps := 4000000) only [sim0, sim1, sim2, sim3, sim4, sim5, sim6, sim7, sim8, ↓reduceIte, Nat.reduceEqDiff, Nat.reduceAdd, Nat.reduceMul, Nat.reduceSub, Nat.reduceLT, Nat.reduceLeDiff, reduceCtorEq, Int.reduceToNat, Int.reduceNeg, Nat.reduceBEq, simx, ty, srdR_one]
  repeat' (first
    | ((with_reducible refine onCode ?_); first
      | (refine onLid 4 ?_ (by rfl); refine acode_prune [0, 2, 3] ?_; simp only [prn_cons, prn_nil, lk_cons, lk_emp, Nat.reduceEqDiff, ↓reduceIte]; refine acode_loopD2 4 (by rfl) (α := Int × ByteArray) (fun ⟨n, o⟩ => [(0, vi n), (3, vs o)]) [2, 10, 11, 12, 13, 14, 15, 16, 17, 18, 19, 20, 21, 22] [2] (by kernel_rfl) (fun ⟨n, o⟩ => (0 ≤ n ∧ n ≤ 1000000) ∧ numS N.toNat = numS n.toNat ++ o) (fun ⟨n, o⟩ => n.toNat) ((N, ByteArray.empty)) ?_ (by first | (simp only [plnLL, pln, Value.oneCell', List.all_cons, List.all_nil, plnH, Bool.and_true, Bool.and_self]; done) | rfl) (by simp) rfl (by (try simp only []) <;> first | (first | exact ⟨h, (ByteArray.append_empty).symm⟩ | skip) | fail) ?_; (focus ((try dsimp only []); (repeat' (first | exact agr_none | exact lk_hd | refine lk_tl (by decide) ?_ | refine agr_one ?_ ?_)); done)); rintro ⟨n, o⟩ hJ; (try simp only [] at hJ); have hJ4 := hJ; simp -implicitDefEqProofs (maxSteps := 4000000) only [sim0, sim1, sim2, sim3, sim4, sim5, sim6, sim7, sim8, ↓reduceIte, Nat.reduceEqDiff, Nat.reduceAdd, Nat.reduceMul, Nat.reduceSub, Nat.reduceLT, Nat.reduceLeDiff, reduceCtorEq, Int.reduceToNat, Int.reduceNeg, Nat.reduceBEq, simx, ty, srdR_one])
      | fail)
    | ((with_reducible refine onLpd ?_); first
      | (refine lpd2_end (α := Int × ByteArray) (mods := (fun ⟨n, o⟩ => [(0, vi n), (3, vs o)])) (_, _) (by (try dsimp only []); simp only [agr_cons, agr_nil, lk_cons, lk_emp, Nat.reduceEqDiff, ↓reduceIte, and_true]; repeat' (first | rfl | apply And.intro)) (by unfold undK; kernel_rfl) _ rfl rfl ?_ ?_ <;> ((try simp only []); ((have g := tn hJ4.1; have d := dgc hJ4.1.1; simp only [g.1, g.2.1, d] at hq ⊢; have hq2 : ¬ n / 10 = 0 := (by simpa using hq); first | omega | exact ⟨by omega, text_go hJ4.1 hJ4.2 hq2⟩))))
      | fail)
    | ((with_reducible refine onFin ?_); first
      | (refine fin_nil ?_; (first | ((have g := tn hJ4.1; have d := dgc hJ4.1.1; simp only [g.1, g.2.1, d] at hq ⊢; have hq2 : n / 10 = 0 := (by simpa using hq); rw [text_end hJ4.1 hJ4.2 hq2]; rfl)) | (simp_all [fins]; done) | (simp_all [-Int.not_lt, -Int.not_le, fins]; done) | (simp_all [fins]; omega)))
      | fail)
    | ((exfalso; omega))
    | (with_reducible refine ite_intro (fun hq => ?_) (fun hq => ?_))
    | (with_reducible refine And.intro (fun hq => ?_) (fun hq => ?_))
    | (with_reducible refine And.intro ?_ ?_)
    | ((fail_if_success (with_reducible refine onCode ?_)); (fail_if_success (with_reducible refine onLps ?_)); (fail_if_success (with_reducible refine onLpd ?_)); (fail_if_success (with_reducible refine onLpe ?_)); (fail_if_success (with_reducible refine onFin ?_)); (fail_if_success (with_reducible refine onCall ?_)); (fail_if_success (with_reducible refine onQcall ?_)); first | (((have g := tn hJ4.1; have s1 := congrArg ByteArray.size hJ4.2; rw [ByteArray.size_append] at s1; have s2 := numS_size N.toNat; (try simp only [g.1, g.2.1, ByteArray.size_append, one_size, mx64]); omega)); done) | omega | (rw [wrap_id (by omega) (by omega)]; omega) | ((have g := tn hJ4.1; have d := dgc hJ4.1.1; simp only [g.1, g.2.1, d] at hq ⊢; have hq2 : n / 10 = 0 := (by simpa using hq); rw [text_end hJ4.1 hJ4.2 hq2]; rfl))))

end Go.Proofs.Ytgcmahhejblpkaa
