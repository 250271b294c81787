/-
Contracts of PlaceAt and rBig, plain laws on TimeToX, TimeToHeight.
No condition but those that the contracts name.
-/
import Derived.Test.YtboedpdpfomjgaaM8
import Derived.Test.YtboedpdpfomjgaaM5
namespace Go.Proofs.Ytboedpdpfomjgaa
open Eng
set_option linter.unusedSimpArgs false
set_option linter.unusedVariables false
def paOk (x y vx vy h c num den : Int) : Bool := motionB x y vx vy h c && timeB num den
def pa0 (b : Bool) (x vx num den : Int) : Int := if b = true then IntKind.i64.wrap (IntKind.i64.wrap (x * den) + IntKind.i64.wrap (vx * num)) else 0
def pa2 (b : Bool) (den : Int) : Int := if b = true then den else 0
set_option maxRecDepth 100000 in
set_option maxHeartbeats 4000000 in
theorem placeAt_gc {x y vx vy h c num den : Int} : GC Try.prog 16 [.agg [vi x, vi y, vi vx, vi vy, vi h, vi c], vi num, vi den] [] (fun r_ hs_ => r_ = .tup [vi (pa0 (paOk x y vx vy h c num den) x vx num den), vi (pa0 (paOk x y vx vy h c num den) y vy num den), vi (pa2 (paOk x y vx vy h c num den) den), vb (paOk x y vx vy h c num den)] ∧ hs_ = []) := by
  refine GC.of_func [(3, .val 0 (.val 1 (.val 2 (.val 3 (.val 4 (.val 5 (.val 6 (.val 7 (.val 8 (.val 9 (.val 10 (.val 11 (.val 12 (.val 13 (.val 14 (.val 15 (.val 16 (.val 17 (.val 18 (.val 19 (.val 20 (.val 21 (.val 22 (.val 23 (.val 24 (.val 25 (.val 26 (.done))))))))))))))))))))))))))))] Try.call16 Try.func16 rfl ⟨by kernel_rfl, by kernel_rfl⟩ (by kernel_rfl) ?_
  rw [Try.results16]
  simp -implicitDefEqProofs (maxSteps := 4000000) only [sim0, sim1, sim2, sim3, sim4, sim5, sim6, sim7, sim8, ↓reduceIte, Nat.reduceEqDiff, Nat.reduceAdd, Nat.reduceMul, Nat.reduceSub, Nat.reduceLT, Nat.reduceLeDiff, reduceCtorEq, Int.reduceToNat, Int.reduceNeg, Nat.reduceBEq, simx, ty]
  repeat' (first
    | ((with_reducible refine onCall ?_); first
      | (refine GC.callS isValidMotion_gc rfl rfl ?_ <;> try simp -implicitDefEqProofs (maxSteps := 4000000) only [sim0, sim1, sim2, sim3, sim4, sim5, sim6, sim7, sim8, ↓reduceIte, Nat.reduceEqDiff, Nat.reduceAdd, Nat.reduceMul, Nat.reduceSub, Nat.reduceLT, Nat.reduceLeDiff, reduceCtorEq, Int.reduceToNat, Int.reduceNeg, Nat.reduceBEq, simx, ty])
      | (refine GC.callS isTime_gc rfl rfl ?_ <;> try simp -implicitDefEqProofs (maxSteps := 4000000) only [sim0, sim1, sim2, sim3, sim4, sim5, sim6, sim7, sim8, ↓reduceIte, Nat.reduceEqDiff, Nat.reduceAdd, Nat.reduceMul, Nat.reduceSub, Nat.reduceLT, Nat.reduceLeDiff, reduceCtorEq, Int.reduceToNat, Int.reduceNeg, Nat.reduceBEq, simx, ty])
      | fail)
    | ((with_reducible refine onFin ?_); first
      | (refine fin_nil ?_; (first | (simp_all [fins, paOk, pa0, pa2]; done) | (simp_all [-Int.not_lt, -Int.not_le, fins, paOk, pa0, pa2]; done) | (simp_all [fins, paOk, pa0, pa2]; omega)))
      | fail)
    | (with_reducible refine ite_intro (fun hq => ?_) (fun hq => ?_))
    | (with_reducible refine And.intro (fun hq => ?_) (fun hq => ?_))
    | (with_reducible refine And.intro ?_ ?_)
    | ((fail_if_success (with_reducible refine onCode ?_)); (fail_if_success (with_reducible refine onLps ?_)); (fail_if_success (with_reducible refine onLpd ?_)); (fail_if_success (with_reducible refine onLpe ?_)); (fail_if_success (with_reducible refine onFin ?_)); (fail_if_success (with_reducible refine onCall ?_)); (fail_if_success (with_reducible refine onQcall ?_)); first | omega | (rw [wrap_id (by omega) (by omega)]; omega) | (simp_all; done)))

set_option maxRecDepth 100000 in
set_option maxHeartbeats 4000000 in
theorem sPlaceAt_gc {x y vx vy h c num den : Int} : GC Try.prog 25 [.agg [vi x, vi y, vi vx, vi vy, vi h, vi c], vi num, vi den] [] (fun r_ hs_ => r_ = .tup [vi (pa0 (paOk x y vx vy h c num den) x vx num den), vi (pa0 (paOk x y vx vy h c num den) y vy num den), vi (pa2 (paOk x y vx vy h c num den) den), vb (paOk x y vx vy h c num den)] ∧ hs_ = []) := by
  refine GC.of_func [(3, .val 0 (.val 1 (.val 2 (.val 3 (.val 4 (.val 5 (.val 6 (.val 7 (.val 8 (.val 9 (.val 10 (.val 11 (.val 12 (.val 13 (.val 14 (.val 15 (.val 16 (.val 17 (.val 18 (.val 19 (.val 20 (.val 21 (.val 22 (.val 23 (.val 24 (.val 25 (.val 26 (.done))))))))))))))))))))))))))))] Try.call25 Try.func25 rfl ⟨by kernel_rfl, by kernel_rfl⟩ (by kernel_rfl) ?_
  rw [Try.results25]
  simp -implicitDefEqProofs (maxSteps := 4000000) only [sim0, sim1, sim2, sim3, sim4, sim5, sim6, sim7, sim8, ↓reduceIte, Nat.reduceEqDiff, Nat.reduceAdd, Nat.reduceMul, Nat.reduceSub, Nat.reduceLT, Nat.reduceLeDiff, reduceCtorEq, Int.reduceToNat, Int.reduceNeg, Nat.reduceBEq, simx, ty]
  repeat' (first
    | ((with_reducible refine onCall ?_); first
      | (refine GC.callS l16Good_gc rfl rfl ?_ <;> try simp -implicitDefEqProofs (maxSteps := 4000000) only [sim0, sim1, sim2, sim3, sim4, sim5, sim6, sim7, sim8, ↓reduceIte, Nat.reduceEqDiff, Nat.reduceAdd, Nat.reduceMul, Nat.reduceSub, Nat.reduceLT, Nat.reduceLeDiff, reduceCtorEq, Int.reduceToNat, Int.reduceNeg, Nat.reduceBEq, simx, ty])
      | (refine GC.callS l16Time_gc rfl rfl ?_ <;> try simp -implicitDefEqProofs (maxSteps := 4000000) only [sim0, sim1, sim2, sim3, sim4, sim5, sim6, sim7, sim8, ↓reduceIte, Nat.reduceEqDiff, Nat.reduceAdd, Nat.reduceMul, Nat.reduceSub, Nat.reduceLT, Nat.reduceLeDiff, reduceCtorEq, Int.reduceToNat, Int.reduceNeg, Nat.reduceBEq, simx, ty])
      | fail)
    | ((with_reducible refine onFin ?_); first
      | (refine fin_nil ?_; (first | (simp_all [fins, paOk, pa0, pa2]; done) | (simp_all [-Int.not_lt, -Int.not_le, fins, paOk, pa0, pa2]; done) | (simp_all [fins, paOk, pa0, pa2]; omega)))
      | fail)
    | (with_reducible refine ite_intro (fun hq => ?_) (fun hq => ?_))
    | (with_reducible refine And.intro (fun hq => ?_) (fun hq => ?_))
    | (with_reducible refine And.intro ?_ ?_)
    | ((fail_if_success (with_reducible refine onCode ?_)); (fail_if_success (with_reducible refine onLps ?_)); (fail_if_success (with_reducible refine onLpd ?_)); (fail_if_success (with_reducible refine onLpe ?_)); (fail_if_success (with_reducible refine onFin ?_)); (fail_if_success (with_reducible refine onCall ?_)); (fail_if_success (with_reducible refine onQcall ?_)); first | omega | (rw [wrap_id (by omega) (by omega)]; omega) | (simp_all; done)))

set_option maxRecDepth 100000 in
set_option maxHeartbeats 4000000 in
theorem rBig_gc {cs : List By} : GC Try.prog 12 [.sl 1 (cs.map By.e)] [] (fun r_ hs_ => r_ = vb (decide (65536 < cs.length)) ∧ hs_ = []) := by
  refine GC.of_func [] Try.call12 Try.func12 rfl ⟨by kernel_rfl, by kernel_rfl⟩ (by kernel_rfl) ?_
  rw [Try.results12]
  simp -implicitDefEqProofs (maxSteps := 4000000) only [sim0, sim1, sim2, sim3, sim4, sim5, sim6, sim7, sim8, ↓reduceIte, Nat.reduceEqDiff, Nat.reduceAdd, Nat.reduceMul, Nat.reduceSub, Nat.reduceLT, Nat.reduceLeDiff, reduceCtorEq, Int.reduceToNat, Int.reduceNeg, Nat.reduceBEq, simx, ty, By.row, Ch.row, idxS_map, loadS_map, stoS_map, ← List.map_take, ← List.map_drop]
  repeat' (first
    | ((with_reducible refine onFin ?_); first
      | (refine fin_nil ?_; (first | (simp_all [fins]; done) | (simp_all [-Int.not_lt, -Int.not_le, fins]; done) | (simp_all [fins]; omega)))
      | fail)
    | (with_reducible refine ite_intro (fun hq => ?_) (fun hq => ?_))
    | (with_reducible refine And.intro (fun hq => ?_) (fun hq => ?_))
    | (with_reducible refine And.intro ?_ ?_)
    | ((fail_if_success (with_reducible refine onCode ?_)); (fail_if_success (with_reducible refine onLps ?_)); (fail_if_success (with_reducible refine onLpd ?_)); (fail_if_success (with_reducible refine onLpe ?_)); (fail_if_success (with_reducible refine onFin ?_)); (fail_if_success (with_reducible refine onCall ?_)); (fail_if_success (with_reducible refine onQcall ?_)); first | omega | (rw [wrap_id (by omega) (by omega)]; omega) | (simp_all; done)))

theorem gcdI_dvd : ∀ (n : Nat) (a b : Int), b.natAbs ≤ n → gcdI a b ∣ a ∧ gcdI a b ∣ b
  | n, a, b, hn => by
    by_cases hb : b = 0
    · subst hb; rw [gcdI_zero]; exact ⟨Int.dvd_refl _, Int.dvd_zero _⟩
    · rw [gcdI_step hb]
      cases n with
      | zero => omega
      | succ n =>
        have ih := gcdI_dvd n b (a.tmod b) (by have := tmod_lt a b hb; omega)
        refine ⟨?_, ih.1⟩
        have e : a = b * (a.tdiv b) + a.tmod b := (Int.mul_tdiv_add_tmod a b).symm
        have h1 : gcdI b (a.tmod b) ∣ b * (a.tdiv b) := Int.dvd_trans ih.1 (Int.dvd_mul_right _ _)
        have h2 := Int.dvd_add h1 ih.2
        rwa [← e] at h2
theorem gcdI_nn : ∀ (n : Nat) (a b : Int), b.natAbs ≤ n → 0 ≤ a → 0 ≤ b → 0 ≤ gcdI a b
  | n, a, b, hn, h1, h2 => by
    by_cases hb : b = 0
    · subst hb; rw [gcdI_zero]; exact h1
    · rw [gcdI_step hb]
      cases n with
      | zero => omega
      | succ n => exact gcdI_nn n b _ (by have := tmod_lt a b hb; omega) h2 (by rw [Int.tmod_eq_emod_of_nonneg h1]; exact Int.emod_nonneg _ hb)
/-- what the reduced fraction is -/
theorem fr_red {d r : Int} (hd : 0 ≤ d) (hr : 0 < r) : ∃ g : Int, 0 < g ∧ fr d r = g ∧ d = g * (d.tdiv g) ∧ r = g * (r.tdiv g) ∧ 0 ≤ d.tdiv g ∧ 0 < r.tdiv g ∧ d.tdiv g ≤ d ∧ r.tdiv g ≤ r := by
  have e : fr d r = gcdI d r := by unfold fr absV; rw [if_neg (by omega)]
  have h1 := gcdI_dvd _ d r (Nat.le_refl _)
  have h2 := gcdI_nn _ d r (Nat.le_refl _) hd (by omega)
  have h3 := gcdI_ne _ d r (Nat.le_refl _) (.inr (by omega))
  refine ⟨gcdI d r, by omega, e, ?_, ?_, ?_, ?_, ?_, ?_⟩
  · exact (Int.mul_tdiv_cancel' h1.1).symm
  · exact (Int.mul_tdiv_cancel' h1.2).symm
  · exact Int.tdiv_nonneg hd h2
  · have h4 := Int.mul_tdiv_cancel' h1.2
    rcases Int.lt_or_le 0 (r.tdiv (gcdI d r)) with h | h
    · exact h
    · have := Int.mul_nonpos_of_nonneg_of_nonpos h2 h
      omega
  · exact Int.tdiv_le_self _ hd
  · exact Int.tdiv_le_self _ (by omega)
end Go.Proofs.Ytboedpdpfomjgaa
