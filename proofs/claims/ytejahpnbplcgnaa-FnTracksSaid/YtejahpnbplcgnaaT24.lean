/-
The law FnExactParseTrackLine, over plain data.
No condition but those that the contracts name.
-/
import Derived.Test.YtejahpnbplcgnaaT23
import Derived.Test.YtejahpnbplcgnaaT2
namespace Go.Proofs.Ytejahpnbplcgnaa
open Eng
set_option linter.unusedSimpArgs false
set_option linter.unusedVariables false
theorem PtP.uniq {t : ByteArray} {i s x y h l i' s' x' y' h' l' : Int} {b b' : Bool} (p : PtP t i s x y h l b) (q : PtP t i' s' x' y' h' l' b') : b = b' ∧ i = i' ∧ s = s' ∧ x = x' ∧ y = y' ∧ h = h' ∧ l = l' := by
  cases b with
  | true =>
    obtain ⟨h1, h2⟩ := p.yes rfl
    obtain ⟨g0, g1, g2, g3, g4, g5, g6⟩ := q.all _ _ _ _ _ _ h1 h2
    exact ⟨g0.symm, g1.symm, g2.symm, g3.symm, g4.symm, g5.symm, g6.symm⟩
  | false =>
    cases b' with
    | true =>
      obtain ⟨h1, h2⟩ := q.yes rfl
      exact (Bool.noConfusion (p.all _ _ _ _ _ _ h1 h2).1)
    | false =>
      obtain ⟨g1, g2, g3, g4, g5, g6⟩ := p.no rfl
      obtain ⟨f1, f2, f3, f4, f5, f6⟩ := q.no rfl
      exact ⟨rfl, by omega, by omega, by omega, by omega, by omega, by omega⟩
theorem pq_1 {t : ByteArray} {i s x y h l i' s' x' y' h' l' : Int} {b b' : Bool} (p : PtP t i' s' x' y' h' l' b') (q : PtP t i s x y h l b) (hq : (i == i' && s == s' && x == x' && y == y' && h == h' && l == l') = false) : False := by
  have g := p.uniq q
  simp [g.2.1, g.2.2.1, g.2.2.2.1, g.2.2.2.2.1, g.2.2.2.2.2.1, g.2.2.2.2.2.2] at hq
theorem pq_2 {t : ByteArray} {i s x y h l i' s' x' y' h' l' : Int} {b b' : Bool} (p : PtP t i' s' x' y' h' l' b') (q : PtP t i s x y h l b) (hq : (b == b') = false) : False := by
  have g := p.uniq q
  simp [g.1] at hq
set_option maxRecDepth 100000 in
set_option maxHeartbeats 4000000 in
theorem FnExactParseTrackLine_g0 {t : ByteArray} : GC Try.prog 10 [vs t] [] (fun r _ => r = vb true) := by
  refine GC.of_func [] Try.call10 Try.func10 rfl ⟨by kernel_rfl, by kernel_rfl⟩ (by kernel_rfl) ?_
  rw [Try.results10]
  simp -implicitDefEqProofs (maxSteps := 4000000) only [sim0, sim1, sim2, sim3, sim4, sim5, sim6, sim7, sim8, ↓reduceIte, Nat.reduceEqDiff, Nat.reduceAdd, Nat.reduceMul, Nat.reduceSub, Nat.reduceLT, Nat.reduceLeDiff, reduceCtorEq, Int.reduceToNat, Int.reduceNeg, Nat.reduceBEq, simx, ty, Sg.row, It.row, idxS_map, loadS_map, stoS_map, ← List.map_take, ← List.map_drop]
  repeat' (first
    | ((with_reducible refine onCall ?_); first
      | (apply GC.useP false [] (sParse_gc ?_) rfl ?he ?ha (fun h_ => Bool.noConfusion h_) ?_; (case he => (trivial)); (case ha => (repeat' (first | exact arL_nil | refine arL_cons ?_ ?_ | exact ar_v | exact ar_sl | exact ar_ptr rfl | exact ar_own rfl | refine ar_agg ?_))); (all_goals (try (intro r_ hs_ hk_; obtain ⟨i, s, x, y, h, l, b, hc_, rfl, rfl⟩ := hk_; (try simp -implicitDefEqProofs (maxSteps := 4000000) only [sim0, sim1, sim2, sim3, sim4, sim5, sim6, sim7, sim8, ↓reduceIte, Nat.reduceEqDiff, Nat.reduceAdd, Nat.reduceMul, Nat.reduceSub, Nat.reduceLT, Nat.reduceLeDiff, reduceCtorEq, Int.reduceToNat, Int.reduceNeg, Nat.reduceBEq, simx, ty, Sg.row, It.row, idxS_map, loadS_map, stoS_map, ← List.map_take, ← List.map_drop])))))
      | (apply GC.useP false [] (impParse_gc ?_) rfl ?he ?ha (fun h_ => Bool.noConfusion h_) ?_; (case he => (trivial)); (case ha => (repeat' (first | exact arL_nil | refine arL_cons ?_ ?_ | exact ar_v | exact ar_sl | exact ar_ptr rfl | exact ar_own rfl | refine ar_agg ?_))); (all_goals (try (intro r_ hs_ hk_; obtain ⟨i, s, x, y, h, l, b, hc_, rfl, rfl⟩ := hk_; (try simp -implicitDefEqProofs (maxSteps := 4000000) only [sim0, sim1, sim2, sim3, sim4, sim5, sim6, sim7, sim8, ↓reduceIte, Nat.reduceEqDiff, Nat.reduceAdd, Nat.reduceMul, Nat.reduceSub, Nat.reduceLT, Nat.reduceLeDiff, reduceCtorEq, Int.reduceToNat, Int.reduceNeg, Nat.reduceBEq, simx, ty, Sg.row, It.row, idxS_map, loadS_map, stoS_map, ← List.map_take, ← List.map_drop])))))
      | (refine GC.callS eqTrack_gc rfl rfl ?_ <;> try simp -implicitDefEqProofs (maxSteps := 4000000) only [sim0, sim1, sim2, sim3, sim4, sim5, sim6, sim7, sim8, ↓reduceIte, Nat.reduceEqDiff, Nat.reduceAdd, Nat.reduceMul, Nat.reduceSub, Nat.reduceLT, Nat.reduceLeDiff, reduceCtorEq, Int.reduceToNat, Int.reduceNeg, Nat.reduceBEq, simx, ty, Sg.row, It.row, idxS_map, loadS_map, stoS_map, ← List.map_take, ← List.map_drop])
      | fail)
    | ((with_reducible refine onFin ?_); first
      | (refine fin_law ?_; (first | (first | rfl | (exfalso; exact pq_1 (by assumption) hc_ hq) | (exfalso; exact pq_2 (by assumption) hc_ hq) | fail) | (simp_all [fins]; done) | (simp_all [-Int.not_lt, -Int.not_le, fins]; done) | (simp_all [fins]; omega)))
      | fail)
    | (with_reducible refine ite_intro (fun hq => ?_) (fun hq => ?_))
    | (with_reducible refine And.intro (fun hq => ?_) (fun hq => ?_))
    | (with_reducible refine And.intro ?_ ?_)
    | ((fail_if_success (with_reducible refine onCode ?_)); (fail_if_success (with_reducible refine onLps ?_)); (fail_if_success (with_reducible refine onLpd ?_)); (fail_if_success (with_reducible refine onLpe ?_)); (fail_if_success (with_reducible refine onFin ?_)); (fail_if_success (with_reducible refine onCall ?_)); (fail_if_success (with_reducible refine onQcall ?_)); first | ((first | omega); done) | omega | (rw [wrap_id (by omega) (by omega)]; omega) | (first | rfl | (exfalso; exact pq_1 (by assumption) hc_ hq) | (exfalso; exact pq_2 (by assumption) hc_ hq) | fail)))

theorem FnExactParseTrackLine_gc (t : ByteArray) (w : t.size ≤ maxLen) : GC Try.prog 10 [vs t] [] (fun r _ => r = vb true) := FnExactParseTrackLine_g0
end Go.Proofs.Ytejahpnbplcgnaa
