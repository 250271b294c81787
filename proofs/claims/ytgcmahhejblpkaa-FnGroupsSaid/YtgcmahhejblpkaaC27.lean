/-
Contracts of what PlotsOf calls, over plain data.
No condition but those that the contracts name.
-/
import Derived.Test.YtgcmahhejblpkaaC26
namespace Go.Proofs.Ytgcmahhejblpkaa
open Eng
set_option linter.unusedSimpArgs false
set_option linter.unusedVariables false
theorem tm_nn {a b : Int} (ha : 0 ≤ a) : ¬ (a.tmod b < 0) := by have := Int.tmod_nonneg b ha; omega
set_option maxRecDepth 100000 in
set_option maxHeartbeats 4000000 in
theorem floorDivN_gc {a b : Int} (h : 0 ≤ a ∧ 0 < b) : GC Try.prog 106 [vi a, vi b] [] (fun r_ hs_ => r_ = vi (IntKind.i64.wrap (a.tdiv b)) ∧ hs_ = []) := by
  refine GC.of_func [] Try.call106 Try.func106 rfl ⟨by kernel_rfl, by kernel_rfl⟩ (by kernel_rfl) ?_
  rw [Try.results106]
  simp -implicitDefEqProofs (maxSteps := 4000000) only [sim0, sim1, sim2, sim3, sim4, sim5, sim6, sim7, sim8, ↓reduceIte, Nat.reduceEqDiff, Nat.reduceAdd, Nat.reduceMul, Nat.reduceSub, Nat.reduceLT, Nat.reduceLeDiff, reduceCtorEq, Int.reduceToNat, Int.reduceNeg, Nat.reduceBEq, simx, ty]
  repeat' (first
    | ((with_reducible refine onFin ?_); first
      | (refine fin_nil ?_; (first | (first | rfl | (exfalso; exact tm_nn h.1 (by assumption))) | (simp_all [fins]; done) | (simp_all [-Int.not_lt, -Int.not_le, fins]; done) | (simp_all [fins]; omega)))
      | fail)
    | (with_reducible refine ite_intro (fun hq => ?_) (fun hq => ?_))
    | (with_reducible refine And.intro (fun hq => ?_) (fun hq => ?_))
    | (with_reducible refine And.intro ?_ ?_)
    | ((fail_if_success (with_reducible refine onCode ?_)); (fail_if_success (with_reducible refine onLps ?_)); (fail_if_success (with_reducible refine onLpd ?_)); (fail_if_success (with_reducible refine onLpe ?_)); (fail_if_success (with_reducible refine onFin ?_)); (fail_if_success (with_reducible refine onCall ?_)); (fail_if_success (with_reducible refine onQcall ?_)); first | ((omega); done) | omega | (rw [wrap_id (by omega) (by omega)]; omega) | (first | rfl | (exfalso; exact tm_nn h.1 (by assumption)))))

theorem nr_w {s n : Int} (hn : 0 < n ∧ n ≤ 1000) (h0 : 0 ≤ s ∧ s ≤ 100000000) : 0 ≤ IntKind.i64.wrap (IntKind.i64.wrap (2 * s) + n) ∧ 0 < IntKind.i64.wrap (2 * n) := by
  have e1 : IntKind.i64.wrap (2 * s) = 2 * s := wrap_id (by omega) (by omega)
  have e2 : IntKind.i64.wrap (2 * n) = 2 * n := wrap_id (by omega) (by omega)
  have e3 : IntKind.i64.wrap (2 * s + n) = 2 * s + n := wrap_id (by omega) (by omega)
  rw [e1, e2, e3]; omega
set_option maxRecDepth 100000 in
set_option maxHeartbeats 4000000 in
theorem nearest_gc {s n : Int} (hn : 0 < n ∧ n ≤ 1000) (h0 : 0 ≤ s ∧ s ≤ 100000000) : GC Try.prog 87 [vi s, vi n] [] (fun r_ hs_ => r_ = vi (nrV s n) ∧ hs_ = []) := by
  refine GC.of_func [] Try.call87 Try.func87 rfl ⟨by kernel_rfl, by kernel_rfl⟩ (by kernel_rfl) ?_
  rw [Try.results87]
  simp -implicitDefEqProofs (maxSteps := 4000000) only [sim0, sim1, sim2, sim3, sim4, sim5, sim6, sim7, sim8, ↓reduceIte, Nat.reduceEqDiff, Nat.reduceAdd, Nat.reduceMul, Nat.reduceSub, Nat.reduceLT, Nat.reduceLeDiff, reduceCtorEq, Int.reduceToNat, Int.reduceNeg, Nat.reduceBEq, simx, ty]
  repeat' (first
    | ((with_reducible refine onCall ?_); first
      | (refine GC.callS (floorDivN_gc ?_) rfl rfl ?_ <;> try simp -implicitDefEqProofs (maxSteps := 4000000) only [sim0, sim1, sim2, sim3, sim4, sim5, sim6, sim7, sim8, ↓reduceIte, Nat.reduceEqDiff, Nat.reduceAdd, Nat.reduceMul, Nat.reduceSub, Nat.reduceLT, Nat.reduceLeDiff, reduceCtorEq, Int.reduceToNat, Int.reduceNeg, Nat.reduceBEq, simx, ty])
      | fail)
    | ((with_reducible refine onFin ?_); first
      | (refine fin_nil ?_; (first | (refine rn_vi ?_; exact (nr_td hn h0).symm) | (simp_all [fins]; done) | (simp_all [-Int.not_lt, -Int.not_le, fins]; done) | (simp_all [fins]; omega)))
      | fail)
    | (with_reducible refine ite_intro (fun hq => ?_) (fun hq => ?_))
    | (with_reducible refine And.intro (fun hq => ?_) (fun hq => ?_))
    | (with_reducible refine And.intro ?_ ?_)
    | ((fail_if_success (with_reducible refine onCode ?_)); (fail_if_success (with_reducible refine onLps ?_)); (fail_if_success (with_reducible refine onLpd ?_)); (fail_if_success (with_reducible refine onLpe ?_)); (fail_if_success (with_reducible refine onFin ?_)); (fail_if_success (with_reducible refine onCall ?_)); (fail_if_success (with_reducible refine onQcall ?_)); first | ((first | exact (nr_w hn h0).1 | exact (nr_w hn h0).2 | omega); done) | omega | (rw [wrap_id (by omega) (by omega)]; omega) | (refine rn_vi ?_; exact (nr_td hn h0).symm)))

section
variable {xs : List It} {n k : Int}
theorem pt_go (h : ∀ a : Nat, (a : Int) < k → (xs.getD a default).n < n) (h0 : 0 ≤ k) (h1 : (xs.getD k.toNat default).n < n) : ∀ a : Nat, (a : Int) < k + 1 → (xs.getD a default).n < n := by
  intro a ha
  by_cases e : (a : Int) = k
  · have : a = k.toNat := by omega
    rw [this]; exact h1
  · exact h a (by omega)
theorem pt_V (hr : rise xs) (hn : ∀ k : Nat, k < xs.length → ¬ (xs.getD k default).n = n) (h0 : 0 ≤ k ∧ k ≤ xs.length) (hlo : ∀ a : Nat, (a : Int) < k → (xs.getD a default).n < n) (hhi : k < xs.length → ¬ (xs.getD k.toNat default).n < n) : xs.take k.toNat ++ ⟨n⟩ :: xs.drop k.toNat = puV xs n := by
  unfold puV; rw [puK_up hr hn h0.1 h0.2 hlo hhi]
end
set_option maxRecDepth 100000 in
set_option maxHeartbeats 4000000 in
theorem l1Put_gc {xs : List It} {n : Int} (hl : xs.length ≤ 1048576) (hr : rise xs) (hn : ∀ k : Nat, k < xs.length → ¬ (xs.getD k default).n = n) : GC Try.prog 86 [.sl 1 (xs.map It.e), vi n] [] (fun r_ hs_ => r_ = .ref 0 (xs.length + 1) ∧ hs_ = [.arr 1 ((puV xs n).map It.e)]) := by
  refine GC.of_func [(6, .val 1 (.val 2 (.val 3 (.val 5 (.val 8 (.val 9 (.val 10 (.eff [(0, [10, 9, 8, 5, 3, 2, 1], .eff [(4, [10, 9, 8, 5], .eff [(6, [10, 9, 8, 3, 2, 1], .eff [(7, [10, 9, 8], .eff [(11, [], .val 12 (.done))])])]), (6, [10, 9, 8, 3, 2, 1], .eff [(4, [10, 9, 8, 5], .eff [(7, [10, 9, 8], .eff [(11, [], .val 12 (.done))])])])]), (6, [10, 9, 8, 3, 2, 1], .eff [(0, [10, 9, 8, 5, 3, 2, 1], .eff [(4, [10, 9, 8, 5], .eff [(7, [10, 9, 8], .eff [(11, [], .val 12 (.done))])])])])]))))))))] Try.call86 Try.func86 rfl ⟨by kernel_rfl, by kernel_rfl⟩ (by kernel_rfl) ?_
  rw [Try.results86]
  simp -implicitDefEqProofs (maxSteps := 4000000) only [sim0, sim1, sim2, sim3, sim4, sim5, sim6, sim7, sim8, ↓reduceIte, Nat.reduceEqDiff, Nat.reduceAdd, Nat.reduceMul, Nat.reduceSub, Nat.reduceLT, Nat.reduceLeDiff, reduceCtorEq, Int.reduceToNat, Int.reduceNeg, Nat.reduceBEq, simx, ty, Sgt.row, It.row, idxS_map, loadS_map, stoS_map, ← List.map_take, ← List.map_drop]
  repeat' (first
    | ((with_reducible refine onCode ?_); first
      | (refine onLid 2 ?_ (by rfl); refine acode_prune [0, 1, 4, 5] ?_; simp only [prn_cons, prn_nil, lk_cons, lk_emp, Nat.reduceEqDiff, ↓reduceIte]; refine acode_loopS2 2 (by rfl) (α := Int) (fun k => [(5, vi k)]) [6, 7, 8, 9, 10, 11, 12, 13, 14, 15, 16, 17, 18, 19] [] (by kernel_rfl) (fun k => (0 ≤ k ∧ k ≤ xs.length) ∧ ∀ a : Nat, (a : Int) < k → (xs.getD a default).n < n) (fun k => (xs.length - k).toNat) (0) ?_ (by (try simp only []) <;> first | (exact ⟨by omega, fun a h => by omega⟩) | fail) ?_; (focus ((try dsimp only []); (repeat' (first | exact agr_none | exact lk_hd | refine lk_tl (by decide) ?_ | refine agr_one ?_ ?_)); done)); rintro k hJ; (try simp only [] at hJ); have hJ2 := hJ; simp -implicitDefEqProofs (maxSteps := 4000000) only [sim0, sim1, sim2, sim3, sim4, sim5, sim6, sim7, sim8, ↓reduceIte, Nat.reduceEqDiff, Nat.reduceAdd, Nat.reduceMul, Nat.reduceSub, Nat.reduceLT, Nat.reduceLeDiff, reduceCtorEq, Int.reduceToNat, Int.reduceNeg, Nat.reduceBEq, simx, ty, Sgt.row, It.row, idxS_map, loadS_map, stoS_map, ← List.map_take, ← List.map_drop])
      | fail)
    | ((with_reducible refine onLps ?_); first
      | (refine lps2_end (α := Int) (mods := (fun k => [(5, vi k)])) _ (by (try dsimp only []); simp only [agr_cons, agr_nil, lk_cons, lk_emp, Nat.reduceEqDiff, ↓reduceIte, and_true]; repeat' (first | rfl | apply And.intro)) (by unfold undK; kernel_rfl) ?_ ?_ <;> ((try simp only []); (have e_ : IntKind.i64.wrap (k + 1) = k + 1 := wrap_id (by omega) (by omega); (try simp only [e_] at hq ⊢); first | omega | exact ⟨by omega, pt_go hJ2.2 (by omega) hq⟩)))
      | fail)
    | ((with_reducible refine onFin ?_); first
      | (refine fin_own' ?_ ?_ (by simp) (by first | (simp only [plnLL, pln, Value.oneCell', List.all_cons, List.all_nil, plnH, Sgt.pl, It.pl, Bool.and_true, Bool.and_self, List.take_zero, List.nil_append, List.map_cons, List.map_nil]; done) | rfl) <;> (first | (first | (exfalso; exact hn k.toNat (by omega) (by simpa using hq)) | (have e := pt_V hr hn hJ2.1 hJ2.2 (by first | (intro _; assumption) | (intro h; exfalso; omega)); have e2 : (xs.take k.toNat).length + 1 + (xs.drop k.toNat).length = xs.length + 1 := (by simp only [List.length_take, List.length_drop]; omega); (try simp only [List.take_length]); (try rw [e2]); rw [← e]; simp [fins, funs, idn, ids]; done) | (have e2 : (xs.take k.toNat).length + 1 + (xs.drop k.toNat).length = xs.length + 1 := (by simp only [List.length_take, List.length_drop]; omega); (try simp only [List.take_length]); (try rw [e2]); simp [fins, funs, idn, ids]; done)) | (simp_all [fins]; done) | (simp_all [-Int.not_lt, -Int.not_le, fins]; done) | (simp_all [fins]; omega)))
      | (refine fin_ownT' ?_ ?_ ?_ (by simp) (by first | (simp only [plnLL, pln, Value.oneCell', List.all_cons, List.all_nil, plnH, Sgt.pl, It.pl, Bool.and_true, Bool.and_self, List.take_zero, List.nil_append, List.map_cons, List.map_nil]; done) | rfl) rfl <;> (first | (first | (exfalso; exact hn k.toNat (by omega) (by simpa using hq)) | (have e := pt_V hr hn hJ2.1 hJ2.2 (by first | (intro _; assumption) | (intro h; exfalso; omega)); have e2 : (xs.take k.toNat).length + 1 + (xs.drop k.toNat).length = xs.length + 1 := (by simp only [List.length_take, List.length_drop]; omega); (try simp only [List.take_length]); (try rw [e2]); rw [← e]; simp [fins, funs, idn, ids]; done) | (have e2 : (xs.take k.toNat).length + 1 + (xs.drop k.toNat).length = xs.length + 1 := (by simp only [List.length_take, List.length_drop]; omega); (try simp only [List.take_length]); (try rw [e2]); simp [fins, funs, idn, ids]; done)) | (simp_all [fins]; done) | (simp_all [-Int.not_lt, -Int.not_le, fins]; done) | (simp_all [fins]; omega)))
      | (refine fin_ids ?_ ?_ ?_ (by first | (simp only [plnLL, pln, Value.oneCell', List.all_cons, List.all_nil, plnH, Sgt.pl, It.pl, Bool.and_true, Bool.and_self, List.take_zero, List.nil_append, List.map_cons, List.map_nil]; done) | rfl) <;> (first | (first | (exfalso; exact hn k.toNat (by omega) (by simpa using hq)) | (have e := pt_V hr hn hJ2.1 hJ2.2 (by first | (intro _; assumption) | (intro h; exfalso; omega)); have e2 : (xs.take k.toNat).length + 1 + (xs.drop k.toNat).length = xs.length + 1 := (by simp only [List.length_take, List.length_drop]; omega); (try simp only [List.take_length]); (try rw [e2]); rw [← e]; simp [fins, funs, idn, ids]; done) | (have e2 : (xs.take k.toNat).length + 1 + (xs.drop k.toNat).length = xs.length + 1 := (by simp only [List.length_take, List.length_drop]; omega); (try simp only [List.take_length]); (try rw [e2]); simp [fins, funs, idn, ids]; done)) | (simp_all [fins, funs]; done) | (simp [fins, funs]; done) | (simp_all [-Int.not_lt, -Int.not_le, fins, funs]; done) | (simp_all [fins, funs]; omega)))
      | fail)
    | (with_reducible refine ite_intro (fun hq => ?_) (fun hq => ?_))
    | (with_reducible refine And.intro (fun hq => ?_) (fun hq => ?_))
    | (with_reducible refine And.intro ?_ ?_)
    | ((fail_if_success (with_reducible refine onCode ?_)); (fail_if_success (with_reducible refine onLps ?_)); (fail_if_success (with_reducible refine onLpd ?_)); (fail_if_success (with_reducible refine onLpe ?_)); (fail_if_success (with_reducible refine onFin ?_)); (fail_if_success (with_reducible refine onCall ?_)); (fail_if_success (with_reducible refine onQcall ?_)); first | ((first | omega | (simp only [List.length_take, List.length_drop, List.length_append, List.length_cons, List.length_nil]; omega)); done) | omega | (rw [wrap_id (by omega) (by omega)]; omega) | (first | (exfalso; exact hn k.toNat (by omega) (by simpa using hq)) | (have e := pt_V hr hn hJ2.1 hJ2.2 (by first | (intro _; assumption) | (intro h; exfalso; omega)); have e2 : (xs.take k.toNat).length + 1 + (xs.drop k.toNat).length = xs.length + 1 := (by simp only [List.length_take, List.length_drop]; omega); (try simp only [List.take_length]); (try rw [e2]); rw [← e]; simp [fins, funs, idn, ids]; done) | (have e2 : (xs.take k.toNat).length + 1 + (xs.drop k.toNat).length = xs.length + 1 := (by simp only [List.length_take, List.length_drop]; omega); (try simp only [List.take_length]); (try rw [e2]); simp [fins, funs, idn, ids]; done))))

end Go.Proofs.Ytgcmahhejblpkaa
