/-
Contracts of the functions that reduce fractions, over plain data.
No condition but those that the contracts name.
-/
import Derived.Test.YtbfonmedgcemjaaM2
namespace Go.Proofs.Ytbfonmedgcemjaa
open Eng
set_option linter.unusedSimpArgs false
set_option linter.unusedVariables false
def absV (n : Int) : Int := if n < 0 then IntKind.i64.wrap (0 - n) else n
theorem wrap_bd (n : Int) : -9223372036854775808 ≤ IntKind.i64.wrap n ∧ IntKind.i64.wrap n ≤ 9223372036854775807 := by
  rw [IntKind.wrap_i64]; omega
theorem tmod_lt (a b : Int) (h : b ≠ 0) : (a.tmod b).natAbs < b.natAbs := by
  rw [Int.natAbs_tmod]; exact Nat.mod_lt _ (by omega)
def gcdI (a b : Int) : Int := if h : b = 0 then a else gcdI b (a.tmod b)
termination_by b.natAbs
decreasing_by exact tmod_lt a b h
theorem gcdI_zero (a : Int) : gcdI a 0 = a := by rw [gcdI.eq_1]; simp
theorem gcdI_step {a b : Int} (h : b ≠ 0) : gcdI a b = gcdI b (a.tmod b) := by rw [gcdI.eq_1]; simp [h]
theorem gcdI_ne : ∀ (n : Nat) (a b : Int), b.natAbs ≤ n → a ≠ 0 ∨ b ≠ 0 → gcdI a b ≠ 0
  | n, a, b, hn, h => by
    by_cases hb : b = 0
    · subst hb; rw [gcdI_zero]; rcases h with h | h
      · exact h
      · exact absurd rfl h
    · rw [gcdI_step hb]
      cases n with
      | zero => omega
      | succ n => exact gcdI_ne n b _ (by have := tmod_lt a b hb; omega) (.inl hb)
def fr (num den : Int) : Int := gcdI (absV num) den
theorem fr_ne {num den : Int} (h : den ≠ 0) : fr num den ≠ 0 := gcdI_ne _ _ _ (Nat.le_refl _) (.inr h)
theorem l1Most_gc {a b : Int} : GC Try.prog 74 [vi a, vi b] [] (fun r hs => r = vi (if b < a then a else b) ∧ hs = []) := by
  refine GC.of_func [] Try.call74 Try.func74 rfl ⟨by kernel_rfl, by kernel_rfl⟩ (by kernel_rfl) ?_
  rw [Try.results74]
  simp -implicitDefEqProofs only [sim0, sim1, sim2, sim3, sim4, sim5, sim6, sim7, ↓reduceIte, Nat.reduceEqDiff, Nat.reduceAdd, Nat.reduceMul, Nat.reduceSub, Nat.reduceLT, Nat.reduceLeDiff, Nat.le_refl, reduceCtorEq, Int.reduceToNat, Int.toNat_natCast, Int.reduceNeg, Nat.zero_add, Nat.add_zero, Nat.sub_zero, Nat.sub_self, List.getElem?_cons_succ, List.getElem?_cons_zero, List.getElem?_nil, List.getD_cons_zero, List.getD_cons_succ, Option.getD_some, Option.bind_some, Option.map_some, Option.map_none, List.map_cons, List.map_nil, List.length_cons, List.length_nil, List.length_append, List.length_set, List.length_map, List.drop_succ_cons, List.drop_zero, List.drop_nil, List.take_succ_cons, List.take_zero, List.cons_append, List.nil_append, List.append_nil, List.set_cons_zero, List.set_cons_succ, List.length_replicate, decide_eq_true_eq, decide_eq_false_iff_not, Bool.not_eq_true', Bool.not_eq_false', true_and, and_true, and_self, true_or, Bool.not_true, Bool.not_false, Bool.not_not, Bool.true_eq_false, Bool.false_eq_true, false_implies, true_implies, forall_const, Bool.and_true, Bool.true_and, Bool.and_self, decide_true, decide_false, Option.some.injEq, forall_eq', forall_eq, ty]
  repeat' (first
    | (with_reducible refine And.intro (fun hq => ?_) (fun hq => ?_))
    | (with_reducible refine And.intro ?_ ?_)
    | (refine fin_nil ?_; (first | (simp_all [fins]; done) | (simp_all [-Int.not_lt, -Int.not_le, fins]; done) | (simp_all [fins]; omega)))
    | omega
    | (simp_all; done))

theorem absI_gc {n : Int} : GC Try.prog 76 [vi n] [] (fun r hs => r = vi (absV n) ∧ hs = []) := by
  refine GC.of_func [] Try.call76 Try.func76 rfl ⟨by kernel_rfl, by kernel_rfl⟩ (by kernel_rfl) ?_
  rw [Try.results76]
  simp -implicitDefEqProofs only [sim0, sim1, sim2, sim3, sim4, sim5, sim6, sim7, ↓reduceIte, Nat.reduceEqDiff, Nat.reduceAdd, Nat.reduceMul, Nat.reduceSub, Nat.reduceLT, Nat.reduceLeDiff, Nat.le_refl, reduceCtorEq, Int.reduceToNat, Int.toNat_natCast, Int.reduceNeg, Nat.zero_add, Nat.add_zero, Nat.sub_zero, Nat.sub_self, List.getElem?_cons_succ, List.getElem?_cons_zero, List.getElem?_nil, List.getD_cons_zero, List.getD_cons_succ, Option.getD_some, Option.bind_some, Option.map_some, Option.map_none, List.map_cons, List.map_nil, List.length_cons, List.length_nil, List.length_append, List.length_set, List.length_map, List.drop_succ_cons, List.drop_zero, List.drop_nil, List.take_succ_cons, List.take_zero, List.cons_append, List.nil_append, List.append_nil, List.set_cons_zero, List.set_cons_succ, List.length_replicate, decide_eq_true_eq, decide_eq_false_iff_not, Bool.not_eq_true', Bool.not_eq_false', true_and, and_true, and_self, true_or, Bool.not_true, Bool.not_false, Bool.not_not, Bool.true_eq_false, Bool.false_eq_true, false_implies, true_implies, forall_const, Bool.and_true, Bool.true_and, Bool.and_self, decide_true, decide_false, Option.some.injEq, forall_eq', forall_eq, ty]
  repeat' (first
    | (with_reducible refine And.intro (fun hq => ?_) (fun hq => ?_))
    | (with_reducible refine And.intro ?_ ?_)
    | (refine fin_nil ?_; (first | (simp_all [fins, absV]; done) | (simp_all [-Int.not_lt, -Int.not_le, fins, absV]; done) | (simp_all [fins, absV]; omega)))
    | omega
    | (simp_all; done))

theorem gcdF_gc {a0 b0 : Int} : GC Try.prog 75 [vi a0, vi b0] [] (fun r hs => r = vi (gcdI a0 b0) ∧ hs = []) := by
  refine GC.of_func [(2, .val 0 (.val 1 (.val 2 (.val 3 (.val 4 (.val 5 (.done)))))))] Try.call75 Try.func75 rfl ⟨by kernel_rfl, by kernel_rfl⟩ (by kernel_rfl) ?_
  rw [Try.results75]
  simp -implicitDefEqProofs only [sim0, sim1, sim2, sim3, sim4, sim5, sim6, sim7, ↓reduceIte, Nat.reduceEqDiff, Nat.reduceAdd, Nat.reduceMul, Nat.reduceSub, Nat.reduceLT, Nat.reduceLeDiff, Nat.le_refl, reduceCtorEq, Int.reduceToNat, Int.toNat_natCast, Int.reduceNeg, Nat.zero_add, Nat.add_zero, Nat.sub_zero, Nat.sub_self, List.getElem?_cons_succ, List.getElem?_cons_zero, List.getElem?_nil, List.getD_cons_zero, List.getD_cons_succ, Option.getD_some, Option.bind_some, Option.map_some, Option.map_none, List.map_cons, List.map_nil, List.length_cons, List.length_nil, List.length_append, List.length_set, List.length_map, List.drop_succ_cons, List.drop_zero, List.drop_nil, List.take_succ_cons, List.take_zero, List.cons_append, List.nil_append, List.append_nil, List.set_cons_zero, List.set_cons_succ, List.length_replicate, decide_eq_true_eq, decide_eq_false_iff_not, Bool.not_eq_true', Bool.not_eq_false', true_and, and_true, and_self, true_or, Bool.not_true, Bool.not_false, Bool.not_not, Bool.true_eq_false, Bool.false_eq_true, false_implies, true_implies, forall_const, Bool.and_true, Bool.true_and, Bool.and_self, decide_true, decide_false, Option.some.injEq, forall_eq', forall_eq, ty]
  repeat' (first
    | (refine acode_loopS 1 (by rfl) (α := Int × Int) (fun ⟨a, b⟩ => [(0, vi a), (1, vi b)]) [5, 6, 7, 8, 9, 10] (fun ⟨a, b⟩ => gcdI a0 b0 = gcdI a b) (fun ⟨a, b⟩ => b.natAbs) (a0, b0) (by repeat' (first | exact agr_none | exact lk_hd | refine lk_tl (by decide) ?_ | refine agr_one ?_ ?_)) (by (try simp only []) <;> simp_all) ?_; rintro ⟨a, b⟩ hJ; (try simp only [] at hJ); simp -implicitDefEqProofs only [sim0, sim1, sim2, sim3, sim4, sim5, sim6, sim7, ↓reduceIte, Nat.reduceEqDiff, Nat.reduceAdd, Nat.reduceMul, Nat.reduceSub, Nat.reduceLT, Nat.reduceLeDiff, Nat.le_refl, reduceCtorEq, Int.reduceToNat, Int.toNat_natCast, Int.reduceNeg, Nat.zero_add, Nat.add_zero, Nat.sub_zero, Nat.sub_self, List.getElem?_cons_succ, List.getElem?_cons_zero, List.getElem?_nil, List.getD_cons_zero, List.getD_cons_succ, Option.getD_some, Option.bind_some, Option.map_some, Option.map_none, List.map_cons, List.map_nil, List.length_cons, List.length_nil, List.length_append, List.length_set, List.length_map, List.drop_succ_cons, List.drop_zero, List.drop_nil, List.take_succ_cons, List.take_zero, List.cons_append, List.nil_append, List.append_nil, List.set_cons_zero, List.set_cons_succ, List.length_replicate, decide_eq_true_eq, decide_eq_false_iff_not, Bool.not_eq_true', Bool.not_eq_false', true_and, and_true, and_self, true_or, Bool.not_true, Bool.not_false, Bool.not_not, Bool.true_eq_false, Bool.false_eq_true, false_implies, true_implies, forall_const, Bool.and_true, Bool.true_and, Bool.and_self, decide_true, decide_false, Option.some.injEq, forall_eq', forall_eq, ty])
    | (refine lps_end (_, _) (by (try dsimp only []); repeat' (first | exact agr_none | exact lk_hd | refine lk_tl (by decide) ?_ | refine agr_one ?_ ?_)) (by repeat' (first | exact und_refl | refine und_drop rfl ?_)) ?_ ?_ <;> ((try simp only []); (first | exact tmod_lt _ _ (by simp_all) | (rw [hJ, gcdI_step (by simp_all)]))))
    | (with_reducible refine And.intro (fun hq => ?_) (fun hq => ?_))
    | (with_reducible refine And.intro ?_ ?_)
    | (refine fin_nil ?_; (first | (subst_vars; simp_all [fins, gcdI_zero]; done) | (simp_all [fins]; done) | (simp_all [-Int.not_lt, -Int.not_le, fins]; done) | (simp_all [fins]; omega)))
    | omega
    | (subst_vars; simp_all [fins, gcdI_zero]; done))

theorem most_abs {n : Int} (h : -9223372036854775808 ≤ n ∧ n ≤ 9223372036854775807) : (if IntKind.i64.wrap (-n) < n then n else IntKind.i64.wrap (-n)) = absV n := by
  unfold absV
  rw [Int.zero_sub, IntKind.wrap_i64]
  split <;> split <;> omega
theorem fraction_gc {num den : Int} (hd : den ≠ 0) : GC Try.prog 61 [vi num, vi den] [] (fun r hs => r = .tup [vi (IntKind.i64.wrap (num.tdiv (fr num den))), vi (IntKind.i64.wrap (den.tdiv (fr num den)))] ∧ hs = []) := by
  refine GC.of_func [(2, .val 0 (.val 1 (.val 2 (.val 3 (.val 4 (.val 5 (.val 6 (.val 7 (.done)))))))))] Try.call61 Try.func61 rfl ⟨by kernel_rfl, by kernel_rfl⟩ (by kernel_rfl) ?_
  rw [Try.results61]
  simp -implicitDefEqProofs only [sim0, sim1, sim2, sim3, sim4, sim5, sim6, sim7, ↓reduceIte, Nat.reduceEqDiff, Nat.reduceAdd, Nat.reduceMul, Nat.reduceSub, Nat.reduceLT, Nat.reduceLeDiff, Nat.le_refl, reduceCtorEq, Int.reduceToNat, Int.toNat_natCast, Int.reduceNeg, Nat.zero_add, Nat.add_zero, Nat.sub_zero, Nat.sub_self, List.getElem?_cons_succ, List.getElem?_cons_zero, List.getElem?_nil, List.getD_cons_zero, List.getD_cons_succ, Option.getD_some, Option.bind_some, Option.map_some, Option.map_none, List.map_cons, List.map_nil, List.length_cons, List.length_nil, List.length_append, List.length_set, List.length_map, List.drop_succ_cons, List.drop_zero, List.drop_nil, List.take_succ_cons, List.take_zero, List.cons_append, List.nil_append, List.append_nil, List.set_cons_zero, List.set_cons_succ, List.length_replicate, decide_eq_true_eq, decide_eq_false_iff_not, Bool.not_eq_true', Bool.not_eq_false', true_and, and_true, and_self, true_or, Bool.not_true, Bool.not_false, Bool.not_not, Bool.true_eq_false, Bool.false_eq_true, false_implies, true_implies, forall_const, Bool.and_true, Bool.true_and, Bool.and_self, decide_true, decide_false, Option.some.injEq, forall_eq', forall_eq, ty]
  repeat' (first
    | (refine GC.callS absI_gc rfl rfl ?_; try simp -implicitDefEqProofs only [sim0, sim1, sim2, sim3, sim4, sim5, sim6, sim7, ↓reduceIte, Nat.reduceEqDiff, Nat.reduceAdd, Nat.reduceMul, Nat.reduceSub, Nat.reduceLT, Nat.reduceLeDiff, Nat.le_refl, reduceCtorEq, Int.reduceToNat, Int.toNat_natCast, Int.reduceNeg, Nat.zero_add, Nat.add_zero, Nat.sub_zero, Nat.sub_self, List.getElem?_cons_succ, List.getElem?_cons_zero, List.getElem?_nil, List.getD_cons_zero, List.getD_cons_succ, Option.getD_some, Option.bind_some, Option.map_some, Option.map_none, List.map_cons, List.map_nil, List.length_cons, List.length_nil, List.length_append, List.length_set, List.length_map, List.drop_succ_cons, List.drop_zero, List.drop_nil, List.take_succ_cons, List.take_zero, List.cons_append, List.nil_append, List.append_nil, List.set_cons_zero, List.set_cons_succ, List.length_replicate, decide_eq_true_eq, decide_eq_false_iff_not, Bool.not_eq_true', Bool.not_eq_false', true_and, and_true, and_self, true_or, Bool.not_true, Bool.not_false, Bool.not_not, Bool.true_eq_false, Bool.false_eq_true, false_implies, true_implies, forall_const, Bool.and_true, Bool.true_and, Bool.and_self, decide_true, decide_false, Option.some.injEq, forall_eq', forall_eq, ty])
    | (refine GC.callS gcdF_gc rfl rfl ?_; try simp -implicitDefEqProofs only [sim0, sim1, sim2, sim3, sim4, sim5, sim6, sim7, ↓reduceIte, Nat.reduceEqDiff, Nat.reduceAdd, Nat.reduceMul, Nat.reduceSub, Nat.reduceLT, Nat.reduceLeDiff, Nat.le_refl, reduceCtorEq, Int.reduceToNat, Int.toNat_natCast, Int.reduceNeg, Nat.zero_add, Nat.add_zero, Nat.sub_zero, Nat.sub_self, List.getElem?_cons_succ, List.getElem?_cons_zero, List.getElem?_nil, List.getD_cons_zero, List.getD_cons_succ, Option.getD_some, Option.bind_some, Option.map_some, Option.map_none, List.map_cons, List.map_nil, List.length_cons, List.length_nil, List.length_append, List.length_set, List.length_map, List.drop_succ_cons, List.drop_zero, List.drop_nil, List.take_succ_cons, List.take_zero, List.cons_append, List.nil_append, List.append_nil, List.set_cons_zero, List.set_cons_succ, List.length_replicate, decide_eq_true_eq, decide_eq_false_iff_not, Bool.not_eq_true', Bool.not_eq_false', true_and, and_true, and_self, true_or, Bool.not_true, Bool.not_false, Bool.not_not, Bool.true_eq_false, Bool.false_eq_true, false_implies, true_implies, forall_const, Bool.and_true, Bool.true_and, Bool.and_self, decide_true, decide_false, Option.some.injEq, forall_eq', forall_eq, ty])
    | (with_reducible refine And.intro (fun hq => ?_) (fun hq => ?_))
    | (with_reducible refine And.intro ?_ ?_)
    | (refine fin_nil ?_; (first | (exact fr_ne hd) | (simp_all [fins, fr]; done) | (simp_all [-Int.not_lt, -Int.not_le, fins, fr]; done) | (simp_all [fins, fr]; omega)))
    | omega
    | (exact fr_ne hd))

theorem l6Reduce_gc {num den : Int} (hd : den ≠ 0) (hn : -9223372036854775808 ≤ num ∧ num ≤ 9223372036854775807) : GC Try.prog 60 [vi num, vi den] [] (fun r hs => r = .tup [vi (IntKind.i64.wrap (num.tdiv (fr num den))), vi (IntKind.i64.wrap (den.tdiv (fr num den)))] ∧ hs = []) := by
  refine GC.of_func [(6, .val 0 (.val 1 (.val 2 (.val 3 (.val 4 (.val 5 (.val 6 (.val 7 (.done)))))))))] Try.call60 Try.func60 rfl ⟨by kernel_rfl, by kernel_rfl⟩ (by kernel_rfl) ?_
  rw [Try.results60]
  simp -implicitDefEqProofs only [sim0, sim1, sim2, sim3, sim4, sim5, sim6, sim7, ↓reduceIte, Nat.reduceEqDiff, Nat.reduceAdd, Nat.reduceMul, Nat.reduceSub, Nat.reduceLT, Nat.reduceLeDiff, Nat.le_refl, reduceCtorEq, Int.reduceToNat, Int.toNat_natCast, Int.reduceNeg, Nat.zero_add, Nat.add_zero, Nat.sub_zero, Nat.sub_self, List.getElem?_cons_succ, List.getElem?_cons_zero, List.getElem?_nil, List.getD_cons_zero, List.getD_cons_succ, Option.getD_some, Option.bind_some, Option.map_some, Option.map_none, List.map_cons, List.map_nil, List.length_cons, List.length_nil, List.length_append, List.length_set, List.length_map, List.drop_succ_cons, List.drop_zero, List.drop_nil, List.take_succ_cons, List.take_zero, List.cons_append, List.nil_append, List.append_nil, List.set_cons_zero, List.set_cons_succ, List.length_replicate, decide_eq_true_eq, decide_eq_false_iff_not, Bool.not_eq_true', Bool.not_eq_false', true_and, and_true, and_self, true_or, Bool.not_true, Bool.not_false, Bool.not_not, Bool.true_eq_false, Bool.false_eq_true, false_implies, true_implies, forall_const, Bool.and_true, Bool.true_and, Bool.and_self, decide_true, decide_false, Option.some.injEq, forall_eq', forall_eq, ty]
  repeat' (first
    | (refine GC.callS l1Most_gc rfl rfl ?_; try simp -implicitDefEqProofs only [sim0, sim1, sim2, sim3, sim4, sim5, sim6, sim7, ↓reduceIte, Nat.reduceEqDiff, Nat.reduceAdd, Nat.reduceMul, Nat.reduceSub, Nat.reduceLT, Nat.reduceLeDiff, Nat.le_refl, reduceCtorEq, Int.reduceToNat, Int.toNat_natCast, Int.reduceNeg, Nat.zero_add, Nat.add_zero, Nat.sub_zero, Nat.sub_self, List.getElem?_cons_succ, List.getElem?_cons_zero, List.getElem?_nil, List.getD_cons_zero, List.getD_cons_succ, Option.getD_some, Option.bind_some, Option.map_some, Option.map_none, List.map_cons, List.map_nil, List.length_cons, List.length_nil, List.length_append, List.length_set, List.length_map, List.drop_succ_cons, List.drop_zero, List.drop_nil, List.take_succ_cons, List.take_zero, List.cons_append, List.nil_append, List.append_nil, List.set_cons_zero, List.set_cons_succ, List.length_replicate, decide_eq_true_eq, decide_eq_false_iff_not, Bool.not_eq_true', Bool.not_eq_false', true_and, and_true, and_self, true_or, Bool.not_true, Bool.not_false, Bool.not_not, Bool.true_eq_false, Bool.false_eq_true, false_implies, true_implies, forall_const, Bool.and_true, Bool.true_and, Bool.and_self, decide_true, decide_false, Option.some.injEq, forall_eq', forall_eq, ty])
    | (refine acode_loopS 2 (by rfl) (α := Int × Int) (fun ⟨a, b⟩ => [(6, vi a), (7, vi b)]) [8, 14, 15, 16, 17, 18, 19, 20] (fun ⟨a, b⟩ => fr num den = gcdI a b) (fun ⟨a, b⟩ => b.natAbs) (_, _) (by repeat' (first | exact agr_none | exact lk_hd | refine lk_tl (by decide) ?_ | refine agr_one ?_ ?_)) (by (try simp only []) <;> simp_all [fr, most_abs hn]) ?_; rintro ⟨a, b⟩ hJ; (try simp only [] at hJ); simp -implicitDefEqProofs only [sim0, sim1, sim2, sim3, sim4, sim5, sim6, sim7, ↓reduceIte, Nat.reduceEqDiff, Nat.reduceAdd, Nat.reduceMul, Nat.reduceSub, Nat.reduceLT, Nat.reduceLeDiff, Nat.le_refl, reduceCtorEq, Int.reduceToNat, Int.toNat_natCast, Int.reduceNeg, Nat.zero_add, Nat.add_zero, Nat.sub_zero, Nat.sub_self, List.getElem?_cons_succ, List.getElem?_cons_zero, List.getElem?_nil, List.getD_cons_zero, List.getD_cons_succ, Option.getD_some, Option.bind_some, Option.map_some, Option.map_none, List.map_cons, List.map_nil, List.length_cons, List.length_nil, List.length_append, List.length_set, List.length_map, List.drop_succ_cons, List.drop_zero, List.drop_nil, List.take_succ_cons, List.take_zero, List.cons_append, List.nil_append, List.append_nil, List.set_cons_zero, List.set_cons_succ, List.length_replicate, decide_eq_true_eq, decide_eq_false_iff_not, Bool.not_eq_true', Bool.not_eq_false', true_and, and_true, and_self, true_or, Bool.not_true, Bool.not_false, Bool.not_not, Bool.true_eq_false, Bool.false_eq_true, false_implies, true_implies, forall_const, Bool.and_true, Bool.true_and, Bool.and_self, decide_true, decide_false, Option.some.injEq, forall_eq', forall_eq, ty])
    | (refine lps_end (_, _) (by (try dsimp only []); repeat' (first | exact agr_none | exact lk_hd | refine lk_tl (by decide) ?_ | refine agr_one ?_ ?_)) (by repeat' (first | exact und_refl | refine und_drop rfl ?_)) ?_ ?_ <;> ((try simp only []); (first | exact tmod_lt _ _ (by simp_all) | (rw [hJ, gcdI_step (by simp_all)]))))
    | (with_reducible refine And.intro (fun hq => ?_) (fun hq => ?_))
    | (with_reducible refine And.intro ?_ ?_)
    | (refine fin_nil ?_; (first | (first | (subst_vars; have := fr_ne (num := num) hd; simp_all [fins, gcdI_zero]; done)) | (simp_all [fins, fr, most_abs hn]; done) | (simp_all [-Int.not_lt, -Int.not_le, fins, fr, most_abs hn]; done) | (simp_all [fins, fr, most_abs hn]; omega)))
    | omega
    | (first | (subst_vars; have := fr_ne (num := num) hd; simp_all [fins, gcdI_zero]; done)))

end Go.Proofs.Ytbfonmedgcemjaa
