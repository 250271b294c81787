/-
Contracts of what copies and compares sectors and of what says that they are valid, over plain data.
No condition but those that the contracts name.
-/
import Derived.Test.YtphpdlofeijddaaS1
namespace Go.Proofs.Ytphpdlofeijddaa
open Eng
set_option linter.unusedSimpArgs false
set_option linter.unusedVariables false
set_option maxRecDepth 100000 in
set_option maxHeartbeats 4000000 in
theorem toSector_gc {id : Int} {ps : List Plc} (hl : ps.length ≤ 1048576) : GC Try.prog 13 [.agg [vi id, .sl 2 (ps.map Plc.e)]] [] (fun r_ hs_ => r_ = .agg [vi id, .ref 0 ps.length] ∧ hs_ = [.arr 2 (ps.map Plc.e)]) := by
  refine GC.of_func [] Try.call13 Try.func13 rfl ⟨by kernel_rfl, by kernel_rfl⟩ (by kernel_rfl) ?_
  rw [Try.results13]
  simp -implicitDefEqProofs (maxSteps := 4000000) only [sim0, sim1, sim2, sim3, sim4, sim5, sim6, sim7, sim8, ↓reduceIte, Nat.reduceEqDiff, Nat.reduceAdd, Nat.reduceMul, Nat.reduceSub, Nat.reduceLT, Nat.reduceLeDiff, Nat.le_refl, reduceCtorEq, Int.reduceToNat, Int.toNat_natCast, Int.reduceNeg, beq_self_eq_true, Nat.zero_add, Nat.add_zero, Nat.sub_zero, Nat.sub_self, List.getElem?_cons_succ, List.getElem?_cons_zero, List.getElem?_nil, List.getD_cons_zero, List.getD_cons_succ, Option.getD_some, Option.bind_some, Option.map_some, Option.map_none, List.map_cons, List.map_nil, List.length_cons, List.length_nil, List.length_append, List.length_set, List.length_map, List.drop_succ_cons, List.drop_zero, List.drop_nil, List.take_succ_cons, List.take_zero, List.cons_append, List.nil_append, List.append_nil, List.set_cons_zero, List.set_cons_succ, List.length_replicate, decide_eq_true_eq, decide_eq_false_iff_not, Bool.not_eq_true', Bool.not_eq_false', true_and, and_true, and_self, true_or, Bool.not_true, Bool.not_false, Bool.not_not, Bool.true_eq_false, Bool.false_eq_true, false_implies, true_implies, forall_const, Bool.false_or, Bool.or_false, Bool.true_or, Bool.or_true, List.contains_nil, List.contains_cons, Nat.reduceBEq, Bool.and_true, Bool.true_and, Bool.and_self, decide_true, decide_false, Option.some.injEq, forall_eq', forall_eq, ty, Plc.row, idxS_map, loadS_map, stoS_map, ← List.map_take, ← List.map_drop]
  repeat' (first
    | ((with_reducible refine onCall ?_); first
      | (refine GC.use true [] (toPlaceS_gc ?_) rfl trivial (by repeat' (first | exact arL_nil | refine arL_cons ?_ ?_ | exact ar_v | exact ar_sl | exact ar_nil | refine ar_ref rfl rfl (by simp) (plnLL_map (fun _ => rfl) _) | refine ar_rs rfl rfl (by simp; omega) (plnLL_map (fun _ => rfl) _) | refine ar_agg ?_)) (.inr ⟨rfl, by first | rfl | simp [Plc.ns]⟩) ?_ <;> try simp -implicitDefEqProofs (maxSteps := 4000000) only [sim0, sim1, sim2, sim3, sim4, sim5, sim6, sim7, sim8, ↓reduceIte, Nat.reduceEqDiff, Nat.reduceAdd, Nat.reduceMul, Nat.reduceSub, Nat.reduceLT, Nat.reduceLeDiff, Nat.le_refl, reduceCtorEq, Int.reduceToNat, Int.toNat_natCast, Int.reduceNeg, beq_self_eq_true, Nat.zero_add, Nat.add_zero, Nat.sub_zero, Nat.sub_self, List.getElem?_cons_succ, List.getElem?_cons_zero, List.getElem?_nil, List.getD_cons_zero, List.getD_cons_succ, Option.getD_some, Option.bind_some, Option.map_some, Option.map_none, List.map_cons, List.map_nil, List.length_cons, List.length_nil, List.length_append, List.length_set, List.length_map, List.drop_succ_cons, List.drop_zero, List.drop_nil, List.take_succ_cons, List.take_zero, List.cons_append, List.nil_append, List.append_nil, List.set_cons_zero, List.set_cons_succ, List.length_replicate, decide_eq_true_eq, decide_eq_false_iff_not, Bool.not_eq_true', Bool.not_eq_false', true_and, and_true, and_self, true_or, Bool.not_true, Bool.not_false, Bool.not_not, Bool.true_eq_false, Bool.false_eq_true, false_implies, true_implies, forall_const, Bool.false_or, Bool.or_false, Bool.true_or, Bool.or_true, List.contains_nil, List.contains_cons, Nat.reduceBEq, Bool.and_true, Bool.true_and, Bool.and_self, decide_true, decide_false, Option.some.injEq, forall_eq', forall_eq, ty, Plc.row, idxS_map, loadS_map, stoS_map, ← List.map_take, ← List.map_drop])
      | fail)
    | ((with_reducible refine onFin ?_); first
      | (refine fin_own' ?_ ?_ (by simp) (by first | rfl | simp only [plnLL, pln, List.all_cons, List.all_nil, plnH, Plc.pl, Bool.and_true, Bool.and_self, List.take_zero, List.nil_append, List.map_cons, List.map_nil]) <;> (first | (simp_all [fins]; done) | (simp_all [-Int.not_lt, -Int.not_le, fins]; done) | (simp_all [fins]; omega)))
      | (refine fin_ownT' ?_ ?_ ?_ (by simp) (by first | rfl | simp only [plnLL, pln, List.all_cons, List.all_nil, plnH, Plc.pl, Bool.and_true, Bool.and_self, List.take_zero, List.nil_append, List.map_cons, List.map_nil]) rfl <;> (first | (simp_all [fins]; done) | (simp_all [-Int.not_lt, -Int.not_le, fins]; done) | (simp_all [fins]; omega)))
      | (refine fin_ids ?_ ?_ ?_ (by first | rfl | simp only [plnLL, pln, List.all_cons, List.all_nil, plnH, Plc.pl, Bool.and_true, Bool.and_self, List.take_zero, List.nil_append, List.map_cons, List.map_nil]) <;> (first | (simp_all [fins, funs]; done) | (simp [fins, funs]; done) | (simp_all [-Int.not_lt, -Int.not_le, fins, funs]; done) | (simp_all [fins, funs]; omega)))
      | fail)
    | (with_reducible refine ite_intro (fun hq => ?_) (fun hq => ?_))
    | (with_reducible refine And.intro (fun hq => ?_) (fun hq => ?_))
    | (with_reducible refine And.intro ?_ ?_)
    | ((fail_if_success (with_reducible refine onCode ?_)); (fail_if_success (with_reducible refine onLps ?_)); (fail_if_success (with_reducible refine onLpd ?_)); (fail_if_success (with_reducible refine onLpe ?_)); (fail_if_success (with_reducible refine onFin ?_)); (fail_if_success (with_reducible refine onCall ?_)); (fail_if_success (with_reducible refine onQcall ?_)); first | ((omega); done) | omega | (rw [wrap_id (by omega) (by omega)]; omega) | (simp_all; done)))

set_option maxRecDepth 100000 in
set_option maxHeartbeats 4000000 in
theorem szSector_gc {id : Int} {ps : List Plc} {n : Int} (hn : 0 ≤ n ∧ n ≤ 1048576) (hl : ps.length ≤ maxLen) : GC Try.prog 11 [.agg [vi id, .sl 2 (ps.map Plc.e)], vi n] [] (fun r_ hs_ => r_ = vi (if n < (ps.length : Int) then -1 else n - ps.length) ∧ hs_ = []) := by
  refine GC.of_func [] Try.call11 Try.func11 rfl ⟨by kernel_rfl, by kernel_rfl⟩ (by kernel_rfl) ?_
  rw [Try.results11]
  simp -implicitDefEqProofs (maxSteps := 4000000) only [sim0, sim1, sim2, sim3, sim4, sim5, sim6, sim7, sim8, ↓reduceIte, Nat.reduceEqDiff, Nat.reduceAdd, Nat.reduceMul, Nat.reduceSub, Nat.reduceLT, Nat.reduceLeDiff, Nat.le_refl, reduceCtorEq, Int.reduceToNat, Int.toNat_natCast, Int.reduceNeg, beq_self_eq_true, Nat.zero_add, Nat.add_zero, Nat.sub_zero, Nat.sub_self, List.getElem?_cons_succ, List.getElem?_cons_zero, List.getElem?_nil, List.getD_cons_zero, List.getD_cons_succ, Option.getD_some, Option.bind_some, Option.map_some, Option.map_none, List.map_cons, List.map_nil, List.length_cons, List.length_nil, List.length_append, List.length_set, List.length_map, List.drop_succ_cons, List.drop_zero, List.drop_nil, List.take_succ_cons, List.take_zero, List.cons_append, List.nil_append, List.append_nil, List.set_cons_zero, List.set_cons_succ, List.length_replicate, decide_eq_true_eq, decide_eq_false_iff_not, Bool.not_eq_true', Bool.not_eq_false', true_and, and_true, and_self, true_or, Bool.not_true, Bool.not_false, Bool.not_not, Bool.true_eq_false, Bool.false_eq_true, false_implies, true_implies, forall_const, Bool.false_or, Bool.or_false, Bool.true_or, Bool.or_true, List.contains_nil, List.contains_cons, Nat.reduceBEq, Bool.and_true, Bool.true_and, Bool.and_self, decide_true, decide_false, Option.some.injEq, forall_eq', forall_eq, ty, Plc.row, idxS_map, loadS_map, stoS_map, ← List.map_take, ← List.map_drop, sz_neg]
  repeat' (first
    | ((with_reducible refine onCall ?_); first
      | (refine GC.callR (by repeat' (first | exact rdL_nil | refine rdL_cons ?_ ?_ | exact rd_v | exact rd_sl | exact rd_nil | refine rd_ref rfl (by simp) (plnLL_map (fun _ => rfl) _) | refine rd_rs rfl (by simp; omega) (plnLL_map (fun _ => rfl) _) | refine rd_agg ?_)) (szPlaceS_gc ?_ ?_) rfl ?_ <;> try simp -implicitDefEqProofs (maxSteps := 4000000) only [sim0, sim1, sim2, sim3, sim4, sim5, sim6, sim7, sim8, ↓reduceIte, Nat.reduceEqDiff, Nat.reduceAdd, Nat.reduceMul, Nat.reduceSub, Nat.reduceLT, Nat.reduceLeDiff, Nat.le_refl, reduceCtorEq, Int.reduceToNat, Int.toNat_natCast, Int.reduceNeg, beq_self_eq_true, Nat.zero_add, Nat.add_zero, Nat.sub_zero, Nat.sub_self, List.getElem?_cons_succ, List.getElem?_cons_zero, List.getElem?_nil, List.getD_cons_zero, List.getD_cons_succ, Option.getD_some, Option.bind_some, Option.map_some, Option.map_none, List.map_cons, List.map_nil, List.length_cons, List.length_nil, List.length_append, List.length_set, List.length_map, List.drop_succ_cons, List.drop_zero, List.drop_nil, List.take_succ_cons, List.take_zero, List.cons_append, List.nil_append, List.append_nil, List.set_cons_zero, List.set_cons_succ, List.length_replicate, decide_eq_true_eq, decide_eq_false_iff_not, Bool.not_eq_true', Bool.not_eq_false', true_and, and_true, and_self, true_or, Bool.not_true, Bool.not_false, Bool.not_not, Bool.true_eq_false, Bool.false_eq_true, false_implies, true_implies, forall_const, Bool.false_or, Bool.or_false, Bool.true_or, Bool.or_true, List.contains_nil, List.contains_cons, Nat.reduceBEq, Bool.and_true, Bool.true_and, Bool.and_self, decide_true, decide_false, Option.some.injEq, forall_eq', forall_eq, ty, Plc.row, idxS_map, loadS_map, stoS_map, ← List.map_take, ← List.map_drop, sz_neg])
      | fail)
    | ((with_reducible refine onFin ?_); first
      | (refine fin_nil ?_; (first | (simp_all [fins]; done) | (simp_all [-Int.not_lt, -Int.not_le, fins]; done) | (simp_all [fins]; omega)))
      | fail)
    | (with_reducible refine ite_intro (fun hq => ?_) (fun hq => ?_))
    | (with_reducible refine And.intro (fun hq => ?_) (fun hq => ?_))
    | (with_reducible refine And.intro ?_ ?_)
    | ((fail_if_success (with_reducible refine onCode ?_)); (fail_if_success (with_reducible refine onLps ?_)); (fail_if_success (with_reducible refine onLpd ?_)); (fail_if_success (with_reducible refine onLpe ?_)); (fail_if_success (with_reducible refine onFin ?_)); (fail_if_success (with_reducible refine onCall ?_)); (fail_if_success (with_reducible refine onQcall ?_)); first | ((omega); done) | omega | (rw [wrap_id (by omega) (by omega)]; omega) | (simp_all; done)))

set_option maxRecDepth 100000 in
set_option maxHeartbeats 4000000 in
theorem eqSector_gc {id : Int} {ps : List Plc} (hl : ps.length ≤ 1048576) : GC Try.prog 15 [.agg [vi id, .sl 2 (ps.map Plc.e)], .agg [vi id, .sl 2 (ps.map Plc.e)]] [] (fun r_ hs_ => r_ = vb true ∧ hs_ = []) := by
  refine GC.of_func [] Try.call15 Try.func15 rfl ⟨by kernel_rfl, by kernel_rfl⟩ (by kernel_rfl) ?_
  rw [Try.results15]
  simp -implicitDefEqProofs (maxSteps := 4000000) only [sim0, sim1, sim2, sim3, sim4, sim5, sim6, sim7, sim8, ↓reduceIte, Nat.reduceEqDiff, Nat.reduceAdd, Nat.reduceMul, Nat.reduceSub, Nat.reduceLT, Nat.reduceLeDiff, Nat.le_refl, reduceCtorEq, Int.reduceToNat, Int.toNat_natCast, Int.reduceNeg, beq_self_eq_true, Nat.zero_add, Nat.add_zero, Nat.sub_zero, Nat.sub_self, List.getElem?_cons_succ, List.getElem?_cons_zero, List.getElem?_nil, List.getD_cons_zero, List.getD_cons_succ, Option.getD_some, Option.bind_some, Option.map_some, Option.map_none, List.map_cons, List.map_nil, List.length_cons, List.length_nil, List.length_append, List.length_set, List.length_map, List.drop_succ_cons, List.drop_zero, List.drop_nil, List.take_succ_cons, List.take_zero, List.cons_append, List.nil_append, List.append_nil, List.set_cons_zero, List.set_cons_succ, List.length_replicate, decide_eq_true_eq, decide_eq_false_iff_not, Bool.not_eq_true', Bool.not_eq_false', true_and, and_true, and_self, true_or, Bool.not_true, Bool.not_false, Bool.not_not, Bool.true_eq_false, Bool.false_eq_true, false_implies, true_implies, forall_const, Bool.false_or, Bool.or_false, Bool.true_or, Bool.or_true, List.contains_nil, List.contains_cons, Nat.reduceBEq, Bool.and_true, Bool.true_and, Bool.and_self, decide_true, decide_false, Option.some.injEq, forall_eq', forall_eq, ty, Plc.row, idxS_map, loadS_map, stoS_map, ← List.map_take, ← List.map_drop]
  repeat' (first
    | ((with_reducible refine onCall ?_); first
      | (refine GC.callR (by repeat' (first | exact rdL_nil | refine rdL_cons ?_ ?_ | exact rd_v | exact rd_sl | exact rd_nil | refine rd_ref rfl (by simp) (plnLL_map (fun _ => rfl) _) | refine rd_rs rfl (by simp; omega) (plnLL_map (fun _ => rfl) _) | refine rd_agg ?_)) (eqPlaceS_gc ?_) rfl ?_ <;> try simp -implicitDefEqProofs (maxSteps := 4000000) only [sim0, sim1, sim2, sim3, sim4, sim5, sim6, sim7, sim8, ↓reduceIte, Nat.reduceEqDiff, Nat.reduceAdd, Nat.reduceMul, Nat.reduceSub, Nat.reduceLT, Nat.reduceLeDiff, Nat.le_refl, reduceCtorEq, Int.reduceToNat, Int.toNat_natCast, Int.reduceNeg, beq_self_eq_true, Nat.zero_add, Nat.add_zero, Nat.sub_zero, Nat.sub_self, List.getElem?_cons_succ, List.getElem?_cons_zero, List.getElem?_nil, List.getD_cons_zero, List.getD_cons_succ, Option.getD_some, Option.bind_some, Option.map_some, Option.map_none, List.map_cons, List.map_nil, List.length_cons, List.length_nil, List.length_append, List.length_set, List.length_map, List.drop_succ_cons, List.drop_zero, List.drop_nil, List.take_succ_cons, List.take_zero, List.cons_append, List.nil_append, List.append_nil, List.set_cons_zero, List.set_cons_succ, List.length_replicate, decide_eq_true_eq, decide_eq_false_iff_not, Bool.not_eq_true', Bool.not_eq_false', true_and, and_true, and_self, true_or, Bool.not_true, Bool.not_false, Bool.not_not, Bool.true_eq_false, Bool.false_eq_true, false_implies, true_implies, forall_const, Bool.false_or, Bool.or_false, Bool.true_or, Bool.or_true, List.contains_nil, List.contains_cons, Nat.reduceBEq, Bool.and_true, Bool.true_and, Bool.and_self, decide_true, decide_false, Option.some.injEq, forall_eq', forall_eq, ty, Plc.row, idxS_map, loadS_map, stoS_map, ← List.map_take, ← List.map_drop])
      | fail)
    | ((with_reducible refine onFin ?_); first
      | (refine fin_nil ?_; (first | (simp_all [fins]; done) | (simp_all [-Int.not_lt, -Int.not_le, fins]; done) | (simp_all [fins]; omega)))
      | fail)
    | (with_reducible refine ite_intro (fun hq => ?_) (fun hq => ?_))
    | (with_reducible refine And.intro (fun hq => ?_) (fun hq => ?_))
    | (with_reducible refine And.intro ?_ ?_)
    | ((fail_if_success (with_reducible refine onCode ?_)); (fail_if_success (with_reducible refine onLps ?_)); (fail_if_success (with_reducible refine onLpd ?_)); (fail_if_success (with_reducible refine onLpe ?_)); (fail_if_success (with_reducible refine onFin ?_)); (fail_if_success (with_reducible refine onCall ?_)); (fail_if_success (with_reducible refine onQcall ?_)); first | ((omega); done) | omega | (rw [wrap_id (by omega) (by omega)]; omega) | (simp_all; done)))

def pl (ps : List Plc) (i : Int) : Plc := ps.getD i.toNat default
def d1 (ps : List Plc) (i k : Int) : Bool := !((pl ps i).x == (pl ps k).x && (pl ps i).y == (pl ps k).y)
def q1 (ps : List Plc) (i : Int) : Bool := placeB (pl ps i).x (pl ps i).y && allI (d1 ps i) 0 i
def m1 (ps : List Plc) (i k : Int) : Bool := (decide (i = 0) && decide (k = ps.length - 1)) || !meetB (cor ps i).x (cor ps i).y (cor ps (i + 1)).x (cor ps (i + 1)).y (cor ps k).x (cor ps k).y (cor ps (k + 1)).x (cor ps (k + 1)).y
def bd2 (ps : List Plc) (i : Int) : Bool := bad2 (cor ps i).x (cor ps i).y (cor ps (i + 1)).x (cor ps (i + 1)).y (cor ps (i + 2)).x (cor ps (i + 2)).y
def bd1 (ps : List Plc) (i : Int) : Bool := bad1 (cor ps i).x (cor ps i).y (cor ps (i + 1)).x (cor ps (i + 1)).y (cor ps (i + 2)).x (cor ps (i + 2)).y
def q2 (ps : List Plc) (i : Int) : Bool := !bd2 ps i && allI (m1 ps i) (i + 2) ps.length
def secB (id : Int) (ps : List Plc) : Bool := inB id 1 99 && inB ps.length 3 8 && allI (q1 ps) 0 ps.length && allI (q2 ps) 0 ps.length
theorem cor_lt {ps : List Plc} {i : Int} (h : 0 ≤ i) (h2 : i < ps.length) : cor ps i = pl ps i := by
  unfold cor pl; rw [Int.tmod_eq_of_lt h h2]
theorem tm_sub {i n : Int} (h : 0 ≤ n) (h2 : n ≤ i) (h3 : i < 2 * n) : i.tmod n = i - n := by
  have e : i = (i - n) + n := by omega
  conv => lhs; rw [e]
  rw [Int.tmod_eq_emod_of_nonneg (by omega), Int.add_emod_right, Int.emod_eq_of_lt (by omega) (by omega)]
theorem cor_ge {ps : List Plc} {i : Int} (h : ps.length ≤ i) (h2 : i < 2 * ps.length) : cor ps i = pl ps (i - ps.length) := by
  unfold cor pl; rw [tm_sub (by omega) h h2]
/-- the index that a corner stands for -/
theorem cor_ix {ps : List Plc} {i : Int} (h : 0 ≤ i) (h2 : i < 2 * ps.length) : ∃ j, cor ps i = pl ps j ∧ 0 ≤ j ∧ j < ps.length ∧ (j = i ∨ j = i - ps.length) := by
  by_cases h3 : i < ps.length
  · exact ⟨i, cor_lt h h3, h, h3, .inl rfl⟩
  · exact ⟨i - ps.length, cor_ge (by omega) h2, by omega, by omega, .inr rfl⟩
theorem q1_pl {ps : List Plc} (h : allI (q1 ps) 0 ps.length = true) {i : Int} (h1 : 0 ≤ i) (h2 : i < ps.length) : placeB (pl ps i).x (pl ps i).y = true := by
  have := allI_iff.1 h i h1 h2
  simp only [q1, Bool.and_eq_true] at this
  exact this.1
theorem q1_ne {ps : List Plc} (h : allI (q1 ps) 0 ps.length = true) {i k : Int} (h1 : 0 ≤ k) (h2 : k < i) (h3 : i < ps.length) : ¬ ((pl ps k).x = (pl ps i).x ∧ (pl ps k).y = (pl ps i).y) := by
  have := allI_iff.1 h i (by omega) h3
  simp only [q1, Bool.and_eq_true] at this
  have := allI_iff.1 this.2 k h1 h2
  simp only [d1, Bool.not_eq_true', Bool.and_eq_false_iff, beq_eq_false_iff_ne, ne_eq] at this
  rintro ⟨a, b⟩
  rcases this with g | g
  · exact g a.symm
  · exact g b.symm
theorem q1_ne2 {ps : List Plc} (h : allI (q1 ps) 0 ps.length = true) {i k : Int} (h1 : 0 ≤ k) (h2 : k ≠ i) (h0 : 0 ≤ i) (h3 : i < ps.length) (h4 : k < ps.length) : ¬ ((pl ps k).x = (pl ps i).x ∧ (pl ps k).y = (pl ps i).y) := by
  rcases Int.lt_or_gt_of_ne h2 with g | g
  · exact q1_ne h h1 g h3
  · rintro ⟨a, b⟩; exact q1_ne h h0 g h4 ⟨a.symm, b.symm⟩
theorem cor_pl {ps : List Plc} (h : allI (q1 ps) 0 ps.length = true) {i : Int} (h1 : 0 ≤ i) (h2 : i < 2 * ps.length) : placeB (cor ps i).x (cor ps i).y = true := by
  obtain ⟨j, e, g1, g2, _⟩ := cor_ix h1 h2
  rw [e]; exact q1_pl h g1 g2
theorem cor_nx {ps : List Plc} (h : allI (q1 ps) 0 ps.length = true) (hn : 3 ≤ ps.length) {i : Int} (h1 : 0 ≤ i) (h2 : i + 1 < 2 * ps.length) : ¬ ((cor ps i).x = (cor ps (i + 1)).x ∧ (cor ps i).y = (cor ps (i + 1)).y) := by
  obtain ⟨j, e, g1, g2, g3⟩ := cor_ix (ps := ps) (i := i) h1 (by omega)
  obtain ⟨k, e', k1, k2, k3⟩ := cor_ix (ps := ps) (i := i + 1) (by omega) (by omega)
  rw [e, e']
  exact q1_ne2 h g1 (by omega) k1 k2 g2
theorem bd_eq {ps : List Plc} (h : allI (q1 ps) 0 ps.length = true) (hn : 3 ≤ ps.length) {i : Int} (h1 : 0 ≤ i) (h2 : i < ps.length) : bd1 ps i = bd2 ps i := by
  have e : i + 1 + 1 = i + 2 := by omega
  exact bad_eq (cor_pl h h1 (by omega)) (cor_pl h (by omega) (by omega)) (cor_pl h (by omega) (by omega)) (cor_nx h hn h1 (by omega)) (by have := cor_nx h hn (i := i + 1) (by omega) (by omega); rw [e] at this; exact this)
theorem last_ix {i k n : Int} (h1 : 0 ≤ i) (h2 : i + 2 ≤ k) (h3 : k < n) : ((k + 1).tmod n = i) ↔ (i = 0 ∧ k = n - 1) := by
  by_cases h : k = n - 1
  · have e : (k + 1).tmod n = 0 := by subst h; rw [tm_sub (by omega) (by omega) (by omega)]; omega
    rw [e]; omega
  · rw [Int.tmod_eq_of_lt (by omega) (by omega)]; omega
end Go.Proofs.Ytphpdlofeijddaa
