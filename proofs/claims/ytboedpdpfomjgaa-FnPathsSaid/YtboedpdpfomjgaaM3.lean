/-
Contracts of NearestMinute and of the functions that reduce fractions, over plain data.
No condition but those that the contracts name.
-/
import Derived.Test.YtboedpdpfomjgaaM1
namespace Go.Proofs.Ytboedpdpfomjgaa
open Eng
set_option linter.unusedSimpArgs false
set_option linter.unusedVariables false
def sqV (a b : Int) : Int := IntKind.i64.wrap (IntKind.i64.wrap (a * a) + IntKind.i64.wrap (b * b))
/-- the square of the distance of a place from where a motion is after whole minutes -/
def nmD (x y vx vy px py t : Int) : Int := sqV (IntKind.i64.wrap (atV x vx t - px)) (IntKind.i64.wrap (atV y vy t - py))
def nmGo (x y vx vy px py : Int) (t b l : Int) : Int :=
  if 60 < t then b else if l < 0 ∨ nmD x y vx vy px py t < l then nmGo x y vx vy px py (t + 1) t (nmD x y vx vy px py t) else nmGo x y vx vy px py (t + 1) b l
termination_by (61 - t).toNat
def nm (x y vx vy h c px py : Int) : Int := if motionB x y vx vy h c && placeB px py then nmGo x y vx vy px py 0 0 (-1) else 0
set_option maxRecDepth 100000 in
set_option maxHeartbeats 4000000 in
theorem sNearestMinute_gc {x y vx vy hh c px py : Int} : GC Try.prog 23 [.agg [vi x, vi y, vi vx, vi vy, vi hh, vi c], .agg [vi px, vi py]] [] (fun r_ hs_ => r_ = .tup [vi (nm x y vx vy hh c px py), vb (motionB x y vx vy hh c && placeB px py)] ∧ hs_ = []) := by
  refine GC.of_func [(7, .val 0 (.val 1 (.val 2 (.val 3 (.val 4 (.val 5 (.val 6 (.val 7 (.val 8 (.val 9 (.val 10 (.val 11 (.val 12 (.val 13 (.val 14 (.val 15 (.val 16 (.val 17 (.val 18 (.val 19 (.val 20 (.val 21 (.val 22 (.val 23 (.val 24 (.val 25 (.done)))))))))))))))))))))))))))] Try.call23 Try.func23 rfl ⟨by kernel_rfl, by kernel_rfl⟩ (by kernel_rfl) ?_
  rw [Try.results23]
  simp -implicitDefEqProofs (maxSteps := 4000000) only [sim0, sim1, sim2, sim3, sim4, sim5, sim6, sim7, sim8, ↓reduceIte, Nat.reduceEqDiff, Nat.reduceAdd, Nat.reduceMul, Nat.reduceSub, Nat.reduceLT, Nat.reduceLeDiff, reduceCtorEq, Int.reduceToNat, Int.reduceNeg, Nat.reduceBEq, simx, ty]
  repeat' (first
    | ((with_reducible refine onCall ?_); first
      | (refine GC.callS l16Good_gc rfl rfl ?_ <;> try simp -implicitDefEqProofs (maxSteps := 4000000) only [sim0, sim1, sim2, sim3, sim4, sim5, sim6, sim7, sim8, ↓reduceIte, Nat.reduceEqDiff, Nat.reduceAdd, Nat.reduceMul, Nat.reduceSub, Nat.reduceLT, Nat.reduceLeDiff, reduceCtorEq, Int.reduceToNat, Int.reduceNeg, Nat.reduceBEq, simx, ty])
      | (refine GC.callS l7Good_gc rfl rfl ?_ <;> try simp -implicitDefEqProofs (maxSteps := 4000000) only [sim0, sim1, sim2, sim3, sim4, sim5, sim6, sim7, sim8, ↓reduceIte, Nat.reduceEqDiff, Nat.reduceAdd, Nat.reduceMul, Nat.reduceSub, Nat.reduceLT, Nat.reduceLeDiff, reduceCtorEq, Int.reduceToNat, Int.reduceNeg, Nat.reduceBEq, simx, ty])
      | fail)
    | ((with_reducible refine onCode ?_); first
      | (refine onLid 5 ?_ (by rfl); refine acode_prune [0, 1, 2, 3, 4, 5, 6, 7, 8, 9, 10, 11] ?_; simp only [prn_cons, prn_nil, lk_cons, lk_emp, Nat.reduceEqDiff, ↓reduceIte]; refine acode_loopS2 5 (by rfl) (α := Int × Int × Int) (fun ⟨t, b, l⟩ => [(8, vi t), (6, vi b), (7, vi l)]) [9, 10, 11, 20, 21, 22, 23, 24, 25, 26, 27, 28, 29, 30, 31, 32, 33, 34, 35, 36, 37, 38, 39, 40, 41, 42, 43, 44, 45, 46, 47, 48, 49, 50, 51, 52, 53, 54, 55, 56, 57, 58, 59, 60, 61, 62, 63] [9, 10, 11] (by kernel_rfl) (fun ⟨t, b, l⟩ => (0 ≤ t ∧ t ≤ 61) ∧ (motionB x y vx vy hh c = true ∧ placeB px py = true) ∧ nmGo x y vx vy px py 0 0 (-1) = nmGo x y vx vy px py t b l) (fun ⟨t, b, l⟩ => (61 - t).toNat) ((0, 0, -1)) ?_ (by (try simp only []) <;> first | (simp_all [nm]; done) | (simp_all [nm]; omega) | omega) ?_; (focus ((try dsimp only []); (repeat' (first | exact agr_none | exact lk_hd | refine lk_tl (by decide) ?_ | refine agr_one ?_ ?_)); done)); rintro ⟨t, b, l⟩ hJ; (try simp only [] at hJ); have hJ5 := hJ; simp -implicitDefEqProofs (maxSteps := 4000000) only [sim0, sim1, sim2, sim3, sim4, sim5, sim6, sim7, sim8, ↓reduceIte, Nat.reduceEqDiff, Nat.reduceAdd, Nat.reduceMul, Nat.reduceSub, Nat.reduceLT, Nat.reduceLeDiff, reduceCtorEq, Int.reduceToNat, Int.reduceNeg, Nat.reduceBEq, simx, ty])
      | fail)
    | ((with_reducible refine onLps ?_); first
      | (refine lps2_end (α := Int × Int × Int) (mods := (fun ⟨t, b, l⟩ => [(8, vi t), (6, vi b), (7, vi l)])) (_, _, _) (by (try dsimp only []); simp only [agr_cons, agr_nil, lk_cons, lk_emp, Nat.reduceEqDiff, ↓reduceIte, and_true]; repeat' (first | rfl | apply And.intro)) (by unfold undK; kernel_rfl) ?_ ?_ <;> ((try simp only []); (obtain ⟨hb, hm, hg⟩ := hJ; have e : IntKind.i64.wrap (t + 1) = t + 1 := wrap_id (by omega) (by omega); rw [e]; first | omega | (refine ⟨by omega, hm, ?_⟩; rw [hg, nmGo.eq_1 x y vx vy px py t b l, if_neg (by omega)]; first | (rw [if_pos (by simp_all [nmD, sqV, atV])]; simp_all [nmD, sqV, atV]; done) | (rw [if_neg (by simp_all [nmD, sqV, atV])]; done) | (rw [if_neg (by simp_all [nmD, sqV, atV]; omega)]; done)))))
      | fail)
    | ((with_reducible refine onFin ?_); first
      | (refine fin_nil ?_; (first | (first | (obtain ⟨hb, hm, hg⟩ := hJ; rw [nmGo.eq_1 x y vx vy px py t b l, if_pos (by omega)] at hg; simp [nm, fins, hm.1, hm.2, hg]; done) | (simp [nm, fins, hq]; done) | (rename_i h7; simp [nm, fins, hq, h7]; done)) | (simp_all [fins, nm]; done) | (simp_all [-Int.not_lt, -Int.not_le, fins, nm]; done) | (simp_all [fins, nm]; omega)))
      | fail)
    | (with_reducible refine ite_intro (fun hq => ?_) (fun hq => ?_))
    | (with_reducible refine And.intro (fun hq => ?_) (fun hq => ?_))
    | (with_reducible refine And.intro ?_ ?_)
    | ((fail_if_success (with_reducible refine onCode ?_)); (fail_if_success (with_reducible refine onLps ?_)); (fail_if_success (with_reducible refine onLpd ?_)); (fail_if_success (with_reducible refine onLpe ?_)); (fail_if_success (with_reducible refine onFin ?_)); (fail_if_success (with_reducible refine onCall ?_)); (fail_if_success (with_reducible refine onQcall ?_)); first | omega | (rw [wrap_id (by omega) (by omega)]; omega) | (first | (obtain ⟨hb, hm, hg⟩ := hJ; rw [nmGo.eq_1 x y vx vy px py t b l, if_pos (by omega)] at hg; simp [nm, fins, hm.1, hm.2, hg]; done) | (simp [nm, fins, hq]; done) | (rename_i h7; simp [nm, fins, hq, h7]; done))))

set_option maxRecDepth 100000 in
set_option maxHeartbeats 4000000 in
theorem nearestMinute_gc {x y vx vy hh c px py : Int} : GC Try.prog 22 [.agg [vi x, vi y, vi vx, vi vy, vi hh, vi c], .agg [vi px, vi py]] [] (fun r_ hs_ => r_ = .tup [vi (nm x y vx vy hh c px py), vb (motionB x y vx vy hh c && placeB px py)] ∧ hs_ = []) := by
  refine GC.of_func [] Try.call22 Try.func22 rfl ⟨by kernel_rfl, by kernel_rfl⟩ (by kernel_rfl) ?_
  rw [Try.results22]
  simp -implicitDefEqProofs (maxSteps := 4000000) only [sim0, sim1, sim2, sim3, sim4, sim5, sim6, sim7, sim8, ↓reduceIte, Nat.reduceEqDiff, Nat.reduceAdd, Nat.reduceMul, Nat.reduceSub, Nat.reduceLT, Nat.reduceLeDiff, reduceCtorEq, Int.reduceToNat, Int.reduceNeg, Nat.reduceBEq, simx, ty]
  repeat' (first
    | ((with_reducible refine onCall ?_); first
      | (refine GC.callS isValidMotion_gc rfl rfl ?_ <;> try simp -implicitDefEqProofs (maxSteps := 4000000) only [sim0, sim1, sim2, sim3, sim4, sim5, sim6, sim7, sim8, ↓reduceIte, Nat.reduceEqDiff, Nat.reduceAdd, Nat.reduceMul, Nat.reduceSub, Nat.reduceLT, Nat.reduceLeDiff, reduceCtorEq, Int.reduceToNat, Int.reduceNeg, Nat.reduceBEq, simx, ty])
      | (refine GC.callS isValidPlace_gc rfl rfl ?_ <;> try simp -implicitDefEqProofs (maxSteps := 4000000) only [sim0, sim1, sim2, sim3, sim4, sim5, sim6, sim7, sim8, ↓reduceIte, Nat.reduceEqDiff, Nat.reduceAdd, Nat.reduceMul, Nat.reduceSub, Nat.reduceLT, Nat.reduceLeDiff, reduceCtorEq, Int.reduceToNat, Int.reduceNeg, Nat.reduceBEq, simx, ty])
      | (refine GC.callS motionAt_gc rfl rfl ?_ <;> try simp -implicitDefEqProofs (maxSteps := 4000000) only [sim0, sim1, sim2, sim3, sim4, sim5, sim6, sim7, sim8, ↓reduceIte, Nat.reduceEqDiff, Nat.reduceAdd, Nat.reduceMul, Nat.reduceSub, Nat.reduceLT, Nat.reduceLeDiff, reduceCtorEq, Int.reduceToNat, Int.reduceNeg, Nat.reduceBEq, simx, ty])
      | fail)
    | ((with_reducible refine onCode ?_); first
      | (refine onLid 5 ?_ (by rfl); refine acode_prune [0, 1, 2, 3, 4, 5, 6, 7, 8, 9, 10, 11] ?_; simp only [prn_cons, prn_nil, lk_cons, lk_emp, Nat.reduceEqDiff, ↓reduceIte]; refine acode_loopS2 5 (by rfl) (α := Int × Int × Int) (fun ⟨t, b, l⟩ => [(8, vi t), (6, vi b), (7, vi l)]) [9, 10, 11, 20, 21, 22, 23, 24, 25, 26, 27, 28, 29, 30, 31, 32, 33, 34, 35, 36, 37, 38, 39, 40, 41, 42, 43, 44, 45, 46, 47, 48, 49, 50, 51, 52, 53, 54, 55, 56, 57] [9, 10, 11] (by kernel_rfl) (fun ⟨t, b, l⟩ => (0 ≤ t ∧ t ≤ 61) ∧ (motionB x y vx vy hh c = true ∧ placeB px py = true) ∧ nmGo x y vx vy px py 0 0 (-1) = nmGo x y vx vy px py t b l) (fun ⟨t, b, l⟩ => (61 - t).toNat) ((0, 0, -1)) ?_ (by (try simp only []) <;> first | (simp_all [nm]; done) | (simp_all [nm]; omega) | omega) ?_; (focus ((try dsimp only []); (repeat' (first | exact agr_none | exact lk_hd | refine lk_tl (by decide) ?_ | refine agr_one ?_ ?_)); done)); rintro ⟨t, b, l⟩ hJ; (try simp only [] at hJ); have hJ5 := hJ; simp -implicitDefEqProofs (maxSteps := 4000000) only [sim0, sim1, sim2, sim3, sim4, sim5, sim6, sim7, sim8, ↓reduceIte, Nat.reduceEqDiff, Nat.reduceAdd, Nat.reduceMul, Nat.reduceSub, Nat.reduceLT, Nat.reduceLeDiff, reduceCtorEq, Int.reduceToNat, Int.reduceNeg, Nat.reduceBEq, simx, ty])
      | fail)
    | ((with_reducible refine onLps ?_); first
      | (refine lps2_end (α := Int × Int × Int) (mods := (fun ⟨t, b, l⟩ => [(8, vi t), (6, vi b), (7, vi l)])) (_, _, _) (by (try dsimp only []); simp only [agr_cons, agr_nil, lk_cons, lk_emp, Nat.reduceEqDiff, ↓reduceIte, and_true]; repeat' (first | rfl | apply And.intro)) (by unfold undK; kernel_rfl) ?_ ?_ <;> ((try simp only []); (obtain ⟨hb, hm, hg⟩ := hJ; have e : IntKind.i64.wrap (t + 1) = t + 1 := wrap_id (by omega) (by omega); rw [e]; first | omega | (refine ⟨by omega, hm, ?_⟩; rw [hg, nmGo.eq_1 x y vx vy px py t b l, if_neg (by omega)]; first | (rw [if_pos (by simp_all [nmD, sqV, atV])]; simp_all [nmD, sqV, atV]; done) | (rw [if_neg (by simp_all [nmD, sqV, atV])]; done) | (rw [if_neg (by simp_all [nmD, sqV, atV]; omega)]; done)))))
      | fail)
    | ((with_reducible refine onFin ?_); first
      | (refine fin_nil ?_; (first | (first | (obtain ⟨hb, hm, hg⟩ := hJ; rw [nmGo.eq_1 x y vx vy px py t b l, if_pos (by omega)] at hg; simp [nm, fins, hm.1, hm.2, hg]; done) | (simp [nm, fins, hq]; done) | (rename_i h7; simp [nm, fins, hq, h7]; done)) | (simp_all [fins, nm]; done) | (simp_all [-Int.not_lt, -Int.not_le, fins, nm]; done) | (simp_all [fins, nm]; omega)))
      | fail)
    | (with_reducible refine ite_intro (fun hq => ?_) (fun hq => ?_))
    | (with_reducible refine And.intro (fun hq => ?_) (fun hq => ?_))
    | (with_reducible refine And.intro ?_ ?_)
    | ((fail_if_success (with_reducible refine onCode ?_)); (fail_if_success (with_reducible refine onLps ?_)); (fail_if_success (with_reducible refine onLpd ?_)); (fail_if_success (with_reducible refine onLpe ?_)); (fail_if_success (with_reducible refine onFin ?_)); (fail_if_success (with_reducible refine onCall ?_)); (fail_if_success (with_reducible refine onQcall ?_)); first | omega | (rw [wrap_id (by omega) (by omega)]; omega) | (first | (obtain ⟨hb, hm, hg⟩ := hJ; rw [nmGo.eq_1 x y vx vy px py t b l, if_pos (by omega)] at hg; simp [nm, fins, hm.1, hm.2, hg]; done) | (simp [nm, fins, hq]; done) | (rename_i h7; simp [nm, fins, hq, h7]; done))))

end Go.Proofs.Ytboedpdpfomjgaa
