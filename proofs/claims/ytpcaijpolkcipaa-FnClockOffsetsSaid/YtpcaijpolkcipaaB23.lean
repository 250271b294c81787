/-
Contracts of the laws' small functions, over plain data.
No condition but those that the contracts name.
-/
import Derived.Test.YtpcaijpolkcipaaB21
import Derived.Test.YtpcaijpolkcipaaB19
import Derived.Test.YtpcaijpolkcipaaB6
namespace Go.Proofs.Ytpcaijpolkcipaa
open Eng
set_option linter.unusedSimpArgs false
set_option linter.unusedVariables false
set_option maxRecDepth 100000 in
set_option maxHeartbeats 4000000 in
theorem rBig_gc {cs : List By} : GC Try.prog 42 [.sl 1 (cs.map By.e)] [] (fun r_ hs_ => r_ = vb (decide (65536 < cs.length)) ∧ hs_ = []) := by
  refine GC.of_func [] Try.call42 Try.func42 rfl ⟨by kernel_rfl, by kernel_rfl⟩ (by kernel_rfl) ?_
  rw [Try.results42]
  simp -implicitDefEqProofs (maxSteps := 4000000) only [sim0, sim1, sim2, sim3, sim4, sim5, sim6, sim7, sim8, ↓reduceIte, Nat.reduceEqDiff, Nat.reduceAdd, Nat.reduceMul, Nat.reduceSub, Nat.reduceLT, Nat.reduceLeDiff, reduceCtorEq, Int.reduceToNat, Int.reduceNeg, Nat.reduceBEq, simx, ty, By.row, Ch.row, Pr.row, It.row, Lnk.row, idxS_map, loadS_map, stoS_map, ← List.map_take, ← List.map_drop]
  repeat' (first
    | ((with_reducible refine onFin ?_); first
      | (refine fin_nil ?_; (first | (simp_all [fins]; done) | (simp_all [-Int.not_lt, -Int.not_le, fins]; done) | (simp_all [fins]; omega)))
      | fail)
    | (with_reducible refine ite_intro (fun hq => ?_) (fun hq => ?_))
    | (with_reducible refine And.intro (fun hq => ?_) (fun hq => ?_))
    | (with_reducible refine And.intro ?_ ?_)
    | ((fail_if_success (with_reducible refine onCode ?_)); (fail_if_success (with_reducible refine onLps ?_)); (fail_if_success (with_reducible refine onLpd ?_)); (fail_if_success (with_reducible refine onLpe ?_)); (fail_if_success (with_reducible refine onFin ?_)); (fail_if_success (with_reducible refine onCall ?_)); (fail_if_success (with_reducible refine onQcall ?_)); first | omega | (rw [wrap_id (by omega) (by omega)]; omega) | (simp_all; done)))

set_option maxRecDepth 100000 in
set_option maxHeartbeats 4000000 in
theorem rSize_gc {n : Int} : GC Try.prog 45 [vi n] [] (fun r_ hs_ => r_ = vi (absV n) ∧ hs_ = []) := by
  refine GC.of_func [] Try.call45 Try.func45 rfl ⟨by kernel_rfl, by kernel_rfl⟩ (by kernel_rfl) ?_
  rw [Try.results45]
  simp -implicitDefEqProofs (maxSteps := 4000000) only [sim0, sim1, sim2, sim3, sim4, sim5, sim6, sim7, sim8, ↓reduceIte, Nat.reduceEqDiff, Nat.reduceAdd, Nat.reduceMul, Nat.reduceSub, Nat.reduceLT, Nat.reduceLeDiff, reduceCtorEq, Int.reduceToNat, Int.reduceNeg, Nat.reduceBEq, simx, ty]
  repeat' (first
    | ((with_reducible refine onFin ?_); first
      | (refine fin_nil ?_; (first | (simp_all [fins, absV]; done) | (simp_all [-Int.not_lt, -Int.not_le, fins, absV]; done) | (simp_all [fins, absV]; omega)))
      | fail)
    | (with_reducible refine ite_intro (fun hq => ?_) (fun hq => ?_))
    | (with_reducible refine And.intro (fun hq => ?_) (fun hq => ?_))
    | (with_reducible refine And.intro ?_ ?_)
    | ((fail_if_success (with_reducible refine onCode ?_)); (fail_if_success (with_reducible refine onLps ?_)); (fail_if_success (with_reducible refine onLpd ?_)); (fail_if_success (with_reducible refine onLpe ?_)); (fail_if_success (with_reducible refine onFin ?_)); (fail_if_success (with_reducible refine onCall ?_)); (fail_if_success (with_reducible refine onQcall ?_)); first | omega | (rw [wrap_id (by omega) (by omega)]; omega) | (simp_all; done)))

theorem lenEq {a b : Nat} (h : ¬ (((a : Int) != (b : Int)) = true)) : a = b := by
  have : (a : Int) = b := by simpa using h
  omega
theorem lenNe {a b : Nat} (h : ((a : Int) != (b : Int)) = true) : a ≠ b := by
  have : ¬ (a : Int) = b := by simpa using h
  omega
/-- two lists are the same, cell by cell -/
def smB {α : Type} [Inhabited α] (p : α → α → Bool) (us vs : List α) : Bool := decide (us.length = vs.length) && allI (fun i => p (us.getD i.toNat default) (vs.getD i.toNat default)) 0 us.length
theorem smB_self {α : Type} [Inhabited α] {p : α → α → Bool} (hp : ∀ a, p a a = true) {us : List α} : smB p us us = true := by
  have : allI (fun i => p (us.getD i.toNat default) (us.getD i.toNat default)) 0 us.length = true := allI_iff.2 fun j _ _ => hp _
  unfold smB; rw [this]; simp
theorem smB_ne {α : Type} [Inhabited α] {p : α → α → Bool} {us vs : List α} (h : us.length ≠ vs.length) : smB p us vs = false := by
  unfold smB; simp [h]
theorem smB_eq {α : Type} [Inhabited α] {p : α → α → Bool} {us vs : List α} (h : us.length = vs.length) : smB p us vs = allI (fun i => p (us.getD i.toNat default) (vs.getD i.toNat default)) 0 us.length := by
  unfold smB; rw [decide_eq_true h, Bool.true_and]
def itB (a b : It) : Bool := a.n == b.n
theorem itB_self (a : It) : itB a a = true := by simp [itB]
set_option maxRecDepth 100000 in
set_option maxHeartbeats 4000000 in
theorem rInts_gc {us vs : List It} (hl : us.length ≤ 1048576 ∧ vs.length ≤ 1048576) : GC Try.prog 44 [.sl 1 (us.map It.e), .sl 1 (vs.map It.e)] [] (fun r_ hs_ => r_ = vb (smB itB us vs) ∧ hs_ = []) := by
  refine GC.of_func [(6, .val 0 (.val 1 (.val 2 (.val 3 (.val 4 (.val 5 (.val 6 (.val 7 (.val 8 (.done))))))))))] Try.call44 Try.func44 rfl ⟨by kernel_rfl, by kernel_rfl⟩ (by kernel_rfl) ?_
  rw [Try.results44]
  simp -implicitDefEqProofs (maxSteps := 4000000) only [sim0, sim1, sim2, sim3, sim4, sim5, sim6, sim7, sim8, ↓reduceIte, Nat.reduceEqDiff, Nat.reduceAdd, Nat.reduceMul, Nat.reduceSub, Nat.reduceLT, Nat.reduceLeDiff, reduceCtorEq, Int.reduceToNat, Int.reduceNeg, Nat.reduceBEq, simx, ty, By.row, Ch.row, Pr.row, It.row, Lnk.row, idxS_map, loadS_map, stoS_map, ← List.map_take, ← List.map_drop]
  repeat' (first
    | ((with_reducible refine onCode ?_); first
      | (refine onLid 4 ?_ (by rfl); refine acode_prune [0, 1, 4, 5] ?_; simp only [prn_cons, prn_nil, lk_cons, lk_emp, Nat.reduceEqDiff, ↓reduceIte]; refine acode_loopS2 4 (by rfl) (α := Int) (fun i => [(5, vi i)]) [4, 11, 12, 13, 14, 15, 16, 17, 18, 19, 20, 21, 22, 23, 24, 25] [4] (by kernel_rfl) (fun i => (0 ≤ i ∧ i ≤ us.length) ∧ us.length = vs.length ∧ smB itB us vs = allI (fun i => itB (us.getD i.toNat default) (vs.getD i.toNat default)) i us.length) (fun i => (us.length - i).toNat) (0) ?_ (by (try simp only []) <;> first | (exact ⟨by omega, lenEq hq, smB_eq (lenEq hq)⟩) | fail) ?_; (focus ((try dsimp only []); (repeat' (first | exact agr_none | exact lk_hd | refine lk_tl (by decide) ?_ | refine agr_one ?_ ?_)); done)); rintro i hJ; (try simp only [] at hJ); have hJ4 := hJ; simp -implicitDefEqProofs (maxSteps := 4000000) only [sim0, sim1, sim2, sim3, sim4, sim5, sim6, sim7, sim8, ↓reduceIte, Nat.reduceEqDiff, Nat.reduceAdd, Nat.reduceMul, Nat.reduceSub, Nat.reduceLT, Nat.reduceLeDiff, reduceCtorEq, Int.reduceToNat, Int.reduceNeg, Nat.reduceBEq, simx, ty, By.row, Ch.row, Pr.row, It.row, Lnk.row, idxS_map, loadS_map, stoS_map, ← List.map_take, ← List.map_drop])
      | fail)
    | ((with_reducible refine onLps ?_); first
      | (refine lps2_end (α := Int) (mods := (fun i => [(5, vi i)])) _ (by (try dsimp only []); simp only [agr_cons, agr_nil, lk_cons, lk_emp, Nat.reduceEqDiff, ↓reduceIte, and_true]; repeat' (first | rfl | apply And.intro)) (by unfold undK; kernel_rfl) ?_ ?_ <;> ((try simp only []); (have e : IntKind.i64.wrap (i + 1) = i + 1 := wrap_id (by omega) (by omega); rw [e]; obtain ⟨hb, hm, hg⟩ := hJ; first | omega | exact ⟨by omega, hm, allI_go rfl (by omega) (by simpa [itB] using hq) hg⟩)))
      | fail)
    | ((with_reducible refine onFin ?_); first
      | (refine fin_nil ?_; (first | (first | (obtain ⟨hb, hm, hg⟩ := hJ; rw [hg]; first | (rw [allI_end (by omega)]; rfl) | (rw [allI_no (by omega) (by simpa [itB] using hq)]; rfl)) | (rw [smB_ne (lenNe hq)]; rfl)) | (simp_all [fins]; done) | (simp_all [-Int.not_lt, -Int.not_le, fins]; done) | (simp_all [fins]; omega)))
      | fail)
    | (with_reducible refine ite_intro (fun hq => ?_) (fun hq => ?_))
    | (with_reducible refine And.intro (fun hq => ?_) (fun hq => ?_))
    | (with_reducible refine And.intro ?_ ?_)
    | ((fail_if_success (with_reducible refine onCode ?_)); (fail_if_success (with_reducible refine onLps ?_)); (fail_if_success (with_reducible refine onLpd ?_)); (fail_if_success (with_reducible refine onLpe ?_)); (fail_if_success (with_reducible refine onFin ?_)); (fail_if_success (with_reducible refine onCall ?_)); (fail_if_success (with_reducible refine onQcall ?_)); first | omega | (rw [wrap_id (by omega) (by omega)]; omega) | (first | (obtain ⟨hb, hm, hg⟩ := hJ; rw [hg]; first | (rw [allI_end (by omega)]; rfl) | (rw [allI_no (by omega) (by simpa [itB] using hq)]; rfl)) | (rw [smB_ne (lenNe hq)]; rfl))))

def lnB (a b : Lnk) : Bool := a.f == b.f && (a.t == b.t && a.o == b.o)
theorem lnB_self (a : Lnk) : lnB a a = true := by simp [lnB]
set_option maxRecDepth 100000 in
set_option maxHeartbeats 4000000 in
theorem rLinks_gc {us vs : List Lnk} (hl : us.length ≤ 1048576 ∧ vs.length ≤ 1048576) : GC Try.prog 47 [.sl 3 (us.map Lnk.e), .sl 3 (vs.map Lnk.e)] [] (fun r_ hs_ => r_ = vb (smB lnB us vs) ∧ hs_ = []) := by
  refine GC.of_func [(6, .val 0 (.val 1 (.val 2 (.val 3 (.val 4 (.val 5 (.val 6 (.val 7 (.val 8 (.done))))))))))] Try.call47 Try.func47 rfl ⟨by kernel_rfl, by kernel_rfl⟩ (by kernel_rfl) ?_
  rw [Try.results47]
  simp -implicitDefEqProofs (maxSteps := 4000000) only [sim0, sim1, sim2, sim3, sim4, sim5, sim6, sim7, sim8, ↓reduceIte, Nat.reduceEqDiff, Nat.reduceAdd, Nat.reduceMul, Nat.reduceSub, Nat.reduceLT, Nat.reduceLeDiff, reduceCtorEq, Int.reduceToNat, Int.reduceNeg, Nat.reduceBEq, simx, ty, By.row, Ch.row, Pr.row, It.row, Lnk.row, idxS_map, loadS_map, stoS_map, ← List.map_take, ← List.map_drop]
  repeat' (first
    | ((with_reducible refine onCode ?_); first
      | (refine onLid 4 ?_ (by rfl); refine acode_prune [0, 1, 4, 5] ?_; simp only [prn_cons, prn_nil, lk_cons, lk_emp, Nat.reduceEqDiff, ↓reduceIte]; refine acode_loopS2 4 (by rfl) (α := Int) (fun i => [(5, vi i)]) [4, 11, 12, 13, 14, 15, 16, 17, 18, 19, 20, 21, 22, 23, 24, 25] [4] (by kernel_rfl) (fun i => (0 ≤ i ∧ i ≤ us.length) ∧ us.length = vs.length ∧ smB lnB us vs = allI (fun i => lnB (us.getD i.toNat default) (vs.getD i.toNat default)) i us.length) (fun i => (us.length - i).toNat) (0) ?_ (by (try simp only []) <;> first | (exact ⟨by omega, lenEq hq, smB_eq (lenEq hq)⟩) | fail) ?_; (focus ((try dsimp only []); (repeat' (first | exact agr_none | exact lk_hd | refine lk_tl (by decide) ?_ | refine agr_one ?_ ?_)); done)); rintro i hJ; (try simp only [] at hJ); have hJ4 := hJ; simp -implicitDefEqProofs (maxSteps := 4000000) only [sim0, sim1, sim2, sim3, sim4, sim5, sim6, sim7, sim8, ↓reduceIte, Nat.reduceEqDiff, Nat.reduceAdd, Nat.reduceMul, Nat.reduceSub, Nat.reduceLT, Nat.reduceLeDiff, reduceCtorEq, Int.reduceToNat, Int.reduceNeg, Nat.reduceBEq, simx, ty, By.row, Ch.row, Pr.row, It.row, Lnk.row, idxS_map, loadS_map, stoS_map, ← List.map_take, ← List.map_drop])
      | fail)
    | ((with_reducible refine onLps ?_); first
      | (refine lps2_end (α := Int) (mods := (fun i => [(5, vi i)])) _ (by (try dsimp only []); simp only [agr_cons, agr_nil, lk_cons, lk_emp, Nat.reduceEqDiff, ↓reduceIte, and_true]; repeat' (first | rfl | apply And.intro)) (by unfold undK; kernel_rfl) ?_ ?_ <;> ((try simp only []); (have e : IntKind.i64.wrap (i + 1) = i + 1 := wrap_id (by omega) (by omega); rw [e]; obtain ⟨hb, hm, hg⟩ := hJ; first | omega | exact ⟨by omega, hm, allI_go rfl (by omega) (eq_true_of_ne_false hq) hg⟩)))
      | fail)
    | ((with_reducible refine onFin ?_); first
      | (refine fin_nil ?_; (first | (first | (obtain ⟨hb, hm, hg⟩ := hJ; rw [hg]; first | (rw [allI_end (by omega)]; rfl) | (rw [allI_no (by omega) hq]; rfl)) | (rw [smB_ne (lenNe hq)]; rfl)) | (simp_all [fins]; done) | (simp_all [-Int.not_lt, -Int.not_le, fins]; done) | (simp_all [fins]; omega)))
      | fail)
    | (with_reducible refine ite_intro (fun hq => ?_) (fun hq => ?_))
    | (with_reducible refine And.intro (fun hq => ?_) (fun hq => ?_))
    | (with_reducible refine And.intro ?_ ?_)
    | ((fail_if_success (with_reducible refine onCode ?_)); (fail_if_success (with_reducible refine onLps ?_)); (fail_if_success (with_reducible refine onLpd ?_)); (fail_if_success (with_reducible refine onLpe ?_)); (fail_if_success (with_reducible refine onFin ?_)); (fail_if_success (with_reducible refine onCall ?_)); (fail_if_success (with_reducible refine onQcall ?_)); first | omega | (rw [wrap_id (by omega) (by omega)]; omega) | (first | (obtain ⟨hb, hm, hg⟩ := hJ; rw [hg]; first | (rw [allI_end (by omega)]; rfl) | (rw [allI_no (by omega) hq]; rfl)) | (rw [smB_ne (lenNe hq)]; rfl))))

end Go.Proofs.Ytpcaijpolkcipaa
