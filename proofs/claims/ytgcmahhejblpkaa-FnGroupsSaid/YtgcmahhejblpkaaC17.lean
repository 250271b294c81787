/-
Contracts of what puts a number into a list, over plain data.
No condition but those that the contracts name.
-/
import Derived.Test.YtgcmahhejblpkaaC14
namespace Go.Proofs.Ytgcmahhejblpkaa
open Eng
set_option linter.unusedSimpArgs false
set_option linter.unusedVariables false
section
variable {xs : List It} {n k : Int} {X : Int}
/-- where a number belongs, looked for from place k down -/
def puGo (xs : List It) (n k : Int) : Int := if 0 < k then (if n < (xs.getD (k - 1).toNat default).n then puGo xs n (k - 1) else k) else k
termination_by k.toNat
def puK (xs : List It) (n : Int) : Int := puGo xs n xs.length
def puV (xs : List It) (n : Int) : List It := xs.take (puK xs n).toNat ++ ⟨n⟩ :: xs.drop (puK xs n).toNat
theorem pu_go (h : 0 < k) (h1 : n < (xs.getD (k - 1).toNat default).n) (e : X = puGo xs n k) : X = puGo xs n (k - 1) := by rw [e, puGo.eq_1, if_pos h, if_pos h1]
theorem pu_stop (h : ¬ 0 < k ∨ ¬ n < (xs.getD (k - 1).toNat default).n) (e : X = puGo xs n k) : X = k := by
  rw [e, puGo.eq_1]
  rcases h with h | h
  · rw [if_neg h]
  · by_cases h0 : 0 < k
    · rw [if_pos h0, if_neg h]
    · rw [if_neg h0]
theorem pu_ins {z : It} (h0 : 0 ≤ k) (h1 : k ≤ xs.length) : ((xs ++ [z]).take (k + 1).toNat ++ ((((xs ++ [z]).drop k.toNat).take (xs.length + 1 - k.toNat)).take (xs.length + 1 - (k + 1).toNat)) ++ (xs ++ [z]).drop ((k + 1).toNat + ((((xs ++ [z]).drop k.toNat).take (xs.length + 1 - k.toNat)).take (xs.length + 1 - (k + 1).toNat)).length)).set k.toNat ⟨n⟩ = xs.take k.toNat ++ ⟨n⟩ :: xs.drop k.toNat := by
  have e1 : (k + 1).toNat = k.toNat + 1 := by omega
  have hm : k.toNat ≤ xs.length := by omega
  rw [e1]
  generalize k.toNat = m at hm
  have hd : (xs ++ [z]).drop m = xs.drop m ++ [z] := List.drop_append_of_le_length hm
  have ht : (xs.drop m ++ [z]).take (xs.length + 1 - m) = xs.drop m ++ [z] := List.take_of_length_le (by simp; omega)
  have ht2 : (xs.drop m ++ [z]).take (xs.length + 1 - (m + 1)) = xs.drop m := by
    rw [List.take_append_of_le_length (by simp only [List.length_drop]; omega)]; exact List.take_of_length_le (by simp only [List.length_drop]; omega)
  have hdr : (xs ++ [z]).drop (m + 1 + (xs.drop m).length) = [] := List.drop_eq_nil_of_le (by simp; omega)
  rw [hd, ht, ht2, hdr, List.append_nil, List.take_add_one, List.take_append_of_le_length hm]
  have hg : ∃ y, (xs ++ [z])[m]? = some y := ⟨_, List.getElem?_eq_getElem (by simp; omega)⟩
  obtain ⟨y, hy⟩ := hg
  rw [hy]
  have hlen : (xs.take m).length = m := by simp; omega
  rw [List.append_assoc, List.set_append_right _ _ (by omega), hlen, Nat.sub_self]
  rfl
end
set_option maxRecDepth 100000 in
set_option maxHeartbeats 4000000 in
theorem putIn_gc {xs : List It} {n : Int} (hl : xs.length ≤ 1048576) (hn : ∀ k : Nat, k < xs.length → ¬ (xs.getD k default).n = n) : GC Try.prog 81 [.ref 0 xs.length, vi n] [.arr 1 (xs.map It.e)] (fun r_ hs_ => r_ = .ref 1 (xs.length + 1) ∧ hs_ = [.dead, .arr 1 ((puV xs n).map It.e)]) := by
  refine GC.of_func [(7, .val 0 (.val 1 (.val 2 (.val 3 (.val 4 (.val 5 (.val 6 (.eff [(7, [], .done)]))))))))] Try.call81 Try.func81 rfl ⟨by kernel_rfl, by kernel_rfl⟩ (by kernel_rfl) ?_
  rw [Try.results81]
  simp -implicitDefEqProofs (maxSteps := 4000000) only [sim0, sim1, sim2, sim3, sim4, sim5, sim6, sim7, sim8, ↓reduceIte, Nat.reduceEqDiff, Nat.reduceAdd, Nat.reduceMul, Nat.reduceSub, Nat.reduceLT, Nat.reduceLeDiff, reduceCtorEq, Int.reduceToNat, Int.reduceNeg, Nat.reduceBEq, simx, ty, It.row, idxS_map, loadS_map, stoS_map, ← List.map_take, ← List.map_drop]
  repeat' (first
    | ((with_reducible refine onCode ?_); first
      | (refine onLid 2 ?_ (by rfl); refine acode_prune [0, 1, 4, 5] ?_; simp only [prn_cons, prn_nil, lk_cons, lk_emp, Nat.reduceEqDiff, ↓reduceIte]; refine acode_loopS2 2 (by rfl) (α := Int) (fun k => [(5, vi k)]) [8, 9, 10, 11, 12, 13, 14, 15, 16, 17, 18, 19, 20] [] (by kernel_rfl) (fun k => (0 ≤ k ∧ k ≤ xs.length) ∧ puK xs n = puGo xs n k) (fun k => k.toNat) ((xs.length : Int)) ?_ (by (try simp only []) <;> first | (first | exact ⟨by omega, rfl⟩ | omega) | fail) ?_; (focus ((try dsimp only []); (repeat' (first | exact agr_none | exact lk_hd | refine lk_tl (by decide) ?_ | refine agr_one ?_ ?_)); done)); rintro k hJ; (try simp only [] at hJ); have hJ2 := hJ; simp -implicitDefEqProofs (maxSteps := 4000000) only [sim0, sim1, sim2, sim3, sim4, sim5, sim6, sim7, sim8, ↓reduceIte, Nat.reduceEqDiff, Nat.reduceAdd, Nat.reduceMul, Nat.reduceSub, Nat.reduceLT, Nat.reduceLeDiff, reduceCtorEq, Int.reduceToNat, Int.reduceNeg, Nat.reduceBEq, simx, ty, It.row, idxS_map, loadS_map, stoS_map, ← List.map_take, ← List.map_drop])
      | fail)
    | ((with_reducible refine onLps ?_); first
      | (refine lps2_end (α := Int) (mods := (fun k => [(5, vi k)])) _ (by (try dsimp only []); simp only [agr_cons, agr_nil, lk_cons, lk_emp, Nat.reduceEqDiff, ↓reduceIte, and_true]; repeat' (first | rfl | apply And.intro)) (by unfold undK; kernel_rfl) ?_ ?_ <;> ((try simp only []); ((have e9 : IntKind.i64.wrap (k - 1) = k - 1 := wrap_id (by omega) (by omega)); (try simp only [e9] at hq ⊢); first | omega | exact ⟨by omega, pu_go (by omega) hq hJ2.2⟩)))
      | fail)
    | ((with_reducible refine onFin ?_); first
      | (refine fin_own' ?_ ?_ (by simp) (by first | (simp only [plnLL, pln, Value.oneCell', List.all_cons, List.all_nil, plnH, It.pl, Bool.and_true, Bool.and_self, List.take_zero, List.nil_append, List.map_cons, List.map_nil]; done) | rfl) <;> (first | (first | (exfalso; have e9 : IntKind.i64.wrap (k - 1) = k - 1 := wrap_id (by omega) (by omega); rw [e9] at hq; exact hn (k - 1).toNat (by omega) (by simpa using hq)) | rfl | (have e8 : IntKind.i64.wrap (k + 1) = k + 1 := wrap_id (by omega) (by omega); rw [e8, pu_ins (by omega) (by omega)]; have hk : puK xs n = k := (by first | exact pu_stop (.inl (by omega)) hJ2.2 | (have e9 : IntKind.i64.wrap (k - 1) = k - 1 := wrap_id (by omega) (by omega); rename_i h1 _; rw [e9] at h1; exact pu_stop (.inr h1) hJ2.2)); unfold puV; rw [hk]; rfl) | fail) | (simp_all [fins]; done) | (simp_all [-Int.not_lt, -Int.not_le, fins]; done) | (simp_all [fins]; omega)))
      | (refine fin_ownT' ?_ ?_ ?_ (by simp) (by first | (simp only [plnLL, pln, Value.oneCell', List.all_cons, List.all_nil, plnH, It.pl, Bool.and_true, Bool.and_self, List.take_zero, List.nil_append, List.map_cons, List.map_nil]; done) | rfl) rfl <;> (first | (first | (exfalso; have e9 : IntKind.i64.wrap (k - 1) = k - 1 := wrap_id (by omega) (by omega); rw [e9] at hq; exact hn (k - 1).toNat (by omega) (by simpa using hq)) | rfl | (have e8 : IntKind.i64.wrap (k + 1) = k + 1 := wrap_id (by omega) (by omega); rw [e8, pu_ins (by omega) (by omega)]; have hk : puK xs n = k := (by first | exact pu_stop (.inl (by omega)) hJ2.2 | (have e9 : IntKind.i64.wrap (k - 1) = k - 1 := wrap_id (by omega) (by omega); rename_i h1 _; rw [e9] at h1; exact pu_stop (.inr h1) hJ2.2)); unfold puV; rw [hk]; rfl) | fail) | (simp_all [fins]; done) | (simp_all [-Int.not_lt, -Int.not_le, fins]; done) | (simp_all [fins]; omega)))
      | (refine fin_ids ?_ ?_ ?_ (by first | (simp only [plnLL, pln, Value.oneCell', List.all_cons, List.all_nil, plnH, It.pl, Bool.and_true, Bool.and_self, List.take_zero, List.nil_append, List.map_cons, List.map_nil]; done) | rfl) <;> (first | (first | (exfalso; have e9 : IntKind.i64.wrap (k - 1) = k - 1 := wrap_id (by omega) (by omega); rw [e9] at hq; exact hn (k - 1).toNat (by omega) (by simpa using hq)) | rfl | (have e8 : IntKind.i64.wrap (k + 1) = k + 1 := wrap_id (by omega) (by omega); rw [e8, pu_ins (by omega) (by omega)]; have hk : puK xs n = k := (by first | exact pu_stop (.inl (by omega)) hJ2.2 | (have e9 : IntKind.i64.wrap (k - 1) = k - 1 := wrap_id (by omega) (by omega); rename_i h1 _; rw [e9] at h1; exact pu_stop (.inr h1) hJ2.2)); unfold puV; rw [hk]; rfl) | fail) | (simp_all [fins, funs]; done) | (simp [fins, funs]; done) | (simp_all [-Int.not_lt, -Int.not_le, fins, funs]; done) | (simp_all [fins, funs]; omega)))
      | fail)
    | (with_reducible refine ite_intro (fun hq => ?_) (fun hq => ?_))
    | (with_reducible refine And.intro (fun hq => ?_) (fun hq => ?_))
    | (with_reducible refine And.intro ?_ ?_)
    | ((fail_if_success (with_reducible refine onCode ?_)); (fail_if_success (with_reducible refine onLps ?_)); (fail_if_success (with_reducible refine onLpd ?_)); (fail_if_success (with_reducible refine onLpe ?_)); (fail_if_success (with_reducible refine onFin ?_)); (fail_if_success (with_reducible refine onCall ?_)); (fail_if_success (with_reducible refine onQcall ?_)); first | ((first | omega | (have e8 : IntKind.i64.wrap (k + 1) = k + 1 := wrap_id (by omega) (by omega); rw [e8]; simp only [List.length_append, List.length_take, List.length_drop, List.length_cons, List.length_nil]; omega) | (rw [wrap_id (by omega) (by omega)]; omega)); done) | omega | (rw [wrap_id (by omega) (by omega)]; omega) | (first | (exfalso; have e9 : IntKind.i64.wrap (k - 1) = k - 1 := wrap_id (by omega) (by omega); rw [e9] at hq; exact hn (k - 1).toNat (by omega) (by simpa using hq)) | rfl | (have e8 : IntKind.i64.wrap (k + 1) = k + 1 := wrap_id (by omega) (by omega); rw [e8, pu_ins (by omega) (by omega)]; have hk : puK xs n = k := (by first | exact pu_stop (.inl (by omega)) hJ2.2 | (have e9 : IntKind.i64.wrap (k - 1) = k - 1 := wrap_id (by omega) (by omega); rename_i h1 _; rw [e9] at h1; exact pu_stop (.inr h1) hJ2.2)); unfold puV; rw [hk]; rfl) | fail)))

end Go.Proofs.Ytgcmahhejblpkaa
