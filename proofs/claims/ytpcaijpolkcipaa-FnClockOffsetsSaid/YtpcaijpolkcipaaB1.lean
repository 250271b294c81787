/-
Contracts of what copies and compares lists of clock pairs, and of what says that they are valid, over plain data.
No condition but those that the contracts name.
-/
import Derived.Test.YtpcaijpolkcipaaW1
namespace Go.Proofs.Ytpcaijpolkcipaa
open Eng
set_option linter.unusedSimpArgs false
set_option linter.unusedVariables false
structure Pr where
  a : Int
  b : Int
instance : Inhabited Pr := ⟨⟨0, 0⟩⟩
def Pr.e (t : Pr) : List AV := [vi t.a, vi t.b]
theorem Pr.ee {t : Pr} : Pr.e t = [vi t.a, vi t.b] := (rfl)
theorem Pr.pl {ts : List Pr} : plnLL (ts.map Pr.e) = true := plnLL_map (fun _ => rfl) ts
theorem Pr.ns {z : Nat} {ts : List Pr} : noslE (.arr z (ts.map Pr.e)) = true := nosl_map (fun _ => rfl) ts
theorem Pr.rn {n0 z : Nat} {is : List Nat} {ts : List Pr} : rnE n0 is (.arr z (ts.map Pr.e)) = .arr z (ts.map Pr.e) := rnE_pln Pr.pl
theorem Pr.up {n z : Nat} {r : List Nat} {ts : List Pr} : upE r n (.arr z (ts.map Pr.e)) = .arr z (ts.map Pr.e) := upE_pln Pr.pl
theorem Pr.st {ts : List Pr} {i : Nat} {a0 a1 : Int} : (ts.map Pr.e).set i [vi a0, vi a1] = (ts.set i ⟨a0, a1⟩).map Pr.e := by rw [List.map_set]; rfl
theorem Pr.ap {ts : List Pr} {a0 a1 : Int} : ts.map Pr.e ++ [[vi a0, vi a1]] = (ts ++ [(⟨a0, a1⟩ : Pr)]).map Pr.e := by rw [List.map_append]; rfl
theorem Pr.aq {ts us : List Pr} : ts.map Pr.e ++ us.map Pr.e = (ts ++ us).map Pr.e := by rw [List.map_append]
theorem Pr.rp {n : Nat} : List.replicate n [AV.v (.int .i64 0), AV.v (.int .i64 0)] = (List.replicate n (default : Pr)).map Pr.e := by rw [List.map_replicate]; rfl
theorem Pr.row : (type_of% @Pr.ee) ∧ (type_of% @Pr.pl) ∧ (type_of% @Pr.ns) ∧ (type_of% @Pr.rn) ∧ (type_of% @Pr.up) ∧ (type_of% @Pr.st) ∧ (type_of% @Pr.ap) ∧ (type_of% @Pr.aq) ∧ (type_of% @Pr.rp) :=
  ⟨@Pr.ee, @Pr.pl, @Pr.ns, @Pr.rn, @Pr.up, @Pr.st, @Pr.ap, @Pr.aq, @Pr.rp⟩
theorem Pr.a_ite {c : Prop} [Decidable c] {x y : Pr} : (if c then x else y).a = if c then x.a else y.a := by split <;> rfl
theorem Pr.b_ite {c : Prop} [Decidable c] {x y : Pr} : (if c then x else y).b = if c then x.b else y.b := by split <;> rfl
theorem Pr.ite : (type_of% @Pr.a_ite) ∧ (type_of% @Pr.b_ite) :=
  ⟨@Pr.a_ite, @Pr.b_ite⟩
def Pr.ok (t : Pr) : Prop := I64 t.a ∧ I64 t.b
theorem Pr.of : ∀ {xs : List (List Int)}, (∀ e ∈ xs, e.length = 2 ∧ ∀ z ∈ e, (Lit.int .i64 z).wf = true) → ∃ ts : List Pr, els .i64 xs = ts.map Pr.e ∧ ts.length = xs.length ∧ ∀ t ∈ ts, t.ok
  | [], _ => ⟨[], rfl, rfl, by simp⟩
  | e :: xs, h => by
    obtain ⟨ts, h1, h2, h3⟩ := Pr.of (xs := xs) fun e he => h e (by simp [he])
    obtain ⟨h4, h5⟩ := h e (by simp)
    match e, h4, h5 with
    | [a0, a1], _, h5 =>
      refine ⟨⟨a0, a1⟩ :: ts, ?_, by simp [h2], ?_⟩
      · simp only [els, List.map_cons] at h1 ⊢
        rw [h1]; rfl
      · intro t ht
        rcases List.mem_cons.1 ht with rfl | ht
        · exact ⟨h5 _ (by simp), h5 _ (by simp)⟩
        · exact h3 t ht

set_option maxRecDepth 100000 in
set_option maxHeartbeats 4000000 in
theorem toClockPair_gc {a0 a1 : Int} : GC Try.prog 58 [.agg [vi a0, vi a1]] [] (fun r_ hs_ => r_ = .agg [vi a0, vi a1] ∧ hs_ = []) := by
  refine GC.of_func [] Try.call58 Try.func58 rfl ⟨by kernel_rfl, by kernel_rfl⟩ (by kernel_rfl) ?_
  rw [Try.results58]
  simp -implicitDefEqProofs (maxSteps := 4000000) only [sim0, sim1, sim2, sim3, sim4, sim5, sim6, sim7, sim8, ↓reduceIte, Nat.reduceEqDiff, Nat.reduceAdd, Nat.reduceMul, Nat.reduceSub, Nat.reduceLT, Nat.reduceLeDiff, reduceCtorEq, Int.reduceToNat, Int.reduceNeg, Nat.reduceBEq, simx, ty]
  repeat' (first
    | ((with_reducible refine onFin ?_); first
      | (refine fin_nil ?_; (first | (simp_all [fins]; done) | (simp_all [-Int.not_lt, -Int.not_le, fins]; done) | (simp_all [fins]; omega)))
      | fail)
    | (with_reducible refine ite_intro (fun hq => ?_) (fun hq => ?_))
    | (with_reducible refine And.intro (fun hq => ?_) (fun hq => ?_))
    | (with_reducible refine And.intro ?_ ?_)
    | ((fail_if_success (with_reducible refine onCode ?_)); (fail_if_success (with_reducible refine onLps ?_)); (fail_if_success (with_reducible refine onLpd ?_)); (fail_if_success (with_reducible refine onLpe ?_)); (fail_if_success (with_reducible refine onFin ?_)); (fail_if_success (with_reducible refine onCall ?_)); (fail_if_success (with_reducible refine onQcall ?_)); first | omega | (rw [wrap_id (by omega) (by omega)]; omega) | (simp_all; done)))

set_option maxRecDepth 100000 in
set_option maxHeartbeats 4000000 in
theorem eqClockPair_gc {a0 a1 b0 b1 : Int} : GC Try.prog 60 [.agg [vi a0, vi a1], .agg [vi b0, vi b1]] [] (fun r_ hs_ => r_ = vb (a0 == b0 && a1 == b1) ∧ hs_ = []) := by
  refine GC.of_func [] Try.call60 Try.func60 rfl ⟨by kernel_rfl, by kernel_rfl⟩ (by kernel_rfl) ?_
  rw [Try.results60]
  simp -implicitDefEqProofs (maxSteps := 4000000) only [sim0, sim1, sim2, sim3, sim4, sim5, sim6, sim7, sim8, ↓reduceIte, Nat.reduceEqDiff, Nat.reduceAdd, Nat.reduceMul, Nat.reduceSub, Nat.reduceLT, Nat.reduceLeDiff, reduceCtorEq, Int.reduceToNat, Int.reduceNeg, Nat.reduceBEq, simx, ty]
  repeat' (first
    | ((with_reducible refine onFin ?_); first
      | (refine fin_nil ?_; (first | (simp_all [fins]; done) | (simp_all [-Int.not_lt, -Int.not_le, fins]; done) | (simp_all [fins]; omega)))
      | fail)
    | (with_reducible refine ite_intro (fun hq => ?_) (fun hq => ?_))
    | (with_reducible refine And.intro (fun hq => ?_) (fun hq => ?_))
    | (with_reducible refine And.intro ?_ ?_)
    | ((fail_if_success (with_reducible refine onCode ?_)); (fail_if_success (with_reducible refine onLps ?_)); (fail_if_success (with_reducible refine onLpd ?_)); (fail_if_success (with_reducible refine onLpe ?_)); (fail_if_success (with_reducible refine onFin ?_)); (fail_if_success (with_reducible refine onCall ?_)); (fail_if_success (with_reducible refine onQcall ?_)); first | omega | (rw [wrap_id (by omega) (by omega)]; omega) | (simp_all; done)))

set_option maxRecDepth 100000 in
set_option maxHeartbeats 4000000 in
theorem szClockPairS_gc {ts : List Pr} {n : Int} (hn : 0 ≤ n ∧ n ≤ 1048576) (hl : ts.length ≤ maxLen) : GC Try.prog 17 [.sl 2 (ts.map Pr.e), vi n] [] (fun r_ hs_ => r_ = vi (if n < (ts.length : Int) then -1 else n - ts.length) ∧ hs_ = []) := by
  refine GC.of_func [] Try.call17 Try.func17 rfl ⟨by kernel_rfl, by kernel_rfl⟩ (by kernel_rfl) ?_
  rw [Try.results17]
  simp -implicitDefEqProofs (maxSteps := 4000000) only [sim0, sim1, sim2, sim3, sim4, sim5, sim6, sim7, sim8, ↓reduceIte, Nat.reduceEqDiff, Nat.reduceAdd, Nat.reduceMul, Nat.reduceSub, Nat.reduceLT, Nat.reduceLeDiff, reduceCtorEq, Int.reduceToNat, Int.reduceNeg, Nat.reduceBEq, simx, ty, Pr.row, idxS_map, loadS_map, stoS_map, ← List.map_take, ← List.map_drop]
  repeat' (first
    | ((with_reducible refine onFin ?_); first
      | (refine fin_nil ?_; (first | (have hm : maxLen = 9223372036854775807 := rfl; have e : IntKind.i64.wrap (n - ↑ts.length) = n - ↑ts.length := wrap_id (by omega) (by omega); (try rw [e] at hq); (try rw [e]); first | (rw [if_pos (by omega)]; simp [fins]; done) | (rw [if_neg (by omega)]; simp [fins]; done)) | (simp_all [fins]; done) | (simp_all [-Int.not_lt, -Int.not_le, fins]; done) | (simp_all [fins]; omega)))
      | fail)
    | (with_reducible refine ite_intro (fun hq => ?_) (fun hq => ?_))
    | (with_reducible refine And.intro (fun hq => ?_) (fun hq => ?_))
    | (with_reducible refine And.intro ?_ ?_)
    | ((fail_if_success (with_reducible refine onCode ?_)); (fail_if_success (with_reducible refine onLps ?_)); (fail_if_success (with_reducible refine onLpd ?_)); (fail_if_success (with_reducible refine onLpe ?_)); (fail_if_success (with_reducible refine onFin ?_)); (fail_if_success (with_reducible refine onCall ?_)); (fail_if_success (with_reducible refine onQcall ?_)); first | omega | (rw [wrap_id (by omega) (by omega)]; omega) | (have hm : maxLen = 9223372036854775807 := rfl; have e : IntKind.i64.wrap (n - ↑ts.length) = n - ↑ts.length := wrap_id (by omega) (by omega); (try rw [e] at hq); (try rw [e]); first | (rw [if_pos (by omega)]; simp [fins]; done) | (rw [if_neg (by omega)]; simp [fins]; done))))

set_option maxRecDepth 100000 in
set_option maxHeartbeats 4000000 in
theorem toClockPairS_gc {ts : List Pr} (hl : ts.length ≤ 1048576) : GC Try.prog 19 [.sl 2 (ts.map Pr.e)] [] (fun r_ hs_ => r_ = .ref 0 ts.length ∧ hs_ = [.arr 2 (ts.map Pr.e)]) := by
  refine GC.of_func [] Try.call19 Try.func19 rfl ⟨by kernel_rfl, by kernel_rfl⟩ (by kernel_rfl) ?_
  rw [Try.results19]
  simp -implicitDefEqProofs (maxSteps := 4000000) only [sim0, sim1, sim2, sim3, sim4, sim5, sim6, sim7, sim8, ↓reduceIte, Nat.reduceEqDiff, Nat.reduceAdd, Nat.reduceMul, Nat.reduceSub, Nat.reduceLT, Nat.reduceLeDiff, reduceCtorEq, Int.reduceToNat, Int.reduceNeg, Nat.reduceBEq, simx, ty, Pr.row, idxS_map, loadS_map, stoS_map, ← List.map_take, ← List.map_drop]
  repeat' (first
    | ((with_reducible refine onCall ?_); first
      | (refine GC.callS toClockPair_gc rfl rfl ?_ <;> try simp -implicitDefEqProofs (maxSteps := 4000000) only [sim0, sim1, sim2, sim3, sim4, sim5, sim6, sim7, sim8, ↓reduceIte, Nat.reduceEqDiff, Nat.reduceAdd, Nat.reduceMul, Nat.reduceSub, Nat.reduceLT, Nat.reduceLeDiff, reduceCtorEq, Int.reduceToNat, Int.reduceNeg, Nat.reduceBEq, simx, ty, Pr.row, idxS_map, loadS_map, stoS_map, ← List.map_take, ← List.map_drop])
      | fail)
    | ((with_reducible refine onCode ?_); first
      | (refine onLid 3 ?_ (by rfl); refine acode_prune [0, 2, 3, 4] ?_; simp only [prn_cons, prn_nil, lk_cons, lk_emp, Nat.reduceEqDiff, ↓reduceIte]; refine acode_loopE2 3 (by rfl) (α := Int × List Pr) (fun ⟨i, us⟩ => [(4, vi i), (3, .ref 0 ts.length)]) [8, 9, 10, 11, 12, 13, 14, 15, 16, 17, 18, 19, 20, 21] [] (by kernel_rfl) [] (fun ⟨i, us⟩ => [.arr 2 (us.map Pr.e)]) (fun _ => by simp) (fun _ _ => rfl) (fun ⟨i, us⟩ => (0 ≤ i ∧ i ≤ ts.length) ∧ us.length = ts.length ∧ us.take i.toNat = ts.take i.toNat) (fun ⟨i, us⟩ => (ts.length - i).toNat) ((0, List.replicate ts.length default)) ?_ ?_ (by (try simp only []) <;> first | (simp_all; done) | (simp_all; omega) | omega) ?_; (focus ((try dsimp only []); (repeat' (first | exact agr_none | exact lk_hd | refine lk_tl (by decide) ?_ | refine agr_one ?_ ?_)); done)); (focus (first | rfl | (simp; done))); rintro ⟨i, us⟩ hJ; (try simp only [] at hJ); have hJ3 := hJ; simp -implicitDefEqProofs (maxSteps := 4000000) only [sim0, sim1, sim2, sim3, sim4, sim5, sim6, sim7, sim8, ↓reduceIte, Nat.reduceEqDiff, Nat.reduceAdd, Nat.reduceMul, Nat.reduceSub, Nat.reduceLT, Nat.reduceLeDiff, reduceCtorEq, Int.reduceToNat, Int.reduceNeg, Nat.reduceBEq, simx, ty, Pr.row, idxS_map, loadS_map, stoS_map, ← List.map_take, ← List.map_drop])
      | fail)
    | ((with_reducible refine onLpe ?_); first
      | (refine lpe2_end0 (α := Int × List Pr) (mods := (fun ⟨i, us⟩ => [(4, vi i), (3, .ref 0 ts.length)])) [0] (_, _) rfl rfl rfl (by (try dsimp only []); rfl) (by first | (simp only [plnLL, pln, Value.oneCell', List.all_cons, List.all_nil, plnH, Pr.pl, Bool.and_true, Bool.and_self]; done) | rfl) (by (try dsimp only []); simp only [agrR_cons, agrR_nil, lk_cons, lk_emp, Nat.reduceEqDiff, ↓reduceIte, and_true]; repeat' (first | exact rn_v | rfl | (simp only [List.length_append, List.length_cons, List.length_nil]; rfl) | apply And.intro)) (by unfold undK; kernel_rfl) ?_ ?_ <;> ((try simp only []); (obtain ⟨hb, hm, hg⟩ := hJ; have e : IntKind.i64.wrap (i + 1) = i + 1 := wrap_id (by omega) (by omega); rw [e]; first | omega | (refine ⟨by omega, by simp [hm], ?_⟩; have e2 : (i + 1).toNat = i.toNat + 1 := (by omega); rw [e2]; exact take_set' rfl hm (by omega) hg))))
      | fail)
    | ((with_reducible refine onFin ?_); first
      | (refine fin_own' ?_ ?_ (by simp) (by first | (simp only [plnLL, pln, Value.oneCell', List.all_cons, List.all_nil, plnH, Pr.pl, Bool.and_true, Bool.and_self, List.take_zero, List.nil_append, List.map_cons, List.map_nil]; done) | rfl) <;> (first | (obtain ⟨hb, hm, hg⟩ := hJ; first | rfl | (have e2 : i.toNat = ts.length := (by omega); have h1 : us.take ts.length = us := List.take_of_length_le (by omega); have h2 : ts.take ts.length = ts := List.take_length; rw [e2, h1, h2] at hg; subst hg; rfl)) | (simp_all [fins]; done) | (simp_all [-Int.not_lt, -Int.not_le, fins]; done) | (simp_all [fins]; omega)))
      | (refine fin_ownT' ?_ ?_ ?_ (by simp) (by first | (simp only [plnLL, pln, Value.oneCell', List.all_cons, List.all_nil, plnH, Pr.pl, Bool.and_true, Bool.and_self, List.take_zero, List.nil_append, List.map_cons, List.map_nil]; done) | rfl) rfl <;> (first | (obtain ⟨hb, hm, hg⟩ := hJ; first | rfl | (have e2 : i.toNat = ts.length := (by omega); have h1 : us.take ts.length = us := List.take_of_length_le (by omega); have h2 : ts.take ts.length = ts := List.take_length; rw [e2, h1, h2] at hg; subst hg; rfl)) | (simp_all [fins]; done) | (simp_all [-Int.not_lt, -Int.not_le, fins]; done) | (simp_all [fins]; omega)))
      | (refine fin_ids ?_ ?_ ?_ (by first | (simp only [plnLL, pln, Value.oneCell', List.all_cons, List.all_nil, plnH, Pr.pl, Bool.and_true, Bool.and_self, List.take_zero, List.nil_append, List.map_cons, List.map_nil]; done) | rfl) <;> (first | (obtain ⟨hb, hm, hg⟩ := hJ; first | rfl | (have e2 : i.toNat = ts.length := (by omega); have h1 : us.take ts.length = us := List.take_of_length_le (by omega); have h2 : ts.take ts.length = ts := List.take_length; rw [e2, h1, h2] at hg; subst hg; rfl)) | (simp_all [fins, funs]; done) | (simp [fins, funs]; done) | (simp_all [-Int.not_lt, -Int.not_le, fins, funs]; done) | (simp_all [fins, funs]; omega)))
      | fail)
    | (with_reducible refine ite_intro (fun hq => ?_) (fun hq => ?_))
    | (with_reducible refine And.intro (fun hq => ?_) (fun hq => ?_))
    | (with_reducible refine And.intro ?_ ?_)
    | ((fail_if_success (with_reducible refine onCode ?_)); (fail_if_success (with_reducible refine onLps ?_)); (fail_if_success (with_reducible refine onLpd ?_)); (fail_if_success (with_reducible refine onLpe ?_)); (fail_if_success (with_reducible refine onFin ?_)); (fail_if_success (with_reducible refine onCall ?_)); (fail_if_success (with_reducible refine onQcall ?_)); first | omega | (rw [wrap_id (by omega) (by omega)]; omega) | (obtain ⟨hb, hm, hg⟩ := hJ; first | rfl | (have e2 : i.toNat = ts.length := (by omega); have h1 : us.take ts.length = us := List.take_of_length_le (by omega); have h2 : ts.take ts.length = ts := List.take_length; rw [e2, h1, h2] at hg; subst hg; rfl))))

set_option maxRecDepth 100000 in
set_option maxHeartbeats 4000000 in
theorem eqClockPairS_gc {ts : List Pr} (hl : ts.length ≤ 1048576) : GC Try.prog 21 [.sl 2 (ts.map Pr.e), .sl 2 (ts.map Pr.e)] [] (fun r_ hs_ => r_ = vb true ∧ hs_ = []) := by
  refine GC.of_func [(6, .val 0 (.val 1 (.val 2 (.val 3 (.val 4 (.val 5 (.val 6 (.val 7 (.val 8 (.val 9 (.done)))))))))))] Try.call21 Try.func21 rfl ⟨by kernel_rfl, by kernel_rfl⟩ (by kernel_rfl) ?_
  rw [Try.results21]
  simp -implicitDefEqProofs (maxSteps := 4000000) only [sim0, sim1, sim2, sim3, sim4, sim5, sim6, sim7, sim8, ↓reduceIte, Nat.reduceEqDiff, Nat.reduceAdd, Nat.reduceMul, Nat.reduceSub, Nat.reduceLT, Nat.reduceLeDiff, reduceCtorEq, Int.reduceToNat, Int.reduceNeg, Nat.reduceBEq, simx, ty, Pr.row, idxS_map, loadS_map, stoS_map, ← List.map_take, ← List.map_drop]
  repeat' (first
    | ((with_reducible refine onQcall ?_); first
      | (refine qcallS eqClockPair_gc rfl rfl ?_ <;> try simp -implicitDefEqProofs (maxSteps := 4000000) only [sim0, sim1, sim2, sim3, sim4, sim5, sim6, sim7, sim8, ↓reduceIte, Nat.reduceEqDiff, Nat.reduceAdd, Nat.reduceMul, Nat.reduceSub, Nat.reduceLT, Nat.reduceLeDiff, reduceCtorEq, Int.reduceToNat, Int.reduceNeg, Nat.reduceBEq, simx, ty, Pr.row, idxS_map, loadS_map, stoS_map, ← List.map_take, ← List.map_drop])
      | fail)
    | ((with_reducible refine onCode ?_); first
      | (refine onLid 4 ?_ (by rfl); refine acode_prune [0, 1, 4, 5] ?_; simp only [prn_cons, prn_nil, lk_cons, lk_emp, Nat.reduceEqDiff, ↓reduceIte]; refine acode_loopS2 4 (by rfl) (α := Int) (fun i => [(5, vi i)]) [4, 11, 12, 13, 14, 15, 16, 17, 18, 19, 20, 21, 22, 23, 24, 25, 26] [4] (by kernel_rfl) (fun i => 0 ≤ i ∧ i ≤ ts.length) (fun i => (ts.length - i).toNat) (0) ?_ (by (try simp only []) <;> first | (simp_all; done) | (simp_all; omega) | omega) ?_; (focus ((try dsimp only []); (repeat' (first | exact agr_none | exact lk_hd | refine lk_tl (by decide) ?_ | refine agr_one ?_ ?_)); done)); rintro i hJ; (try simp only [] at hJ); have hJ4 := hJ; simp -implicitDefEqProofs (maxSteps := 4000000) only [sim0, sim1, sim2, sim3, sim4, sim5, sim6, sim7, sim8, ↓reduceIte, Nat.reduceEqDiff, Nat.reduceAdd, Nat.reduceMul, Nat.reduceSub, Nat.reduceLT, Nat.reduceLeDiff, reduceCtorEq, Int.reduceToNat, Int.reduceNeg, Nat.reduceBEq, simx, ty, Pr.row, idxS_map, loadS_map, stoS_map, ← List.map_take, ← List.map_drop])
      | fail)
    | ((with_reducible refine onLps ?_); first
      | (refine lps2_end (α := Int) (mods := (fun i => [(5, vi i)])) _ (by (try dsimp only []); simp only [agr_cons, agr_nil, lk_cons, lk_emp, Nat.reduceEqDiff, ↓reduceIte, and_true]; repeat' (first | rfl | apply And.intro)) (by unfold undK; kernel_rfl) ?_ ?_ <;> ((try simp only []); (have e : IntKind.i64.wrap (i + 1) = i + 1 := wrap_id (by omega) (by omega); rw [e]; omega)))
      | fail)
    | ((with_reducible refine onFin ?_); first
      | (refine fin_nil ?_; (first | (simp_all [fins]; done) | (simp_all [-Int.not_lt, -Int.not_le, fins]; done) | (simp_all [fins]; omega)))
      | fail)
    | (with_reducible refine ite_intro (fun hq => ?_) (fun hq => ?_))
    | (with_reducible refine And.intro (fun hq => ?_) (fun hq => ?_))
    | (with_reducible refine And.intro ?_ ?_)
    | ((fail_if_success (with_reducible refine onCode ?_)); (fail_if_success (with_reducible refine onLps ?_)); (fail_if_success (with_reducible refine onLpd ?_)); (fail_if_success (with_reducible refine onLpe ?_)); (fail_if_success (with_reducible refine onFin ?_)); (fail_if_success (with_reducible refine onCall ?_)); (fail_if_success (with_reducible refine onQcall ?_)); first | omega | (rw [wrap_id (by omega) (by omega)]; omega) | (simp_all; done)))


def Pr.b' (t : Pr) : Bool := inB t.a 0 1000000 && inB t.b 0 1000000
def cpGo (ts : List Pr) (i : Int) : Bool :=
  if i < ts.length then (if Pr.b' (ts.getD i.toNat default) = true ∧ ¬ (0 < i ∧ (ts.getD i.toNat default).a ≤ (ts.getD (i - 1).toNat default).a) then cpGo ts (i + 1) else false) else true
termination_by (ts.length - i).toNat
def cpB (ts : List Pr) : Bool := inB ts.length 1 12 && cpGo ts 0
set_option maxRecDepth 100000 in
set_option maxHeartbeats 4000000 in
theorem l12Ticks_gc {n : Int} : GC Try.prog 63 [vi n] [] (fun r_ hs_ => r_ = vb (inB n 0 1000000) ∧ hs_ = []) := by
  refine GC.of_func [] Try.call63 Try.func63 rfl ⟨by kernel_rfl, by kernel_rfl⟩ (by kernel_rfl) ?_
  rw [Try.results63]
  simp -implicitDefEqProofs (maxSteps := 4000000) only [sim0, sim1, sim2, sim3, sim4, sim5, sim6, sim7, sim8, ↓reduceIte, Nat.reduceEqDiff, Nat.reduceAdd, Nat.reduceMul, Nat.reduceSub, Nat.reduceLT, Nat.reduceLeDiff, reduceCtorEq, Int.reduceToNat, Int.reduceNeg, Nat.reduceBEq, simx, ty]
  repeat' (first
    | ((with_reducible refine onCall ?_); first
      | (refine GC.callS l1In_gc rfl rfl ?_ <;> try simp -implicitDefEqProofs (maxSteps := 4000000) only [sim0, sim1, sim2, sim3, sim4, sim5, sim6, sim7, sim8, ↓reduceIte, Nat.reduceEqDiff, Nat.reduceAdd, Nat.reduceMul, Nat.reduceSub, Nat.reduceLT, Nat.reduceLeDiff, reduceCtorEq, Int.reduceToNat, Int.reduceNeg, Nat.reduceBEq, simx, ty])
      | fail)
    | ((with_reducible refine onFin ?_); first
      | (refine fin_nil ?_; (first | (simp_all [fins]; done) | (simp_all [-Int.not_lt, -Int.not_le, fins]; done) | (simp_all [fins]; omega)))
      | fail)
    | (with_reducible refine ite_intro (fun hq => ?_) (fun hq => ?_))
    | (with_reducible refine And.intro (fun hq => ?_) (fun hq => ?_))
    | (with_reducible refine And.intro ?_ ?_)
    | ((fail_if_success (with_reducible refine onCode ?_)); (fail_if_success (with_reducible refine onLps ?_)); (fail_if_success (with_reducible refine onLpd ?_)); (fail_if_success (with_reducible refine onLpe ?_)); (fail_if_success (with_reducible refine onFin ?_)); (fail_if_success (with_reducible refine onCall ?_)); (fail_if_success (with_reducible refine onQcall ?_)); first | omega | (rw [wrap_id (by omega) (by omega)]; omega) | (simp_all; done)))

set_option maxRecDepth 100000 in
set_option maxHeartbeats 4000000 in
theorem isValidPairs_gc {ts : List Pr} : GC Try.prog 49 [.sl 2 (ts.map Pr.e)] [] (fun r_ hs_ => r_ = vb (cpB ts) ∧ hs_ = []) := by
  refine GC.of_func [(6, .val 0 (.val 1 (.val 2 (.val 3 (.val 4 (.val 5 (.val 6 (.val 7 (.val 8 (.val 9 (.val 10 (.val 11 (.val 12 (.val 13 (.val 14 (.val 15 (.val 16 (.val 17 (.val 18 (.val 19 (.val 20 (.val 21 (.val 22 (.val 23 (.val 24 (.done))))))))))))))))))))))))))] Try.call49 Try.func49 rfl ⟨by kernel_rfl, by kernel_rfl⟩ (by kernel_rfl) ?_
  rw [Try.results49]
  simp -implicitDefEqProofs (maxSteps := 4000000) only [sim0, sim1, sim2, sim3, sim4, sim5, sim6, sim7, sim8, ↓reduceIte, Nat.reduceEqDiff, Nat.reduceAdd, Nat.reduceMul, Nat.reduceSub, Nat.reduceLT, Nat.reduceLeDiff, reduceCtorEq, Int.reduceToNat, Int.reduceNeg, Nat.reduceBEq, simx, ty, Pr.row, idxS_map, loadS_map, stoS_map, ← List.map_take, ← List.map_drop]
  repeat' (first
    | ((with_reducible refine onCall ?_); first
      | (refine GC.callS within_gc rfl rfl ?_ <;> try simp -implicitDefEqProofs (maxSteps := 4000000) only [sim0, sim1, sim2, sim3, sim4, sim5, sim6, sim7, sim8, ↓reduceIte, Nat.reduceEqDiff, Nat.reduceAdd, Nat.reduceMul, Nat.reduceSub, Nat.reduceLT, Nat.reduceLeDiff, reduceCtorEq, Int.reduceToNat, Int.reduceNeg, Nat.reduceBEq, simx, ty, Pr.row, idxS_map, loadS_map, stoS_map, ← List.map_take, ← List.map_drop])
      | fail)
    | ((with_reducible refine onQcall ?_); first
      | (refine qcallS within_gc rfl rfl ?_ <;> try simp -implicitDefEqProofs (maxSteps := 4000000) only [sim0, sim1, sim2, sim3, sim4, sim5, sim6, sim7, sim8, ↓reduceIte, Nat.reduceEqDiff, Nat.reduceAdd, Nat.reduceMul, Nat.reduceSub, Nat.reduceLT, Nat.reduceLeDiff, reduceCtorEq, Int.reduceToNat, Int.reduceNeg, Nat.reduceBEq, simx, ty, Pr.row, idxS_map, loadS_map, stoS_map, ← List.map_take, ← List.map_drop])
      | fail)
    | ((with_reducible refine onCode ?_); first
      | (refine onLid 4 ?_ (by rfl); refine acode_prune [0, 2, 3, 4, 9, 10, 11] ?_; simp only [prn_cons, prn_nil, lk_cons, lk_emp, Nat.reduceEqDiff, ↓reduceIte]; refine acode_loopD2 4 (by rfl) (α := Int) (fun i => [(11, vi i)]) [2, 3, 4, 12, 13, 14, 15, 16, 17, 18, 19, 20, 21, 22, 23, 24, 25, 26, 27, 28, 29, 30, 31, 32, 33, 34, 35, 36, 37, 38, 39, 40, 41] [2, 3, 4] (by kernel_rfl) (fun i => (0 ≤ i ∧ i ≤ ts.length) ∧ inB ts.length 1 12 = true ∧ cpGo ts 0 = cpGo ts i) (fun i => (ts.length - i).toNat) (0) ?_ (by first | (simp only [plnLL, pln, Value.oneCell', List.all_cons, List.all_nil, plnH, Pr.pl, Bool.and_true, Bool.and_self]; done) | rfl) (by simp) rfl (by (try simp only []) <;> first | (simp_all [cpB]; done) | (simp_all [cpB]; omega) | omega) ?_; (focus ((try dsimp only []); (repeat' (first | exact agr_none | exact lk_hd | refine lk_tl (by decide) ?_ | refine agr_one ?_ ?_)); done)); rintro i hJ; (try simp only [] at hJ); have hJ4 := hJ; simp -implicitDefEqProofs (maxSteps := 4000000) only [sim0, sim1, sim2, sim3, sim4, sim5, sim6, sim7, sim8, ↓reduceIte, Nat.reduceEqDiff, Nat.reduceAdd, Nat.reduceMul, Nat.reduceSub, Nat.reduceLT, Nat.reduceLeDiff, reduceCtorEq, Int.reduceToNat, Int.reduceNeg, Nat.reduceBEq, simx, ty, Pr.row, idxS_map, loadS_map, stoS_map, ← List.map_take, ← List.map_drop])
      | fail)
    | ((with_reducible refine onLpd ?_); first
      | (refine lpd2_end (α := Int) (mods := (fun i => [(11, vi i)])) _ (by (try dsimp only []); simp only [agr_cons, agr_nil, lk_cons, lk_emp, Nat.reduceEqDiff, ↓reduceIte, and_true]; repeat' (first | rfl | apply And.intro)) (by unfold undK; kernel_rfl) _ rfl rfl ?_ ?_ <;> ((try simp only []); (obtain ⟨hb, hm, hg⟩ := hJ; have hm2 := inB_iff.1 hm; have e : IntKind.i64.wrap (i + 1) = i + 1 := wrap_id (by omega) (by omega); rw [e]; first | omega | (refine ⟨by omega, hm, ?_⟩; rw [hg, cpGo.eq_1 ts i, if_pos (by omega)]; have e2 : IntKind.i64.wrap (i - 1) = i - 1 := wrap_id (by omega) (by omega); simp_all [Pr.b']; done))))
      | fail)
    | ((with_reducible refine onFin ?_); first
      | (refine fin_nil ?_; (first | (obtain ⟨hb, hm, hg⟩ := hJ; have hm2 := inB_iff.1 hm; have e2 : 0 < i → IntKind.i64.wrap (i - 1) = i - 1 := fun h => wrap_id (by omega) (by omega); rw [cpGo.eq_1 ts i] at hg; (first | rw [if_pos (by omega)] at hg | rw [if_neg (by omega)] at hg); simp_all [Pr.b', cpB, fins]; done) | (simp_all [fins, cpB]; done) | (simp_all [-Int.not_lt, -Int.not_le, fins, cpB]; done) | (simp_all [fins, cpB]; omega)))
      | fail)
    | (with_reducible refine ite_intro (fun hq => ?_) (fun hq => ?_))
    | (with_reducible refine And.intro (fun hq => ?_) (fun hq => ?_))
    | (with_reducible refine And.intro ?_ ?_)
    | ((fail_if_success (with_reducible refine onCode ?_)); (fail_if_success (with_reducible refine onLps ?_)); (fail_if_success (with_reducible refine onLpd ?_)); (fail_if_success (with_reducible refine onLpe ?_)); (fail_if_success (with_reducible refine onFin ?_)); (fail_if_success (with_reducible refine onCall ?_)); (fail_if_success (with_reducible refine onQcall ?_)); first | (((obtain ⟨hb, hm, hg⟩ := hJ; have hm2 := inB_iff.1 hm; rw [wrap_id (by omega) (by omega)]; omega)); done) | omega | (rw [wrap_id (by omega) (by omega)]; omega) | (obtain ⟨hb, hm, hg⟩ := hJ; have hm2 := inB_iff.1 hm; have e2 : 0 < i → IntKind.i64.wrap (i - 1) = i - 1 := fun h => wrap_id (by omega) (by omega); rw [cpGo.eq_1 ts i] at hg; (first | rw [if_pos (by omega)] at hg | rw [if_neg (by omega)] at hg); simp_all [Pr.b', cpB, fins]; done)))

set_option maxRecDepth 100000 in
set_option maxHeartbeats 4000000 in
theorem l12Good_gc {ts : List Pr} (hl : ts.length ≤ 1048576) : GC Try.prog 56 [.sl 2 (ts.map Pr.e)] [] (fun r_ hs_ => r_ = vb (cpB ts) ∧ hs_ = []) := by
  refine GC.of_func [(4, .val 0 (.val 1 (.val 2 (.val 3 (.val 4 (.val 5 (.val 6 (.val 7 (.val 8 (.val 9 (.val 10 (.val 11 (.val 12 (.val 13 (.val 14 (.val 15 (.val 16 (.val 17 (.val 18 (.val 19 (.val 20 (.val 21 (.val 22 (.val 23 (.val 24 (.val 25 (.val 26 (.val 27 (.val 28 (.val 29 (.val 30 (.val 31 (.val 32 (.val 33 (.done)))))))))))))))))))))))))))))))))))] Try.call56 Try.func56 rfl ⟨by kernel_rfl, by kernel_rfl⟩ (by kernel_rfl) ?_
  rw [Try.results56]
  simp -implicitDefEqProofs (maxSteps := 4000000) only [sim0, sim1, sim2, sim3, sim4, sim5, sim6, sim7, sim8, ↓reduceIte, Nat.reduceEqDiff, Nat.reduceAdd, Nat.reduceMul, Nat.reduceSub, Nat.reduceLT, Nat.reduceLeDiff, reduceCtorEq, Int.reduceToNat, Int.reduceNeg, Nat.reduceBEq, simx, ty, Pr.row, idxS_map, loadS_map, stoS_map, ← List.map_take, ← List.map_drop]
  repeat' (first
    | ((with_reducible refine onCall ?_); first
      | (refine GC.callS l1In_gc rfl rfl ?_ <;> try simp -implicitDefEqProofs (maxSteps := 4000000) only [sim0, sim1, sim2, sim3, sim4, sim5, sim6, sim7, sim8, ↓reduceIte, Nat.reduceEqDiff, Nat.reduceAdd, Nat.reduceMul, Nat.reduceSub, Nat.reduceLT, Nat.reduceLeDiff, reduceCtorEq, Int.reduceToNat, Int.reduceNeg, Nat.reduceBEq, simx, ty, Pr.row, idxS_map, loadS_map, stoS_map, ← List.map_take, ← List.map_drop])
      | fail)
    | ((with_reducible refine onQcall ?_); first
      | (refine qcallS l12Ticks_gc rfl rfl ?_ <;> try simp -implicitDefEqProofs (maxSteps := 4000000) only [sim0, sim1, sim2, sim3, sim4, sim5, sim6, sim7, sim8, ↓reduceIte, Nat.reduceEqDiff, Nat.reduceAdd, Nat.reduceMul, Nat.reduceSub, Nat.reduceLT, Nat.reduceLeDiff, reduceCtorEq, Int.reduceToNat, Int.reduceNeg, Nat.reduceBEq, simx, ty, Pr.row, idxS_map, loadS_map, stoS_map, ← List.map_take, ← List.map_drop])
      | fail)
    | ((with_reducible refine onCode ?_); first
      | (refine onLid 2 ?_ (by rfl); refine acode_prune [0, 2, 3] ?_; simp only [prn_cons, prn_nil, lk_cons, lk_emp, Nat.reduceEqDiff, ↓reduceIte]; refine acode_loopS2 2 (by rfl) (α := Int) (fun i => [(3, vi i)]) [2, 4, 5, 6, 7, 8, 9, 10, 11, 12, 13, 14, 15, 16, 17, 18, 19, 20, 21, 22, 23, 24, 25, 26, 27, 28, 29, 30, 31, 32, 33, 34, 35, 36, 37, 38, 39, 40, 41, 42, 43] [2] (by kernel_rfl) (fun i => (0 ≤ i ∧ i ≤ ts.length) ∧ cpGo ts 0 = cpGo ts i) (fun i => (ts.length - i).toNat) (0) ?_ (by (try simp only []) <;> first | (simp_all [cpB]; done) | (simp_all [cpB]; omega) | omega) ?_; (focus ((try dsimp only []); (repeat' (first | exact agr_none | exact lk_hd | refine lk_tl (by decide) ?_ | refine agr_one ?_ ?_)); done)); rintro i hJ; (try simp only [] at hJ); have hJ2 := hJ; simp -implicitDefEqProofs (maxSteps := 4000000) only [sim0, sim1, sim2, sim3, sim4, sim5, sim6, sim7, sim8, ↓reduceIte, Nat.reduceEqDiff, Nat.reduceAdd, Nat.reduceMul, Nat.reduceSub, Nat.reduceLT, Nat.reduceLeDiff, reduceCtorEq, Int.reduceToNat, Int.reduceNeg, Nat.reduceBEq, simx, ty, Pr.row, idxS_map, loadS_map, stoS_map, ← List.map_take, ← List.map_drop])
      | fail)
    | ((with_reducible refine onLps ?_); first
      | (refine lps2_end (α := Int) (mods := (fun i => [(3, vi i)])) _ (by (try dsimp only []); simp only [agr_cons, agr_nil, lk_cons, lk_emp, Nat.reduceEqDiff, ↓reduceIte, and_true]; repeat' (first | rfl | apply And.intro)) (by unfold undK; kernel_rfl) ?_ ?_ <;> ((try simp only []); (obtain ⟨hb, hg⟩ := hJ; have e : IntKind.i64.wrap (i + 1) = i + 1 := wrap_id (by omega) (by omega); rw [e]; first | omega | (refine ⟨by omega, ?_⟩; rw [hg, cpGo.eq_1 ts i, if_pos (by omega)]; have e2 : IntKind.i64.wrap (i - 1) = i - 1 := wrap_id (by omega) (by omega); simp_all [Pr.b']; done))))
      | fail)
    | ((with_reducible refine onFin ?_); first
      | (refine fin_nil ?_; (first | (obtain ⟨hb, hg⟩ := hJ; have e2 : 0 < i → IntKind.i64.wrap (i - 1) = i - 1 := fun h => wrap_id (by omega) (by omega); rw [cpGo.eq_1 ts i] at hg; (first | rw [if_pos (by omega)] at hg | rw [if_neg (by omega)] at hg); simp_all [Pr.b', cpB, fins]; done) | (simp_all [fins, cpB]; done) | (simp_all [-Int.not_lt, -Int.not_le, fins, cpB]; done) | (simp_all [fins, cpB]; omega)))
      | fail)
    | (with_reducible refine ite_intro (fun hq => ?_) (fun hq => ?_))
    | (with_reducible refine And.intro (fun hq => ?_) (fun hq => ?_))
    | (with_reducible refine And.intro ?_ ?_)
    | ((fail_if_success (with_reducible refine onCode ?_)); (fail_if_success (with_reducible refine onLps ?_)); (fail_if_success (with_reducible refine onLpd ?_)); (fail_if_success (with_reducible refine onLpe ?_)); (fail_if_success (with_reducible refine onFin ?_)); (fail_if_success (with_reducible refine onCall ?_)); (fail_if_success (with_reducible refine onQcall ?_)); first | omega | (rw [wrap_id (by omega) (by omega)]; omega) | (obtain ⟨hb, hg⟩ := hJ; have e2 : 0 < i → IntKind.i64.wrap (i - 1) = i - 1 := fun h => wrap_id (by omega) (by omega); rw [cpGo.eq_1 ts i] at hg; (first | rw [if_pos (by omega)] at hg | rw [if_neg (by omega)] at hg); simp_all [Pr.b', cpB, fins]; done)))

end Go.Proofs.Ytpcaijpolkcipaa
