/-
Contracts of PathCells, over plain data, and the law FnExactPathCells.
No condition but those that the contracts name.
-/
import Derived.Test.YtboedpdpfomjgaaM1
import Derived.Test.YtboedpdpfomjgaaW2
import Derived.Test.YtboedpdpfomjgaaVT
import Derived.Test.YtboedpdpfomjgaaVW
namespace Go.Proofs.Ytboedpdpfomjgaa
open Eng
set_option linter.unusedSimpArgs false
set_option linter.unusedVariables false
structure Plc where
  x : Int
  y : Int
instance : Inhabited Plc := ⟨⟨0, 0⟩⟩
def Plc.e (t : Plc) : List AV := [vi t.x, vi t.y]
theorem Plc.ee {t : Plc} : Plc.e t = [vi t.x, vi t.y] := (rfl)
theorem Plc.pl {ts : List Plc} : plnLL (ts.map Plc.e) = true := plnLL_map (fun _ => rfl) ts
theorem Plc.ns {z : Nat} {ts : List Plc} : noslE (.arr z (ts.map Plc.e)) = true := nosl_map (fun _ => rfl) ts
theorem Plc.rn {n0 z : Nat} {is : List Nat} {ts : List Plc} : rnE n0 is (.arr z (ts.map Plc.e)) = .arr z (ts.map Plc.e) := rnE_pln Plc.pl
theorem Plc.up {n z : Nat} {r : List Nat} {ts : List Plc} : upE r n (.arr z (ts.map Plc.e)) = .arr z (ts.map Plc.e) := upE_pln Plc.pl
theorem Plc.st {ts : List Plc} {i : Nat} {a0 a1 : Int} : (ts.map Plc.e).set i [vi a0, vi a1] = (ts.set i ⟨a0, a1⟩).map Plc.e := by rw [List.map_set]; rfl
theorem Plc.ap {ts : List Plc} {a0 a1 : Int} : ts.map Plc.e ++ [[vi a0, vi a1]] = (ts ++ [(⟨a0, a1⟩ : Plc)]).map Plc.e := by rw [List.map_append]; rfl
theorem Plc.aq {ts us : List Plc} : ts.map Plc.e ++ us.map Plc.e = (ts ++ us).map Plc.e := by rw [List.map_append]
theorem Plc.rp {n : Nat} : List.replicate n [AV.v (.int .i64 0), AV.v (.int .i64 0)] = (List.replicate n (default : Plc)).map Plc.e := by rw [List.map_replicate]; rfl
theorem Plc.row : (type_of% @Plc.ee) ∧ (type_of% @Plc.pl) ∧ (type_of% @Plc.ns) ∧ (type_of% @Plc.rn) ∧ (type_of% @Plc.up) ∧ (type_of% @Plc.st) ∧ (type_of% @Plc.ap) ∧ (type_of% @Plc.aq) ∧ (type_of% @Plc.rp) :=
  ⟨@Plc.ee, @Plc.pl, @Plc.ns, @Plc.rn, @Plc.up, @Plc.st, @Plc.ap, @Plc.aq, @Plc.rp⟩
theorem Plc.x_ite {c : Prop} [Decidable c] {x y : Plc} : (if c then x else y).x = if c then x.x else y.x := by split <;> rfl
theorem Plc.y_ite {c : Prop} [Decidable c] {x y : Plc} : (if c then x else y).y = if c then x.y else y.y := by split <;> rfl
theorem Plc.ite : (type_of% @Plc.x_ite) ∧ (type_of% @Plc.y_ite) :=
  ⟨@Plc.x_ite, @Plc.y_ite⟩
def Plc.ok (t : Plc) : Prop := I64 t.x ∧ I64 t.y
theorem Plc.of : ∀ {xs : List (List Int)}, (∀ e ∈ xs, e.length = 2 ∧ ∀ z ∈ e, (Lit.int .i64 z).wf = true) → ∃ ts : List Plc, els .i64 xs = ts.map Plc.e ∧ ts.length = xs.length ∧ ∀ t ∈ ts, t.ok
  | [], _ => ⟨[], rfl, rfl, by simp⟩
  | e :: xs, h => by
    obtain ⟨ts, h1, h2, h3⟩ := Plc.of (xs := xs) fun e he => h e (by simp [he])
    obtain ⟨h4, h5⟩ := h e (by simp)
    match e, h4, h5 with
    | [a0, a1], _, h5 =>
      refine ⟨⟨a0, a1⟩ :: ts, ?_, by simp [h2], ?_⟩
      · simp only [els, List.map_cons] at h1 ⊢
        rw [h1]; rfl
      · intro t ht
        rcases List.mem_cons.1 ht with rfl | ht
        · exact ⟨h5 _ (by simp), h5 _ (by simp)⟩
        · exact h3 t ht

set_option maxRecDepth 100000 in
set_option maxHeartbeats 4000000 in
theorem eqPlace_gc {a0 a1 b0 b1 : Int} : GC Try.prog 46 [.agg [vi a0, vi a1], .agg [vi b0, vi b1]] [] (fun r_ hs_ => r_ = vb (a0 == b0 && a1 == b1) ∧ hs_ = []) := by
  refine GC.of_func [] Try.call46 Try.func46 rfl ⟨by kernel_rfl, by kernel_rfl⟩ (by kernel_rfl) ?_
  rw [Try.results46]
  simp -implicitDefEqProofs (maxSteps := 4000000) only [sim0, sim1, sim2, sim3, sim4, sim5, sim6, sim7, sim8, ↓reduceIte, Nat.reduceEqDiff, Nat.reduceAdd, Nat.reduceMul, Nat.reduceSub, Nat.reduceLT, Nat.reduceLeDiff, reduceCtorEq, Int.reduceToNat, Int.reduceNeg, Nat.reduceBEq, simx, ty]
  repeat' (first
    | ((with_reducible refine onFin ?_); first
      | (refine fin_nil ?_; (first | (simp_all [fins]; done) | (simp_all [-Int.not_lt, -Int.not_le, fins]; done) | (simp_all [fins]; omega)))
      | fail)
    | (with_reducible refine ite_intro (fun hq => ?_) (fun hq => ?_))
    | (with_reducible refine And.intro (fun hq => ?_) (fun hq => ?_))
    | (with_reducible refine And.intro ?_ ?_)
    | ((fail_if_success (with_reducible refine onCode ?_)); (fail_if_success (with_reducible refine onLps ?_)); (fail_if_success (with_reducible refine onLpd ?_)); (fail_if_success (with_reducible refine onLpe ?_)); (fail_if_success (with_reducible refine onFin ?_)); (fail_if_success (with_reducible refine onCall ?_)); (fail_if_success (with_reducible refine onQcall ?_)); first | omega | (rw [wrap_id (by omega) (by omega)]; omega) | (simp_all; done)))



set_option maxRecDepth 100000 in
set_option maxHeartbeats 4000000 in
theorem eqPlaceS_gc {ts : List Plc} (hl : ts.length ≤ 1048576) : GC Try.prog 9 [.sl 2 (ts.map Plc.e), .sl 2 (ts.map Plc.e)] [] (fun r_ hs_ => r_ = vb true ∧ hs_ = []) := by
  refine GC.of_func [(6, .val 0 (.val 1 (.val 2 (.val 3 (.val 4 (.val 5 (.val 6 (.val 7 (.val 8 (.val 9 (.done)))))))))))] Try.call9 Try.func9 rfl ⟨by kernel_rfl, by kernel_rfl⟩ (by kernel_rfl) ?_
  rw [Try.results9]
  simp -implicitDefEqProofs (maxSteps := 4000000) only [sim0, sim1, sim2, sim3, sim4, sim5, sim6, sim7, sim8, ↓reduceIte, Nat.reduceEqDiff, Nat.reduceAdd, Nat.reduceMul, Nat.reduceSub, Nat.reduceLT, Nat.reduceLeDiff, reduceCtorEq, Int.reduceToNat, Int.reduceNeg, Nat.reduceBEq, simx, ty, Plc.row, idxS_map, loadS_map, stoS_map, ← List.map_take, ← List.map_drop]
  repeat' (first
    | ((with_reducible refine onQcall ?_); first
      | (refine qcallS eqPlace_gc rfl rfl ?_ <;> try simp -implicitDefEqProofs (maxSteps := 4000000) only [sim0, sim1, sim2, sim3, sim4, sim5, sim6, sim7, sim8, ↓reduceIte, Nat.reduceEqDiff, Nat.reduceAdd, Nat.reduceMul, Nat.reduceSub, Nat.reduceLT, Nat.reduceLeDiff, reduceCtorEq, Int.reduceToNat, Int.reduceNeg, Nat.reduceBEq, simx, ty, Plc.row, idxS_map, loadS_map, stoS_map, ← List.map_take, ← List.map_drop])
      | fail)
    | ((with_reducible refine onCode ?_); first
      | (refine onLid 4 ?_ (by rfl); refine acode_prune [0, 1, 4, 5] ?_; simp only [prn_cons, prn_nil, lk_cons, lk_emp, Nat.reduceEqDiff, ↓reduceIte]; refine acode_loopS2 4 (by rfl) (α := Int) (fun i => [(5, vi i)]) [4, 11, 12, 13, 14, 15, 16, 17, 18, 19, 20, 21, 22, 23, 24, 25, 26] [4] (by kernel_rfl) (fun i => 0 ≤ i ∧ i ≤ ts.length) (fun i => (ts.length - i).toNat) (0) ?_ (by (try simp only []) <;> first | (simp_all; done) | (simp_all; omega) | omega) ?_; (focus ((try dsimp only []); (repeat' (first | exact agr_none | exact lk_hd | refine lk_tl (by decide) ?_ | refine agr_one ?_ ?_)); done)); rintro i hJ; (try simp only [] at hJ); have hJ4 := hJ; simp -implicitDefEqProofs (maxSteps := 4000000) only [sim0, sim1, sim2, sim3, sim4, sim5, sim6, sim7, sim8, ↓reduceIte, Nat.reduceEqDiff, Nat.reduceAdd, Nat.reduceMul, Nat.reduceSub, Nat.reduceLT, Nat.reduceLeDiff, reduceCtorEq, Int.reduceToNat, Int.reduceNeg, Nat.reduceBEq, simx, ty, Plc.row, idxS_map, loadS_map, stoS_map, ← List.map_take, ← List.map_drop])
      | fail)
    | ((with_reducible refine onLps ?_); first
      | (refine lps2_end (α := Int) (mods := (fun i => [(5, vi i)])) _ (by (try dsimp only []); simp only [agr_cons, agr_nil, lk_cons, lk_emp, Nat.reduceEqDiff, ↓reduceIte, and_true]; repeat' (first | rfl | apply And.intro)) (by unfold undK; kernel_rfl) ?_ ?_ <;> ((try simp only []); (have e : IntKind.i64.wrap (i + 1) = i + 1 := wrap_id (by omega) (by omega); rw [e]; omega)))
      | fail)
    | ((with_reducible refine onFin ?_); first
      | (refine fin_nil ?_; (first | (simp_all [fins]; done) | (simp_all [-Int.not_lt, -Int.not_le, fins]; done) | (simp_all [fins]; omega)))
      | fail)
    | (with_reducible refine ite_intro (fun hq => ?_) (fun hq => ?_))
    | (with_reducible refine And.intro (fun hq => ?_) (fun hq => ?_))
    | (with_reducible refine And.intro ?_ ?_)
    | ((fail_if_success (with_reducible refine onCode ?_)); (fail_if_success (with_reducible refine onLps ?_)); (fail_if_success (with_reducible refine onLpd ?_)); (fail_if_success (with_reducible refine onLpe ?_)); (fail_if_success (with_reducible refine onFin ?_)); (fail_if_success (with_reducible refine onCall ?_)); (fail_if_success (with_reducible refine onQcall ?_)); first | omega | (rw [wrap_id (by omega) (by omega)]; omega) | (simp_all; done)))


def mkPlc (k : Int) (n : Nat) : List Plc := (List.range n).map fun (j : Nat) => (⟨k + 2 * j, k + 2 * j + 1⟩ : Plc)
theorem mkPlc_succ {k : Int} {n : Nat} : mkPlc k (n + 1) = mkPlc k n ++ [⟨k + 2 * n, k + 2 * n + 1⟩] := by
  simp [mkPlc, List.range_succ]
theorem mkPlc_get {k : Int} {m n : Nat} (h : n < m) : (mkPlc k m).getD n default = ⟨k + 2 * n, k + 2 * n + 1⟩ := by
  simp [mkPlc, List.getD, h]
theorem mkPlc_len {k : Int} {m : Nat} : (mkPlc k m).length = m := by simp [mkPlc]
set_option maxRecDepth 100000 in
set_option maxHeartbeats 4000000 in
theorem markPlaceS_gc {ts : List Plc} {k : Int} (hl : ts.length ≤ 1048576) (hk : 0 ≤ k ∧ k ≤ 1000000000) : GC Try.prog 10 [.ref 0 ts.length, vi k] [.arr 2 (ts.map Plc.e)] (fun r_ hs_ => r_ = vi (k + 2 * ts.length) ∧ hs_ = [.arr 2 ((mkPlc k ts.length).map Plc.e)]) := by
  refine GC.of_func [] Try.call10 Try.func10 rfl ⟨by kernel_rfl, by kernel_rfl⟩ (by kernel_rfl) ?_
  rw [Try.results10]
  simp -implicitDefEqProofs (maxSteps := 4000000) only [sim0, sim1, sim2, sim3, sim4, sim5, sim6, sim7, sim8, ↓reduceIte, Nat.reduceEqDiff, Nat.reduceAdd, Nat.reduceMul, Nat.reduceSub, Nat.reduceLT, Nat.reduceLeDiff, reduceCtorEq, Int.reduceToNat, Int.reduceNeg, Nat.reduceBEq, simx, ty, Plc.row, idxS_map, loadS_map, stoS_map, ← List.map_take, ← List.map_drop, List.set_set, getD_set_if, Plc.ite]
  repeat' (first
    | ((with_reducible refine onCode ?_); first
      | (refine onLid 2 ?_ (by rfl); refine acode_prune [0, 1, 4, 5] ?_; simp only [prn_cons, prn_nil, lk_cons, lk_emp, Nat.reduceEqDiff, ↓reduceIte]; refine acode_loopE2 2 (by rfl) (α := Int × Int × List Plc) (fun ⟨i, kk, us⟩ => [(5, vi i), (1, vi kk)]) [6, 7, 8, 9, 10, 11, 12, 13, 14, 15, 16, 17, 18, 19, 20, 21, 22, 23, 24, 25] [] (by kernel_rfl) [] (fun ⟨i, kk, us⟩ => [.arr 2 (us.map Plc.e)]) (fun _ => by simp) (fun _ _ => rfl) (fun ⟨i, kk, us⟩ => (0 ≤ i ∧ i ≤ ts.length) ∧ kk = k + 2 * i ∧ us.length = ts.length ∧ us.take i.toNat = mkPlc k i.toNat) (fun ⟨i, kk, us⟩ => (ts.length - i).toNat) ((0, k, ts)) ?_ ?_ (by (try simp only []) <;> first | (simp_all [mkPlc]; done) | (simp_all [mkPlc]; omega) | omega) ?_; (focus ((try dsimp only []); (repeat' (first | exact agr_none | exact lk_hd | refine lk_tl (by decide) ?_ | refine agr_one ?_ ?_)); done)); (focus (first | rfl | (simp; done))); rintro ⟨i, kk, us⟩ hJ; (try simp only [] at hJ); have hJ2 := hJ; simp -implicitDefEqProofs (maxSteps := 4000000) only [sim0, sim1, sim2, sim3, sim4, sim5, sim6, sim7, sim8, ↓reduceIte, Nat.reduceEqDiff, Nat.reduceAdd, Nat.reduceMul, Nat.reduceSub, Nat.reduceLT, Nat.reduceLeDiff, reduceCtorEq, Int.reduceToNat, Int.reduceNeg, Nat.reduceBEq, simx, ty, Plc.row, idxS_map, loadS_map, stoS_map, ← List.map_take, ← List.map_drop, List.set_set, getD_set_if, Plc.ite])
      | fail)
    | ((with_reducible refine onLpe ?_); first
      | (refine lpe2_endP (α := Int × Int × List Plc) (mods := (fun ⟨i, kk, us⟩ => [(5, vi i), (1, vi kk)])) (_, _, _) (by simp) [] (by (try dsimp only []); rfl) (by first | (simp only [plnLL, pln, Value.oneCell', List.all_cons, List.all_nil, plnH, Plc.pl, Bool.and_true, Bool.and_self]; done) | rfl) rfl (by (try dsimp only []); simp only [agr_cons, agr_nil, lk_cons, lk_emp, Nat.reduceEqDiff, ↓reduceIte, and_true]; repeat' (first | rfl | apply And.intro)) (by unfold undK; kernel_rfl) ?_ ?_ <;> ((try simp only []); (obtain ⟨hb, hk2, hm, hg⟩ := hJ; have hlt : i.toNat < us.length := (by omega); (try simp only [hlt, if_true]); have e : IntKind.i64.wrap (i + 1) = i + 1 := wrap_id (by omega) (by omega); have e1 : IntKind.i64.wrap (kk + 1) = kk + 1 := wrap_id (by omega) (by omega); have e2 : IntKind.i64.wrap (kk + 1 + 1) = kk + 2 := wrap_id' (by omega) (by omega) (by omega); (try simp only [e, e1, e2]); first | omega | (have e7 : (i + 1).toNat = i.toNat + 1 := (by omega); refine ⟨by omega, by omega, by simp [hm], ?_⟩; have e8 : ((i.toNat : Nat) : Int) = i := (by omega); rw [e7, take_set_app hlt, hg, mkPlc_succ, e8, hk2]))))
      | (refine lpe2_end0 (α := Int × Int × List Plc) (mods := (fun ⟨i, kk, us⟩ => [(5, vi i), (1, vi kk)])) [0] (_, _, _) rfl rfl rfl (by (try dsimp only []); rfl) (by first | (simp only [plnLL, pln, Value.oneCell', List.all_cons, List.all_nil, plnH, Plc.pl, Bool.and_true, Bool.and_self]; done) | rfl) (by (try dsimp only []); simp only [agrR_cons, agrR_nil, lk_cons, lk_emp, Nat.reduceEqDiff, ↓reduceIte, and_true]; repeat' (first | exact rn_v | rfl | (simp only [List.length_append, List.length_cons, List.length_nil]; rfl) | apply And.intro)) (by unfold undK; kernel_rfl) ?_ ?_ <;> ((try simp only []); (obtain ⟨hb, hk2, hm, hg⟩ := hJ; have hlt : i.toNat < us.length := (by omega); (try simp only [hlt, if_true]); have e : IntKind.i64.wrap (i + 1) = i + 1 := wrap_id (by omega) (by omega); have e1 : IntKind.i64.wrap (kk + 1) = kk + 1 := wrap_id (by omega) (by omega); have e2 : IntKind.i64.wrap (kk + 1 + 1) = kk + 2 := wrap_id' (by omega) (by omega) (by omega); (try simp only [e, e1, e2]); first | omega | (have e7 : (i + 1).toNat = i.toNat + 1 := (by omega); refine ⟨by omega, by omega, by simp [hm], ?_⟩; have e8 : ((i.toNat : Nat) : Int) = i := (by omega); rw [e7, take_set_app hlt, hg, mkPlc_succ, e8, hk2]))))
      | fail)
    | ((with_reducible refine onFin ?_); first
      | (refine fin_wr ?_ ?_ (by first | (simp only [plnLL, pln, Value.oneCell', List.all_cons, List.all_nil, plnH, Plc.pl, Bool.and_true, Bool.and_self]; done) | rfl) <;> (first | (obtain ⟨hb, hk2, hm, hg⟩ := hJ; have e2 : i.toNat = ts.length := (by omega); have h1 : us.take ts.length = us := List.take_of_length_le (by omega); rw [e2, h1] at hg; first | (have e9 : kk = k + 2 * ts.length := (by omega); rw [e9]; done) | (subst hg; rfl)) | (simp_all [fins, mkPlc]; done) | (simp_all [-Int.not_lt, -Int.not_le, fins, mkPlc]; done) | (simp_all [fins, mkPlc]; omega)))
      | fail)
    | (with_reducible refine ite_intro (fun hq => ?_) (fun hq => ?_))
    | (with_reducible refine And.intro (fun hq => ?_) (fun hq => ?_))
    | (with_reducible refine And.intro ?_ ?_)
    | ((fail_if_success (with_reducible refine onCode ?_)); (fail_if_success (with_reducible refine onLps ?_)); (fail_if_success (with_reducible refine onLpd ?_)); (fail_if_success (with_reducible refine onLpe ?_)); (fail_if_success (with_reducible refine onFin ?_)); (fail_if_success (with_reducible refine onCall ?_)); (fail_if_success (with_reducible refine onQcall ?_)); first | omega | (rw [wrap_id (by omega) (by omega)]; omega) | (obtain ⟨hb, hk2, hm, hg⟩ := hJ; have e2 : i.toNat = ts.length := (by omega); have h1 : us.take ts.length = us := List.take_of_length_le (by omega); rw [e2, h1] at hg; first | (have e9 : kk = k + 2 * ts.length := (by omega); rw [e9]; done) | (subst hg; rfl))))

set_option maxRecDepth 100000 in
set_option maxHeartbeats 4000000 in
theorem heldPlaceS_gc {ts : List Plc} {k : Int} (hl : ts.length ≤ 1048576) (hk : 0 ≤ k ∧ k ≤ 1000000000) (hm : ∀ n : Nat, n < ts.length → ts.getD n default = ⟨k + 2 * n, k + 2 * n + 1⟩) : GC Try.prog 11 [.sl 2 (ts.map Plc.e), vi k] [] (fun r_ hs_ => r_ = vi (k + 2 * ts.length) ∧ hs_ = []) := by
  refine GC.of_func [] Try.call11 Try.func11 rfl ⟨by kernel_rfl, by kernel_rfl⟩ (by kernel_rfl) ?_
  rw [Try.results11]
  simp -implicitDefEqProofs (maxSteps := 4000000) only [sim0, sim1, sim2, sim3, sim4, sim5, sim6, sim7, sim8, ↓reduceIte, Nat.reduceEqDiff, Nat.reduceAdd, Nat.reduceMul, Nat.reduceSub, Nat.reduceLT, Nat.reduceLeDiff, reduceCtorEq, Int.reduceToNat, Int.reduceNeg, Nat.reduceBEq, simx, ty, Plc.row, idxS_map, loadS_map, stoS_map, ← List.map_take, ← List.map_drop]
  repeat' (first
    | ((with_reducible refine onCode ?_); first
      | (refine onLid 2 ?_ (by rfl); refine acode_prune [0, 1, 4, 5] ?_; simp only [prn_cons, prn_nil, lk_cons, lk_emp, Nat.reduceEqDiff, ↓reduceIte]; refine acode_loopS2 2 (by rfl) (α := Int × Int) (fun ⟨i, kk⟩ => [(5, vi i), (1, vi kk)]) [4, 6, 7, 8, 9, 10, 11, 12, 13, 14, 15, 16, 17, 18, 19, 20, 21, 22, 23, 24, 25, 26, 27, 28, 29] [4] (by kernel_rfl) (fun ⟨i, kk⟩ => (0 ≤ i ∧ i ≤ ts.length) ∧ kk = k + 2 * i) (fun ⟨i, kk⟩ => (ts.length - i).toNat) ((0, k)) ?_ (by (try simp only []) <;> first | (omega) | fail) ?_; (focus ((try dsimp only []); (repeat' (first | exact agr_none | exact lk_hd | refine lk_tl (by decide) ?_ | refine agr_one ?_ ?_)); done)); rintro ⟨i, kk⟩ hJ; (try simp only [] at hJ); have hJ2 := hJ; simp -implicitDefEqProofs (maxSteps := 4000000) only [sim0, sim1, sim2, sim3, sim4, sim5, sim6, sim7, sim8, ↓reduceIte, Nat.reduceEqDiff, Nat.reduceAdd, Nat.reduceMul, Nat.reduceSub, Nat.reduceLT, Nat.reduceLeDiff, reduceCtorEq, Int.reduceToNat, Int.reduceNeg, Nat.reduceBEq, simx, ty, Plc.row, idxS_map, loadS_map, stoS_map, ← List.map_take, ← List.map_drop])
      | fail)
    | ((with_reducible refine onLps ?_); first
      | (refine lps2_end (α := Int × Int) (mods := (fun ⟨i, kk⟩ => [(5, vi i), (1, vi kk)])) (_, _) (by (try dsimp only []); simp only [agr_cons, agr_nil, lk_cons, lk_emp, Nat.reduceEqDiff, ↓reduceIte, and_true]; repeat' (first | rfl | apply And.intro)) (by unfold undK; kernel_rfl) ?_ ?_ <;> ((try simp only []); (obtain ⟨hb, hk2⟩ := hJ; have e : IntKind.i64.wrap (i + 1) = i + 1 := wrap_id (by omega) (by omega); have e1 : IntKind.i64.wrap (kk + 1) = kk + 1 := wrap_id (by omega) (by omega); have e2 : IntKind.i64.wrap (kk + 1 + 1) = kk + 2 := wrap_id' (by omega) (by omega) (by omega); (try simp only [e, e1, e2]); omega)))
      | fail)
    | ((with_reducible refine onFin ?_); first
      | (refine fin_nil ?_; (first | (obtain ⟨hb, hk2⟩ := hJ; by_cases hi : i < ts.length; (case neg => (first | (exfalso; omega; done) | (have e9 : kk = k + 2 * ts.length := (by omega); rw [e9]; rfl))); (case pos => (exfalso; first | (omega; done) | (have g := hm i.toNat (by omega); have e0 : ((i.toNat : Nat) : Int) = i := (by omega); rw [e0, ← hk2] at g; have e1 : IntKind.i64.wrap (kk + 1) = kk + 1 := wrap_id (by omega) (by omega); have e2 : IntKind.i64.wrap (kk + 1 + 1) = kk + 2 := wrap_id' (by omega) (by omega) (by omega); rw [g] at hq; clear hm; first | omega | (simp [e1, e2] at hq; done))))) | (simp_all [fins]; done) | (simp_all [-Int.not_lt, -Int.not_le, fins]; done) | (simp_all [fins]; omega)))
      | fail)
    | (with_reducible refine ite_intro (fun hq => ?_) (fun hq => ?_))
    | (with_reducible refine And.intro (fun hq => ?_) (fun hq => ?_))
    | (with_reducible refine And.intro ?_ ?_)
    | ((fail_if_success (with_reducible refine onCode ?_)); (fail_if_success (with_reducible refine onLps ?_)); (fail_if_success (with_reducible refine onLpd ?_)); (fail_if_success (with_reducible refine onLpe ?_)); (fail_if_success (with_reducible refine onFin ?_)); (fail_if_success (with_reducible refine onCall ?_)); (fail_if_success (with_reducible refine onQcall ?_)); first | omega | (rw [wrap_id (by omega) (by omega)]; omega) | (obtain ⟨hb, hk2⟩ := hJ; by_cases hi : i < ts.length; (case neg => (first | (exfalso; omega; done) | (have e9 : kk = k + 2 * ts.length := (by omega); rw [e9]; rfl))); (case pos => (exfalso; first | (omega; done) | (have g := hm i.toNat (by omega); have e0 : ((i.toNat : Nat) : Int) = i := (by omega); rw [e0, ← hk2] at g; have e1 : IntKind.i64.wrap (kk + 1) = kk + 1 := wrap_id (by omega) (by omega); have e2 : IntKind.i64.wrap (kk + 1 + 1) = kk + 2 := wrap_id' (by omega) (by omega) (by omega); rw [g] at hq; clear hm; first | omega | (simp [e1, e2] at hq; done)))))))


def pcP (x y vx vy t : Int) : Bool := placeB (atV x vx t) (atV y vy t)
def pcN (us : List Plc) (c : Plc) : Bool := us.length == 0 || !((us.getD (us.length - 1) default).x == c.x && (us.getD (us.length - 1) default).y == c.y)
def pcC (x y vx vy z t : Int) : Plc := ⟨IntKind.i64.wrap ((atV x vx t).tdiv z), IntKind.i64.wrap ((atV y vy t).tdiv z)⟩
def pcF (x y vx vy z : Int) (us : List Plc) (t : Int) : List Plc := if pcN us (pcC x y vx vy z t) = true then us ++ [pcC x y vx vy z t] else us
def pcR (x y vx vy n z : Int) : List Plc := foldI (pcF x y vx vy z) [] 0 (n + 1)
def pcK (x y vx vy h c n z : Int) : Bool := motionB x y vx vy h c && inB n 0 60 && inB z 1 1000
def pcO (x y vx vy h c n z : Int) : Bool := pcK x y vx vy h c n z && allI (pcP x y vx vy) 0 (n + 1)
def pcV (x y vx vy h c n z : Int) : List Plc := if pcO x y vx vy h c n z = true then pcR x y vx vy n z else []
section
variable {x y vx vy h c n z t : Int} {us : List Plc}
theorem pc_no (e : pcO x y vx vy h c n z = false) : pcV x y vx vy h c n z = [] := by simp [pcV, e]
theorem pc_n1 (e : pcK x y vx vy h c n z = false) : pcO x y vx vy h c n z = false := by simp [pcO, e]
theorem pc_n2 (e : allI (pcP x y vx vy) 0 (n + 1) = false) : pcO x y vx vy h c n z = false := by simp [pcO, e]
theorem pc_y (e : pcK x y vx vy h c n z = true) (e2 : allI (pcP x y vx vy) 0 (n + 1) = true) : pcO x y vx vy h c n z = true ∧ pcV x y vx vy h c n z = pcR x y vx vy n z := by
  have h : pcO x y vx vy h c n z = true := by simp [pcO, e, e2]
  exact ⟨h, if_pos h⟩
theorem pcK_bd (e : pcK x y vx vy h c n z = true) : (0 ≤ n ∧ n ≤ 60) ∧ 1 ≤ z ∧ z ≤ 1000 := by
  simp only [pcK, Bool.and_eq_true] at e
  exact ⟨inB_iff.1 e.1.2, inB_iff.1 e.2⟩
theorem pcF_len : (pcF x y vx vy z us t).length ≤ us.length + 1 := by
  unfold pcF; split <;> simp
theorem pcV_len : (pcV x y vx vy h c n z).length ≤ 1048576 := by
  unfold pcV; split
  · rename_i e
    simp only [pcO, Bool.and_eq_true] at e
    have hb := pcK_bd e.1
    have h := foldI_ind (f := pcF x y vx vy z) (n := n + 1) (fun (us : List Plc) i => (us.length : Int) ≤ i) (a := []) (i := 0) (by omega) (by simp) (fun a j h1 h2 h => by
      (try simp only [] at h ⊢)
      have := pcF_len (x := x) (y := y) (vx := vx) (vy := vy) (z := z) (us := a) (t := j); omega)
    (try simp only [] at h)
    unfold pcR; omega
  · simp
abbrev pcL (us : List Plc) : Plc := us.getD (IntKind.i64.wrap ((us.length : Int) - 1)).toNat default
theorem pcL_eq (hl : us.length ≤ 1048576) (h0 : ¬ ((us.length : Int) == 0) = true) : pcL us = us.getD (us.length - 1) default := by
  have h1 : ¬ (us.length : Int) = 0 := by simpa using h0
  have e : IntKind.i64.wrap ((us.length : Int) - 1) = us.length - 1 := wrap_id (by omega) (by omega)
  unfold pcL; rw [e]; congr 1; omega
theorem pc_add1 (h0 : ((us.length : Int) == 0) = true) : us ++ [pcC x y vx vy z t] = pcF x y vx vy z us t := by
  have h1 : us.length = 0 := by have : (us.length : Int) = 0 := by simpa using h0
                                omega
  unfold pcF pcN; rw [if_pos (by simp [h1])]
theorem pc_add2 (hl : us.length ≤ 1048576) (h0 : ¬ ((us.length : Int) == 0) = true) (hq : ((pcL us).x == (pcC x y vx vy z t).x && (pcL us).y == (pcC x y vx vy z t).y) = false) : us ++ [pcC x y vx vy z t] = pcF x y vx vy z us t := by
  rw [pcL_eq hl h0] at hq
  unfold pcF pcN; rw [hq]; simp
theorem pc_same (hl : us.length ≤ 1048576) (h0 : ¬ ((us.length : Int) == 0) = true) (hq : ¬ ((pcL us).x == (pcC x y vx vy z t).x && (pcL us).y == (pcC x y vx vy z t).y) = false) : us = pcF x y vx vy z us t := by
  rw [pcL_eq hl h0] at hq
  have h1 : ¬ us.length = 0 := by have : ¬ (us.length : Int) = 0 := by simpa using h0
                                  omega
  unfold pcF pcN; rw [eq_true_of_ne_false hq]; simp [h1]
def pcJ (x y vx vy h c n z t : Int) (us : List Plc) : Prop := (0 ≤ t ∧ t ≤ n + 1) ∧ pcK x y vx vy h c n z = true ∧ (us.length : Int) ≤ t ∧ allI (pcP x y vx vy) 0 (n + 1) = allI (pcP x y vx vy) t (n + 1) ∧ pcR x y vx vy n z = foldI (pcF x y vx vy z) us t (n + 1)
theorem pcJ_start (h1 : ¬ motionB x y vx vy h c = false) (h2 : ¬ inB n 0 60 = false) (h3 : ¬ inB z 1 1000 = false) : pcJ x y vx vy h c n z 0 [] := by
  have e : pcK x y vx vy h c n z = true := by
    simp only [pcK, Bool.and_eq_true]
    exact ⟨⟨eq_true_of_ne_false h1, eq_true_of_ne_false h2⟩, eq_true_of_ne_false h3⟩
  exact ⟨by have := pcK_bd e; omega, e, by simp, rfl, rfl⟩
theorem pcJ_len (hj : pcJ x y vx vy h c n z t us) : us.length ≤ 61 ∧ n ≤ 60 := by
  have := pcK_bd hj.2.1; have := hj.1; have := hj.2.2.1; omega
theorem pcJ_go {vs : List Plc} (hj : pcJ x y vx vy h c n z t us) (ht : t ≤ n) (hp : ¬ placeB (atV x vx t) (atV y vy t) = false) (e : vs = pcF x y vx vy z us t) : pcJ x y vx vy h c n z (t + 1) vs := by
  obtain ⟨a1, a2, a3, a4, a5⟩ := hj
  have := pcF_len (x := x) (y := y) (vx := vx) (vy := vy) (z := z) (us := us) (t := t)
  exact ⟨by omega, a2, by rw [e]; omega, allI_go rfl (by omega) (eq_true_of_ne_false hp) a4, foldI_go rfl (by omega) e a5⟩
theorem pc_in (h1 : ¬ inB (atV x vx t) 0 9899 = false) (h2 : ¬ inB (atV y vy t) 0 9899 = false) : ¬ placeB (atV x vx t) (atV y vy t) = false := by
  unfold placeB; rw [eq_true_of_ne_false h1, eq_true_of_ne_false h2]; decide
theorem pc_in1 (h1 : inB (atV x vx t) 0 9899 = false) : placeB (atV x vx t) (atV y vy t) = false := by
  unfold placeB; rw [h1]; rfl
theorem pc_in2 (h1 : inB (atV y vy t) 0 9899 = false) : placeB (atV x vx t) (atV y vy t) = false := by
  unfold placeB; rw [h1, Bool.and_false]
theorem pcJ_bad (hj : pcJ x y vx vy h c n z t us) (ht : t ≤ n) (hp : placeB (atV x vx t) (atV y vy t) = false) : pcO x y vx vy h c n z = false :=
  pc_n2 (allI_bad (p := pcP x y vx vy) (i := t) (by omega) hp hj.2.2.2.1)
theorem pcJ_out (hj : pcJ x y vx vy h c n z t us) (ht : ¬ t ≤ n) : pcO x y vx vy h c n z = true ∧ pcV x y vx vy h c n z = us := by
  have g := pc_y hj.2.1 (allI_fin (by omega) hj.2.2.2.1)
  exact ⟨g.1, g.2.trans (foldI_fin (by omega) hj.2.2.2.2)⟩
theorem pcK_n1 (h1 : motionB x y vx vy h c = false) : pcO x y vx vy h c n z = false := pc_n1 (by simp [pcK, h1])
theorem pcK_n2 (h1 : inB n 0 60 = false) : pcO x y vx vy h c n z = false := pc_n1 (by simp [pcK, h1])
theorem pcK_n3 (h1 : inB z 1 1000 = false) : pcO x y vx vy h c n z = false := pc_n1 (by simp [pcK, h1])
end
set_option maxRecDepth 100000 in
set_option maxHeartbeats 4000000 in
theorem pathCells_gc {x y vx vy h c n z : Int} : GC Try.prog 8 [.agg [vi x, vi y, vi vx, vi vy, vi h, vi c], vi n, vi z] [] (fun r_ hs_ => r_ = .tup [.ref 0 (pcV x y vx vy h c n z).length, vb (pcO x y vx vy h c n z)] ∧ hs_ = [.arr 2 ((pcV x y vx vy h c n z).map Plc.e)]) := by
  refine GC.nilX 2 ?_
  refine GC.of_func [(10, .val 0 (.val 1 (.val 2 (.val 3 (.val 4 (.val 5 (.val 6 (.eff [(7, [6, 5, 4, 3, 2, 1, 0], .eff [(8, [], .done)])])))))))), (11, .val 0 (.val 1 (.val 2 (.val 3 (.val 4 (.val 5 (.val 6 (.val 7 (.val 8 (.val 9 (.val 10 (.val 11 (.val 12 (.done))))))))))))))] Try.call8 Try.func8 rfl ⟨by kernel_rfl, by kernel_rfl⟩ (by kernel_rfl) ?_
  rw [Try.results8]
  simp -implicitDefEqProofs (maxSteps := 4000000) only [sim0, sim1, sim2, sim3, sim4, sim5, sim6, sim7, sim8, ↓reduceIte, Nat.reduceEqDiff, Nat.reduceAdd, Nat.reduceMul, Nat.reduceSub, Nat.reduceLT, Nat.reduceLeDiff, reduceCtorEq, Int.reduceToNat, Int.reduceNeg, Nat.reduceBEq, simx, ty, Plc.row, idxS_map, loadS_map, stoS_map, ← List.map_take, ← List.map_drop]
  repeat' (first
    | ((with_reducible refine onCall ?_); first
      | (refine GC.callS isValidMotion_gc rfl rfl ?_ <;> try simp -implicitDefEqProofs (maxSteps := 4000000) only [sim0, sim1, sim2, sim3, sim4, sim5, sim6, sim7, sim8, ↓reduceIte, Nat.reduceEqDiff, Nat.reduceAdd, Nat.reduceMul, Nat.reduceSub, Nat.reduceLT, Nat.reduceLeDiff, reduceCtorEq, Int.reduceToNat, Int.reduceNeg, Nat.reduceBEq, simx, ty, Plc.row, idxS_map, loadS_map, stoS_map, ← List.map_take, ← List.map_drop])
      | (refine GC.callS within_gc rfl rfl ?_ <;> try simp -implicitDefEqProofs (maxSteps := 4000000) only [sim0, sim1, sim2, sim3, sim4, sim5, sim6, sim7, sim8, ↓reduceIte, Nat.reduceEqDiff, Nat.reduceAdd, Nat.reduceMul, Nat.reduceSub, Nat.reduceLT, Nat.reduceLeDiff, reduceCtorEq, Int.reduceToNat, Int.reduceNeg, Nat.reduceBEq, simx, ty, Plc.row, idxS_map, loadS_map, stoS_map, ← List.map_take, ← List.map_drop])
      | (refine GC.callS motionAt_gc rfl rfl ?_ <;> try simp -implicitDefEqProofs (maxSteps := 4000000) only [sim0, sim1, sim2, sim3, sim4, sim5, sim6, sim7, sim8, ↓reduceIte, Nat.reduceEqDiff, Nat.reduceAdd, Nat.reduceMul, Nat.reduceSub, Nat.reduceLT, Nat.reduceLeDiff, reduceCtorEq, Int.reduceToNat, Int.reduceNeg, Nat.reduceBEq, simx, ty, Plc.row, idxS_map, loadS_map, stoS_map, ← List.map_take, ← List.map_drop])
      | (refine GC.callS inPlace_gc rfl rfl ?_ <;> try simp -implicitDefEqProofs (maxSteps := 4000000) only [sim0, sim1, sim2, sim3, sim4, sim5, sim6, sim7, sim8, ↓reduceIte, Nat.reduceEqDiff, Nat.reduceAdd, Nat.reduceMul, Nat.reduceSub, Nat.reduceLT, Nat.reduceLeDiff, reduceCtorEq, Int.reduceToNat, Int.reduceNeg, Nat.reduceBEq, simx, ty, Plc.row, idxS_map, loadS_map, stoS_map, ← List.map_take, ← List.map_drop])
      | fail)
    | ((with_reducible refine onCode ?_); first
      | (refine onLid 5 ?_ (by rfl); refine acode_loop_wk (Wk.nil 8 2 (by rfl)) ?_; try (simp -implicitDefEqProofs (maxSteps := 4000000) only [sim0, sim1, sim2, sim3, sim4, sim5, sim6, sim7, sim8, ↓reduceIte, Nat.reduceEqDiff, Nat.reduceAdd, Nat.reduceMul, Nat.reduceSub, Nat.reduceLT, Nat.reduceLeDiff, reduceCtorEq, Int.reduceToNat, Int.reduceNeg, Nat.reduceBEq, simx, ty, Plc.row, idxS_map, loadS_map, stoS_map, ← List.map_take, ← List.map_drop]); refine acode_prune [0, 1, 2, 3, 6, 7, 8, 9, 10, 11, 12] ?_; simp only [prn_cons, prn_nil, lk_cons, lk_emp, Nat.reduceEqDiff, ↓reduceIte]; refine acode_loopE2 5 (by rfl) (α := Int × List Plc) (fun ⟨t, us⟩ => [(9, vi t), (8, .ref 1 us.length)]) [6, 7, 10, 11, 12, 26, 27, 28, 29, 30, 31, 32, 33, 34, 35, 36, 37, 38, 39, 40, 41, 42, 43, 44, 45, 46, 47, 48, 49, 50, 51, 52, 53, 54, 55, 56, 57, 58, 59, 60, 61, 62, 63, 64, 65, 66, 67, 68] [6, 7, 10, 11, 12] (by kernel_rfl) [(8, 1)] (fun ⟨t, us⟩ => [.arr 6 [[vi x, vi y, vi vx, vi vy, vi h, vi c]], .arr 2 (us.map Plc.e)]) (fun _ => by simp) (fun _ _ => rfl) (fun ⟨t, us⟩ => pcJ x y vx vy h c n z t us) (fun ⟨t, us⟩ => (n + 1 - t).toNat) ((0, [])) ?_ ?_ (by (try simp only []) <;> first | ((rename_i h1 h2; first | exact pcJ_start h1 h2 hq | skip)) | fail) ?_; (focus ((try dsimp only []); (repeat' (first | exact agr_none | exact lk_hd | refine lk_tl (by decide) ?_ | refine agr_one ?_ ?_)); done)); (focus (first | rfl | (simp; done))); rintro ⟨t, us⟩ hJ; (try simp only [] at hJ); have hJ5 := hJ; simp -implicitDefEqProofs (maxSteps := 4000000) only [sim0, sim1, sim2, sim3, sim4, sim5, sim6, sim7, sim8, ↓reduceIte, Nat.reduceEqDiff, Nat.reduceAdd, Nat.reduceMul, Nat.reduceSub, Nat.reduceLT, Nat.reduceLeDiff, reduceCtorEq, Int.reduceToNat, Int.reduceNeg, Nat.reduceBEq, simx, ty, Plc.row, idxS_map, loadS_map, stoS_map, ← List.map_take, ← List.map_drop])
      | fail)
    | ((with_reducible refine onLpe ?_); first
      | (refine lpe2_end0 (α := Int × List Plc) (mods := (fun ⟨t, us⟩ => [(9, vi t), (8, .ref 1 us.length)])) _ (_, _) rfl rfl rfl (by (try dsimp only []); rfl) (by first | (simp only [plnLL, pln, Value.oneCell', List.all_cons, List.all_nil, plnH, Plc.pl, Bool.and_true, Bool.and_self]; done) | rfl) (by (try dsimp only []); simp only [agrR_cons, agrR_nil, lk_cons, lk_emp, Nat.reduceEqDiff, ↓reduceIte, and_true]; repeat' (first | exact rn_v | rfl | (simp only [List.length_append, List.length_cons, List.length_nil]; rfl) | apply And.intro)) (by unfold undK; kernel_rfl) ?_ ?_ <;> ((try simp only []); ((have hL := pcJ_len hJ5; have h6 := hJ5.1; have e_ : IntKind.i64.wrap (t + 1) = t + 1 := wrap_id (by omega) (by omega); (try simp only [e_] at hq ⊢); first | omega | (rename_i h1 h2; exact pcJ_go hJ5 (by assumption) (pc_in h1 h2) (pc_add1 hq)) | (rename_i h1 h2 h3; exact pcJ_go hJ5 (by assumption) (pc_in h1 h2) (pc_add2 (by omega) h3 hq)) | (rename_i h1 h2 h3; exact pcJ_go hJ5 (by assumption) (pc_in h1 h2) (pc_same (by omega) h3 hq))))))
      | fail)
    | ((with_reducible refine onFin ?_); first
      | (refine fin_orL ?_ ?_ ?_ (by first | (simp only [plnLL, pln, Value.oneCell', List.all_cons, List.all_nil, plnH, Plc.pl, Bool.and_true, Bool.and_self, List.take_zero, List.nil_append, List.map_cons, List.map_nil]; done) | rfl) <;> (first | (first | (have g := pcJ_out hJ5 hq; simp [fins, funs, ids_tup, g.1, g.2]; done) | (have hn := pcJ_bad (y := y) hJ5 (by assumption) (pc_in1 hq); simp [fins, funs, ids_tup, hn, pc_no hn]; done) | (have hn := pcJ_bad (x := x) hJ5 (by assumption) (pc_in2 hq); simp [fins, funs, ids_tup, hn, pc_no hn]; done) | (have hn := pcK_n1 (n := n) (z := z) hq; simp [fins, funs, ids_tup, hn, pc_no hn]; done) | (have hn := pcK_n2 (x := x) (y := y) (vx := vx) (vy := vy) (h := h) (c := c) (z := z) hq; simp [fins, funs, ids_tup, hn, pc_no hn]; done) | (have hn := pcK_n3 (x := x) (y := y) (vx := vx) (vy := vy) (h := h) (c := c) (n := n) hq; simp [fins, funs, ids_tup, hn, pc_no hn]; done)) | (simp_all [fins, funs]; done) | (simp [fins, funs]; done) | (simp_all [-Int.not_lt, -Int.not_le, fins, funs]; done) | (simp_all [fins, funs]; omega)))
      | (refine fin_orR ?_ ?_ <;> (first | (first | (have g := pcJ_out hJ5 hq; simp [fins, funs, ids_tup, g.1, g.2]; done) | (have hn := pcJ_bad (y := y) hJ5 (by assumption) (pc_in1 hq); simp [fins, funs, ids_tup, hn, pc_no hn]; done) | (have hn := pcJ_bad (x := x) hJ5 (by assumption) (pc_in2 hq); simp [fins, funs, ids_tup, hn, pc_no hn]; done) | (have hn := pcK_n1 (n := n) (z := z) hq; simp [fins, funs, ids_tup, hn, pc_no hn]; done) | (have hn := pcK_n2 (x := x) (y := y) (vx := vx) (vy := vy) (h := h) (c := c) (z := z) hq; simp [fins, funs, ids_tup, hn, pc_no hn]; done) | (have hn := pcK_n3 (x := x) (y := y) (vx := vx) (vy := vy) (h := h) (c := c) (n := n) hq; simp [fins, funs, ids_tup, hn, pc_no hn]; done)) | (simp_all [fins, funs]; done) | (simp [fins, funs]; done) | (simp_all [-Int.not_lt, -Int.not_le, fins, funs]; done) | (simp_all [fins, funs]; omega)))
      | fail)
    | (with_reducible refine ite_intro (fun hq => ?_) (fun hq => ?_))
    | (with_reducible refine And.intro (fun hq => ?_) (fun hq => ?_))
    | (with_reducible refine And.intro ?_ ?_)
    | ((fail_if_success (with_reducible refine onCode ?_)); (fail_if_success (with_reducible refine onLps ?_)); (fail_if_success (with_reducible refine onLpd ?_)); (fail_if_success (with_reducible refine onLpe ?_)); (fail_if_success (with_reducible refine onFin ?_)); (fail_if_success (with_reducible refine onCall ?_)); (fail_if_success (with_reducible refine onQcall ?_)); first | (((have hL := pcJ_len hJ5; have hK := pcK_bd hJ5.2.1; first | omega | (rename_i h0; have h1 : ¬ (us.length : Int) = 0 := (by simpa using h0); rw [wrap_id (by omega) (by omega)]; omega) | (have h1 : ¬ (us.length : Int) = 0 := (by simpa using hq); rw [wrap_id (by omega) (by omega)]; omega))); done) | omega | (rw [wrap_id (by omega) (by omega)]; omega) | (first | (have g := pcJ_out hJ5 hq; simp [fins, funs, ids_tup, g.1, g.2]; done) | (have hn := pcJ_bad (y := y) hJ5 (by assumption) (pc_in1 hq); simp [fins, funs, ids_tup, hn, pc_no hn]; done) | (have hn := pcJ_bad (x := x) hJ5 (by assumption) (pc_in2 hq); simp [fins, funs, ids_tup, hn, pc_no hn]; done) | (have hn := pcK_n1 (n := n) (z := z) hq; simp [fins, funs, ids_tup, hn, pc_no hn]; done) | (have hn := pcK_n2 (x := x) (y := y) (vx := vx) (vy := vy) (h := h) (c := c) (z := z) hq; simp [fins, funs, ids_tup, hn, pc_no hn]; done) | (have hn := pcK_n3 (x := x) (y := y) (vx := vx) (vy := vy) (h := h) (c := c) (n := n) hq; simp [fins, funs, ids_tup, hn, pc_no hn]; done))))

set_option maxRecDepth 100000 in
set_option maxHeartbeats 4000000 in
theorem sPathCells_gc {x y vx vy h c n z : Int} : GC Try.prog 6 [.agg [vi x, vi y, vi vx, vi vy, vi h, vi c], vi n, vi z] [] (fun r_ hs_ => r_ = .tup [.ref 0 (pcV x y vx vy h c n z).length, vb (pcO x y vx vy h c n z)] ∧ hs_ = [.arr 2 ((pcV x y vx vy h c n z).map Plc.e)]) := by
  refine GC.nilX 2 ?_
  refine GC.of_func [(10, .val 0 (.val 1 (.val 2 (.val 3 (.val 4 (.val 5 (.val 6 (.val 7 (.val 8 (.eff [(9, [8, 7, 6, 5, 4, 3, 2, 1, 0], .eff [(10, [], .done)])])))))))))), (12, .val 0 (.val 1 (.val 2 (.val 3 (.val 4 (.val 5 (.val 6 (.val 7 (.val 8 (.val 9 (.val 10 (.done))))))))))))] Try.call6 Try.func6 rfl ⟨by kernel_rfl, by kernel_rfl⟩ (by kernel_rfl) ?_
  rw [Try.results6]
  simp -implicitDefEqProofs (maxSteps := 4000000) only [sim0, sim1, sim2, sim3, sim4, sim5, sim6, sim7, sim8, ↓reduceIte, Nat.reduceEqDiff, Nat.reduceAdd, Nat.reduceMul, Nat.reduceSub, Nat.reduceLT, Nat.reduceLeDiff, reduceCtorEq, Int.reduceToNat, Int.reduceNeg, Nat.reduceBEq, simx, ty, Plc.row, idxS_map, loadS_map, stoS_map, ← List.map_take, ← List.map_drop]
  repeat' (first
    | ((with_reducible refine onCall ?_); first
      | (refine GC.callS l16Good_gc rfl rfl ?_ <;> try simp -implicitDefEqProofs (maxSteps := 4000000) only [sim0, sim1, sim2, sim3, sim4, sim5, sim6, sim7, sim8, ↓reduceIte, Nat.reduceEqDiff, Nat.reduceAdd, Nat.reduceMul, Nat.reduceSub, Nat.reduceLT, Nat.reduceLeDiff, reduceCtorEq, Int.reduceToNat, Int.reduceNeg, Nat.reduceBEq, simx, ty, Plc.row, idxS_map, loadS_map, stoS_map, ← List.map_take, ← List.map_drop])
      | (refine GC.callS l1In_gc rfl rfl ?_ <;> try simp -implicitDefEqProofs (maxSteps := 4000000) only [sim0, sim1, sim2, sim3, sim4, sim5, sim6, sim7, sim8, ↓reduceIte, Nat.reduceEqDiff, Nat.reduceAdd, Nat.reduceMul, Nat.reduceSub, Nat.reduceLT, Nat.reduceLeDiff, reduceCtorEq, Int.reduceToNat, Int.reduceNeg, Nat.reduceBEq, simx, ty, Plc.row, idxS_map, loadS_map, stoS_map, ← List.map_take, ← List.map_drop])
      | (refine GC.callS l16At_gc rfl rfl ?_ <;> try simp -implicitDefEqProofs (maxSteps := 4000000) only [sim0, sim1, sim2, sim3, sim4, sim5, sim6, sim7, sim8, ↓reduceIte, Nat.reduceEqDiff, Nat.reduceAdd, Nat.reduceMul, Nat.reduceSub, Nat.reduceLT, Nat.reduceLeDiff, reduceCtorEq, Int.reduceToNat, Int.reduceNeg, Nat.reduceBEq, simx, ty, Plc.row, idxS_map, loadS_map, stoS_map, ← List.map_take, ← List.map_drop])
      | (refine GC.callS l7Good_gc rfl rfl ?_ <;> try simp -implicitDefEqProofs (maxSteps := 4000000) only [sim0, sim1, sim2, sim3, sim4, sim5, sim6, sim7, sim8, ↓reduceIte, Nat.reduceEqDiff, Nat.reduceAdd, Nat.reduceMul, Nat.reduceSub, Nat.reduceLT, Nat.reduceLeDiff, reduceCtorEq, Int.reduceToNat, Int.reduceNeg, Nat.reduceBEq, simx, ty, Plc.row, idxS_map, loadS_map, stoS_map, ← List.map_take, ← List.map_drop])
      | fail)
    | ((with_reducible refine onCode ?_); first
      | (refine onLid 5 ?_ (by rfl); refine acode_prune [0, 1, 2, 3, 6, 7, 8, 9, 10, 11, 12] ?_; simp only [prn_cons, prn_nil, lk_cons, lk_emp, Nat.reduceEqDiff, ↓reduceIte]; refine acode_loopE2 5 (by rfl) (α := Int × List Plc) (fun ⟨t, us⟩ => [(9, vi t), (8, .ref 1 us.length)]) [6, 7, 10, 11, 12, 28, 29, 30, 31, 32, 33, 34, 35, 36, 37, 38, 39, 40, 41, 42, 43, 44, 45, 46, 47, 48, 49, 50, 51, 52, 53, 54, 55, 56, 57, 58, 59, 60, 61, 62, 63, 64, 65] [6, 7, 10, 11, 12] (by kernel_rfl) [(8, 1)] (fun ⟨t, us⟩ => [.arr 6 [[vi x, vi y, vi vx, vi vy, vi h, vi c]], .arr 2 (us.map Plc.e)]) (fun _ => by simp) (fun _ _ => rfl) (fun ⟨t, us⟩ => pcJ x y vx vy h c n z t us) (fun ⟨t, us⟩ => (n + 1 - t).toNat) ((0, [])) ?_ ?_ (by (try simp only []) <;> first | ((rename_i h1 h2; first | exact pcJ_start h1 h2 hq | skip)) | fail) ?_; (focus ((try dsimp only []); (repeat' (first | exact agr_none | exact lk_hd | refine lk_tl (by decide) ?_ | refine agr_one ?_ ?_)); done)); (focus (first | rfl | (simp; done))); rintro ⟨t, us⟩ hJ; (try simp only [] at hJ); have hJ5 := hJ; simp -implicitDefEqProofs (maxSteps := 4000000) only [sim0, sim1, sim2, sim3, sim4, sim5, sim6, sim7, sim8, ↓reduceIte, Nat.reduceEqDiff, Nat.reduceAdd, Nat.reduceMul, Nat.reduceSub, Nat.reduceLT, Nat.reduceLeDiff, reduceCtorEq, Int.reduceToNat, Int.reduceNeg, Nat.reduceBEq, simx, ty, Plc.row, idxS_map, loadS_map, stoS_map, ← List.map_take, ← List.map_drop])
      | fail)
    | ((with_reducible refine onLpe ?_); first
      | (refine lpe2_end0 (α := Int × List Plc) (mods := (fun ⟨t, us⟩ => [(9, vi t), (8, .ref 1 us.length)])) _ (_, _) rfl rfl rfl (by (try dsimp only []); rfl) (by first | (simp only [plnLL, pln, Value.oneCell', List.all_cons, List.all_nil, plnH, Plc.pl, Bool.and_true, Bool.and_self]; done) | rfl) (by (try dsimp only []); simp only [agrR_cons, agrR_nil, lk_cons, lk_emp, Nat.reduceEqDiff, ↓reduceIte, and_true]; repeat' (first | exact rn_v | rfl | (simp only [List.length_append, List.length_cons, List.length_nil]; rfl) | apply And.intro)) (by unfold undK; kernel_rfl) ?_ ?_ <;> ((try simp only []); ((have hL := pcJ_len hJ5; have h6 := hJ5.1; have e_ : IntKind.i64.wrap (t + 1) = t + 1 := wrap_id (by omega) (by omega); (try simp only [e_] at hq ⊢); first | omega | (rename_i h2; exact pcJ_go hJ5 (by assumption) h2 (pc_add1 hq)) | (rename_i h2 h3; exact pcJ_go hJ5 (by assumption) h2 (pc_add2 (by omega) h3 hq)) | (rename_i h2 h3; exact pcJ_go hJ5 (by assumption) h2 (pc_same (by omega) h3 hq))))))
      | fail)
    | ((with_reducible refine onFin ?_); first
      | (refine fin_orL ?_ ?_ ?_ (by first | (simp only [plnLL, pln, Value.oneCell', List.all_cons, List.all_nil, plnH, Plc.pl, Bool.and_true, Bool.and_self, List.take_zero, List.nil_append, List.map_cons, List.map_nil]; done) | rfl) <;> (first | (first | (have g := pcJ_out hJ5 hq; simp [fins, funs, ids_tup, g.1, g.2]; done) | (have hn := pcJ_bad hJ5 (by assumption) hq; simp [fins, funs, ids_tup, hn, pc_no hn]; done) | (have hn := pcK_n1 (n := n) (z := z) hq; simp [fins, funs, ids_tup, hn, pc_no hn]; done) | (have hn := pcK_n2 (x := x) (y := y) (vx := vx) (vy := vy) (h := h) (c := c) (z := z) hq; simp [fins, funs, ids_tup, hn, pc_no hn]; done) | (have hn := pcK_n3 (x := x) (y := y) (vx := vx) (vy := vy) (h := h) (c := c) (n := n) hq; simp [fins, funs, ids_tup, hn, pc_no hn]; done)) | (simp_all [fins, funs]; done) | (simp [fins, funs]; done) | (simp_all [-Int.not_lt, -Int.not_le, fins, funs]; done) | (simp_all [fins, funs]; omega)))
      | (refine fin_orR ?_ ?_ <;> (first | (first | (have g := pcJ_out hJ5 hq; simp [fins, funs, ids_tup, g.1, g.2]; done) | (have hn := pcJ_bad hJ5 (by assumption) hq; simp [fins, funs, ids_tup, hn, pc_no hn]; done) | (have hn := pcK_n1 (n := n) (z := z) hq; simp [fins, funs, ids_tup, hn, pc_no hn]; done) | (have hn := pcK_n2 (x := x) (y := y) (vx := vx) (vy := vy) (h := h) (c := c) (z := z) hq; simp [fins, funs, ids_tup, hn, pc_no hn]; done) | (have hn := pcK_n3 (x := x) (y := y) (vx := vx) (vy := vy) (h := h) (c := c) (n := n) hq; simp [fins, funs, ids_tup, hn, pc_no hn]; done)) | (simp_all [fins, funs]; done) | (simp [fins, funs]; done) | (simp_all [-Int.not_lt, -Int.not_le, fins, funs]; done) | (simp_all [fins, funs]; omega)))
      | fail)
    | (with_reducible refine ite_intro (fun hq => ?_) (fun hq => ?_))
    | (with_reducible refine And.intro (fun hq => ?_) (fun hq => ?_))
    | (with_reducible refine And.intro ?_ ?_)
    | ((fail_if_success (with_reducible refine onCode ?_)); (fail_if_success (with_reducible refine onLps ?_)); (fail_if_success (with_reducible refine onLpd ?_)); (fail_if_success (with_reducible refine onLpe ?_)); (fail_if_success (with_reducible refine onFin ?_)); (fail_if_success (with_reducible refine onCall ?_)); (fail_if_success (with_reducible refine onQcall ?_)); first | (((have hL := pcJ_len hJ5; have hK := pcK_bd hJ5.2.1; first | omega | (rename_i h0; have h1 : ¬ (us.length : Int) = 0 := (by simpa using h0); rw [wrap_id (by omega) (by omega)]; omega) | (have h1 : ¬ (us.length : Int) = 0 := (by simpa using hq); rw [wrap_id (by omega) (by omega)]; omega))); done) | omega | (rw [wrap_id (by omega) (by omega)]; omega) | (first | (have g := pcJ_out hJ5 hq; simp [fins, funs, ids_tup, g.1, g.2]; done) | (have hn := pcJ_bad hJ5 (by assumption) hq; simp [fins, funs, ids_tup, hn, pc_no hn]; done) | (have hn := pcK_n1 (n := n) (z := z) hq; simp [fins, funs, ids_tup, hn, pc_no hn]; done) | (have hn := pcK_n2 (x := x) (y := y) (vx := vx) (vy := vy) (h := h) (c := c) (z := z) hq; simp [fins, funs, ids_tup, hn, pc_no hn]; done) | (have hn := pcK_n3 (x := x) (y := y) (vx := vx) (vy := vy) (h := h) (c := c) (n := n) hq; simp [fins, funs, ids_tup, hn, pc_no hn]; done))))

set_option maxRecDepth 100000 in
set_option maxHeartbeats 4000000 in
theorem FnExactPathCells_gc (x : Int) (hx : I64 x) (y : Int) (hy : I64 y) (vx : Int) (hvx : I64 vx) (vy : Int) (hvy : I64 vy) (h : Int) (hh : I64 h) (c : Int) (hc : I64 c) (n : Int) (hn : I64 n) (z : Int) (hz : I64 z) : GC Try.prog 3 [.agg [vi x, vi y, vi vx, vi vy, vi h, vi c], vi n, vi z] [] (fun r _ => r = vb true) := by
  refine GC.of_func [] Try.call3 Try.func3 rfl ⟨by kernel_rfl, by kernel_rfl⟩ (by kernel_rfl) ?_
  rw [Try.results3]
  simp -implicitDefEqProofs (maxSteps := 4000000) only [sim0, sim1, sim2, sim3, sim4, sim5, sim6, sim7, sim8, ↓reduceIte, Nat.reduceEqDiff, Nat.reduceAdd, Nat.reduceMul, Nat.reduceSub, Nat.reduceLT, Nat.reduceLeDiff, reduceCtorEq, Int.reduceToNat, Int.reduceNeg, Nat.reduceBEq, simx, ty, Plc.row, idxS_map, loadS_map, stoS_map, ← List.map_take, ← List.map_drop, mkPlc_len]
  repeat' (first
    | ((with_reducible refine onCall ?_); first
      | (refine GC.callS toMotion_gc rfl rfl ?_ <;> try simp -implicitDefEqProofs (maxSteps := 4000000) only [sim0, sim1, sim2, sim3, sim4, sim5, sim6, sim7, sim8, ↓reduceIte, Nat.reduceEqDiff, Nat.reduceAdd, Nat.reduceMul, Nat.reduceSub, Nat.reduceLT, Nat.reduceLeDiff, reduceCtorEq, Int.reduceToNat, Int.reduceNeg, Nat.reduceBEq, simx, ty, Plc.row, idxS_map, loadS_map, stoS_map, ← List.map_take, ← List.map_drop, mkPlc_len])
      | (refine GC.use true [] sPathCells_gc rfl trivial (by repeat' (first | exact arL_nil | refine arL_cons ?_ ?_ | exact ar_v | exact ar_sl | exact ar_nil | refine ar_ref rfl rfl (by simp [mkPlc_len]) (plnLL_map (fun _ => rfl) _) | refine ar_rs rfl rfl (by simp; omega) (plnLL_map (fun _ => rfl) _) | refine ar_agg ?_)) (.inr ⟨rfl, by first | rfl | simp [Plc.ns]⟩) ?_ <;> try simp -implicitDefEqProofs (maxSteps := 4000000) only [sim0, sim1, sim2, sim3, sim4, sim5, sim6, sim7, sim8, ↓reduceIte, Nat.reduceEqDiff, Nat.reduceAdd, Nat.reduceMul, Nat.reduceSub, Nat.reduceLT, Nat.reduceLeDiff, reduceCtorEq, Int.reduceToNat, Int.reduceNeg, Nat.reduceBEq, simx, ty, Plc.row, idxS_map, loadS_map, stoS_map, ← List.map_take, ← List.map_drop, mkPlc_len])
      | (refine GC.use true [] pathCells_gc rfl trivial (by repeat' (first | exact arL_nil | refine arL_cons ?_ ?_ | exact ar_v | exact ar_sl | exact ar_nil | refine ar_ref rfl rfl (by simp [mkPlc_len]) (plnLL_map (fun _ => rfl) _) | refine ar_rs rfl rfl (by simp; omega) (plnLL_map (fun _ => rfl) _) | refine ar_agg ?_)) (.inr ⟨rfl, by first | rfl | simp [Plc.ns]⟩) ?_ <;> try simp -implicitDefEqProofs (maxSteps := 4000000) only [sim0, sim1, sim2, sim3, sim4, sim5, sim6, sim7, sim8, ↓reduceIte, Nat.reduceEqDiff, Nat.reduceAdd, Nat.reduceMul, Nat.reduceSub, Nat.reduceLT, Nat.reduceLeDiff, reduceCtorEq, Int.reduceToNat, Int.reduceNeg, Nat.reduceBEq, simx, ty, Plc.row, idxS_map, loadS_map, stoS_map, ← List.map_take, ← List.map_drop, mkPlc_len])
      | (refine GC.callR (by repeat' (first | exact rdL_nil | refine rdL_cons ?_ ?_ | exact rd_v | exact rd_sl | exact rd_nil | refine rd_ref rfl (by simp [mkPlc_len]) (plnLL_map (fun _ => rfl) _) | refine rd_rs rfl (by simp; omega) (plnLL_map (fun _ => rfl) _) | refine rd_agg ?_)) (eqPlaceS_gc ?_) rfl ?_ <;> try simp -implicitDefEqProofs (maxSteps := 4000000) only [sim0, sim1, sim2, sim3, sim4, sim5, sim6, sim7, sim8, ↓reduceIte, Nat.reduceEqDiff, Nat.reduceAdd, Nat.reduceMul, Nat.reduceSub, Nat.reduceLT, Nat.reduceLeDiff, reduceCtorEq, Int.reduceToNat, Int.reduceNeg, Nat.reduceBEq, simx, ty, Plc.row, idxS_map, loadS_map, stoS_map, ← List.map_take, ← List.map_drop, mkPlc_len])
      | (apply GC.use false [0] (markPlaceS_gc ?_ ?_) rfl ?he ?ha (.inl rfl) ?_; (case he => (refine ⟨rfl, ?_, trivial⟩; (first | rw [Plc.up]); exact rfl)); (case ha => (repeat' (first | exact arL_nil | refine arL_cons ?_ ?_ | exact ar_v | exact ar_own rfl | refine ar_agg ?_))); (all_goals (try simp -implicitDefEqProofs (maxSteps := 4000000) only [sim0, sim1, sim2, sim3, sim4, sim5, sim6, sim7, sim8, ↓reduceIte, Nat.reduceEqDiff, Nat.reduceAdd, Nat.reduceMul, Nat.reduceSub, Nat.reduceLT, Nat.reduceLeDiff, reduceCtorEq, Int.reduceToNat, Int.reduceNeg, Nat.reduceBEq, simx, ty, Plc.row, idxS_map, loadS_map, stoS_map, ← List.map_take, ← List.map_drop, mkPlc_len])))
      | (apply GC.use false [1] (markPlaceS_gc ?_ ?_) rfl ?he ?ha (.inl rfl) ?_; (case he => (refine ⟨rfl, ?_, trivial⟩; (first | rw [Plc.up]); exact rfl)); (case ha => (repeat' (first | exact arL_nil | refine arL_cons ?_ ?_ | exact ar_v | exact ar_own rfl | refine ar_agg ?_))); (all_goals (try simp -implicitDefEqProofs (maxSteps := 4000000) only [sim0, sim1, sim2, sim3, sim4, sim5, sim6, sim7, sim8, ↓reduceIte, Nat.reduceEqDiff, Nat.reduceAdd, Nat.reduceMul, Nat.reduceSub, Nat.reduceLT, Nat.reduceLeDiff, reduceCtorEq, Int.reduceToNat, Int.reduceNeg, Nat.reduceBEq, simx, ty, Plc.row, idxS_map, loadS_map, stoS_map, ← List.map_take, ← List.map_drop, mkPlc_len])))
      | (apply GC.use false [2] (markPlaceS_gc ?_ ?_) rfl ?he ?ha (.inl rfl) ?_; (case he => (refine ⟨rfl, ?_, trivial⟩; (first | rw [Plc.up]); exact rfl)); (case ha => (repeat' (first | exact arL_nil | refine arL_cons ?_ ?_ | exact ar_v | exact ar_own rfl | refine ar_agg ?_))); (all_goals (try simp -implicitDefEqProofs (maxSteps := 4000000) only [sim0, sim1, sim2, sim3, sim4, sim5, sim6, sim7, sim8, ↓reduceIte, Nat.reduceEqDiff, Nat.reduceAdd, Nat.reduceMul, Nat.reduceSub, Nat.reduceLT, Nat.reduceLeDiff, reduceCtorEq, Int.reduceToNat, Int.reduceNeg, Nat.reduceBEq, simx, ty, Plc.row, idxS_map, loadS_map, stoS_map, ← List.map_take, ← List.map_drop, mkPlc_len])))
      | (apply GC.use false [3] (markPlaceS_gc ?_ ?_) rfl ?he ?ha (.inl rfl) ?_; (case he => (refine ⟨rfl, ?_, trivial⟩; (first | rw [Plc.up]); exact rfl)); (case ha => (repeat' (first | exact arL_nil | refine arL_cons ?_ ?_ | exact ar_v | exact ar_own rfl | refine ar_agg ?_))); (all_goals (try simp -implicitDefEqProofs (maxSteps := 4000000) only [sim0, sim1, sim2, sim3, sim4, sim5, sim6, sim7, sim8, ↓reduceIte, Nat.reduceEqDiff, Nat.reduceAdd, Nat.reduceMul, Nat.reduceSub, Nat.reduceLT, Nat.reduceLeDiff, reduceCtorEq, Int.reduceToNat, Int.reduceNeg, Nat.reduceBEq, simx, ty, Plc.row, idxS_map, loadS_map, stoS_map, ← List.map_take, ← List.map_drop, mkPlc_len])))
      | (apply GC.use false [4] (markPlaceS_gc ?_ ?_) rfl ?he ?ha (.inl rfl) ?_; (case he => (refine ⟨rfl, ?_, trivial⟩; (first | rw [Plc.up]); exact rfl)); (case ha => (repeat' (first | exact arL_nil | refine arL_cons ?_ ?_ | exact ar_v | exact ar_own rfl | refine ar_agg ?_))); (all_goals (try simp -implicitDefEqProofs (maxSteps := 4000000) only [sim0, sim1, sim2, sim3, sim4, sim5, sim6, sim7, sim8, ↓reduceIte, Nat.reduceEqDiff, Nat.reduceAdd, Nat.reduceMul, Nat.reduceSub, Nat.reduceLT, Nat.reduceLeDiff, reduceCtorEq, Int.reduceToNat, Int.reduceNeg, Nat.reduceBEq, simx, ty, Plc.row, idxS_map, loadS_map, stoS_map, ← List.map_take, ← List.map_drop, mkPlc_len])))
      | (apply GC.use false [5] (markPlaceS_gc ?_ ?_) rfl ?he ?ha (.inl rfl) ?_; (case he => (refine ⟨rfl, ?_, trivial⟩; (first | rw [Plc.up]); exact rfl)); (case ha => (repeat' (first | exact arL_nil | refine arL_cons ?_ ?_ | exact ar_v | exact ar_own rfl | refine ar_agg ?_))); (all_goals (try simp -implicitDefEqProofs (maxSteps := 4000000) only [sim0, sim1, sim2, sim3, sim4, sim5, sim6, sim7, sim8, ↓reduceIte, Nat.reduceEqDiff, Nat.reduceAdd, Nat.reduceMul, Nat.reduceSub, Nat.reduceLT, Nat.reduceLeDiff, reduceCtorEq, Int.reduceToNat, Int.reduceNeg, Nat.reduceBEq, simx, ty, Plc.row, idxS_map, loadS_map, stoS_map, ← List.map_take, ← List.map_drop, mkPlc_len])))
      | (apply GC.use false [6] (markPlaceS_gc ?_ ?_) rfl ?he ?ha (.inl rfl) ?_; (case he => (refine ⟨rfl, ?_, trivial⟩; (first | rw [Plc.up]); exact rfl)); (case ha => (repeat' (first | exact arL_nil | refine arL_cons ?_ ?_ | exact ar_v | exact ar_own rfl | refine ar_agg ?_))); (all_goals (try simp -implicitDefEqProofs (maxSteps := 4000000) only [sim0, sim1, sim2, sim3, sim4, sim5, sim6, sim7, sim8, ↓reduceIte, Nat.reduceEqDiff, Nat.reduceAdd, Nat.reduceMul, Nat.reduceSub, Nat.reduceLT, Nat.reduceLeDiff, reduceCtorEq, Int.reduceToNat, Int.reduceNeg, Nat.reduceBEq, simx, ty, Plc.row, idxS_map, loadS_map, stoS_map, ← List.map_take, ← List.map_drop, mkPlc_len])))
      | (apply GC.use false [7] (markPlaceS_gc ?_ ?_) rfl ?he ?ha (.inl rfl) ?_; (case he => (refine ⟨rfl, ?_, trivial⟩; (first | rw [Plc.up]); exact rfl)); (case ha => (repeat' (first | exact arL_nil | refine arL_cons ?_ ?_ | exact ar_v | exact ar_own rfl | refine ar_agg ?_))); (all_goals (try simp -implicitDefEqProofs (maxSteps := 4000000) only [sim0, sim1, sim2, sim3, sim4, sim5, sim6, sim7, sim8, ↓reduceIte, Nat.reduceEqDiff, Nat.reduceAdd, Nat.reduceMul, Nat.reduceSub, Nat.reduceLT, Nat.reduceLeDiff, reduceCtorEq, Int.reduceToNat, Int.reduceNeg, Nat.reduceBEq, simx, ty, Plc.row, idxS_map, loadS_map, stoS_map, ← List.map_take, ← List.map_drop, mkPlc_len])))
      | (apply GC.use false [8] (markPlaceS_gc ?_ ?_) rfl ?he ?ha (.inl rfl) ?_; (case he => (refine ⟨rfl, ?_, trivial⟩; (first | rw [Plc.up]); exact rfl)); (case ha => (repeat' (first | exact arL_nil | refine arL_cons ?_ ?_ | exact ar_v | exact ar_own rfl | refine ar_agg ?_))); (all_goals (try simp -implicitDefEqProofs (maxSteps := 4000000) only [sim0, sim1, sim2, sim3, sim4, sim5, sim6, sim7, sim8, ↓reduceIte, Nat.reduceEqDiff, Nat.reduceAdd, Nat.reduceMul, Nat.reduceSub, Nat.reduceLT, Nat.reduceLeDiff, reduceCtorEq, Int.reduceToNat, Int.reduceNeg, Nat.reduceBEq, simx, ty, Plc.row, idxS_map, loadS_map, stoS_map, ← List.map_take, ← List.map_drop, mkPlc_len])))
      | (apply GC.use false [9] (markPlaceS_gc ?_ ?_) rfl ?he ?ha (.inl rfl) ?_; (case he => (refine ⟨rfl, ?_, trivial⟩; (first | rw [Plc.up]); exact rfl)); (case ha => (repeat' (first | exact arL_nil | refine arL_cons ?_ ?_ | exact ar_v | exact ar_own rfl | refine ar_agg ?_))); (all_goals (try simp -implicitDefEqProofs (maxSteps := 4000000) only [sim0, sim1, sim2, sim3, sim4, sim5, sim6, sim7, sim8, ↓reduceIte, Nat.reduceEqDiff, Nat.reduceAdd, Nat.reduceMul, Nat.reduceSub, Nat.reduceLT, Nat.reduceLeDiff, reduceCtorEq, Int.reduceToNat, Int.reduceNeg, Nat.reduceBEq, simx, ty, Plc.row, idxS_map, loadS_map, stoS_map, ← List.map_take, ← List.map_drop, mkPlc_len])))
      | (apply GC.use false [10] (markPlaceS_gc ?_ ?_) rfl ?he ?ha (.inl rfl) ?_; (case he => (refine ⟨rfl, ?_, trivial⟩; (first | rw [Plc.up]); exact rfl)); (case ha => (repeat' (first | exact arL_nil | refine arL_cons ?_ ?_ | exact ar_v | exact ar_own rfl | refine ar_agg ?_))); (all_goals (try simp -implicitDefEqProofs (maxSteps := 4000000) only [sim0, sim1, sim2, sim3, sim4, sim5, sim6, sim7, sim8, ↓reduceIte, Nat.reduceEqDiff, Nat.reduceAdd, Nat.reduceMul, Nat.reduceSub, Nat.reduceLT, Nat.reduceLeDiff, reduceCtorEq, Int.reduceToNat, Int.reduceNeg, Nat.reduceBEq, simx, ty, Plc.row, idxS_map, loadS_map, stoS_map, ← List.map_take, ← List.map_drop, mkPlc_len])))
      | (apply GC.use false [11] (markPlaceS_gc ?_ ?_) rfl ?he ?ha (.inl rfl) ?_; (case he => (refine ⟨rfl, ?_, trivial⟩; (first | rw [Plc.up]); exact rfl)); (case ha => (repeat' (first | exact arL_nil | refine arL_cons ?_ ?_ | exact ar_v | exact ar_own rfl | refine ar_agg ?_))); (all_goals (try simp -implicitDefEqProofs (maxSteps := 4000000) only [sim0, sim1, sim2, sim3, sim4, sim5, sim6, sim7, sim8, ↓reduceIte, Nat.reduceEqDiff, Nat.reduceAdd, Nat.reduceMul, Nat.reduceSub, Nat.reduceLT, Nat.reduceLeDiff, reduceCtorEq, Int.reduceToNat, Int.reduceNeg, Nat.reduceBEq, simx, ty, Plc.row, idxS_map, loadS_map, stoS_map, ← List.map_take, ← List.map_drop, mkPlc_len])))
      | (refine GC.callR (by repeat' (first | exact rdL_nil | refine rdL_cons ?_ ?_ | exact rd_v | exact rd_sl | exact rd_nil | refine rd_ref rfl (by simp [mkPlc_len]) (plnLL_map (fun _ => rfl) _) | refine rd_rs rfl (by simp; omega) (plnLL_map (fun _ => rfl) _) | refine rd_agg ?_)) (heldPlaceS_gc ?_ ?_ ?_) rfl ?_ <;> try simp -implicitDefEqProofs (maxSteps := 4000000) only [sim0, sim1, sim2, sim3, sim4, sim5, sim6, sim7, sim8, ↓reduceIte, Nat.reduceEqDiff, Nat.reduceAdd, Nat.reduceMul, Nat.reduceSub, Nat.reduceLT, Nat.reduceLeDiff, reduceCtorEq, Int.reduceToNat, Int.reduceNeg, Nat.reduceBEq, simx, ty, Plc.row, idxS_map, loadS_map, stoS_map, ← List.map_take, ← List.map_drop, mkPlc_len])
      | fail)
    | ((with_reducible refine onFin ?_); first
      | (refine fin_law ?_; (first | (first | rfl | (simp at hq; done) | (have h9 := pcV_len (x := x) (y := y) (vx := vx) (vy := vy) (h := h) (c := c) (n := n) (z := z); exfalso; omega)) | (simp_all [fins]; done) | (simp_all [-Int.not_lt, -Int.not_le, fins]; done) | (simp_all [fins]; omega)))
      | fail)
    | (with_reducible refine ite_intro (fun hq => ?_) (fun hq => ?_))
    | (with_reducible refine And.intro (fun hq => ?_) (fun hq => ?_))
    | (with_reducible refine And.intro ?_ ?_)
    | ((fail_if_success (with_reducible refine onCode ?_)); (fail_if_success (with_reducible refine onLps ?_)); (fail_if_success (with_reducible refine onLpd ?_)); (fail_if_success (with_reducible refine onLpe ?_)); (fail_if_success (with_reducible refine onFin ?_)); (fail_if_success (with_reducible refine onCall ?_)); (fail_if_success (with_reducible refine onQcall ?_)); first | ((first | omega | (exact pcV_len) | (have h9 := pcV_len (x := x) (y := y) (vx := vx) (vy := vy) (h := h) (c := c) (n := n) (z := z); omega) | exact fun n h => mkPlc_get h); done) | omega | (rw [wrap_id (by omega) (by omega)]; omega) | (first | rfl | (simp at hq; done) | (have h9 := pcV_len (x := x) (y := y) (vx := vx) (vy := vy) (h := h) (c := c) (n := n) (z := z); exfalso; omega))))

end Go.Proofs.Ytboedpdpfomjgaa
