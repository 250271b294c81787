/-
Contracts of what says that there are links, and of what copies and marks them, over plain data.
No condition but those that the contracts name.
-/
import Derived.Test.YtpcaijpolkcipaaB6
import Derived.Test.YtpcaijpolkcipaaVT
namespace Go.Proofs.Ytpcaijpolkcipaa
open Eng
set_option linter.unusedSimpArgs false
set_option linter.unusedVariables false
structure Lnk where
  f : Int
  t : Int
  o : Int
instance : Inhabited Lnk := ⟨⟨0, 0, 0⟩⟩
def Lnk.e (t : Lnk) : List AV := [vi t.f, vi t.t, vi t.o]
theorem Lnk.ee {t : Lnk} : Lnk.e t = [vi t.f, vi t.t, vi t.o] := (rfl)
theorem Lnk.pl {ts : List Lnk} : plnLL (ts.map Lnk.e) = true := plnLL_map (fun _ => rfl) ts
theorem Lnk.ns {z : Nat} {ts : List Lnk} : noslE (.arr z (ts.map Lnk.e)) = true := nosl_map (fun _ => rfl) ts
theorem Lnk.rn {n0 z : Nat} {is : List Nat} {ts : List Lnk} : rnE n0 is (.arr z (ts.map Lnk.e)) = .arr z (ts.map Lnk.e) := rnE_pln Lnk.pl
theorem Lnk.up {n z : Nat} {r : List Nat} {ts : List Lnk} : upE r n (.arr z (ts.map Lnk.e)) = .arr z (ts.map Lnk.e) := upE_pln Lnk.pl
theorem Lnk.st {ts : List Lnk} {i : Nat} {a0 a1 a2 : Int} : (ts.map Lnk.e).set i [vi a0, vi a1, vi a2] = (ts.set i ⟨a0, a1, a2⟩).map Lnk.e := by rw [List.map_set]; rfl
theorem Lnk.ap {ts : List Lnk} {a0 a1 a2 : Int} : ts.map Lnk.e ++ [[vi a0, vi a1, vi a2]] = (ts ++ [(⟨a0, a1, a2⟩ : Lnk)]).map Lnk.e := by rw [List.map_append]; rfl
theorem Lnk.aq {ts us : List Lnk} : ts.map Lnk.e ++ us.map Lnk.e = (ts ++ us).map Lnk.e := by rw [List.map_append]
theorem Lnk.rp {n : Nat} : List.replicate n [AV.v (.int .i64 0), AV.v (.int .i64 0), AV.v (.int .i64 0)] = (List.replicate n (default : Lnk)).map Lnk.e := by rw [List.map_replicate]; rfl
theorem Lnk.row : (type_of% @Lnk.ee) ∧ (type_of% @Lnk.pl) ∧ (type_of% @Lnk.ns) ∧ (type_of% @Lnk.rn) ∧ (type_of% @Lnk.up) ∧ (type_of% @Lnk.st) ∧ (type_of% @Lnk.ap) ∧ (type_of% @Lnk.aq) ∧ (type_of% @Lnk.rp) :=
  ⟨@Lnk.ee, @Lnk.pl, @Lnk.ns, @Lnk.rn, @Lnk.up, @Lnk.st, @Lnk.ap, @Lnk.aq, @Lnk.rp⟩
theorem Lnk.f_ite {c : Prop} [Decidable c] {x y : Lnk} : (if c then x else y).f = if c then x.f else y.f := by split <;> rfl
theorem Lnk.t_ite {c : Prop} [Decidable c] {x y : Lnk} : (if c then x else y).t = if c then x.t else y.t := by split <;> rfl
theorem Lnk.o_ite {c : Prop} [Decidable c] {x y : Lnk} : (if c then x else y).o = if c then x.o else y.o := by split <;> rfl
theorem Lnk.ite : (type_of% @Lnk.f_ite) ∧ (type_of% @Lnk.t_ite) ∧ (type_of% @Lnk.o_ite) :=
  ⟨@Lnk.f_ite, @Lnk.t_ite, @Lnk.o_ite⟩
def Lnk.ok (t : Lnk) : Prop := I64 t.f ∧ I64 t.t ∧ I64 t.o
theorem Lnk.of : ∀ {xs : List (List Int)}, (∀ e ∈ xs, e.length = 3 ∧ ∀ z ∈ e, (Lit.int .i64 z).wf = true) → ∃ ts : List Lnk, els .i64 xs = ts.map Lnk.e ∧ ts.length = xs.length ∧ ∀ t ∈ ts, t.ok
  | [], _ => ⟨[], rfl, rfl, by simp⟩
  | e :: xs, h => by
    obtain ⟨ts, h1, h2, h3⟩ := Lnk.of (xs := xs) fun e he => h e (by simp [he])
    obtain ⟨h4, h5⟩ := h e (by simp)
    match e, h4, h5 with
    | [a0, a1, a2], _, h5 =>
      refine ⟨⟨a0, a1, a2⟩ :: ts, ?_, by simp [h2], ?_⟩
      · simp only [els, List.map_cons] at h1 ⊢
        rw [h1]; rfl
      · intro t ht
        rcases List.mem_cons.1 ht with rfl | ht
        · exact ⟨h5 _ (by simp), h5 _ (by simp), h5 _ (by simp)⟩
        · exact h3 t ht

set_option maxRecDepth 100000 in
set_option maxHeartbeats 4000000 in
theorem toClockLink_gc {a0 a1 a2 : Int} : GC Try.prog 34 [.agg [vi a0, vi a1, vi a2]] [] (fun r_ hs_ => r_ = .agg [vi a0, vi a1, vi a2] ∧ hs_ = []) := by
  refine GC.of_func [] Try.call34 Try.func34 rfl ⟨by kernel_rfl, by kernel_rfl⟩ (by kernel_rfl) ?_
  rw [Try.results34]
  simp -implicitDefEqProofs (maxSteps := 4000000) only [sim0, sim1, sim2, sim3, sim4, sim5, sim6, sim7, sim8, ↓reduceIte, Nat.reduceEqDiff, Nat.reduceAdd, Nat.reduceMul, Nat.reduceSub, Nat.reduceLT, Nat.reduceLeDiff, reduceCtorEq, Int.reduceToNat, Int.reduceNeg, Nat.reduceBEq, simx, ty]
  repeat' (first
    | ((with_reducible refine onFin ?_); first
      | (refine fin_nil ?_; (first | (simp_all [fins]; done) | (simp_all [-Int.not_lt, -Int.not_le, fins]; done) | (simp_all [fins]; omega)))
      | fail)
    | (with_reducible refine ite_intro (fun hq => ?_) (fun hq => ?_))
    | (with_reducible refine And.intro (fun hq => ?_) (fun hq => ?_))
    | (with_reducible refine And.intro ?_ ?_)
    | ((fail_if_success (with_reducible refine onCode ?_)); (fail_if_success (with_reducible refine onLps ?_)); (fail_if_success (with_reducible refine onLpd ?_)); (fail_if_success (with_reducible refine onLpe ?_)); (fail_if_success (with_reducible refine onFin ?_)); (fail_if_success (with_reducible refine onCall ?_)); (fail_if_success (with_reducible refine onQcall ?_)); first | omega | (rw [wrap_id (by omega) (by omega)]; omega) | (simp_all; done)))

set_option maxRecDepth 100000 in
set_option maxHeartbeats 4000000 in
theorem eqClockLink_gc {a0 a1 a2 b0 b1 b2 : Int} : GC Try.prog 71 [.agg [vi a0, vi a1, vi a2], .agg [vi b0, vi b1, vi b2]] [] (fun r_ hs_ => r_ = vb (a0 == b0 && a1 == b1 && a2 == b2) ∧ hs_ = []) := by
  refine GC.of_func [] Try.call71 Try.func71 rfl ⟨by kernel_rfl, by kernel_rfl⟩ (by kernel_rfl) ?_
  rw [Try.results71]
  simp -implicitDefEqProofs (maxSteps := 4000000) only [sim0, sim1, sim2, sim3, sim4, sim5, sim6, sim7, sim8, ↓reduceIte, Nat.reduceEqDiff, Nat.reduceAdd, Nat.reduceMul, Nat.reduceSub, Nat.reduceLT, Nat.reduceLeDiff, reduceCtorEq, Int.reduceToNat, Int.reduceNeg, Nat.reduceBEq, simx, ty]
  repeat' (first
    | ((with_reducible refine onFin ?_); first
      | (refine fin_nil ?_; (first | (simp_all [fins]; done) | (simp_all [-Int.not_lt, -Int.not_le, fins]; done) | (simp_all [fins]; omega)))
      | fail)
    | (with_reducible refine ite_intro (fun hq => ?_) (fun hq => ?_))
    | (with_reducible refine And.intro (fun hq => ?_) (fun hq => ?_))
    | (with_reducible refine And.intro ?_ ?_)
    | ((fail_if_success (with_reducible refine onCode ?_)); (fail_if_success (with_reducible refine onLps ?_)); (fail_if_success (with_reducible refine onLpd ?_)); (fail_if_success (with_reducible refine onLpe ?_)); (fail_if_success (with_reducible refine onFin ?_)); (fail_if_success (with_reducible refine onCall ?_)); (fail_if_success (with_reducible refine onQcall ?_)); first | omega | (rw [wrap_id (by omega) (by omega)]; omega) | (simp_all; done)))

set_option maxRecDepth 100000 in
set_option maxHeartbeats 4000000 in
theorem szClockLinkS_gc {ts : List Lnk} {n : Int} (hn : 0 ≤ n ∧ n ≤ 1048576) (hl : ts.length ≤ maxLen) : GC Try.prog 28 [.sl 3 (ts.map Lnk.e), vi n] [] (fun r_ hs_ => r_ = vi (if n < (ts.length : Int) then -1 else n - ts.length) ∧ hs_ = []) := by
  refine GC.of_func [] Try.call28 Try.func28 rfl ⟨by kernel_rfl, by kernel_rfl⟩ (by kernel_rfl) ?_
  rw [Try.results28]
  simp -implicitDefEqProofs (maxSteps := 4000000) only [sim0, sim1, sim2, sim3, sim4, sim5, sim6, sim7, sim8, ↓reduceIte, Nat.reduceEqDiff, Nat.reduceAdd, Nat.reduceMul, Nat.reduceSub, Nat.reduceLT, Nat.reduceLeDiff, reduceCtorEq, Int.reduceToNat, Int.reduceNeg, Nat.reduceBEq, simx, ty, Lnk.row, It.row, idxS_map, loadS_map, stoS_map, ← List.map_take, ← List.map_drop]
  repeat' (first
    | ((with_reducible refine onFin ?_); first
      | (refine fin_nil ?_; (first | (have hm : maxLen = 9223372036854775807 := rfl; have e : IntKind.i64.wrap (n - ↑ts.length) = n - ↑ts.length := wrap_id (by omega) (by omega); (try rw [e] at hq); (try rw [e]); first | (rw [if_pos (by omega)]; simp [fins]; done) | (rw [if_neg (by omega)]; simp [fins]; done)) | (simp_all [fins]; done) | (simp_all [-Int.not_lt, -Int.not_le, fins]; done) | (simp_all [fins]; omega)))
      | fail)
    | (with_reducible refine ite_intro (fun hq => ?_) (fun hq => ?_))
    | (with_reducible refine And.intro (fun hq => ?_) (fun hq => ?_))
    | (with_reducible refine And.intro ?_ ?_)
    | ((fail_if_success (with_reducible refine onCode ?_)); (fail_if_success (with_reducible refine onLps ?_)); (fail_if_success (with_reducible refine onLpd ?_)); (fail_if_success (with_reducible refine onLpe ?_)); (fail_if_success (with_reducible refine onFin ?_)); (fail_if_success (with_reducible refine onCall ?_)); (fail_if_success (with_reducible refine onQcall ?_)); first | omega | (rw [wrap_id (by omega) (by omega)]; omega) | (have hm : maxLen = 9223372036854775807 := rfl; have e : IntKind.i64.wrap (n - ↑ts.length) = n - ↑ts.length := wrap_id (by omega) (by omega); (try rw [e] at hq); (try rw [e]); first | (rw [if_pos (by omega)]; simp [fins]; done) | (rw [if_neg (by omega)]; simp [fins]; done))))

set_option maxRecDepth 100000 in
set_option maxHeartbeats 4000000 in
theorem toClockLinkS_gc {ts : List Lnk} (hl : ts.length ≤ 1048576) : GC Try.prog 30 [.sl 3 (ts.map Lnk.e)] [] (fun r_ hs_ => r_ = .ref 0 ts.length ∧ hs_ = [.arr 3 (ts.map Lnk.e)]) := by
  refine GC.of_func [] Try.call30 Try.func30 rfl ⟨by kernel_rfl, by kernel_rfl⟩ (by kernel_rfl) ?_
  rw [Try.results30]
  simp -implicitDefEqProofs (maxSteps := 4000000) only [sim0, sim1, sim2, sim3, sim4, sim5, sim6, sim7, sim8, ↓reduceIte, Nat.reduceEqDiff, Nat.reduceAdd, Nat.reduceMul, Nat.reduceSub, Nat.reduceLT, Nat.reduceLeDiff, reduceCtorEq, Int.reduceToNat, Int.reduceNeg, Nat.reduceBEq, simx, ty, Lnk.row, It.row, idxS_map, loadS_map, stoS_map, ← List.map_take, ← List.map_drop]
  repeat' (first
    | ((with_reducible refine onCall ?_); first
      | (refine GC.callS toClockLink_gc rfl rfl ?_ <;> try simp -implicitDefEqProofs (maxSteps := 4000000) only [sim0, sim1, sim2, sim3, sim4, sim5, sim6, sim7, sim8, ↓reduceIte, Nat.reduceEqDiff, Nat.reduceAdd, Nat.reduceMul, Nat.reduceSub, Nat.reduceLT, Nat.reduceLeDiff, reduceCtorEq, Int.reduceToNat, Int.reduceNeg, Nat.reduceBEq, simx, ty, Lnk.row, It.row, idxS_map, loadS_map, stoS_map, ← List.map_take, ← List.map_drop])
      | fail)
    | ((with_reducible refine onCode ?_); first
      | (refine onLid 3 ?_ (by rfl); refine acode_prune [0, 2, 3, 4] ?_; simp only [prn_cons, prn_nil, lk_cons, lk_emp, Nat.reduceEqDiff, ↓reduceIte]; refine acode_loopE2 3 (by rfl) (α := Int × List Lnk) (fun ⟨i, us⟩ => [(4, vi i), (3, .ref 0 ts.length)]) [8, 9, 10, 11, 12, 13, 14, 15, 16, 17, 18, 19, 20, 21] [] (by kernel_rfl) [] (fun ⟨i, us⟩ => [.arr 3 (us.map Lnk.e)]) (fun _ => by simp) (fun _ _ => rfl) (fun ⟨i, us⟩ => (0 ≤ i ∧ i ≤ ts.length) ∧ us.length = ts.length ∧ us.take i.toNat = ts.take i.toNat) (fun ⟨i, us⟩ => (ts.length - i).toNat) ((0, List.replicate ts.length default)) ?_ ?_ (by (try simp only []) <;> first | (simp_all; done) | (simp_all; omega) | omega) ?_; (focus ((try dsimp only []); (repeat' (first | exact agr_none | exact lk_hd | refine lk_tl (by decide) ?_ | refine agr_one ?_ ?_)); done)); (focus (first | rfl | (simp; done))); rintro ⟨i, us⟩ hJ; (try simp only [] at hJ); have hJ3 := hJ; simp -implicitDefEqProofs (maxSteps := 4000000) only [sim0, sim1, sim2, sim3, sim4, sim5, sim6, sim7, sim8, ↓reduceIte, Nat.reduceEqDiff, Nat.reduceAdd, Nat.reduceMul, Nat.reduceSub, Nat.reduceLT, Nat.reduceLeDiff, reduceCtorEq, Int.reduceToNat, Int.reduceNeg, Nat.reduceBEq, simx, ty, Lnk.row, It.row, idxS_map, loadS_map, stoS_map, ← List.map_take, ← List.map_drop])
      | fail)
    | ((with_reducible refine onLpe ?_); first
      | (refine lpe2_end0 (α := Int × List Lnk) (mods := (fun ⟨i, us⟩ => [(4, vi i), (3, .ref 0 ts.length)])) [0] (_, _) rfl rfl rfl (by (try dsimp only []); rfl) (by first | (simp only [plnLL, pln, Value.oneCell', List.all_cons, List.all_nil, plnH, Lnk.pl, It.pl, Bool.and_true, Bool.and_self]; done) | rfl) (by (try dsimp only []); simp only [agrR_cons, agrR_nil, lk_cons, lk_emp, Nat.reduceEqDiff, ↓reduceIte, and_true]; repeat' (first | exact rn_v | rfl | (simp only [List.length_append, List.length_cons, List.length_nil]; rfl) | apply And.intro)) (by unfold undK; kernel_rfl) ?_ ?_ <;> ((try simp only []); (obtain ⟨hb, hm, hg⟩ := hJ; have e : IntKind.i64.wrap (i + 1) = i + 1 := wrap_id (by omega) (by omega); rw [e]; first | omega | (refine ⟨by omega, by simp [hm], ?_⟩; have e2 : (i + 1).toNat = i.toNat + 1 := (by omega); rw [e2]; exact take_set' rfl hm (by omega) hg))))
      | fail)
    | ((with_reducible refine onFin ?_); first
      | (refine fin_own' ?_ ?_ (by simp) (by first | (simp only [plnLL, pln, Value.oneCell', List.all_cons, List.all_nil, plnH, Lnk.pl, It.pl, Bool.and_true, Bool.and_self, List.take_zero, List.nil_append, List.map_cons, List.map_nil]; done) | rfl) <;> (first | (obtain ⟨hb, hm, hg⟩ := hJ; first | rfl | (have e2 : i.toNat = ts.length := (by omega); have h1 : us.take ts.length = us := List.take_of_length_le (by omega); have h2 : ts.take ts.length = ts := List.take_length; rw [e2, h1, h2] at hg; subst hg; rfl)) | (simp_all [fins]; done) | (simp_all [-Int.not_lt, -Int.not_le, fins]; done) | (simp_all [fins]; omega)))
      | (refine fin_ownT' ?_ ?_ ?_ (by simp) (by first | (simp only [plnLL, pln, Value.oneCell', List.all_cons, List.all_nil, plnH, Lnk.pl, It.pl, Bool.and_true, Bool.and_self, List.take_zero, List.nil_append, List.map_cons, List.map_nil]; done) | rfl) rfl <;> (first | (obtain ⟨hb, hm, hg⟩ := hJ; first | rfl | (have e2 : i.toNat = ts.length := (by omega); have h1 : us.take ts.length = us := List.take_of_length_le (by omega); have h2 : ts.take ts.length = ts := List.take_length; rw [e2, h1, h2] at hg; subst hg; rfl)) | (simp_all [fins]; done) | (simp_all [-Int.not_lt, -Int.not_le, fins]; done) | (simp_all [fins]; omega)))
      | (refine fin_ids ?_ ?_ ?_ (by first | (simp only [plnLL, pln, Value.oneCell', List.all_cons, List.all_nil, plnH, Lnk.pl, It.pl, Bool.and_true, Bool.and_self, List.take_zero, List.nil_append, List.map_cons, List.map_nil]; done) | rfl) <;> (first | (obtain ⟨hb, hm, hg⟩ := hJ; first | rfl | (have e2 : i.toNat = ts.length := (by omega); have h1 : us.take ts.length = us := List.take_of_length_le (by omega); have h2 : ts.take ts.length = ts := List.take_length; rw [e2, h1, h2] at hg; subst hg; rfl)) | (simp_all [fins, funs]; done) | (simp [fins, funs]; done) | (simp_all [-Int.not_lt, -Int.not_le, fins, funs]; done) | (simp_all [fins, funs]; omega)))
      | fail)
    | (with_reducible refine ite_intro (fun hq => ?_) (fun hq => ?_))
    | (with_reducible refine And.intro (fun hq => ?_) (fun hq => ?_))
    | (with_reducible refine And.intro ?_ ?_)
    | ((fail_if_success (with_reducible refine onCode ?_)); (fail_if_success (with_reducible refine onLps ?_)); (fail_if_success (with_reducible refine onLpd ?_)); (fail_if_success (with_reducible refine onLpe ?_)); (fail_if_success (with_reducible refine onFin ?_)); (fail_if_success (with_reducible refine onCall ?_)); (fail_if_success (with_reducible refine onQcall ?_)); first | omega | (rw [wrap_id (by omega) (by omega)]; omega) | (obtain ⟨hb, hm, hg⟩ := hJ; first | rfl | (have e2 : i.toNat = ts.length := (by omega); have h1 : us.take ts.length = us := List.take_of_length_le (by omega); have h2 : ts.take ts.length = ts := List.take_length; rw [e2, h1, h2] at hg; subst hg; rfl))))

set_option maxRecDepth 100000 in
set_option maxHeartbeats 4000000 in
theorem eqClockLinkS_gc {ts : List Lnk} (hl : ts.length ≤ 1048576) : GC Try.prog 32 [.sl 3 (ts.map Lnk.e), .sl 3 (ts.map Lnk.e)] [] (fun r_ hs_ => r_ = vb true ∧ hs_ = []) := by
  refine GC.of_func [(6, .val 0 (.val 1 (.val 2 (.val 3 (.val 4 (.val 5 (.val 6 (.val 7 (.val 8 (.val 9 (.done)))))))))))] Try.call32 Try.func32 rfl ⟨by kernel_rfl, by kernel_rfl⟩ (by kernel_rfl) ?_
  rw [Try.results32]
  simp -implicitDefEqProofs (maxSteps := 4000000) only [sim0, sim1, sim2, sim3, sim4, sim5, sim6, sim7, sim8, ↓reduceIte, Nat.reduceEqDiff, Nat.reduceAdd, Nat.reduceMul, Nat.reduceSub, Nat.reduceLT, Nat.reduceLeDiff, reduceCtorEq, Int.reduceToNat, Int.reduceNeg, Nat.reduceBEq, simx, ty, Lnk.row, It.row, idxS_map, loadS_map, stoS_map, ← List.map_take, ← List.map_drop]
  repeat' (first
    | ((with_reducible refine onQcall ?_); first
      | (refine qcallS eqClockLink_gc rfl rfl ?_ <;> try simp -implicitDefEqProofs (maxSteps := 4000000) only [sim0, sim1, sim2, sim3, sim4, sim5, sim6, sim7, sim8, ↓reduceIte, Nat.reduceEqDiff, Nat.reduceAdd, Nat.reduceMul, Nat.reduceSub, Nat.reduceLT, Nat.reduceLeDiff, reduceCtorEq, Int.reduceToNat, Int.reduceNeg, Nat.reduceBEq, simx, ty, Lnk.row, It.row, idxS_map, loadS_map, stoS_map, ← List.map_take, ← List.map_drop])
      | fail)
    | ((with_reducible refine onCode ?_); first
      | (refine onLid 4 ?_ (by rfl); refine acode_prune [0, 1, 4, 5] ?_; simp only [prn_cons, prn_nil, lk_cons, lk_emp, Nat.reduceEqDiff, ↓reduceIte]; refine acode_loopS2 4 (by rfl) (α := Int) (fun i => [(5, vi i)]) [4, 11, 12, 13, 14, 15, 16, 17, 18, 19, 20, 21, 22, 23, 24, 25, 26] [4] (by kernel_rfl) (fun i => 0 ≤ i ∧ i ≤ ts.length) (fun i => (ts.length - i).toNat) (0) ?_ (by (try simp only []) <;> first | (simp_all; done) | (simp_all; omega) | omega) ?_; (focus ((try dsimp only []); (repeat' (first | exact agr_none | exact lk_hd | refine lk_tl (by decide) ?_ | refine agr_one ?_ ?_)); done)); rintro i hJ; (try simp only [] at hJ); have hJ4 := hJ; simp -implicitDefEqProofs (maxSteps := 4000000) only [sim0, sim1, sim2, sim3, sim4, sim5, sim6, sim7, sim8, ↓reduceIte, Nat.reduceEqDiff, Nat.reduceAdd, Nat.reduceMul, Nat.reduceSub, Nat.reduceLT, Nat.reduceLeDiff, reduceCtorEq, Int.reduceToNat, Int.reduceNeg, Nat.reduceBEq, simx, ty, Lnk.row, It.row, idxS_map, loadS_map, stoS_map, ← List.map_take, ← List.map_drop])
      | fail)
    | ((with_reducible refine onLps ?_); first
      | (refine lps2_end (α := Int) (mods := (fun i => [(5, vi i)])) _ (by (try dsimp only []); simp only [agr_cons, agr_nil, lk_cons, lk_emp, Nat.reduceEqDiff, ↓reduceIte, and_true]; repeat' (first | rfl | apply And.intro)) (by unfold undK; kernel_rfl) ?_ ?_ <;> ((try simp only []); (have e : IntKind.i64.wrap (i + 1) = i + 1 := wrap_id (by omega) (by omega); rw [e]; omega)))
      | fail)
    | ((with_reducible refine onFin ?_); first
      | (refine fin_nil ?_; (first | (simp_all [fins]; done) | (simp_all [-Int.not_lt, -Int.not_le, fins]; done) | (simp_all [fins]; omega)))
      | fail)
    | (with_reducible refine ite_intro (fun hq => ?_) (fun hq => ?_))
    | (with_reducible refine And.intro (fun hq => ?_) (fun hq => ?_))
    | (with_reducible refine And.intro ?_ ?_)
    | ((fail_if_success (with_reducible refine onCode ?_)); (fail_if_success (with_reducible refine onLps ?_)); (fail_if_success (with_reducible refine onLpd ?_)); (fail_if_success (with_reducible refine onLpe ?_)); (fail_if_success (with_reducible refine onFin ?_)); (fail_if_success (with_reducible refine onCall ?_)); (fail_if_success (with_reducible refine onQcall ?_)); first | omega | (rw [wrap_id (by omega) (by omega)]; omega) | (simp_all; done)))



set_option maxRecDepth 100000 in
set_option maxHeartbeats 4000000 in
theorem toIntS_gc {ts : List It} (hl : ts.length ≤ 1048576) : GC Try.prog 14 [.sl 1 (ts.map It.e)] [] (fun r_ hs_ => r_ = .ref 0 ts.length ∧ hs_ = [.arr 1 (ts.map It.e)]) := by
  refine GC.of_func [] Try.call14 Try.func14 rfl ⟨by kernel_rfl, by kernel_rfl⟩ (by kernel_rfl) ?_
  rw [Try.results14]
  simp -implicitDefEqProofs (maxSteps := 4000000) only [sim0, sim1, sim2, sim3, sim4, sim5, sim6, sim7, sim8, ↓reduceIte, Nat.reduceEqDiff, Nat.reduceAdd, Nat.reduceMul, Nat.reduceSub, Nat.reduceLT, Nat.reduceLeDiff, reduceCtorEq, Int.reduceToNat, Int.reduceNeg, Nat.reduceBEq, simx, ty, Lnk.row, It.row, idxS_map, loadS_map, stoS_map, ← List.map_take, ← List.map_drop]
  repeat' (first
    | ((with_reducible refine onCode ?_); first
      | (refine onLid 3 ?_ (by rfl); refine acode_prune [0, 2, 3, 4] ?_; simp only [prn_cons, prn_nil, lk_cons, lk_emp, Nat.reduceEqDiff, ↓reduceIte]; refine acode_loopE2 3 (by rfl) (α := Int × List It) (fun ⟨i, us⟩ => [(4, vi i), (3, .ref 0 ts.length)]) [8, 9, 10, 11, 12, 13, 14, 15, 16, 17, 18, 19, 20] [] (by kernel_rfl) [] (fun ⟨i, us⟩ => [.arr 1 (us.map It.e)]) (fun _ => by simp) (fun _ _ => rfl) (fun ⟨i, us⟩ => (0 ≤ i ∧ i ≤ ts.length) ∧ us.length = ts.length ∧ us.take i.toNat = ts.take i.toNat) (fun ⟨i, us⟩ => (ts.length - i).toNat) ((0, List.replicate ts.length default)) ?_ ?_ (by (try simp only []) <;> first | (simp_all; done) | (simp_all; omega) | omega) ?_; (focus ((try dsimp only []); (repeat' (first | exact agr_none | exact lk_hd | refine lk_tl (by decide) ?_ | refine agr_one ?_ ?_)); done)); (focus (first | rfl | (simp; done))); rintro ⟨i, us⟩ hJ; (try simp only [] at hJ); have hJ3 := hJ; simp -implicitDefEqProofs (maxSteps := 4000000) only [sim0, sim1, sim2, sim3, sim4, sim5, sim6, sim7, sim8, ↓reduceIte, Nat.reduceEqDiff, Nat.reduceAdd, Nat.reduceMul, Nat.reduceSub, Nat.reduceLT, Nat.reduceLeDiff, reduceCtorEq, Int.reduceToNat, Int.reduceNeg, Nat.reduceBEq, simx, ty, Lnk.row, It.row, idxS_map, loadS_map, stoS_map, ← List.map_take, ← List.map_drop])
      | fail)
    | ((with_reducible refine onLpe ?_); first
      | (refine lpe2_end0 (α := Int × List It) (mods := (fun ⟨i, us⟩ => [(4, vi i), (3, .ref 0 ts.length)])) [0] (_, _) rfl rfl rfl (by (try dsimp only []); rfl) (by first | (simp only [plnLL, pln, Value.oneCell', List.all_cons, List.all_nil, plnH, Lnk.pl, It.pl, Bool.and_true, Bool.and_self]; done) | rfl) (by (try dsimp only []); simp only [agrR_cons, agrR_nil, lk_cons, lk_emp, Nat.reduceEqDiff, ↓reduceIte, and_true]; repeat' (first | exact rn_v | rfl | (simp only [List.length_append, List.length_cons, List.length_nil]; rfl) | apply And.intro)) (by unfold undK; kernel_rfl) ?_ ?_ <;> ((try simp only []); (obtain ⟨hb, hm, hg⟩ := hJ; have e : IntKind.i64.wrap (i + 1) = i + 1 := wrap_id (by omega) (by omega); rw [e]; first | omega | (refine ⟨by omega, by simp [hm], ?_⟩; have e2 : (i + 1).toNat = i.toNat + 1 := (by omega); rw [e2]; exact take_set' rfl hm (by omega) hg))))
      | fail)
    | ((with_reducible refine onFin ?_); first
      | (refine fin_own' ?_ ?_ (by simp) (by first | (simp only [plnLL, pln, Value.oneCell', List.all_cons, List.all_nil, plnH, Lnk.pl, It.pl, Bool.and_true, Bool.and_self, List.take_zero, List.nil_append, List.map_cons, List.map_nil]; done) | rfl) <;> (first | (obtain ⟨hb, hm, hg⟩ := hJ; first | rfl | (have e2 : i.toNat = ts.length := (by omega); have h1 : us.take ts.length = us := List.take_of_length_le (by omega); have h2 : ts.take ts.length = ts := List.take_length; rw [e2, h1, h2] at hg; subst hg; rfl)) | (simp_all [fins]; done) | (simp_all [-Int.not_lt, -Int.not_le, fins]; done) | (simp_all [fins]; omega)))
      | (refine fin_ownT' ?_ ?_ ?_ (by simp) (by first | (simp only [plnLL, pln, Value.oneCell', List.all_cons, List.all_nil, plnH, Lnk.pl, It.pl, Bool.and_true, Bool.and_self, List.take_zero, List.nil_append, List.map_cons, List.map_nil]; done) | rfl) rfl <;> (first | (obtain ⟨hb, hm, hg⟩ := hJ; first | rfl | (have e2 : i.toNat = ts.length := (by omega); have h1 : us.take ts.length = us := List.take_of_length_le (by omega); have h2 : ts.take ts.length = ts := List.take_length; rw [e2, h1, h2] at hg; subst hg; rfl)) | (simp_all [fins]; done) | (simp_all [-Int.not_lt, -Int.not_le, fins]; done) | (simp_all [fins]; omega)))
      | (refine fin_ids ?_ ?_ ?_ (by first | (simp only [plnLL, pln, Value.oneCell', List.all_cons, List.all_nil, plnH, Lnk.pl, It.pl, Bool.and_true, Bool.and_self, List.take_zero, List.nil_append, List.map_cons, List.map_nil]; done) | rfl) <;> (first | (obtain ⟨hb, hm, hg⟩ := hJ; first | rfl | (have e2 : i.toNat = ts.length := (by omega); have h1 : us.take ts.length = us := List.take_of_length_le (by omega); have h2 : ts.take ts.length = ts := List.take_length; rw [e2, h1, h2] at hg; subst hg; rfl)) | (simp_all [fins, funs]; done) | (simp [fins, funs]; done) | (simp_all [-Int.not_lt, -Int.not_le, fins, funs]; done) | (simp_all [fins, funs]; omega)))
      | fail)
    | (with_reducible refine ite_intro (fun hq => ?_) (fun hq => ?_))
    | (with_reducible refine And.intro (fun hq => ?_) (fun hq => ?_))
    | (with_reducible refine And.intro ?_ ?_)
    | ((fail_if_success (with_reducible refine onCode ?_)); (fail_if_success (with_reducible refine onLps ?_)); (fail_if_success (with_reducible refine onLpd ?_)); (fail_if_success (with_reducible refine onLpe ?_)); (fail_if_success (with_reducible refine onFin ?_)); (fail_if_success (with_reducible refine onCall ?_)); (fail_if_success (with_reducible refine onQcall ?_)); first | omega | (rw [wrap_id (by omega) (by omega)]; omega) | (obtain ⟨hb, hm, hg⟩ := hJ; first | rfl | (have e2 : i.toNat = ts.length := (by omega); have h1 : us.take ts.length = us := List.take_of_length_le (by omega); have h2 : ts.take ts.length = ts := List.take_length; rw [e2, h1, h2] at hg; subst hg; rfl))))

set_option maxRecDepth 100000 in
set_option maxHeartbeats 4000000 in
theorem eqIntS_gc {ts : List It} (hl : ts.length ≤ 1048576) : GC Try.prog 16 [.sl 1 (ts.map It.e), .sl 1 (ts.map It.e)] [] (fun r_ hs_ => r_ = vb true ∧ hs_ = []) := by
  refine GC.of_func [(6, .val 0 (.val 1 (.val 2 (.val 3 (.val 4 (.val 5 (.val 6 (.val 7 (.val 8 (.done))))))))))] Try.call16 Try.func16 rfl ⟨by kernel_rfl, by kernel_rfl⟩ (by kernel_rfl) ?_
  rw [Try.results16]
  simp -implicitDefEqProofs (maxSteps := 4000000) only [sim0, sim1, sim2, sim3, sim4, sim5, sim6, sim7, sim8, ↓reduceIte, Nat.reduceEqDiff, Nat.reduceAdd, Nat.reduceMul, Nat.reduceSub, Nat.reduceLT, Nat.reduceLeDiff, reduceCtorEq, Int.reduceToNat, Int.reduceNeg, Nat.reduceBEq, simx, ty, Lnk.row, It.row, idxS_map, loadS_map, stoS_map, ← List.map_take, ← List.map_drop]
  repeat' (first
    | ((with_reducible refine onCode ?_); first
      | (refine onLid 4 ?_ (by rfl); refine acode_prune [0, 1, 4, 5] ?_; simp only [prn_cons, prn_nil, lk_cons, lk_emp, Nat.reduceEqDiff, ↓reduceIte]; refine acode_loopS2 4 (by rfl) (α := Int) (fun i => [(5, vi i)]) [4, 11, 12, 13, 14, 15, 16, 17, 18, 19, 20, 21, 22, 23, 24, 25] [4] (by kernel_rfl) (fun i => 0 ≤ i ∧ i ≤ ts.length) (fun i => (ts.length - i).toNat) (0) ?_ (by (try simp only []) <;> first | (simp_all; done) | (simp_all; omega) | omega) ?_; (focus ((try dsimp only []); (repeat' (first | exact agr_none | exact lk_hd | refine lk_tl (by decide) ?_ | refine agr_one ?_ ?_)); done)); rintro i hJ; (try simp only [] at hJ); have hJ4 := hJ; simp -implicitDefEqProofs (maxSteps := 4000000) only [sim0, sim1, sim2, sim3, sim4, sim5, sim6, sim7, sim8, ↓reduceIte, Nat.reduceEqDiff, Nat.reduceAdd, Nat.reduceMul, Nat.reduceSub, Nat.reduceLT, Nat.reduceLeDiff, reduceCtorEq, Int.reduceToNat, Int.reduceNeg, Nat.reduceBEq, simx, ty, Lnk.row, It.row, idxS_map, loadS_map, stoS_map, ← List.map_take, ← List.map_drop])
      | fail)
    | ((with_reducible refine onLps ?_); first
      | (refine lps2_end (α := Int) (mods := (fun i => [(5, vi i)])) _ (by (try dsimp only []); simp only [agr_cons, agr_nil, lk_cons, lk_emp, Nat.reduceEqDiff, ↓reduceIte, and_true]; repeat' (first | rfl | apply And.intro)) (by unfold undK; kernel_rfl) ?_ ?_ <;> ((try simp only []); (have e : IntKind.i64.wrap (i + 1) = i + 1 := wrap_id (by omega) (by omega); rw [e]; omega)))
      | fail)
    | ((with_reducible refine onFin ?_); first
      | (refine fin_nil ?_; (first | (simp_all [fins]; done) | (simp_all [-Int.not_lt, -Int.not_le, fins]; done) | (simp_all [fins]; omega)))
      | fail)
    | (with_reducible refine ite_intro (fun hq => ?_) (fun hq => ?_))
    | (with_reducible refine And.intro (fun hq => ?_) (fun hq => ?_))
    | (with_reducible refine And.intro ?_ ?_)
    | ((fail_if_success (with_reducible refine onCode ?_)); (fail_if_success (with_reducible refine onLps ?_)); (fail_if_success (with_reducible refine onLpd ?_)); (fail_if_success (with_reducible refine onLpe ?_)); (fail_if_success (with_reducible refine onFin ?_)); (fail_if_success (with_reducible refine onCall ?_)); (fail_if_success (with_reducible refine onQcall ?_)); first | omega | (rw [wrap_id (by omega) (by omega)]; omega) | (simp_all; done)))


def mkLnk (k : Int) (n : Nat) : List Lnk := (List.range n).map fun (j : Nat) => (⟨k + 3 * j, k + 3 * j + 1, k + 3 * j + 2⟩ : Lnk)
theorem mkLnk_succ {k : Int} {n : Nat} : mkLnk k (n + 1) = mkLnk k n ++ [⟨k + 3 * n, k + 3 * n + 1, k + 3 * n + 2⟩] := by
  simp [mkLnk, List.range_succ]
theorem mkLnk_get {k : Int} {m n : Nat} (h : n < m) : (mkLnk k m).getD n default = ⟨k + 3 * n, k + 3 * n + 1, k + 3 * n + 2⟩ := by
  simp [mkLnk, List.getD, h]
theorem mkLnk_len {k : Int} {m : Nat} : (mkLnk k m).length = m := by simp [mkLnk]
set_option maxRecDepth 100000 in
set_option maxHeartbeats 4000000 in
theorem markClockLinkS_gc {ts : List Lnk} {k : Int} (hl : ts.length ≤ 1048576) (hk : 0 ≤ k ∧ k ≤ 1000000000) : GC Try.prog 36 [.ref 0 ts.length, vi k] [.arr 3 (ts.map Lnk.e)] (fun r_ hs_ => r_ = vi (k + 3 * ts.length) ∧ hs_ = [.arr 3 ((mkLnk k ts.length).map Lnk.e)]) := by
  refine GC.of_func [] Try.call36 Try.func36 rfl ⟨by kernel_rfl, by kernel_rfl⟩ (by kernel_rfl) ?_
  rw [Try.results36]
  simp -implicitDefEqProofs (maxSteps := 4000000) only [sim0, sim1, sim2, sim3, sim4, sim5, sim6, sim7, sim8, ↓reduceIte, Nat.reduceEqDiff, Nat.reduceAdd, Nat.reduceMul, Nat.reduceSub, Nat.reduceLT, Nat.reduceLeDiff, reduceCtorEq, Int.reduceToNat, Int.reduceNeg, Nat.reduceBEq, simx, ty, Lnk.row, It.row, idxS_map, loadS_map, stoS_map, ← List.map_take, ← List.map_drop, List.set_set, getD_set_if, Lnk.ite]
  repeat' (first
    | ((with_reducible refine onCode ?_); first
      | (refine onLid 2 ?_ (by rfl); refine acode_prune [0, 1, 4, 5] ?_; simp only [prn_cons, prn_nil, lk_cons, lk_emp, Nat.reduceEqDiff, ↓reduceIte]; refine acode_loopE2 2 (by rfl) (α := Int × Int × List Lnk) (fun ⟨i, kk, us⟩ => [(5, vi i), (1, vi kk)]) [6, 7, 8, 9, 10, 11, 12, 13, 14, 15, 16, 17, 18, 19, 20, 21, 22, 23, 24, 25, 26, 27, 28, 29, 30, 31, 32] [] (by kernel_rfl) [] (fun ⟨i, kk, us⟩ => [.arr 3 (us.map Lnk.e)]) (fun _ => by simp) (fun _ _ => rfl) (fun ⟨i, kk, us⟩ => (0 ≤ i ∧ i ≤ ts.length) ∧ kk = k + 3 * i ∧ us.length = ts.length ∧ us.take i.toNat = mkLnk k i.toNat) (fun ⟨i, kk, us⟩ => (ts.length - i).toNat) ((0, k, ts)) ?_ ?_ (by (try simp only []) <;> first | (simp_all [mkLnk]; done) | (simp_all [mkLnk]; omega) | omega) ?_; (focus ((try dsimp only []); (repeat' (first | exact agr_none | exact lk_hd | refine lk_tl (by decide) ?_ | refine agr_one ?_ ?_)); done)); (focus (first | rfl | (simp; done))); rintro ⟨i, kk, us⟩ hJ; (try simp only [] at hJ); have hJ2 := hJ; simp -implicitDefEqProofs (maxSteps := 4000000) only [sim0, sim1, sim2, sim3, sim4, sim5, sim6, sim7, sim8, ↓reduceIte, Nat.reduceEqDiff, Nat.reduceAdd, Nat.reduceMul, Nat.reduceSub, Nat.reduceLT, Nat.reduceLeDiff, reduceCtorEq, Int.reduceToNat, Int.reduceNeg, Nat.reduceBEq, simx, ty, Lnk.row, It.row, idxS_map, loadS_map, stoS_map, ← List.map_take, ← List.map_drop, List.set_set, getD_set_if, Lnk.ite])
      | fail)
    | ((with_reducible refine onLpe ?_); first
      | (refine lpe2_endP (α := Int × Int × List Lnk) (mods := (fun ⟨i, kk, us⟩ => [(5, vi i), (1, vi kk)])) (_, _, _) (by simp) [] (by (try dsimp only []); rfl) (by first | (simp only [plnLL, pln, Value.oneCell', List.all_cons, List.all_nil, plnH, Lnk.pl, It.pl, Bool.and_true, Bool.and_self]; done) | rfl) rfl (by (try dsimp only []); simp only [agr_cons, agr_nil, lk_cons, lk_emp, Nat.reduceEqDiff, ↓reduceIte, and_true]; repeat' (first | rfl | apply And.intro)) (by unfold undK; kernel_rfl) ?_ ?_ <;> ((try simp only []); (obtain ⟨hb, hk2, hm, hg⟩ := hJ; have hlt : i.toNat < us.length := (by omega); (try simp only [hlt, if_true]); have e : IntKind.i64.wrap (i + 1) = i + 1 := wrap_id (by omega) (by omega); have e1 : IntKind.i64.wrap (kk + 1) = kk + 1 := wrap_id (by omega) (by omega); have e2 : IntKind.i64.wrap (kk + 1 + 1) = kk + 2 := wrap_id' (by omega) (by omega) (by omega); have e3 : IntKind.i64.wrap (kk + 2 + 1) = kk + 3 := wrap_id' (by omega) (by omega) (by omega); (try simp only [e, e1, e2, e3]); first | omega | (have e7 : (i + 1).toNat = i.toNat + 1 := (by omega); refine ⟨by omega, by omega, by simp [hm], ?_⟩; have e8 : ((i.toNat : Nat) : Int) = i := (by omega); rw [e7, take_set_app hlt, hg, mkLnk_succ, e8, hk2]))))
      | (refine lpe2_end0 (α := Int × Int × List Lnk) (mods := (fun ⟨i, kk, us⟩ => [(5, vi i), (1, vi kk)])) [0] (_, _, _) rfl rfl rfl (by (try dsimp only []); rfl) (by first | (simp only [plnLL, pln, Value.oneCell', List.all_cons, List.all_nil, plnH, Lnk.pl, It.pl, Bool.and_true, Bool.and_self]; done) | rfl) (by (try dsimp only []); simp only [agrR_cons, agrR_nil, lk_cons, lk_emp, Nat.reduceEqDiff, ↓reduceIte, and_true]; repeat' (first | exact rn_v | rfl | (simp only [List.length_append, List.length_cons, List.length_nil]; rfl) | apply And.intro)) (by unfold undK; kernel_rfl) ?_ ?_ <;> ((try simp only []); (obtain ⟨hb, hk2, hm, hg⟩ := hJ; have hlt : i.toNat < us.length := (by omega); (try simp only [hlt, if_true]); have e : IntKind.i64.wrap (i + 1) = i + 1 := wrap_id (by omega) (by omega); have e1 : IntKind.i64.wrap (kk + 1) = kk + 1 := wrap_id (by omega) (by omega); have e2 : IntKind.i64.wrap (kk + 1 + 1) = kk + 2 := wrap_id' (by omega) (by omega) (by omega); have e3 : IntKind.i64.wrap (kk + 2 + 1) = kk + 3 := wrap_id' (by omega) (by omega) (by omega); (try simp only [e, e1, e2, e3]); first | omega | (have e7 : (i + 1).toNat = i.toNat + 1 := (by omega); refine ⟨by omega, by omega, by simp [hm], ?_⟩; have e8 : ((i.toNat : Nat) : Int) = i := (by omega); rw [e7, take_set_app hlt, hg, mkLnk_succ, e8, hk2]))))
      | fail)
    | ((with_reducible refine onFin ?_); first
      | (refine fin_wr ?_ ?_ (by first | (simp only [plnLL, pln, Value.oneCell', List.all_cons, List.all_nil, plnH, Lnk.pl, It.pl, Bool.and_true, Bool.and_self]; done) | rfl) <;> (first | (obtain ⟨hb, hk2, hm, hg⟩ := hJ; have e2 : i.toNat = ts.length := (by omega); have h1 : us.take ts.length = us := List.take_of_length_le (by omega); rw [e2, h1] at hg; first | (have e9 : kk = k + 3 * ts.length := (by omega); rw [e9]; done) | (subst hg; rfl)) | (simp_all [fins, mkLnk]; done) | (simp_all [-Int.not_lt, -Int.not_le, fins, mkLnk]; done) | (simp_all [fins, mkLnk]; omega)))
      | fail)
    | (with_reducible refine ite_intro (fun hq => ?_) (fun hq => ?_))
    | (with_reducible refine And.intro (fun hq => ?_) (fun hq => ?_))
    | (with_reducible refine And.intro ?_ ?_)
    | ((fail_if_success (with_reducible refine onCode ?_)); (fail_if_success (with_reducible refine onLps ?_)); (fail_if_success (with_reducible refine onLpd ?_)); (fail_if_success (with_reducible refine onLpe ?_)); (fail_if_success (with_reducible refine onFin ?_)); (fail_if_success (with_reducible refine onCall ?_)); (fail_if_success (with_reducible refine onQcall ?_)); first | omega | (rw [wrap_id (by omega) (by omega)]; omega) | (obtain ⟨hb, hk2, hm, hg⟩ := hJ; have e2 : i.toNat = ts.length := (by omega); have h1 : us.take ts.length = us := List.take_of_length_le (by omega); rw [e2, h1] at hg; first | (have e9 : kk = k + 3 * ts.length := (by omega); rw [e9]; done) | (subst hg; rfl))))

set_option maxRecDepth 100000 in
set_option maxHeartbeats 4000000 in
theorem heldClockLinkS_gc {ts : List Lnk} {k : Int} (hl : ts.length ≤ 1048576) (hk : 0 ≤ k ∧ k ≤ 1000000000) (hm : ∀ n : Nat, n < ts.length → ts.getD n default = ⟨k + 3 * n, k + 3 * n + 1, k + 3 * n + 2⟩) : GC Try.prog 37 [.sl 3 (ts.map Lnk.e), vi k] [] (fun r_ hs_ => r_ = vi (k + 3 * ts.length) ∧ hs_ = []) := by
  refine GC.of_func [] Try.call37 Try.func37 rfl ⟨by kernel_rfl, by kernel_rfl⟩ (by kernel_rfl) ?_
  rw [Try.results37]
  simp -implicitDefEqProofs (maxSteps := 4000000) only [sim0, sim1, sim2, sim3, sim4, sim5, sim6, sim7, sim8, ↓reduceIte, Nat.reduceEqDiff, Nat.reduceAdd, Nat.reduceMul, Nat.reduceSub, Nat.reduceLT, Nat.reduceLeDiff, reduceCtorEq, Int.reduceToNat, Int.reduceNeg, Nat.reduceBEq, simx, ty, Lnk.row, It.row, idxS_map, loadS_map, stoS_map, ← List.map_take, ← List.map_drop]
  repeat' (first
    | ((with_reducible refine onCode ?_); first
      | (refine onLid 2 ?_ (by rfl); refine acode_prune [0, 1, 4, 5] ?_; simp only [prn_cons, prn_nil, lk_cons, lk_emp, Nat.reduceEqDiff, ↓reduceIte]; refine acode_loopS2 2 (by rfl) (α := Int × Int) (fun ⟨i, kk⟩ => [(5, vi i), (1, vi kk)]) [4, 6, 7, 8, 9, 10, 11, 12, 13, 14, 15, 16, 17, 18, 19, 20, 21, 22, 23, 24, 25, 26, 27, 28, 29, 30, 31, 32, 33, 34, 35, 36, 37, 38] [4] (by kernel_rfl) (fun ⟨i, kk⟩ => (0 ≤ i ∧ i ≤ ts.length) ∧ kk = k + 3 * i) (fun ⟨i, kk⟩ => (ts.length - i).toNat) ((0, k)) ?_ (by (try simp only []) <;> first | (omega) | fail) ?_; (focus ((try dsimp only []); (repeat' (first | exact agr_none | exact lk_hd | refine lk_tl (by decide) ?_ | refine agr_one ?_ ?_)); done)); rintro ⟨i, kk⟩ hJ; (try simp only [] at hJ); have hJ2 := hJ; simp -implicitDefEqProofs (maxSteps := 4000000) only [sim0, sim1, sim2, sim3, sim4, sim5, sim6, sim7, sim8, ↓reduceIte, Nat.reduceEqDiff, Nat.reduceAdd, Nat.reduceMul, Nat.reduceSub, Nat.reduceLT, Nat.reduceLeDiff, reduceCtorEq, Int.reduceToNat, Int.reduceNeg, Nat.reduceBEq, simx, ty, Lnk.row, It.row, idxS_map, loadS_map, stoS_map, ← List.map_take, ← List.map_drop])
      | fail)
    | ((with_reducible refine onLps ?_); first
      | (refine lps2_end (α := Int × Int) (mods := (fun ⟨i, kk⟩ => [(5, vi i), (1, vi kk)])) (_, _) (by (try dsimp only []); simp only [agr_cons, agr_nil, lk_cons, lk_emp, Nat.reduceEqDiff, ↓reduceIte, and_true]; repeat' (first | rfl | apply And.intro)) (by unfold undK; kernel_rfl) ?_ ?_ <;> ((try simp only []); (obtain ⟨hb, hk2⟩ := hJ; have e : IntKind.i64.wrap (i + 1) = i + 1 := wrap_id (by omega) (by omega); have e1 : IntKind.i64.wrap (kk + 1) = kk + 1 := wrap_id (by omega) (by omega); have e2 : IntKind.i64.wrap (kk + 1 + 1) = kk + 2 := wrap_id' (by omega) (by omega) (by omega); have e3 : IntKind.i64.wrap (kk + 2 + 1) = kk + 3 := wrap_id' (by omega) (by omega) (by omega); (try simp only [e, e1, e2, e3]); omega)))
      | fail)
    | ((with_reducible refine onFin ?_); first
      | (refine fin_nil ?_; (first | (obtain ⟨hb, hk2⟩ := hJ; by_cases hi : i < ts.length; (case neg => (first | (exfalso; omega; done) | (have e9 : kk = k + 3 * ts.length := (by omega); rw [e9]; rfl))); (case pos => (exfalso; first | (omega; done) | (have g := hm i.toNat (by omega); have e0 : ((i.toNat : Nat) : Int) = i := (by omega); rw [e0, ← hk2] at g; have e1 : IntKind.i64.wrap (kk + 1) = kk + 1 := wrap_id (by omega) (by omega); have e2 : IntKind.i64.wrap (kk + 1 + 1) = kk + 2 := wrap_id' (by omega) (by omega) (by omega); have e3 : IntKind.i64.wrap (kk + 2 + 1) = kk + 3 := wrap_id' (by omega) (by omega) (by omega); rw [g] at hq; clear hm; first | omega | (simp [e1, e2, e3] at hq; done))))) | (simp_all [fins]; done) | (simp_all [-Int.not_lt, -Int.not_le, fins]; done) | (simp_all [fins]; omega)))
      | fail)
    | (with_reducible refine ite_intro (fun hq => ?_) (fun hq => ?_))
    | (with_reducible refine And.intro (fun hq => ?_) (fun hq => ?_))
    | (with_reducible refine And.intro ?_ ?_)
    | ((fail_if_success (with_reducible refine onCode ?_)); (fail_if_success (with_reducible refine onLps ?_)); (fail_if_success (with_reducible refine onLpd ?_)); (fail_if_success (with_reducible refine onLpe ?_)); (fail_if_success (with_reducible refine onFin ?_)); (fail_if_success (with_reducible refine onCall ?_)); (fail_if_success (with_reducible refine onQcall ?_)); first | omega | (rw [wrap_id (by omega) (by omega)]; omega) | (obtain ⟨hb, hk2⟩ := hJ; by_cases hi : i < ts.length; (case neg => (first | (exfalso; omega; done) | (have e9 : kk = k + 3 * ts.length := (by omega); rw [e9]; rfl))); (case pos => (exfalso; first | (omega; done) | (have g := hm i.toNat (by omega); have e0 : ((i.toNat : Nat) : Int) = i := (by omega); rw [e0, ← hk2] at g; have e1 : IntKind.i64.wrap (kk + 1) = kk + 1 := wrap_id (by omega) (by omega); have e2 : IntKind.i64.wrap (kk + 1 + 1) = kk + 2 := wrap_id' (by omega) (by omega) (by omega); have e3 : IntKind.i64.wrap (kk + 2 + 1) = kk + 3 := wrap_id' (by omega) (by omega) (by omega); rw [g] at hq; clear hm; first | omega | (simp [e1, e2, e3] at hq; done)))))))


def mkIt (k : Int) (n : Nat) : List It := (List.range n).map fun (j : Nat) => (⟨k + 1 * j⟩ : It)
theorem mkIt_succ {k : Int} {n : Nat} : mkIt k (n + 1) = mkIt k n ++ [⟨k + 1 * n⟩] := by
  simp [mkIt, List.range_succ]
theorem mkIt_get {k : Int} {m n : Nat} (h : n < m) : (mkIt k m).getD n default = ⟨k + 1 * n⟩ := by
  simp [mkIt, List.getD, h]
theorem mkIt_len {k : Int} {m : Nat} : (mkIt k m).length = m := by simp [mkIt]
set_option maxRecDepth 100000 in
set_option maxHeartbeats 4000000 in
theorem markIntS_gc {ts : List It} {k : Int} (hl : ts.length ≤ 1048576) (hk : 0 ≤ k ∧ k ≤ 1000000000) : GC Try.prog 40 [.ref 0 ts.length, vi k] [.arr 1 (ts.map It.e)] (fun r_ hs_ => r_ = vi (k + 1 * ts.length) ∧ hs_ = [.arr 1 ((mkIt k ts.length).map It.e)]) := by
  refine GC.of_func [] Try.call40 Try.func40 rfl ⟨by kernel_rfl, by kernel_rfl⟩ (by kernel_rfl) ?_
  rw [Try.results40]
  simp -implicitDefEqProofs (maxSteps := 4000000) only [sim0, sim1, sim2, sim3, sim4, sim5, sim6, sim7, sim8, ↓reduceIte, Nat.reduceEqDiff, Nat.reduceAdd, Nat.reduceMul, Nat.reduceSub, Nat.reduceLT, Nat.reduceLeDiff, reduceCtorEq, Int.reduceToNat, Int.reduceNeg, Nat.reduceBEq, simx, ty, Lnk.row, It.row, idxS_map, loadS_map, stoS_map, ← List.map_take, ← List.map_drop, List.set_set, getD_set_if, It.ite]
  repeat' (first
    | ((with_reducible refine onCode ?_); first
      | (refine onLid 2 ?_ (by rfl); refine acode_prune [0, 1, 4, 5] ?_; simp only [prn_cons, prn_nil, lk_cons, lk_emp, Nat.reduceEqDiff, ↓reduceIte]; refine acode_loopE2 2 (by rfl) (α := Int × Int × List It) (fun ⟨i, kk, us⟩ => [(5, vi i), (1, vi kk)]) [6, 7, 8, 9, 10, 11, 12, 13, 14, 15, 16, 17] [] (by kernel_rfl) [] (fun ⟨i, kk, us⟩ => [.arr 1 (us.map It.e)]) (fun _ => by simp) (fun _ _ => rfl) (fun ⟨i, kk, us⟩ => (0 ≤ i ∧ i ≤ ts.length) ∧ kk = k + 1 * i ∧ us.length = ts.length ∧ us.take i.toNat = mkIt k i.toNat) (fun ⟨i, kk, us⟩ => (ts.length - i).toNat) ((0, k, ts)) ?_ ?_ (by (try simp only []) <;> first | (simp_all [mkIt]; done) | (simp_all [mkIt]; omega) | omega) ?_; (focus ((try dsimp only []); (repeat' (first | exact agr_none | exact lk_hd | refine lk_tl (by decide) ?_ | refine agr_one ?_ ?_)); done)); (focus (first | rfl | (simp; done))); rintro ⟨i, kk, us⟩ hJ; (try simp only [] at hJ); have hJ2 := hJ; simp -implicitDefEqProofs (maxSteps := 4000000) only [sim0, sim1, sim2, sim3, sim4, sim5, sim6, sim7, sim8, ↓reduceIte, Nat.reduceEqDiff, Nat.reduceAdd, Nat.reduceMul, Nat.reduceSub, Nat.reduceLT, Nat.reduceLeDiff, reduceCtorEq, Int.reduceToNat, Int.reduceNeg, Nat.reduceBEq, simx, ty, Lnk.row, It.row, idxS_map, loadS_map, stoS_map, ← List.map_take, ← List.map_drop, List.set_set, getD_set_if, It.ite])
      | fail)
    | ((with_reducible refine onLpe ?_); first
      | (refine lpe2_endP (α := Int × Int × List It) (mods := (fun ⟨i, kk, us⟩ => [(5, vi i), (1, vi kk)])) (_, _, _) (by simp) [] (by (try dsimp only []); rfl) (by first | (simp only [plnLL, pln, Value.oneCell', List.all_cons, List.all_nil, plnH, Lnk.pl, It.pl, Bool.and_true, Bool.and_self]; done) | rfl) rfl (by (try dsimp only []); simp only [agr_cons, agr_nil, lk_cons, lk_emp, Nat.reduceEqDiff, ↓reduceIte, and_true]; repeat' (first | rfl | apply And.intro)) (by unfold undK; kernel_rfl) ?_ ?_ <;> ((try simp only []); (obtain ⟨hb, hk2, hm, hg⟩ := hJ; have hlt : i.toNat < us.length := (by omega); (try simp only [hlt, if_true]); have e : IntKind.i64.wrap (i + 1) = i + 1 := wrap_id (by omega) (by omega); have e1 : IntKind.i64.wrap (kk + 1) = kk + 1 := wrap_id (by omega) (by omega); (try simp only [e, e1]); first | omega | (have e7 : (i + 1).toNat = i.toNat + 1 := (by omega); refine ⟨by omega, by omega, by simp [hm], ?_⟩; have e8 : ((i.toNat : Nat) : Int) = i := (by omega); rw [e7, take_set_app hlt, hg, mkIt_succ, e8, hk2]))))
      | (refine lpe2_end0 (α := Int × Int × List It) (mods := (fun ⟨i, kk, us⟩ => [(5, vi i), (1, vi kk)])) [0] (_, _, _) rfl rfl rfl (by (try dsimp only []); rfl) (by first | (simp only [plnLL, pln, Value.oneCell', List.all_cons, List.all_nil, plnH, Lnk.pl, It.pl, Bool.and_true, Bool.and_self]; done) | rfl) (by (try dsimp only []); simp only [agrR_cons, agrR_nil, lk_cons, lk_emp, Nat.reduceEqDiff, ↓reduceIte, and_true]; repeat' (first | exact rn_v | rfl | (simp only [List.length_append, List.length_cons, List.length_nil]; rfl) | apply And.intro)) (by unfold undK; kernel_rfl) ?_ ?_ <;> ((try simp only []); (obtain ⟨hb, hk2, hm, hg⟩ := hJ; have hlt : i.toNat < us.length := (by omega); (try simp only [hlt, if_true]); have e : IntKind.i64.wrap (i + 1) = i + 1 := wrap_id (by omega) (by omega); have e1 : IntKind.i64.wrap (kk + 1) = kk + 1 := wrap_id (by omega) (by omega); (try simp only [e, e1]); first | omega | (have e7 : (i + 1).toNat = i.toNat + 1 := (by omega); refine ⟨by omega, by omega, by simp [hm], ?_⟩; have e8 : ((i.toNat : Nat) : Int) = i := (by omega); rw [e7, take_set_app hlt, hg, mkIt_succ, e8, hk2]))))
      | fail)
    | ((with_reducible refine onFin ?_); first
      | (refine fin_wr ?_ ?_ (by first | (simp only [plnLL, pln, Value.oneCell', List.all_cons, List.all_nil, plnH, Lnk.pl, It.pl, Bool.and_true, Bool.and_self]; done) | rfl) <;> (first | (obtain ⟨hb, hk2, hm, hg⟩ := hJ; have e2 : i.toNat = ts.length := (by omega); have h1 : us.take ts.length = us := List.take_of_length_le (by omega); rw [e2, h1] at hg; first | (have e9 : kk = k + 1 * ts.length := (by omega); rw [e9]; done) | (subst hg; rfl)) | (simp_all [fins, mkIt]; done) | (simp_all [-Int.not_lt, -Int.not_le, fins, mkIt]; done) | (simp_all [fins, mkIt]; omega)))
      | fail)
    | (with_reducible refine ite_intro (fun hq => ?_) (fun hq => ?_))
    | (with_reducible refine And.intro (fun hq => ?_) (fun hq => ?_))
    | (with_reducible refine And.intro ?_ ?_)
    | ((fail_if_success (with_reducible refine onCode ?_)); (fail_if_success (with_reducible refine onLps ?_)); (fail_if_success (with_reducible refine onLpd ?_)); (fail_if_success (with_reducible refine onLpe ?_)); (fail_if_success (with_reducible refine onFin ?_)); (fail_if_success (with_reducible refine onCall ?_)); (fail_if_success (with_reducible refine onQcall ?_)); first | omega | (rw [wrap_id (by omega) (by omega)]; omega) | (obtain ⟨hb, hk2, hm, hg⟩ := hJ; have e2 : i.toNat = ts.length := (by omega); have h1 : us.take ts.length = us := List.take_of_length_le (by omega); rw [e2, h1] at hg; first | (have e9 : kk = k + 1 * ts.length := (by omega); rw [e9]; done) | (subst hg; rfl))))

set_option maxRecDepth 100000 in
set_option maxHeartbeats 4000000 in
theorem heldIntS_gc {ts : List It} {k : Int} (hl : ts.length ≤ 1048576) (hk : 0 ≤ k ∧ k ≤ 1000000000) (hm : ∀ n : Nat, n < ts.length → ts.getD n default = ⟨k + 1 * n⟩) : GC Try.prog 41 [.sl 1 (ts.map It.e), vi k] [] (fun r_ hs_ => r_ = vi (k + 1 * ts.length) ∧ hs_ = []) := by
  refine GC.of_func [] Try.call41 Try.func41 rfl ⟨by kernel_rfl, by kernel_rfl⟩ (by kernel_rfl) ?_
  rw [Try.results41]
  simp -implicitDefEqProofs (maxSteps := 4000000) only [sim0, sim1, sim2, sim3, sim4, sim5, sim6, sim7, sim8, ↓reduceIte, Nat.reduceEqDiff, Nat.reduceAdd, Nat.reduceMul, Nat.reduceSub, Nat.reduceLT, Nat.reduceLeDiff, reduceCtorEq, Int.reduceToNat, Int.reduceNeg, Nat.reduceBEq, simx, ty, Lnk.row, It.row, idxS_map, loadS_map, stoS_map, ← List.map_take, ← List.map_drop]
  repeat' (first
    | ((with_reducible refine onCode ?_); first
      | (refine onLid 2 ?_ (by rfl); refine acode_prune [0, 1, 4, 5] ?_; simp only [prn_cons, prn_nil, lk_cons, lk_emp, Nat.reduceEqDiff, ↓reduceIte]; refine acode_loopS2 2 (by rfl) (α := Int × Int) (fun ⟨i, kk⟩ => [(5, vi i), (1, vi kk)]) [4, 6, 7, 8, 9, 10, 11, 12, 13, 14, 15, 16, 17, 18, 19] [4] (by kernel_rfl) (fun ⟨i, kk⟩ => (0 ≤ i ∧ i ≤ ts.length) ∧ kk = k + 1 * i) (fun ⟨i, kk⟩ => (ts.length - i).toNat) ((0, k)) ?_ (by (try simp only []) <;> first | (omega) | fail) ?_; (focus ((try dsimp only []); (repeat' (first | exact agr_none | exact lk_hd | refine lk_tl (by decide) ?_ | refine agr_one ?_ ?_)); done)); rintro ⟨i, kk⟩ hJ; (try simp only [] at hJ); have hJ2 := hJ; simp -implicitDefEqProofs (maxSteps := 4000000) only [sim0, sim1, sim2, sim3, sim4, sim5, sim6, sim7, sim8, ↓reduceIte, Nat.reduceEqDiff, Nat.reduceAdd, Nat.reduceMul, Nat.reduceSub, Nat.reduceLT, Nat.reduceLeDiff, reduceCtorEq, Int.reduceToNat, Int.reduceNeg, Nat.reduceBEq, simx, ty, Lnk.row, It.row, idxS_map, loadS_map, stoS_map, ← List.map_take, ← List.map_drop])
      | fail)
    | ((with_reducible refine onLps ?_); first
      | (refine lps2_end (α := Int × Int) (mods := (fun ⟨i, kk⟩ => [(5, vi i), (1, vi kk)])) (_, _) (by (try dsimp only []); simp only [agr_cons, agr_nil, lk_cons, lk_emp, Nat.reduceEqDiff, ↓reduceIte, and_true]; repeat' (first | rfl | apply And.intro)) (by unfold undK; kernel_rfl) ?_ ?_ <;> ((try simp only []); (obtain ⟨hb, hk2⟩ := hJ; have e : IntKind.i64.wrap (i + 1) = i + 1 := wrap_id (by omega) (by omega); have e1 : IntKind.i64.wrap (kk + 1) = kk + 1 := wrap_id (by omega) (by omega); (try simp only [e, e1]); omega)))
      | fail)
    | ((with_reducible refine onFin ?_); first
      | (refine fin_nil ?_; (first | (obtain ⟨hb, hk2⟩ := hJ; by_cases hi : i < ts.length; (case neg => (first | (exfalso; omega; done) | (have e9 : kk = k + 1 * ts.length := (by omega); rw [e9]; rfl))); (case pos => (exfalso; first | (omega; done) | (have g := hm i.toNat (by omega); have e0 : ((i.toNat : Nat) : Int) = i := (by omega); rw [e0, ← hk2] at g; have e1 : IntKind.i64.wrap (kk + 1) = kk + 1 := wrap_id (by omega) (by omega); rw [g] at hq; clear hm; first | omega | (simp [e1] at hq; done))))) | (simp_all [fins]; done) | (simp_all [-Int.not_lt, -Int.not_le, fins]; done) | (simp_all [fins]; omega)))
      | fail)
    | (with_reducible refine ite_intro (fun hq => ?_) (fun hq => ?_))
    | (with_reducible refine And.intro (fun hq => ?_) (fun hq => ?_))
    | (with_reducible refine And.intro ?_ ?_)
    | ((fail_if_success (with_reducible refine onCode ?_)); (fail_if_success (with_reducible refine onLps ?_)); (fail_if_success (with_reducible refine onLpd ?_)); (fail_if_success (with_reducible refine onLpe ?_)); (fail_if_success (with_reducible refine onFin ?_)); (fail_if_success (with_reducible refine onCall ?_)); (fail_if_success (with_reducible refine onQcall ?_)); first | omega | (rw [wrap_id (by omega) (by omega)]; omega) | (obtain ⟨hb, hk2⟩ := hJ; by_cases hi : i < ts.length; (case neg => (first | (exfalso; omega; done) | (have e9 : kk = k + 1 * ts.length := (by omega); rw [e9]; rfl))); (case pos => (exfalso; first | (omega; done) | (have g := hm i.toNat (by omega); have e0 : ((i.toNat : Nat) : Int) = i := (by omega); rw [e0, ← hk2] at g; have e1 : IntKind.i64.wrap (kk + 1) = kk + 1 := wrap_id (by omega) (by omega); rw [g] at hq; clear hm; first | omega | (simp [e1] at hq; done)))))))


def lk' (ls : List Lnk) (i : Int) : Lnk := ls.getD i.toNat default
def lnkB (n f t o : Int) : Bool := inB f 0 (w64 (n - 1)) && inB t 0 (w64 (n - 1)) && !(f == t) && inB o (-1000000) 1000000
def lkP (n : Int) (ls : List Lnk) (i : Int) : Bool := lnkB n (lk' ls i).f (lk' ls i).t (lk' ls i).o
def lkB (n : Int) (ls : List Lnk) : Bool := inB n 1 6 && decide ((ls.length : Int) ≤ 12) && allI (lkP n ls) 0 ls.length
theorem lkB_yes {n : Int} {ls : List Lnk} (h1 : inB n 1 6 = true) (h2 : (ls.length : Int) ≤ 12) (h3 : allI (lkP n ls) 0 ls.length = true) : lkB n ls = true := by simp [lkB, h1, h2, h3]
theorem lkB_no {n : Int} {ls : List Lnk} (h3 : allI (lkP n ls) 0 ls.length = false) : lkB n ls = false := by simp [lkB, h3]
theorem lkB_n1 {n : Int} {ls : List Lnk} (h : inB n 1 6 = false) : lkB n ls = false := by simp [lkB, h]
theorem lkB_n2 {n : Int} {ls : List Lnk} (h : ¬ (ls.length : Int) ≤ 12) : lkB n ls = false := by simp [lkB, h]
set_option maxRecDepth 100000 in
set_option maxHeartbeats 4000000 in
theorem areLinks_gc {n : Int} {ls : List Lnk} (hl : ls.length ≤ 2097152) : GC Try.prog 68 [vi n, .sl 3 (ls.map Lnk.e)] [] (fun r_ hs_ => r_ = vb (lkB n ls) ∧ hs_ = []) := by
  refine GC.of_func [] Try.call68 Try.func68 rfl ⟨by kernel_rfl, by kernel_rfl⟩ (by kernel_rfl) ?_
  rw [Try.results68]
  simp -implicitDefEqProofs (maxSteps := 4000000) only [sim0, sim1, sim2, sim3, sim4, sim5, sim6, sim7, sim8, ↓reduceIte, Nat.reduceEqDiff, Nat.reduceAdd, Nat.reduceMul, Nat.reduceSub, Nat.reduceLT, Nat.reduceLeDiff, reduceCtorEq, Int.reduceToNat, Int.reduceNeg, Nat.reduceBEq, simx, ty, Lnk.row, It.row, idxS_map, loadS_map, stoS_map, ← List.map_take, ← List.map_drop]
  repeat' (first
    | ((with_reducible refine onCall ?_); first
      | (refine GC.callS within_gc rfl rfl ?_ <;> try simp -implicitDefEqProofs (maxSteps := 4000000) only [sim0, sim1, sim2, sim3, sim4, sim5, sim6, sim7, sim8, ↓reduceIte, Nat.reduceEqDiff, Nat.reduceAdd, Nat.reduceMul, Nat.reduceSub, Nat.reduceLT, Nat.reduceLeDiff, reduceCtorEq, Int.reduceToNat, Int.reduceNeg, Nat.reduceBEq, simx, ty, Lnk.row, It.row, idxS_map, loadS_map, stoS_map, ← List.map_take, ← List.map_drop])
      | fail)
    | ((with_reducible refine onCode ?_); first
      | (refine onLid 4 ?_ (by rfl); refine acode_prune [0, 1, 4, 6, 15, 16, 17] ?_; simp only [prn_cons, prn_nil, lk_cons, lk_emp, Nat.reduceEqDiff, ↓reduceIte]; refine acode_loopD2 4 (by rfl) (α := Int) (fun i => [(17, vi i)]) [4, 6, 18, 19, 20, 21, 22, 23, 24, 25, 26, 27, 28, 29, 30, 31, 32, 33, 34, 35, 36, 37, 38, 39, 40, 41, 42, 43, 44, 45, 46, 47, 48] [4, 6] (by kernel_rfl) (fun i => (0 ≤ i ∧ i ≤ ls.length) ∧ (inB n 1 6 = true ∧ (ls.length : Int) ≤ 12) ∧ allI (lkP n ls) 0 ls.length = allI (lkP n ls) i ls.length) (fun i => (ls.length - i).toNat) (0) ?_ (by first | (simp only [plnLL, pln, Value.oneCell', List.all_cons, List.all_nil, plnH, Lnk.pl, It.pl, Bool.and_true, Bool.and_self]; done) | rfl) (by simp) rfl (by (try simp only []) <;> first | ((refine ⟨by omega, ?_, trivial⟩; simp_all)) | fail) ?_; (focus ((try dsimp only []); (repeat' (first | exact agr_none | exact lk_hd | refine lk_tl (by decide) ?_ | refine agr_one ?_ ?_)); done)); rintro i hJ; (try simp only [] at hJ); have hJ4 := hJ; simp -implicitDefEqProofs (maxSteps := 4000000) only [sim0, sim1, sim2, sim3, sim4, sim5, sim6, sim7, sim8, ↓reduceIte, Nat.reduceEqDiff, Nat.reduceAdd, Nat.reduceMul, Nat.reduceSub, Nat.reduceLT, Nat.reduceLeDiff, reduceCtorEq, Int.reduceToNat, Int.reduceNeg, Nat.reduceBEq, simx, ty, Lnk.row, It.row, idxS_map, loadS_map, stoS_map, ← List.map_take, ← List.map_drop])
      | fail)
    | ((with_reducible refine onLpd ?_); first
      | (refine lpd2_end (α := Int) (mods := (fun i => [(17, vi i)])) _ (by (try dsimp only []); simp only [agr_cons, agr_nil, lk_cons, lk_emp, Nat.reduceEqDiff, ↓reduceIte, and_true]; repeat' (first | rfl | apply And.intro)) (by unfold undK; kernel_rfl) _ rfl rfl ?_ ?_ <;> ((try simp only []); (have e_ : IntKind.i64.wrap (i + 1) = i + 1 := wrap_id (by omega) (by omega); (try simp only [e_] at hq ⊢); first | omega | (refine ⟨by omega, hJ4.2.1, allI_go rfl (by omega) ?_ hJ4.2.2⟩; simp only [lkP, lnkB, lk']; clear hJ hJ4; simp_all; done))))
      | fail)
    | ((with_reducible refine onFin ?_); first
      | (refine fin_nil ?_; (first | (refine rn_vb ?_; first | exact lkB_yes hJ4.2.1.1 hJ4.2.1.2 (allI_fin (by omega) hJ4.2.2) | exact lkB_n1 (by simpa using hq) | exact lkB_n2 (by simpa using hq) | (refine lkB_no (allI_bad (p := lkP n ls) (i := i) (by omega) ?_ hJ4.2.2); simp only [lkP, lnkB, lk']; clear hJ hJ4; simp_all; done)) | (simp_all [fins]; done) | (simp_all [-Int.not_lt, -Int.not_le, fins]; done) | (simp_all [fins]; omega)))
      | fail)
    | (with_reducible refine ite_intro (fun hq => ?_) (fun hq => ?_))
    | (with_reducible refine And.intro (fun hq => ?_) (fun hq => ?_))
    | (with_reducible refine And.intro ?_ ?_)
    | ((fail_if_success (with_reducible refine onCode ?_)); (fail_if_success (with_reducible refine onLps ?_)); (fail_if_success (with_reducible refine onLpd ?_)); (fail_if_success (with_reducible refine onLpe ?_)); (fail_if_success (with_reducible refine onFin ?_)); (fail_if_success (with_reducible refine onCall ?_)); (fail_if_success (with_reducible refine onQcall ?_)); first | omega | (rw [wrap_id (by omega) (by omega)]; omega) | (refine rn_vb ?_; first | exact lkB_yes hJ4.2.1.1 hJ4.2.1.2 (allI_fin (by omega) hJ4.2.2) | exact lkB_n1 (by simpa using hq) | exact lkB_n2 (by simpa using hq) | (refine lkB_no (allI_bad (p := lkP n ls) (i := i) (by omega) ?_ hJ4.2.2); simp only [lkP, lnkB, lk']; clear hJ hJ4; simp_all; done))))

set_option maxRecDepth 100000 in
set_option maxHeartbeats 4000000 in
theorem l12Links_gc {n : Int} {ls : List Lnk} (hl : ls.length ≤ 2097152) : GC Try.prog 66 [vi n, .sl 3 (ls.map Lnk.e)] [] (fun r_ hs_ => r_ = vb (lkB n ls) ∧ hs_ = []) := by
  refine GC.of_func [] Try.call66 Try.func66 rfl ⟨by kernel_rfl, by kernel_rfl⟩ (by kernel_rfl) ?_
  rw [Try.results66]
  simp -implicitDefEqProofs (maxSteps := 4000000) only [sim0, sim1, sim2, sim3, sim4, sim5, sim6, sim7, sim8, ↓reduceIte, Nat.reduceEqDiff, Nat.reduceAdd, Nat.reduceMul, Nat.reduceSub, Nat.reduceLT, Nat.reduceLeDiff, reduceCtorEq, Int.reduceToNat, Int.reduceNeg, Nat.reduceBEq, simx, ty, Lnk.row, It.row, idxS_map, loadS_map, stoS_map, ← List.map_take, ← List.map_drop]
  repeat' (first
    | ((with_reducible refine onCall ?_); first
      | (refine GC.callS l1In_gc rfl rfl ?_ <;> try simp -implicitDefEqProofs (maxSteps := 4000000) only [sim0, sim1, sim2, sim3, sim4, sim5, sim6, sim7, sim8, ↓reduceIte, Nat.reduceEqDiff, Nat.reduceAdd, Nat.reduceMul, Nat.reduceSub, Nat.reduceLT, Nat.reduceLeDiff, reduceCtorEq, Int.reduceToNat, Int.reduceNeg, Nat.reduceBEq, simx, ty, Lnk.row, It.row, idxS_map, loadS_map, stoS_map, ← List.map_take, ← List.map_drop])
      | fail)
    | ((with_reducible refine onCode ?_); first
      | (refine onLid 2 ?_ (by rfl); refine acode_prune [0, 1, 4, 5, 6] ?_; simp only [prn_cons, prn_nil, lk_cons, lk_emp, Nat.reduceEqDiff, ↓reduceIte]; refine acode_loopD2 2 (by rfl) (α := Int) (fun i => [(5, vi i)]) [4, 6, 7, 8, 9, 10, 11, 12, 13, 14, 15, 16, 17, 18, 19, 20, 21, 22, 23, 24, 25, 26, 27, 28, 29, 30, 31, 32, 33, 34, 35, 36, 37, 38, 39, 40, 41, 42, 43] [4, 6] (by kernel_rfl) (fun i => (0 ≤ i ∧ i ≤ ls.length) ∧ allI (lkP n ls) 0 ls.length = allI (lkP n ls) i ls.length) (fun i => (ls.length - i).toNat) (0) ?_ (by first | (simp only [plnLL, pln, Value.oneCell', List.all_cons, List.all_nil, plnH, Lnk.pl, It.pl, Bool.and_true, Bool.and_self]; done) | rfl) (by simp) rfl (by (try simp only []) <;> first | (first | exact ⟨by omega, trivial⟩ | exact ⟨by omega, rfl⟩) | fail) ?_; (focus ((try dsimp only []); (repeat' (first | exact agr_none | exact lk_hd | refine lk_tl (by decide) ?_ | refine agr_one ?_ ?_)); done)); rintro i hJ; (try simp only [] at hJ); have hJ2 := hJ; simp -implicitDefEqProofs (maxSteps := 4000000) only [sim0, sim1, sim2, sim3, sim4, sim5, sim6, sim7, sim8, ↓reduceIte, Nat.reduceEqDiff, Nat.reduceAdd, Nat.reduceMul, Nat.reduceSub, Nat.reduceLT, Nat.reduceLeDiff, reduceCtorEq, Int.reduceToNat, Int.reduceNeg, Nat.reduceBEq, simx, ty, Lnk.row, It.row, idxS_map, loadS_map, stoS_map, ← List.map_take, ← List.map_drop])
      | fail)
    | ((with_reducible refine onLpd ?_); first
      | (refine lpd2_end (α := Int) (mods := (fun i => [(5, vi i)])) _ (by (try dsimp only []); simp only [agr_cons, agr_nil, lk_cons, lk_emp, Nat.reduceEqDiff, ↓reduceIte, and_true]; repeat' (first | rfl | apply And.intro)) (by unfold undK; kernel_rfl) _ rfl rfl ?_ ?_ <;> ((try simp only []); (have e_ : IntKind.i64.wrap (i + 1) = i + 1 := wrap_id (by omega) (by omega); (try simp only [e_] at hq ⊢); first | omega | (refine ⟨by omega, allI_go rfl (by omega) ?_ hJ2.2⟩; simp only [lkP, lnkB, lk']; clear hJ hJ2; simp_all; done))))
      | fail)
    | ((with_reducible refine onFin ?_); first
      | (refine fin_nil ?_; (first | (refine rn_vb ?_; first | (refine lkB_no (allI_bad (p := lkP n ls) (i := i) (by omega) ?_ hJ2.2); simp only [lkP, lnkB, lk']; clear hJ hJ2; simp_all; done) | (have h := allI_fin (by omega) hJ2.2; simp_all [lkB]; done)) | (simp_all [fins]; done) | (simp_all [-Int.not_lt, -Int.not_le, fins]; done) | (simp_all [fins]; omega)))
      | fail)
    | (with_reducible refine ite_intro (fun hq => ?_) (fun hq => ?_))
    | (with_reducible refine And.intro (fun hq => ?_) (fun hq => ?_))
    | (with_reducible refine And.intro ?_ ?_)
    | ((fail_if_success (with_reducible refine onCode ?_)); (fail_if_success (with_reducible refine onLps ?_)); (fail_if_success (with_reducible refine onLpd ?_)); (fail_if_success (with_reducible refine onLpe ?_)); (fail_if_success (with_reducible refine onFin ?_)); (fail_if_success (with_reducible refine onCall ?_)); (fail_if_success (with_reducible refine onQcall ?_)); first | omega | (rw [wrap_id (by omega) (by omega)]; omega) | (refine rn_vb ?_; first | (refine lkB_no (allI_bad (p := lkP n ls) (i := i) (by omega) ?_ hJ2.2); simp only [lkP, lnkB, lk']; clear hJ hJ2; simp_all; done) | (have h := allI_fin (by omega) hJ2.2; simp_all [lkB]; done))))

end Go.Proofs.Ytpcaijpolkcipaa
