/-
Contracts of what copies, compares and checks lists of sightings, over plain data, and the law FnExactIsValidSightings.
No condition but those that the contracts name.
-/
import Derived.Test.YtgcmahhejblpkaaW1
namespace Go.Proofs.Ytgcmahhejblpkaa
open Eng
set_option linter.unusedSimpArgs false
set_option linter.unusedVariables false
structure Sgt where
  c : Int
  s : Int
  a : Int
  x : Int
  y : Int
instance : Inhabited Sgt := ⟨⟨0, 0, 0, 0, 0⟩⟩
def Sgt.e (t : Sgt) : List AV := [vi t.c, vi t.s, vi t.a, vi t.x, vi t.y]
theorem Sgt.ee {t : Sgt} : Sgt.e t = [vi t.c, vi t.s, vi t.a, vi t.x, vi t.y] := (rfl)
theorem Sgt.pl {ts : List Sgt} : plnLL (ts.map Sgt.e) = true := plnLL_map (fun _ => rfl) ts
theorem Sgt.ns {z : Nat} {ts : List Sgt} : noslE (.arr z (ts.map Sgt.e)) = true := nosl_map (fun _ => rfl) ts
theorem Sgt.rn {n0 z : Nat} {is : List Nat} {ts : List Sgt} : rnE n0 is (.arr z (ts.map Sgt.e)) = .arr z (ts.map Sgt.e) := rnE_pln Sgt.pl
theorem Sgt.up {n z : Nat} {r : List Nat} {ts : List Sgt} : upE r n (.arr z (ts.map Sgt.e)) = .arr z (ts.map Sgt.e) := upE_pln Sgt.pl
theorem Sgt.st {ts : List Sgt} {i : Nat} {a0 a1 a2 a3 a4 : Int} : (ts.map Sgt.e).set i [vi a0, vi a1, vi a2, vi a3, vi a4] = (ts.set i ⟨a0, a1, a2, a3, a4⟩).map Sgt.e := by rw [List.map_set]; rfl
theorem Sgt.ap {ts : List Sgt} {a0 a1 a2 a3 a4 : Int} : ts.map Sgt.e ++ [[vi a0, vi a1, vi a2, vi a3, vi a4]] = (ts ++ [(⟨a0, a1, a2, a3, a4⟩ : Sgt)]).map Sgt.e := by rw [List.map_append]; rfl
theorem Sgt.aq {ts us : List Sgt} : ts.map Sgt.e ++ us.map Sgt.e = (ts ++ us).map Sgt.e := by rw [List.map_append]
theorem Sgt.rp {n : Nat} : List.replicate n [AV.v (.int .i64 0), AV.v (.int .i64 0), AV.v (.int .i64 0), AV.v (.int .i64 0), AV.v (.int .i64 0)] = (List.replicate n (default : Sgt)).map Sgt.e := by rw [List.map_replicate]; rfl
theorem Sgt.row : (type_of% @Sgt.ee) ∧ (type_of% @Sgt.pl) ∧ (type_of% @Sgt.ns) ∧ (type_of% @Sgt.rn) ∧ (type_of% @Sgt.up) ∧ (type_of% @Sgt.st) ∧ (type_of% @Sgt.ap) ∧ (type_of% @Sgt.aq) ∧ (type_of% @Sgt.rp) :=
  ⟨@Sgt.ee, @Sgt.pl, @Sgt.ns, @Sgt.rn, @Sgt.up, @Sgt.st, @Sgt.ap, @Sgt.aq, @Sgt.rp⟩
theorem Sgt.c_ite {c : Prop} [Decidable c] {x y : Sgt} : (if c then x else y).c = if c then x.c else y.c := by split <;> rfl
theorem Sgt.s_ite {c : Prop} [Decidable c] {x y : Sgt} : (if c then x else y).s = if c then x.s else y.s := by split <;> rfl
theorem Sgt.a_ite {c : Prop} [Decidable c] {x y : Sgt} : (if c then x else y).a = if c then x.a else y.a := by split <;> rfl
theorem Sgt.x_ite {c : Prop} [Decidable c] {x y : Sgt} : (if c then x else y).x = if c then x.x else y.x := by split <;> rfl
theorem Sgt.y_ite {c : Prop} [Decidable c] {x y : Sgt} : (if c then x else y).y = if c then x.y else y.y := by split <;> rfl
theorem Sgt.ite : (type_of% @Sgt.c_ite) ∧ (type_of% @Sgt.s_ite) ∧ (type_of% @Sgt.a_ite) ∧ (type_of% @Sgt.x_ite) ∧ (type_of% @Sgt.y_ite) :=
  ⟨@Sgt.c_ite, @Sgt.s_ite, @Sgt.a_ite, @Sgt.x_ite, @Sgt.y_ite⟩
def Sgt.ok (t : Sgt) : Prop := I64 t.c ∧ I64 t.s ∧ I64 t.a ∧ I64 t.x ∧ I64 t.y
theorem Sgt.of : ∀ {xs : List (List Int)}, (∀ e ∈ xs, e.length = 5 ∧ ∀ z ∈ e, (Lit.int .i64 z).wf = true) → ∃ ts : List Sgt, els .i64 xs = ts.map Sgt.e ∧ ts.length = xs.length ∧ ∀ t ∈ ts, t.ok
  | [], _ => ⟨[], rfl, rfl, by simp⟩
  | e :: xs, h => by
    obtain ⟨ts, h1, h2, h3⟩ := Sgt.of (xs := xs) fun e he => h e (by simp [he])
    obtain ⟨h4, h5⟩ := h e (by simp)
    match e, h4, h5 with
    | [a0, a1, a2, a3, a4], _, h5 =>
      refine ⟨⟨a0, a1, a2, a3, a4⟩ :: ts, ?_, by simp [h2], ?_⟩
      · simp only [els, List.map_cons] at h1 ⊢
        rw [h1]; rfl
      · intro t ht
        rcases List.mem_cons.1 ht with rfl | ht
        · exact ⟨h5 _ (by simp), h5 _ (by simp), h5 _ (by simp), h5 _ (by simp), h5 _ (by simp)⟩
        · exact h3 t ht

set_option maxRecDepth 100000 in
set_option maxHeartbeats 4000000 in
theorem eqPlace_gc {a b a' b' : Int} : GC Try.prog 71 [.agg [vi a, vi b], .agg [vi a', vi b']] [] (fun r_ hs_ => r_ = vb (a == a' && b == b') ∧ hs_ = []) := by
  refine GC.of_func [] Try.call71 Try.func71 rfl ⟨by kernel_rfl, by kernel_rfl⟩ (by kernel_rfl) ?_
  rw [Try.results71]
  simp -implicitDefEqProofs (maxSteps := 4000000) only [sim0, sim1, sim2, sim3, sim4, sim5, sim6, sim7, sim8, ↓reduceIte, Nat.reduceEqDiff, Nat.reduceAdd, Nat.reduceMul, Nat.reduceSub, Nat.reduceLT, Nat.reduceLeDiff, reduceCtorEq, Int.reduceToNat, Int.reduceNeg, Nat.reduceBEq, simx, ty]
  repeat' (first
    | ((with_reducible refine onFin ?_); first
      | (refine fin_nil ?_; (first | (simp_all [fins]; done) | (simp_all [-Int.not_lt, -Int.not_le, fins]; done) | (simp_all [fins]; omega)))
      | fail)
    | (with_reducible refine ite_intro (fun hq => ?_) (fun hq => ?_))
    | (with_reducible refine And.intro (fun hq => ?_) (fun hq => ?_))
    | (with_reducible refine And.intro ?_ ?_)
    | ((fail_if_success (with_reducible refine onCode ?_)); (fail_if_success (with_reducible refine onLps ?_)); (fail_if_success (with_reducible refine onLpd ?_)); (fail_if_success (with_reducible refine onLpe ?_)); (fail_if_success (with_reducible refine onFin ?_)); (fail_if_success (with_reducible refine onCall ?_)); (fail_if_success (with_reducible refine onQcall ?_)); first | omega | (rw [wrap_id (by omega) (by omega)]; omega) | (simp_all; done)))

set_option maxRecDepth 100000 in
set_option maxHeartbeats 4000000 in
theorem toSighting_gc {a0 a1 a2 a3 a4 : Int} : GC Try.prog 59 [.agg [vi a0, vi a1, vi a2, vi a3, vi a4]] [] (fun r_ hs_ => r_ = .agg [vi a0, vi a1, vi a2, vi a3, vi a4] ∧ hs_ = []) := by
  refine GC.of_func [] Try.call59 Try.func59 rfl ⟨by kernel_rfl, by kernel_rfl⟩ (by kernel_rfl) ?_
  rw [Try.results59]
  simp -implicitDefEqProofs (maxSteps := 4000000) only [sim0, sim1, sim2, sim3, sim4, sim5, sim6, sim7, sim8, ↓reduceIte, Nat.reduceEqDiff, Nat.reduceAdd, Nat.reduceMul, Nat.reduceSub, Nat.reduceLT, Nat.reduceLeDiff, reduceCtorEq, Int.reduceToNat, Int.reduceNeg, Nat.reduceBEq, simx, ty]
  repeat' (first
    | ((with_reducible refine onCall ?_); first
      | (refine GC.callS toPlace_gc rfl rfl ?_ <;> try simp -implicitDefEqProofs (maxSteps := 4000000) only [sim0, sim1, sim2, sim3, sim4, sim5, sim6, sim7, sim8, ↓reduceIte, Nat.reduceEqDiff, Nat.reduceAdd, Nat.reduceMul, Nat.reduceSub, Nat.reduceLT, Nat.reduceLeDiff, reduceCtorEq, Int.reduceToNat, Int.reduceNeg, Nat.reduceBEq, simx, ty])
      | fail)
    | ((with_reducible refine onFin ?_); first
      | (refine fin_nil ?_; (first | (simp_all [fins]; done) | (simp_all [-Int.not_lt, -Int.not_le, fins]; done) | (simp_all [fins]; omega)))
      | fail)
    | (with_reducible refine ite_intro (fun hq => ?_) (fun hq => ?_))
    | (with_reducible refine And.intro (fun hq => ?_) (fun hq => ?_))
    | (with_reducible refine And.intro ?_ ?_)
    | ((fail_if_success (with_reducible refine onCode ?_)); (fail_if_success (with_reducible refine onLps ?_)); (fail_if_success (with_reducible refine onLpd ?_)); (fail_if_success (with_reducible refine onLpe ?_)); (fail_if_success (with_reducible refine onFin ?_)); (fail_if_success (with_reducible refine onCall ?_)); (fail_if_success (with_reducible refine onQcall ?_)); first | omega | (rw [wrap_id (by omega) (by omega)]; omega) | (simp_all; done)))

set_option maxRecDepth 100000 in
set_option maxHeartbeats 4000000 in
theorem eqSighting_gc {a0 a1 a2 a3 a4 b0 b1 b2 b3 b4 : Int} : GC Try.prog 64 [.agg [vi a0, vi a1, vi a2, vi a3, vi a4], .agg [vi b0, vi b1, vi b2, vi b3, vi b4]] [] (fun r_ hs_ => r_ = vb (a0 == b0 && a1 == b1 && a2 == b2 && a3 == b3 && a4 == b4) ∧ hs_ = []) := by
  refine GC.of_func [] Try.call64 Try.func64 rfl ⟨by kernel_rfl, by kernel_rfl⟩ (by kernel_rfl) ?_
  rw [Try.results64]
  simp -implicitDefEqProofs (maxSteps := 4000000) only [sim0, sim1, sim2, sim3, sim4, sim5, sim6, sim7, sim8, ↓reduceIte, Nat.reduceEqDiff, Nat.reduceAdd, Nat.reduceMul, Nat.reduceSub, Nat.reduceLT, Nat.reduceLeDiff, reduceCtorEq, Int.reduceToNat, Int.reduceNeg, Nat.reduceBEq, simx, ty]
  repeat' (first
    | ((with_reducible refine onCall ?_); first
      | (refine GC.callS eqPlace_gc rfl rfl ?_ <;> try simp -implicitDefEqProofs (maxSteps := 4000000) only [sim0, sim1, sim2, sim3, sim4, sim5, sim6, sim7, sim8, ↓reduceIte, Nat.reduceEqDiff, Nat.reduceAdd, Nat.reduceMul, Nat.reduceSub, Nat.reduceLT, Nat.reduceLeDiff, reduceCtorEq, Int.reduceToNat, Int.reduceNeg, Nat.reduceBEq, simx, ty])
      | fail)
    | ((with_reducible refine onFin ?_); first
      | (refine fin_nil ?_; (first | (simp_all [fins]; done) | (simp_all [-Int.not_lt, -Int.not_le, fins]; done) | (simp_all [fins]; omega)))
      | fail)
    | (with_reducible refine ite_intro (fun hq => ?_) (fun hq => ?_))
    | (with_reducible refine And.intro (fun hq => ?_) (fun hq => ?_))
    | (with_reducible refine And.intro ?_ ?_)
    | ((fail_if_success (with_reducible refine onCode ?_)); (fail_if_success (with_reducible refine onLps ?_)); (fail_if_success (with_reducible refine onLpd ?_)); (fail_if_success (with_reducible refine onLpe ?_)); (fail_if_success (with_reducible refine onFin ?_)); (fail_if_success (with_reducible refine onCall ?_)); (fail_if_success (with_reducible refine onQcall ?_)); first | omega | (rw [wrap_id (by omega) (by omega)]; omega) | (simp_all; done)))

set_option maxRecDepth 100000 in
set_option maxHeartbeats 4000000 in
theorem szSightingS_gc {ts : List Sgt} {n : Int} (hn : 0 ≤ n ∧ n ≤ 1048576) (hl : ts.length ≤ maxLen) : GC Try.prog 14 [.sl 5 (ts.map Sgt.e), vi n] [] (fun r_ hs_ => r_ = vi (if n < (ts.length : Int) then -1 else n - ts.length) ∧ hs_ = []) := by
  refine GC.of_func [] Try.call14 Try.func14 rfl ⟨by kernel_rfl, by kernel_rfl⟩ (by kernel_rfl) ?_
  rw [Try.results14]
  simp -implicitDefEqProofs (maxSteps := 4000000) only [sim0, sim1, sim2, sim3, sim4, sim5, sim6, sim7, sim8, ↓reduceIte, Nat.reduceEqDiff, Nat.reduceAdd, Nat.reduceMul, Nat.reduceSub, Nat.reduceLT, Nat.reduceLeDiff, reduceCtorEq, Int.reduceToNat, Int.reduceNeg, Nat.reduceBEq, simx, ty, Sgt.row, idxS_map, loadS_map, stoS_map, ← List.map_take, ← List.map_drop]
  repeat' (first
    | ((with_reducible refine onFin ?_); first
      | (refine fin_nil ?_; (first | (have hm : maxLen = 9223372036854775807 := rfl; have e : IntKind.i64.wrap (n - ↑ts.length) = n - ↑ts.length := wrap_id (by omega) (by omega); (try rw [e] at hq); (try rw [e]); first | (rw [if_pos (by omega)]; simp [fins]; done) | (rw [if_neg (by omega)]; simp [fins]; done)) | (simp_all [fins]; done) | (simp_all [-Int.not_lt, -Int.not_le, fins]; done) | (simp_all [fins]; omega)))
      | fail)
    | (with_reducible refine ite_intro (fun hq => ?_) (fun hq => ?_))
    | (with_reducible refine And.intro (fun hq => ?_) (fun hq => ?_))
    | (with_reducible refine And.intro ?_ ?_)
    | ((fail_if_success (with_reducible refine onCode ?_)); (fail_if_success (with_reducible refine onLps ?_)); (fail_if_success (with_reducible refine onLpd ?_)); (fail_if_success (with_reducible refine onLpe ?_)); (fail_if_success (with_reducible refine onFin ?_)); (fail_if_success (with_reducible refine onCall ?_)); (fail_if_success (with_reducible refine onQcall ?_)); first | omega | (rw [wrap_id (by omega) (by omega)]; omega) | (have hm : maxLen = 9223372036854775807 := rfl; have e : IntKind.i64.wrap (n - ↑ts.length) = n - ↑ts.length := wrap_id (by omega) (by omega); (try rw [e] at hq); (try rw [e]); first | (rw [if_pos (by omega)]; simp [fins]; done) | (rw [if_neg (by omega)]; simp [fins]; done))))

set_option maxRecDepth 100000 in
set_option maxHeartbeats 4000000 in
theorem toSightingS_gc {ts : List Sgt} (hl : ts.length ≤ 1048576) : GC Try.prog 16 [.sl 5 (ts.map Sgt.e)] [] (fun r_ hs_ => r_ = .ref 0 ts.length ∧ hs_ = [.arr 5 (ts.map Sgt.e)]) := by
  refine GC.of_func [] Try.call16 Try.func16 rfl ⟨by kernel_rfl, by kernel_rfl⟩ (by kernel_rfl) ?_
  rw [Try.results16]
  simp -implicitDefEqProofs (maxSteps := 4000000) only [sim0, sim1, sim2, sim3, sim4, sim5, sim6, sim7, sim8, ↓reduceIte, Nat.reduceEqDiff, Nat.reduceAdd, Nat.reduceMul, Nat.reduceSub, Nat.reduceLT, Nat.reduceLeDiff, reduceCtorEq, Int.reduceToNat, Int.reduceNeg, Nat.reduceBEq, simx, ty, Sgt.row, idxS_map, loadS_map, stoS_map, ← List.map_take, ← List.map_drop]
  repeat' (first
    | ((with_reducible refine onCall ?_); first
      | (refine GC.callS toSighting_gc rfl rfl ?_ <;> try simp -implicitDefEqProofs (maxSteps := 4000000) only [sim0, sim1, sim2, sim3, sim4, sim5, sim6, sim7, sim8, ↓reduceIte, Nat.reduceEqDiff, Nat.reduceAdd, Nat.reduceMul, Nat.reduceSub, Nat.reduceLT, Nat.reduceLeDiff, reduceCtorEq, Int.reduceToNat, Int.reduceNeg, Nat.reduceBEq, simx, ty, Sgt.row, idxS_map, loadS_map, stoS_map, ← List.map_take, ← List.map_drop])
      | fail)
    | ((with_reducible refine onCode ?_); first
      | (refine onLid 3 ?_ (by rfl); refine acode_prune [0, 2, 3, 4] ?_; simp only [prn_cons, prn_nil, lk_cons, lk_emp, Nat.reduceEqDiff, ↓reduceIte]; refine acode_loopE2 3 (by rfl) (α := Int × List Sgt) (fun ⟨i, us⟩ => [(4, vi i), (3, .ref 0 ts.length)]) [8, 9, 10, 11, 12, 13, 14, 15, 16, 17, 18, 19, 20, 21] [] (by kernel_rfl) [] (fun ⟨i, us⟩ => [.arr 5 (us.map Sgt.e)]) (fun _ => by simp) (fun _ _ => rfl) (fun ⟨i, us⟩ => (0 ≤ i ∧ i ≤ ts.length) ∧ us.length = ts.length ∧ us.take i.toNat = ts.take i.toNat) (fun ⟨i, us⟩ => (ts.length - i).toNat) ((0, List.replicate ts.length default)) ?_ ?_ (by (try simp only []) <;> first | (simp_all; done) | (simp_all; omega) | omega) ?_; (focus ((try dsimp only []); (repeat' (first | exact agr_none | exact lk_hd | refine lk_tl (by decide) ?_ | refine agr_one ?_ ?_)); done)); (focus (first | rfl | (simp; done))); rintro ⟨i, us⟩ hJ; (try simp only [] at hJ); have hJ3 := hJ; simp -implicitDefEqProofs (maxSteps := 4000000) only [sim0, sim1, sim2, sim3, sim4, sim5, sim6, sim7, sim8, ↓reduceIte, Nat.reduceEqDiff, Nat.reduceAdd, Nat.reduceMul, Nat.reduceSub, Nat.reduceLT, Nat.reduceLeDiff, reduceCtorEq, Int.reduceToNat, Int.reduceNeg, Nat.reduceBEq, simx, ty, Sgt.row, idxS_map, loadS_map, stoS_map, ← List.map_take, ← List.map_drop])
      | fail)
    | ((with_reducible refine onLpe ?_); first
      | (refine lpe2_end0 (α := Int × List Sgt) (mods := (fun ⟨i, us⟩ => [(4, vi i), (3, .ref 0 ts.length)])) [0] (_, _) rfl rfl rfl (by (try dsimp only []); rfl) (by first | (simp only [plnLL, pln, Value.oneCell', List.all_cons, List.all_nil, plnH, Sgt.pl, Bool.and_true, Bool.and_self]; done) | rfl) (by (try dsimp only []); simp only [agrR_cons, agrR_nil, lk_cons, lk_emp, Nat.reduceEqDiff, ↓reduceIte, and_true]; repeat' (first | exact rn_v | rfl | (simp only [List.length_append, List.length_cons, List.length_nil]; rfl) | apply And.intro)) (by unfold undK; kernel_rfl) ?_ ?_ <;> ((try simp only []); (obtain ⟨hb, hm, hg⟩ := hJ; have e : IntKind.i64.wrap (i + 1) = i + 1 := wrap_id (by omega) (by omega); rw [e]; first | omega | (refine ⟨by omega, by simp [hm], ?_⟩; have e2 : (i + 1).toNat = i.toNat + 1 := (by omega); rw [e2]; exact take_set' rfl hm (by omega) hg))))
      | fail)
    | ((with_reducible refine onFin ?_); first
      | (refine fin_own' ?_ ?_ (by simp) (by first | (simp only [plnLL, pln, Value.oneCell', List.all_cons, List.all_nil, plnH, Sgt.pl, Bool.and_true, Bool.and_self, List.take_zero, List.nil_append, List.map_cons, List.map_nil]; done) | rfl) <;> (first | (obtain ⟨hb, hm, hg⟩ := hJ; first | rfl | (have e2 : i.toNat = ts.length := (by omega); have h1 : us.take ts.length = us := List.take_of_length_le (by omega); have h2 : ts.take ts.length = ts := List.take_length; rw [e2, h1, h2] at hg; subst hg; rfl)) | (simp_all [fins]; done) | (simp_all [-Int.not_lt, -Int.not_le, fins]; done) | (simp_all [fins]; omega)))
      | (refine fin_ownT' ?_ ?_ ?_ (by simp) (by first | (simp only [plnLL, pln, Value.oneCell', List.all_cons, List.all_nil, plnH, Sgt.pl, Bool.and_true, Bool.and_self, List.take_zero, List.nil_append, List.map_cons, List.map_nil]; done) | rfl) rfl <;> (first | (obtain ⟨hb, hm, hg⟩ := hJ; first | rfl | (have e2 : i.toNat = ts.length := (by omega); have h1 : us.take ts.length = us := List.take_of_length_le (by omega); have h2 : ts.take ts.length = ts := List.take_length; rw [e2, h1, h2] at hg; subst hg; rfl)) | (simp_all [fins]; done) | (simp_all [-Int.not_lt, -Int.not_le, fins]; done) | (simp_all [fins]; omega)))
      | (refine fin_ids ?_ ?_ ?_ (by first | (simp only [plnLL, pln, Value.oneCell', List.all_cons, List.all_nil, plnH, Sgt.pl, Bool.and_true, Bool.and_self, List.take_zero, List.nil_append, List.map_cons, List.map_nil]; done) | rfl) <;> (first | (obtain ⟨hb, hm, hg⟩ := hJ; first | rfl | (have e2 : i.toNat = ts.length := (by omega); have h1 : us.take ts.length = us := List.take_of_length_le (by omega); have h2 : ts.take ts.length = ts := List.take_length; rw [e2, h1, h2] at hg; subst hg; rfl)) | (simp_all [fins, funs]; done) | (simp [fins, funs]; done) | (simp_all [-Int.not_lt, -Int.not_le, fins, funs]; done) | (simp_all [fins, funs]; omega)))
      | fail)
    | (with_reducible refine ite_intro (fun hq => ?_) (fun hq => ?_))
    | (with_reducible refine And.intro (fun hq => ?_) (fun hq => ?_))
    | (with_reducible refine And.intro ?_ ?_)
    | ((fail_if_success (with_reducible refine onCode ?_)); (fail_if_success (with_reducible refine onLps ?_)); (fail_if_success (with_reducible refine onLpd ?_)); (fail_if_success (with_reducible refine onLpe ?_)); (fail_if_success (with_reducible refine onFin ?_)); (fail_if_success (with_reducible refine onCall ?_)); (fail_if_success (with_reducible refine onQcall ?_)); first | omega | (rw [wrap_id (by omega) (by omega)]; omega) | (obtain ⟨hb, hm, hg⟩ := hJ; first | rfl | (have e2 : i.toNat = ts.length := (by omega); have h1 : us.take ts.length = us := List.take_of_length_le (by omega); have h2 : ts.take ts.length = ts := List.take_length; rw [e2, h1, h2] at hg; subst hg; rfl))))

set_option maxRecDepth 100000 in
set_option maxHeartbeats 4000000 in
theorem eqSightingS_gc {ts : List Sgt} (hl : ts.length ≤ 1048576) : GC Try.prog 18 [.sl 5 (ts.map Sgt.e), .sl 5 (ts.map Sgt.e)] [] (fun r_ hs_ => r_ = vb true ∧ hs_ = []) := by
  refine GC.of_func [(6, .val 0 (.val 1 (.val 2 (.val 3 (.val 4 (.val 5 (.val 6 (.val 7 (.val 8 (.val 9 (.done)))))))))))] Try.call18 Try.func18 rfl ⟨by kernel_rfl, by kernel_rfl⟩ (by kernel_rfl) ?_
  rw [Try.results18]
  simp -implicitDefEqProofs (maxSteps := 4000000) only [sim0, sim1, sim2, sim3, sim4, sim5, sim6, sim7, sim8, ↓reduceIte, Nat.reduceEqDiff, Nat.reduceAdd, Nat.reduceMul, Nat.reduceSub, Nat.reduceLT, Nat.reduceLeDiff, reduceCtorEq, Int.reduceToNat, Int.reduceNeg, Nat.reduceBEq, simx, ty, Sgt.row, idxS_map, loadS_map, stoS_map, ← List.map_take, ← List.map_drop]
  repeat' (first
    | ((with_reducible refine onQcall ?_); first
      | (refine qcallS eqSighting_gc rfl rfl ?_ <;> try simp -implicitDefEqProofs (maxSteps := 4000000) only [sim0, sim1, sim2, sim3, sim4, sim5, sim6, sim7, sim8, ↓reduceIte, Nat.reduceEqDiff, Nat.reduceAdd, Nat.reduceMul, Nat.reduceSub, Nat.reduceLT, Nat.reduceLeDiff, reduceCtorEq, Int.reduceToNat, Int.reduceNeg, Nat.reduceBEq, simx, ty, Sgt.row, idxS_map, loadS_map, stoS_map, ← List.map_take, ← List.map_drop])
      | fail)
    | ((with_reducible refine onCode ?_); first
      | (refine onLid 4 ?_ (by rfl); refine acode_prune [0, 1, 4, 5] ?_; simp only [prn_cons, prn_nil, lk_cons, lk_emp, Nat.reduceEqDiff, ↓reduceIte]; refine acode_loopS2 4 (by rfl) (α := Int) (fun i => [(5, vi i)]) [4, 11, 12, 13, 14, 15, 16, 17, 18, 19, 20, 21, 22, 23, 24, 25, 26] [4] (by kernel_rfl) (fun i => 0 ≤ i ∧ i ≤ ts.length) (fun i => (ts.length - i).toNat) (0) ?_ (by (try simp only []) <;> first | (simp_all; done) | (simp_all; omega) | omega) ?_; (focus ((try dsimp only []); (repeat' (first | exact agr_none | exact lk_hd | refine lk_tl (by decide) ?_ | refine agr_one ?_ ?_)); done)); rintro i hJ; (try simp only [] at hJ); have hJ4 := hJ; simp -implicitDefEqProofs (maxSteps := 4000000) only [sim0, sim1, sim2, sim3, sim4, sim5, sim6, sim7, sim8, ↓reduceIte, Nat.reduceEqDiff, Nat.reduceAdd, Nat.reduceMul, Nat.reduceSub, Nat.reduceLT, Nat.reduceLeDiff, reduceCtorEq, Int.reduceToNat, Int.reduceNeg, Nat.reduceBEq, simx, ty, Sgt.row, idxS_map, loadS_map, stoS_map, ← List.map_take, ← List.map_drop])
      | fail)
    | ((with_reducible refine onLps ?_); first
      | (refine lps2_end (α := Int) (mods := (fun i => [(5, vi i)])) _ (by (try dsimp only []); simp only [agr_cons, agr_nil, lk_cons, lk_emp, Nat.reduceEqDiff, ↓reduceIte, and_true]; repeat' (first | rfl | apply And.intro)) (by unfold undK; kernel_rfl) ?_ ?_ <;> ((try simp only []); (have e : IntKind.i64.wrap (i + 1) = i + 1 := wrap_id (by omega) (by omega); rw [e]; omega)))
      | fail)
    | ((with_reducible refine onFin ?_); first
      | (refine fin_nil ?_; (first | (simp_all [fins]; done) | (simp_all [-Int.not_lt, -Int.not_le, fins]; done) | (simp_all [fins]; omega)))
      | fail)
    | (with_reducible refine ite_intro (fun hq => ?_) (fun hq => ?_))
    | (with_reducible refine And.intro (fun hq => ?_) (fun hq => ?_))
    | (with_reducible refine And.intro ?_ ?_)
    | ((fail_if_success (with_reducible refine onCode ?_)); (fail_if_success (with_reducible refine onLps ?_)); (fail_if_success (with_reducible refine onLpd ?_)); (fail_if_success (with_reducible refine onLpe ?_)); (fail_if_success (with_reducible refine onFin ?_)); (fail_if_success (with_reducible refine onCall ?_)); (fail_if_success (with_reducible refine onQcall ?_)); first | omega | (rw [wrap_id (by omega) (by omega)]; omega) | (simp_all; done)))


set_option maxRecDepth 100000 in
set_option maxHeartbeats 4000000 in
theorem isSecond_gc {n : Int} : GC Try.prog 60 [vi n] [] (fun r_ hs_ => r_ = vb (inB n 0 86400) ∧ hs_ = []) := by
  refine GC.of_func [] Try.call60 Try.func60 rfl ⟨by kernel_rfl, by kernel_rfl⟩ (by kernel_rfl) ?_
  rw [Try.results60]
  simp -implicitDefEqProofs (maxSteps := 4000000) only [sim0, sim1, sim2, sim3, sim4, sim5, sim6, sim7, sim8, ↓reduceIte, Nat.reduceEqDiff, Nat.reduceAdd, Nat.reduceMul, Nat.reduceSub, Nat.reduceLT, Nat.reduceLeDiff, reduceCtorEq, Int.reduceToNat, Int.reduceNeg, Nat.reduceBEq, simx, ty]
  repeat' (first
    | ((with_reducible refine onCall ?_); first
      | (refine GC.callS within_gc rfl rfl ?_ <;> try simp -implicitDefEqProofs (maxSteps := 4000000) only [sim0, sim1, sim2, sim3, sim4, sim5, sim6, sim7, sim8, ↓reduceIte, Nat.reduceEqDiff, Nat.reduceAdd, Nat.reduceMul, Nat.reduceSub, Nat.reduceLT, Nat.reduceLeDiff, reduceCtorEq, Int.reduceToNat, Int.reduceNeg, Nat.reduceBEq, simx, ty])
      | fail)
    | ((with_reducible refine onFin ?_); first
      | (refine fin_nil ?_; (first | (simp_all [fins]; done) | (simp_all [-Int.not_lt, -Int.not_le, fins]; done) | (simp_all [fins]; omega)))
      | fail)
    | (with_reducible refine ite_intro (fun hq => ?_) (fun hq => ?_))
    | (with_reducible refine And.intro (fun hq => ?_) (fun hq => ?_))
    | (with_reducible refine And.intro ?_ ?_)
    | ((fail_if_success (with_reducible refine onCode ?_)); (fail_if_success (with_reducible refine onLps ?_)); (fail_if_success (with_reducible refine onLpd ?_)); (fail_if_success (with_reducible refine onLpe ?_)); (fail_if_success (with_reducible refine onFin ?_)); (fail_if_success (with_reducible refine onCall ?_)); (fail_if_success (with_reducible refine onQcall ?_)); first | omega | (rw [wrap_id (by omega) (by omega)]; omega) | (simp_all; done)))

set_option maxRecDepth 100000 in
set_option maxHeartbeats 4000000 in
theorem l13Second_gc {n : Int} : GC Try.prog 96 [vi n] [] (fun r_ hs_ => r_ = vb (inB n 0 86400) ∧ hs_ = []) := by
  refine GC.of_func [] Try.call96 Try.func96 rfl ⟨by kernel_rfl, by kernel_rfl⟩ (by kernel_rfl) ?_
  rw [Try.results96]
  simp -implicitDefEqProofs (maxSteps := 4000000) only [sim0, sim1, sim2, sim3, sim4, sim5, sim6, sim7, sim8, ↓reduceIte, Nat.reduceEqDiff, Nat.reduceAdd, Nat.reduceMul, Nat.reduceSub, Nat.reduceLT, Nat.reduceLeDiff, reduceCtorEq, Int.reduceToNat, Int.reduceNeg, Nat.reduceBEq, simx, ty]
  repeat' (first
    | ((with_reducible refine onCall ?_); first
      | (refine GC.callS l1In_gc rfl rfl ?_ <;> try simp -implicitDefEqProofs (maxSteps := 4000000) only [sim0, sim1, sim2, sim3, sim4, sim5, sim6, sim7, sim8, ↓reduceIte, Nat.reduceEqDiff, Nat.reduceAdd, Nat.reduceMul, Nat.reduceSub, Nat.reduceLT, Nat.reduceLeDiff, reduceCtorEq, Int.reduceToNat, Int.reduceNeg, Nat.reduceBEq, simx, ty])
      | fail)
    | ((with_reducible refine onFin ?_); first
      | (refine fin_nil ?_; (first | (simp_all [fins]; done) | (simp_all [-Int.not_lt, -Int.not_le, fins]; done) | (simp_all [fins]; omega)))
      | fail)
    | (with_reducible refine ite_intro (fun hq => ?_) (fun hq => ?_))
    | (with_reducible refine And.intro (fun hq => ?_) (fun hq => ?_))
    | (with_reducible refine And.intro ?_ ?_)
    | ((fail_if_success (with_reducible refine onCode ?_)); (fail_if_success (with_reducible refine onLps ?_)); (fail_if_success (with_reducible refine onLpd ?_)); (fail_if_success (with_reducible refine onLpe ?_)); (fail_if_success (with_reducible refine onFin ?_)); (fail_if_success (with_reducible refine onCall ?_)); (fail_if_success (with_reducible refine onQcall ?_)); first | omega | (rw [wrap_id (by omega) (by omega)]; omega) | (simp_all; done)))

set_option maxRecDepth 100000 in
set_option maxHeartbeats 4000000 in
theorem isAddress_gc {n : Int} : GC Try.prog 62 [vi n] [] (fun r_ hs_ => r_ = vb (inB n 1 65535) ∧ hs_ = []) := by
  refine GC.of_func [] Try.call62 Try.func62 rfl ⟨by kernel_rfl, by kernel_rfl⟩ (by kernel_rfl) ?_
  rw [Try.results62]
  simp -implicitDefEqProofs (maxSteps := 4000000) only [sim0, sim1, sim2, sim3, sim4, sim5, sim6, sim7, sim8, ↓reduceIte, Nat.reduceEqDiff, Nat.reduceAdd, Nat.reduceMul, Nat.reduceSub, Nat.reduceLT, Nat.reduceLeDiff, reduceCtorEq, Int.reduceToNat, Int.reduceNeg, Nat.reduceBEq, simx, ty]
  repeat' (first
    | ((with_reducible refine onCall ?_); first
      | (refine GC.callS within_gc rfl rfl ?_ <;> try simp -implicitDefEqProofs (maxSteps := 4000000) only [sim0, sim1, sim2, sim3, sim4, sim5, sim6, sim7, sim8, ↓reduceIte, Nat.reduceEqDiff, Nat.reduceAdd, Nat.reduceMul, Nat.reduceSub, Nat.reduceLT, Nat.reduceLeDiff, reduceCtorEq, Int.reduceToNat, Int.reduceNeg, Nat.reduceBEq, simx, ty])
      | fail)
    | ((with_reducible refine onFin ?_); first
      | (refine fin_nil ?_; (first | (simp_all [fins]; done) | (simp_all [-Int.not_lt, -Int.not_le, fins]; done) | (simp_all [fins]; omega)))
      | fail)
    | (with_reducible refine ite_intro (fun hq => ?_) (fun hq => ?_))
    | (with_reducible refine And.intro (fun hq => ?_) (fun hq => ?_))
    | (with_reducible refine And.intro ?_ ?_)
    | ((fail_if_success (with_reducible refine onCode ?_)); (fail_if_success (with_reducible refine onLps ?_)); (fail_if_success (with_reducible refine onLpd ?_)); (fail_if_success (with_reducible refine onLpe ?_)); (fail_if_success (with_reducible refine onFin ?_)); (fail_if_success (with_reducible refine onCall ?_)); (fail_if_success (with_reducible refine onQcall ?_)); first | omega | (rw [wrap_id (by omega) (by omega)]; omega) | (simp_all; done)))

set_option maxRecDepth 100000 in
set_option maxHeartbeats 4000000 in
theorem l13Address_gc {n : Int} : GC Try.prog 97 [vi n] [] (fun r_ hs_ => r_ = vb (inB n 1 65535) ∧ hs_ = []) := by
  refine GC.of_func [] Try.call97 Try.func97 rfl ⟨by kernel_rfl, by kernel_rfl⟩ (by kernel_rfl) ?_
  rw [Try.results97]
  simp -implicitDefEqProofs (maxSteps := 4000000) only [sim0, sim1, sim2, sim3, sim4, sim5, sim6, sim7, sim8, ↓reduceIte, Nat.reduceEqDiff, Nat.reduceAdd, Nat.reduceMul, Nat.reduceSub, Nat.reduceLT, Nat.reduceLeDiff, reduceCtorEq, Int.reduceToNat, Int.reduceNeg, Nat.reduceBEq, simx, ty]
  repeat' (first
    | ((with_reducible refine onCall ?_); first
      | (refine GC.callS l1In_gc rfl rfl ?_ <;> try simp -implicitDefEqProofs (maxSteps := 4000000) only [sim0, sim1, sim2, sim3, sim4, sim5, sim6, sim7, sim8, ↓reduceIte, Nat.reduceEqDiff, Nat.reduceAdd, Nat.reduceMul, Nat.reduceSub, Nat.reduceLT, Nat.reduceLeDiff, reduceCtorEq, Int.reduceToNat, Int.reduceNeg, Nat.reduceBEq, simx, ty])
      | fail)
    | ((with_reducible refine onFin ?_); first
      | (refine fin_nil ?_; (first | (simp_all [fins]; done) | (simp_all [-Int.not_lt, -Int.not_le, fins]; done) | (simp_all [fins]; omega)))
      | fail)
    | (with_reducible refine ite_intro (fun hq => ?_) (fun hq => ?_))
    | (with_reducible refine And.intro (fun hq => ?_) (fun hq => ?_))
    | (with_reducible refine And.intro ?_ ?_)
    | ((fail_if_success (with_reducible refine onCode ?_)); (fail_if_success (with_reducible refine onLps ?_)); (fail_if_success (with_reducible refine onLpd ?_)); (fail_if_success (with_reducible refine onLpe ?_)); (fail_if_success (with_reducible refine onFin ?_)); (fail_if_success (with_reducible refine onCall ?_)); (fail_if_success (with_reducible refine onQcall ?_)); first | omega | (rw [wrap_id (by omega) (by omega)]; omega) | (simp_all; done)))

def Sgt.b (t : Sgt) : Bool := inB t.c 0 86400 && inB t.s 1 9 && inB t.a 1 65535 && placeB t.x t.y
def sgGo (ts : List Sgt) (i : Int) : Bool :=
  if i < ts.length then (if Sgt.b (ts.getD i.toNat default) = true ∧ ¬ (0 < i ∧ (ts.getD i.toNat default).c < (ts.getD (i - 1).toNat default).c) then sgGo ts (i + 1) else false) else true
termination_by (ts.length - i).toNat
def sgB (ts : List Sgt) : Bool := decide ((ts.length : Int) ≤ 20) && sgGo ts 0
set_option maxRecDepth 100000 in
set_option maxHeartbeats 4000000 in
theorem isValidSightings_gc {ts : List Sgt} : GC Try.prog 17 [.sl 5 (ts.map Sgt.e)] [] (fun r_ hs_ => r_ = vb (sgB ts) ∧ hs_ = []) := by
  refine GC.of_func [(6, .val 0 (.val 1 (.val 2 (.val 3 (.val 4 (.val 5 (.val 6 (.val 7 (.val 8 (.val 9 (.val 10 (.val 11 (.val 12 (.val 13 (.val 14 (.val 15 (.val 16 (.val 17 (.val 18 (.val 19 (.val 20 (.val 21 (.val 22 (.val 23 (.val 24 (.val 25 (.val 26 (.val 27 (.val 28 (.val 29 (.val 30 (.val 31 (.val 32 (.val 33 (.val 34 (.val 35 (.val 36 (.done))))))))))))))))))))))))))))))))))))))] Try.call17 Try.func17 rfl ⟨by kernel_rfl, by kernel_rfl⟩ (by kernel_rfl) ?_
  rw [Try.results17]
  simp -implicitDefEqProofs (maxSteps := 4000000) only [sim0, sim1, sim2, sim3, sim4, sim5, sim6, sim7, sim8, ↓reduceIte, Nat.reduceEqDiff, Nat.reduceAdd, Nat.reduceMul, Nat.reduceSub, Nat.reduceLT, Nat.reduceLeDiff, reduceCtorEq, Int.reduceToNat, Int.reduceNeg, Nat.reduceBEq, simx, ty, Sgt.row, idxS_map, loadS_map, stoS_map, ← List.map_take, ← List.map_drop]
  repeat' (first
    | ((with_reducible refine onQcall ?_); first
      | (refine qcallS isSecond_gc rfl rfl ?_ <;> try simp -implicitDefEqProofs (maxSteps := 4000000) only [sim0, sim1, sim2, sim3, sim4, sim5, sim6, sim7, sim8, ↓reduceIte, Nat.reduceEqDiff, Nat.reduceAdd, Nat.reduceMul, Nat.reduceSub, Nat.reduceLT, Nat.reduceLeDiff, reduceCtorEq, Int.reduceToNat, Int.reduceNeg, Nat.reduceBEq, simx, ty, Sgt.row, idxS_map, loadS_map, stoS_map, ← List.map_take, ← List.map_drop])
      | (refine qcallS within_gc rfl rfl ?_ <;> try simp -implicitDefEqProofs (maxSteps := 4000000) only [sim0, sim1, sim2, sim3, sim4, sim5, sim6, sim7, sim8, ↓reduceIte, Nat.reduceEqDiff, Nat.reduceAdd, Nat.reduceMul, Nat.reduceSub, Nat.reduceLT, Nat.reduceLeDiff, reduceCtorEq, Int.reduceToNat, Int.reduceNeg, Nat.reduceBEq, simx, ty, Sgt.row, idxS_map, loadS_map, stoS_map, ← List.map_take, ← List.map_drop])
      | (refine qcallS isAddress_gc rfl rfl ?_ <;> try simp -implicitDefEqProofs (maxSteps := 4000000) only [sim0, sim1, sim2, sim3, sim4, sim5, sim6, sim7, sim8, ↓reduceIte, Nat.reduceEqDiff, Nat.reduceAdd, Nat.reduceMul, Nat.reduceSub, Nat.reduceLT, Nat.reduceLeDiff, reduceCtorEq, Int.reduceToNat, Int.reduceNeg, Nat.reduceBEq, simx, ty, Sgt.row, idxS_map, loadS_map, stoS_map, ← List.map_take, ← List.map_drop])
      | (refine qcallS isValidPlace_gc rfl rfl ?_ <;> try simp -implicitDefEqProofs (maxSteps := 4000000) only [sim0, sim1, sim2, sim3, sim4, sim5, sim6, sim7, sim8, ↓reduceIte, Nat.reduceEqDiff, Nat.reduceAdd, Nat.reduceMul, Nat.reduceSub, Nat.reduceLT, Nat.reduceLeDiff, reduceCtorEq, Int.reduceToNat, Int.reduceNeg, Nat.reduceBEq, simx, ty, Sgt.row, idxS_map, loadS_map, stoS_map, ← List.map_take, ← List.map_drop])
      | fail)
    | ((with_reducible refine onCode ?_); first
      | (refine onLid 4 ?_ (by rfl); refine acode_prune [0, 2, 3, 4, 8, 9, 10] ?_; simp only [prn_cons, prn_nil, lk_cons, lk_emp, Nat.reduceEqDiff, ↓reduceIte]; refine acode_loopD2 4 (by rfl) (α := Int) (fun i => [(10, vi i)]) [2, 3, 4, 11, 12, 13, 14, 15, 16, 17, 18, 19, 20, 21, 22, 23, 24, 25, 26, 27, 28, 29, 30, 31, 32, 33, 34, 35, 36, 37, 38, 39, 40, 41, 42, 43, 44, 45, 46, 47, 48, 49, 50, 51, 52] [2, 3, 4] (by kernel_rfl) (fun i => (0 ≤ i ∧ i ≤ ts.length) ∧ (ts.length : Int) ≤ 20 ∧ sgGo ts 0 = sgGo ts i) (fun i => (ts.length - i).toNat) (0) ?_ (by first | (simp only [plnLL, pln, Value.oneCell', List.all_cons, List.all_nil, plnH, Sgt.pl, Bool.and_true, Bool.and_self]; done) | rfl) (by simp) rfl (by (try simp only []) <;> first | (simp_all [sgB]; done) | (simp_all [sgB]; omega) | omega) ?_; (focus ((try dsimp only []); (repeat' (first | exact agr_none | exact lk_hd | refine lk_tl (by decide) ?_ | refine agr_one ?_ ?_)); done)); rintro i hJ; (try simp only [] at hJ); have hJ4 := hJ; simp -implicitDefEqProofs (maxSteps := 4000000) only [sim0, sim1, sim2, sim3, sim4, sim5, sim6, sim7, sim8, ↓reduceIte, Nat.reduceEqDiff, Nat.reduceAdd, Nat.reduceMul, Nat.reduceSub, Nat.reduceLT, Nat.reduceLeDiff, reduceCtorEq, Int.reduceToNat, Int.reduceNeg, Nat.reduceBEq, simx, ty, Sgt.row, idxS_map, loadS_map, stoS_map, ← List.map_take, ← List.map_drop])
      | fail)
    | ((with_reducible refine onLpd ?_); first
      | (refine lpd2_end (α := Int) (mods := (fun i => [(10, vi i)])) _ (by (try dsimp only []); simp only [agr_cons, agr_nil, lk_cons, lk_emp, Nat.reduceEqDiff, ↓reduceIte, and_true]; repeat' (first | rfl | apply And.intro)) (by unfold undK; kernel_rfl) _ rfl rfl ?_ ?_ <;> ((try simp only []); (obtain ⟨hb, hm, hg⟩ := hJ; have e : IntKind.i64.wrap (i + 1) = i + 1 := wrap_id (by omega) (by omega); rw [e]; first | omega | (refine ⟨by omega, hm, ?_⟩; rw [hg, sgGo.eq_1 ts i, if_pos (by omega)]; have e2 : IntKind.i64.wrap (i - 1) = i - 1 := wrap_id (by omega) (by omega); simp_all [Sgt.b]; done))))
      | fail)
    | ((with_reducible refine onFin ?_); first
      | (refine fin_nil ?_; (first | (obtain ⟨hb, hm, hg⟩ := hJ; have e2 : 0 < i → IntKind.i64.wrap (i - 1) = i - 1 := fun h => wrap_id (by omega) (by omega); rw [sgGo.eq_1 ts i] at hg; (first | rw [if_pos (by omega)] at hg | rw [if_neg (by omega)] at hg); simp_all [Sgt.b, sgB, fins]; done) | (simp_all [fins, sgB]; done) | (simp_all [-Int.not_lt, -Int.not_le, fins, sgB]; done) | (simp_all [fins, sgB]; omega)))
      | fail)
    | (with_reducible refine ite_intro (fun hq => ?_) (fun hq => ?_))
    | (with_reducible refine And.intro (fun hq => ?_) (fun hq => ?_))
    | (with_reducible refine And.intro ?_ ?_)
    | ((fail_if_success (with_reducible refine onCode ?_)); (fail_if_success (with_reducible refine onLps ?_)); (fail_if_success (with_reducible refine onLpd ?_)); (fail_if_success (with_reducible refine onLpe ?_)); (fail_if_success (with_reducible refine onFin ?_)); (fail_if_success (with_reducible refine onCall ?_)); (fail_if_success (with_reducible refine onQcall ?_)); first | (((obtain ⟨hb, hm, hg⟩ := hJ; rw [wrap_id (by omega) (by omega)]; omega)); done) | omega | (rw [wrap_id (by omega) (by omega)]; omega) | (obtain ⟨hb, hm, hg⟩ := hJ; have e2 : 0 < i → IntKind.i64.wrap (i - 1) = i - 1 := fun h => wrap_id (by omega) (by omega); rw [sgGo.eq_1 ts i] at hg; (first | rw [if_pos (by omega)] at hg | rw [if_neg (by omega)] at hg); simp_all [Sgt.b, sgB, fins]; done)))

set_option maxRecDepth 100000 in
set_option maxHeartbeats 4000000 in
theorem l13Good_gc {ts : List Sgt} (hl : ts.length ≤ 1048576) : GC Try.prog 58 [.sl 5 (ts.map Sgt.e)] [] (fun r_ hs_ => r_ = vb (sgB ts) ∧ hs_ = []) := by
  refine GC.of_func [(5, .val 0 (.val 1 (.val 2 (.val 3 (.val 4 (.val 5 (.val 6 (.val 7 (.val 8 (.val 9 (.val 10 (.val 11 (.val 12 (.val 13 (.val 14 (.val 15 (.val 16 (.val 17 (.val 18 (.val 19 (.val 20 (.val 21 (.val 22 (.val 23 (.val 24 (.val 25 (.val 26 (.val 27 (.val 28 (.val 29 (.val 30 (.val 31 (.val 32 (.val 33 (.val 34 (.val 35 (.val 36 (.done))))))))))))))))))))))))))))))))))))))] Try.call58 Try.func58 rfl ⟨by kernel_rfl, by kernel_rfl⟩ (by kernel_rfl) ?_
  rw [Try.results58]
  simp -implicitDefEqProofs (maxSteps := 4000000) only [sim0, sim1, sim2, sim3, sim4, sim5, sim6, sim7, sim8, ↓reduceIte, Nat.reduceEqDiff, Nat.reduceAdd, Nat.reduceMul, Nat.reduceSub, Nat.reduceLT, Nat.reduceLeDiff, reduceCtorEq, Int.reduceToNat, Int.reduceNeg, Nat.reduceBEq, simx, ty, Sgt.row, idxS_map, loadS_map, stoS_map, ← List.map_take, ← List.map_drop]
  repeat' (first
    | ((with_reducible refine onQcall ?_); first
      | (refine qcallS l13Second_gc rfl rfl ?_ <;> try simp -implicitDefEqProofs (maxSteps := 4000000) only [sim0, sim1, sim2, sim3, sim4, sim5, sim6, sim7, sim8, ↓reduceIte, Nat.reduceEqDiff, Nat.reduceAdd, Nat.reduceMul, Nat.reduceSub, Nat.reduceLT, Nat.reduceLeDiff, reduceCtorEq, Int.reduceToNat, Int.reduceNeg, Nat.reduceBEq, simx, ty, Sgt.row, idxS_map, loadS_map, stoS_map, ← List.map_take, ← List.map_drop])
      | (refine qcallS l1In_gc rfl rfl ?_ <;> try simp -implicitDefEqProofs (maxSteps := 4000000) only [sim0, sim1, sim2, sim3, sim4, sim5, sim6, sim7, sim8, ↓reduceIte, Nat.reduceEqDiff, Nat.reduceAdd, Nat.reduceMul, Nat.reduceSub, Nat.reduceLT, Nat.reduceLeDiff, reduceCtorEq, Int.reduceToNat, Int.reduceNeg, Nat.reduceBEq, simx, ty, Sgt.row, idxS_map, loadS_map, stoS_map, ← List.map_take, ← List.map_drop])
      | (refine qcallS l13Address_gc rfl rfl ?_ <;> try simp -implicitDefEqProofs (maxSteps := 4000000) only [sim0, sim1, sim2, sim3, sim4, sim5, sim6, sim7, sim8, ↓reduceIte, Nat.reduceEqDiff, Nat.reduceAdd, Nat.reduceMul, Nat.reduceSub, Nat.reduceLT, Nat.reduceLeDiff, reduceCtorEq, Int.reduceToNat, Int.reduceNeg, Nat.reduceBEq, simx, ty, Sgt.row, idxS_map, loadS_map, stoS_map, ← List.map_take, ← List.map_drop])
      | (refine qcallS l7Good_gc rfl rfl ?_ <;> try simp -implicitDefEqProofs (maxSteps := 4000000) only [sim0, sim1, sim2, sim3, sim4, sim5, sim6, sim7, sim8, ↓reduceIte, Nat.reduceEqDiff, Nat.reduceAdd, Nat.reduceMul, Nat.reduceSub, Nat.reduceLT, Nat.reduceLeDiff, reduceCtorEq, Int.reduceToNat, Int.reduceNeg, Nat.reduceBEq, simx, ty, Sgt.row, idxS_map, loadS_map, stoS_map, ← List.map_take, ← List.map_drop])
      | fail)
    | ((with_reducible refine onCode ?_); first
      | (refine onLid 2 ?_ (by rfl); refine acode_prune [0, 2, 3, 4] ?_; simp only [prn_cons, prn_nil, lk_cons, lk_emp, Nat.reduceEqDiff, ↓reduceIte]; refine acode_loopD2 2 (by rfl) (α := Int) (fun i => [(3, vi i)]) [2, 4, 5, 6, 7, 8, 9, 10, 11, 12, 13, 14, 15, 16, 17, 18, 19, 20, 21, 22, 23, 24, 25, 26, 27, 28, 29, 30, 31, 32, 33, 34, 35, 36, 37, 38, 39, 40, 41, 42, 43, 44, 45, 46, 47, 48, 49, 50, 51] [2, 4] (by kernel_rfl) (fun i => (0 ≤ i ∧ i ≤ ts.length) ∧ sgGo ts 0 = sgGo ts i) (fun i => (ts.length - i).toNat) (0) ?_ (by first | (simp only [plnLL, pln, Value.oneCell', List.all_cons, List.all_nil, plnH, Sgt.pl, Bool.and_true, Bool.and_self]; done) | rfl) (by simp) rfl (by (try simp only []) <;> first | (simp_all [sgB]; done) | (simp_all [sgB]; omega) | omega) ?_; (focus ((try dsimp only []); (repeat' (first | exact agr_none | exact lk_hd | refine lk_tl (by decide) ?_ | refine agr_one ?_ ?_)); done)); rintro i hJ; (try simp only [] at hJ); have hJ2 := hJ; simp -implicitDefEqProofs (maxSteps := 4000000) only [sim0, sim1, sim2, sim3, sim4, sim5, sim6, sim7, sim8, ↓reduceIte, Nat.reduceEqDiff, Nat.reduceAdd, Nat.reduceMul, Nat.reduceSub, Nat.reduceLT, Nat.reduceLeDiff, reduceCtorEq, Int.reduceToNat, Int.reduceNeg, Nat.reduceBEq, simx, ty, Sgt.row, idxS_map, loadS_map, stoS_map, ← List.map_take, ← List.map_drop])
      | fail)
    | ((with_reducible refine onLpd ?_); first
      | (refine lpd2_end (α := Int) (mods := (fun i => [(3, vi i)])) _ (by (try dsimp only []); simp only [agr_cons, agr_nil, lk_cons, lk_emp, Nat.reduceEqDiff, ↓reduceIte, and_true]; repeat' (first | rfl | apply And.intro)) (by unfold undK; kernel_rfl) _ rfl rfl ?_ ?_ <;> ((try simp only []); (obtain ⟨hb, hg⟩ := hJ; have e : IntKind.i64.wrap (i + 1) = i + 1 := wrap_id (by omega) (by omega); rw [e]; first | omega | (refine ⟨by omega, ?_⟩; rw [hg, sgGo.eq_1 ts i, if_pos (by omega)]; have e2 : IntKind.i64.wrap (i - 1) = i - 1 := wrap_id (by omega) (by omega); simp_all [Sgt.b]; done))))
      | fail)
    | ((with_reducible refine onFin ?_); first
      | (refine fin_nil ?_; (first | (obtain ⟨hb, hg⟩ := hJ; have e2 : 0 < i → IntKind.i64.wrap (i - 1) = i - 1 := fun h => wrap_id (by omega) (by omega); rw [sgGo.eq_1 ts i] at hg; (first | rw [if_pos (by omega)] at hg | rw [if_neg (by omega)] at hg); simp_all [Sgt.b, sgB, fins]; done) | (simp_all [fins, sgB]; done) | (simp_all [-Int.not_lt, -Int.not_le, fins, sgB]; done) | (simp_all [fins, sgB]; omega)))
      | fail)
    | (with_reducible refine ite_intro (fun hq => ?_) (fun hq => ?_))
    | (with_reducible refine And.intro (fun hq => ?_) (fun hq => ?_))
    | (with_reducible refine And.intro ?_ ?_)
    | ((fail_if_success (with_reducible refine onCode ?_)); (fail_if_success (with_reducible refine onLps ?_)); (fail_if_success (with_reducible refine onLpd ?_)); (fail_if_success (with_reducible refine onLpe ?_)); (fail_if_success (with_reducible refine onFin ?_)); (fail_if_success (with_reducible refine onCall ?_)); (fail_if_success (with_reducible refine onQcall ?_)); first | (((obtain ⟨hb, hg⟩ := hJ; rw [wrap_id (by omega) (by omega)]; omega)); done) | omega | (rw [wrap_id (by omega) (by omega)]; omega) | (obtain ⟨hb, hg⟩ := hJ; have e2 : 0 < i → IntKind.i64.wrap (i - 1) = i - 1 := fun h => wrap_id (by omega) (by omega); rw [sgGo.eq_1 ts i] at hg; (first | rw [if_pos (by omega)] at hg | rw [if_neg (by omega)] at hg); simp_all [Sgt.b, sgB, fins]; done)))

set_option maxRecDepth 100000 in
set_option maxHeartbeats 4000000 in
theorem sIsValidSightings_gc {ts : List Sgt} (hl : ts.length ≤ 1048576) : GC Try.prog 15 [.sl 5 (ts.map Sgt.e)] [] (fun r_ hs_ => r_ = vb (sgB ts) ∧ hs_ = []) := by
  refine GC.of_func [] Try.call15 Try.func15 rfl ⟨by kernel_rfl, by kernel_rfl⟩ (by kernel_rfl) ?_
  rw [Try.results15]
  simp -implicitDefEqProofs (maxSteps := 4000000) only [sim0, sim1, sim2, sim3, sim4, sim5, sim6, sim7, sim8, ↓reduceIte, Nat.reduceEqDiff, Nat.reduceAdd, Nat.reduceMul, Nat.reduceSub, Nat.reduceLT, Nat.reduceLeDiff, reduceCtorEq, Int.reduceToNat, Int.reduceNeg, Nat.reduceBEq, simx, ty, Sgt.row, idxS_map, loadS_map, stoS_map, ← List.map_take, ← List.map_drop]
  repeat' (first
    | ((with_reducible refine onCall ?_); first
      | (refine GC.callR (by repeat' (first | exact rdL_nil | refine rdL_cons ?_ ?_ | exact rd_v | exact rd_sl | exact rd_nil | refine rd_ref rfl (by simp) (plnLL_map (fun _ => rfl) _) | refine rd_rs rfl (by simp; omega) (plnLL_map (fun _ => rfl) _) | refine rd_agg ?_)) (l13Good_gc ?_) rfl ?_ <;> try simp -implicitDefEqProofs (maxSteps := 4000000) only [sim0, sim1, sim2, sim3, sim4, sim5, sim6, sim7, sim8, ↓reduceIte, Nat.reduceEqDiff, Nat.reduceAdd, Nat.reduceMul, Nat.reduceSub, Nat.reduceLT, Nat.reduceLeDiff, reduceCtorEq, Int.reduceToNat, Int.reduceNeg, Nat.reduceBEq, simx, ty, Sgt.row, idxS_map, loadS_map, stoS_map, ← List.map_take, ← List.map_drop])
      | fail)
    | ((with_reducible refine onFin ?_); first
      | (refine fin_nil ?_; (first | (simp_all [fins]; done) | (simp_all [-Int.not_lt, -Int.not_le, fins]; done) | (simp_all [fins]; omega)))
      | fail)
    | (with_reducible refine ite_intro (fun hq => ?_) (fun hq => ?_))
    | (with_reducible refine And.intro (fun hq => ?_) (fun hq => ?_))
    | (with_reducible refine And.intro ?_ ?_)
    | ((fail_if_success (with_reducible refine onCode ?_)); (fail_if_success (with_reducible refine onLps ?_)); (fail_if_success (with_reducible refine onLpd ?_)); (fail_if_success (with_reducible refine onLpe ?_)); (fail_if_success (with_reducible refine onFin ?_)); (fail_if_success (with_reducible refine onCall ?_)); (fail_if_success (with_reducible refine onQcall ?_)); first | ((exact hl); done) | omega | (rw [wrap_id (by omega) (by omega)]; omega) | (simp_all; done)))

set_option maxRecDepth 100000 in
set_option maxHeartbeats 4000000 in
theorem FnExactIsValidSightings_g0 {ts : List Sgt} (hl : ts.length ≤ maxLen) : GC Try.prog 3 [.sl 5 (ts.map Sgt.e)] [] (fun r _ => r = vb true) := by
  refine GC.of_func [] Try.call3 Try.func3 rfl ⟨by kernel_rfl, by kernel_rfl⟩ (by kernel_rfl) ?_
  rw [Try.results3]
  simp -implicitDefEqProofs (maxSteps := 4000000) only [sim0, sim1, sim2, sim3, sim4, sim5, sim6, sim7, sim8, ↓reduceIte, Nat.reduceEqDiff, Nat.reduceAdd, Nat.reduceMul, Nat.reduceSub, Nat.reduceLT, Nat.reduceLeDiff, reduceCtorEq, Int.reduceToNat, Int.reduceNeg, Nat.reduceBEq, simx, ty, Sgt.row, idxS_map, loadS_map, stoS_map, ← List.map_take, ← List.map_drop, sz_neg]
  repeat' (first
    | ((with_reducible refine onCall ?_); first
      | (refine GC.callR (by repeat' (first | exact rdL_nil | refine rdL_cons ?_ ?_ | exact rd_v | exact rd_sl | exact rd_nil | refine rd_ref rfl (by simp) (plnLL_map (fun _ => rfl) _) | refine rd_rs rfl (by simp; omega) (plnLL_map (fun _ => rfl) _) | refine rd_agg ?_)) (szSightingS_gc ?_ ?_) rfl ?_ <;> try simp -implicitDefEqProofs (maxSteps := 4000000) only [sim0, sim1, sim2, sim3, sim4, sim5, sim6, sim7, sim8, ↓reduceIte, Nat.reduceEqDiff, Nat.reduceAdd, Nat.reduceMul, Nat.reduceSub, Nat.reduceLT, Nat.reduceLeDiff, reduceCtorEq, Int.reduceToNat, Int.reduceNeg, Nat.reduceBEq, simx, ty, Sgt.row, idxS_map, loadS_map, stoS_map, ← List.map_take, ← List.map_drop, sz_neg])
      | (refine GC.use true [] (toSightingS_gc ?_) rfl trivial (by repeat' (first | exact arL_nil | refine arL_cons ?_ ?_ | exact ar_v | exact ar_sl | exact ar_nil | refine ar_ref rfl rfl (by simp) (plnLL_map (fun _ => rfl) _) | refine ar_rs rfl rfl (by simp; omega) (plnLL_map (fun _ => rfl) _) | refine ar_agg ?_)) (.inr ⟨rfl, by first | rfl | simp [Sgt.ns]⟩) ?_ <;> try simp -implicitDefEqProofs (maxSteps := 4000000) only [sim0, sim1, sim2, sim3, sim4, sim5, sim6, sim7, sim8, ↓reduceIte, Nat.reduceEqDiff, Nat.reduceAdd, Nat.reduceMul, Nat.reduceSub, Nat.reduceLT, Nat.reduceLeDiff, reduceCtorEq, Int.reduceToNat, Int.reduceNeg, Nat.reduceBEq, simx, ty, Sgt.row, idxS_map, loadS_map, stoS_map, ← List.map_take, ← List.map_drop, sz_neg])
      | (refine GC.callR (by repeat' (first | exact rdL_nil | refine rdL_cons ?_ ?_ | exact rd_v | exact rd_sl | exact rd_nil | refine rd_ref rfl (by simp) (plnLL_map (fun _ => rfl) _) | refine rd_rs rfl (by simp; omega) (plnLL_map (fun _ => rfl) _) | refine rd_agg ?_)) (sIsValidSightings_gc ?_) rfl ?_ <;> try simp -implicitDefEqProofs (maxSteps := 4000000) only [sim0, sim1, sim2, sim3, sim4, sim5, sim6, sim7, sim8, ↓reduceIte, Nat.reduceEqDiff, Nat.reduceAdd, Nat.reduceMul, Nat.reduceSub, Nat.reduceLT, Nat.reduceLeDiff, reduceCtorEq, Int.reduceToNat, Int.reduceNeg, Nat.reduceBEq, simx, ty, Sgt.row, idxS_map, loadS_map, stoS_map, ← List.map_take, ← List.map_drop, sz_neg])
      | (refine GC.callR (by repeat' (first | exact rdL_nil | refine rdL_cons ?_ ?_ | exact rd_v | exact rd_sl | exact rd_nil | refine rd_ref rfl (by simp) (plnLL_map (fun _ => rfl) _) | refine rd_rs rfl (by simp; omega) (plnLL_map (fun _ => rfl) _) | refine rd_agg ?_)) isValidSightings_gc rfl ?_ <;> try simp -implicitDefEqProofs (maxSteps := 4000000) only [sim0, sim1, sim2, sim3, sim4, sim5, sim6, sim7, sim8, ↓reduceIte, Nat.reduceEqDiff, Nat.reduceAdd, Nat.reduceMul, Nat.reduceSub, Nat.reduceLT, Nat.reduceLeDiff, reduceCtorEq, Int.reduceToNat, Int.reduceNeg, Nat.reduceBEq, simx, ty, Sgt.row, idxS_map, loadS_map, stoS_map, ← List.map_take, ← List.map_drop, sz_neg])
      | (refine GC.callR (by repeat' (first | exact rdL_nil | refine rdL_cons ?_ ?_ | exact rd_v | exact rd_sl | exact rd_nil | refine rd_ref rfl (by simp) (plnLL_map (fun _ => rfl) _) | refine rd_rs rfl (by simp; omega) (plnLL_map (fun _ => rfl) _) | refine rd_agg ?_)) (eqSightingS_gc ?_) rfl ?_ <;> try simp -implicitDefEqProofs (maxSteps := 4000000) only [sim0, sim1, sim2, sim3, sim4, sim5, sim6, sim7, sim8, ↓reduceIte, Nat.reduceEqDiff, Nat.reduceAdd, Nat.reduceMul, Nat.reduceSub, Nat.reduceLT, Nat.reduceLeDiff, reduceCtorEq, Int.reduceToNat, Int.reduceNeg, Nat.reduceBEq, simx, ty, Sgt.row, idxS_map, loadS_map, stoS_map, ← List.map_take, ← List.map_drop, sz_neg])
      | fail)
    | ((with_reducible refine onFin ?_); first
      | (refine fin_law ?_; (first | (simp_all [fins]; done) | (simp_all [-Int.not_lt, -Int.not_le, fins]; done) | (simp_all [fins]; omega)))
      | fail)
    | (with_reducible refine ite_intro (fun hq => ?_) (fun hq => ?_))
    | (with_reducible refine And.intro (fun hq => ?_) (fun hq => ?_))
    | (with_reducible refine And.intro ?_ ?_)
    | ((fail_if_success (with_reducible refine onCode ?_)); (fail_if_success (with_reducible refine onLps ?_)); (fail_if_success (with_reducible refine onLpd ?_)); (fail_if_success (with_reducible refine onLpe ?_)); (fail_if_success (with_reducible refine onFin ?_)); (fail_if_success (with_reducible refine onCall ?_)); (fail_if_success (with_reducible refine onQcall ?_)); first | ((omega); done) | omega | (rw [wrap_id (by omega) (by omega)]; omega) | (simp_all; done)))

theorem FnExactIsValidSightings_gc (xs : List (List Int)) (w : ∀ e ∈ xs, e.length = 5 ∧ ∀ z ∈ e, (Lit.int .i64 z).wf = true) (m : xs.length ≤ maxLen) : GC Try.prog 3 [.sl 5 (els .i64 xs)] [] (fun r _ => r = vb true) := by
  obtain ⟨ts, h1, h2, h3⟩ := Sgt.of w
  rw [h1]; exact FnExactIsValidSightings_g0 (by omega)
end Go.Proofs.Ytgcmahhejblpkaa
