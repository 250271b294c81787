/-
Rows of places and numbers, and contracts of what copies, compares and marks lists, over plain data.
No condition but those that the contracts name.
-/
import Derived.Test.YtejahpnbplcgnaaT3
import Derived.Test.YtejahpnbplcgnaaW2
import Derived.Test.YtejahpnbplcgnaaVT
import Derived.Test.YtejahpnbplcgnaaVW
namespace Go.Proofs.Ytejahpnbplcgnaa
open Eng
set_option linter.unusedSimpArgs false
set_option linter.unusedVariables false
structure Plc where
  x : Int
  y : Int
instance : Inhabited Plc := ⟨⟨0, 0⟩⟩
def Plc.e (t : Plc) : List AV := [vi t.x, vi t.y]
theorem Plc.ee {t : Plc} : Plc.e t = [vi t.x, vi t.y] := (rfl)
theorem Plc.pl {ts : List Plc} : plnLL (ts.map Plc.e) = true := plnLL_map (fun _ => rfl) ts
theorem Plc.ns {z : Nat} {ts : List Plc} : noslE (.arr z (ts.map Plc.e)) = true := nosl_map (fun _ => rfl) ts
theorem Plc.rn {n0 z : Nat} {is : List Nat} {ts : List Plc} : rnE n0 is (.arr z (ts.map Plc.e)) = .arr z (ts.map Plc.e) := rnE_pln Plc.pl
theorem Plc.up {n z : Nat} {r : List Nat} {ts : List Plc} : upE r n (.arr z (ts.map Plc.e)) = .arr z (ts.map Plc.e) := upE_pln Plc.pl
theorem Plc.st {ts : List Plc} {i : Nat} {a0 a1 : Int} : (ts.map Plc.e).set i [vi a0, vi a1] = (ts.set i ⟨a0, a1⟩).map Plc.e := by rw [List.map_set]; rfl
theorem Plc.ap {ts : List Plc} {a0 a1 : Int} : ts.map Plc.e ++ [[vi a0, vi a1]] = (ts ++ [(⟨a0, a1⟩ : Plc)]).map Plc.e := by rw [List.map_append]; rfl
theorem Plc.aq {ts us : List Plc} : ts.map Plc.e ++ us.map Plc.e = (ts ++ us).map Plc.e := by rw [List.map_append]
theorem Plc.rp {n : Nat} : List.replicate n [AV.v (.int .i64 0), AV.v (.int .i64 0)] = (List.replicate n (default : Plc)).map Plc.e := by rw [List.map_replicate]; rfl
theorem Plc.row : (type_of% @Plc.ee) ∧ (type_of% @Plc.pl) ∧ (type_of% @Plc.ns) ∧ (type_of% @Plc.rn) ∧ (type_of% @Plc.up) ∧ (type_of% @Plc.st) ∧ (type_of% @Plc.ap) ∧ (type_of% @Plc.aq) ∧ (type_of% @Plc.rp) :=
  ⟨@Plc.ee, @Plc.pl, @Plc.ns, @Plc.rn, @Plc.up, @Plc.st, @Plc.ap, @Plc.aq, @Plc.rp⟩
theorem Plc.x_ite {c : Prop} [Decidable c] {x y : Plc} : (if c then x else y).x = if c then x.x else y.x := by split <;> rfl
theorem Plc.y_ite {c : Prop} [Decidable c] {x y : Plc} : (if c then x else y).y = if c then x.y else y.y := by split <;> rfl
theorem Plc.ite : (type_of% @Plc.x_ite) ∧ (type_of% @Plc.y_ite) :=
  ⟨@Plc.x_ite, @Plc.y_ite⟩
def Plc.ok (t : Plc) : Prop := I64 t.x ∧ I64 t.y
theorem Plc.of : ∀ {xs : List (List Int)}, (∀ e ∈ xs, e.length = 2 ∧ ∀ z ∈ e, (Lit.int .i64 z).wf = true) → ∃ ts : List Plc, els .i64 xs = ts.map Plc.e ∧ ts.length = xs.length ∧ ∀ t ∈ ts, t.ok
  | [], _ => ⟨[], rfl, rfl, by simp⟩
  | e :: xs, h => by
    obtain ⟨ts, h1, h2, h3⟩ := Plc.of (xs := xs) fun e he => h e (by simp [he])
    obtain ⟨h4, h5⟩ := h e (by simp)
    match e, h4, h5 with
    | [a0, a1], _, h5 =>
      refine ⟨⟨a0, a1⟩ :: ts, ?_, by simp [h2], ?_⟩
      · simp only [els, List.map_cons] at h1 ⊢
        rw [h1]; rfl
      · intro t ht
        rcases List.mem_cons.1 ht with rfl | ht
        · exact ⟨h5 _ (by simp), h5 _ (by simp)⟩
        · exact h3 t ht

structure It where
  n : Int
instance : Inhabited It := ⟨⟨0⟩⟩
def It.e (t : It) : List AV := [vi t.n]
theorem It.ee {t : It} : It.e t = [vi t.n] := (rfl)
theorem It.pl {ts : List It} : plnLL (ts.map It.e) = true := plnLL_map (fun _ => rfl) ts
theorem It.ns {z : Nat} {ts : List It} : noslE (.arr z (ts.map It.e)) = true := nosl_map (fun _ => rfl) ts
theorem It.rn {n0 z : Nat} {is : List Nat} {ts : List It} : rnE n0 is (.arr z (ts.map It.e)) = .arr z (ts.map It.e) := rnE_pln It.pl
theorem It.up {n z : Nat} {r : List Nat} {ts : List It} : upE r n (.arr z (ts.map It.e)) = .arr z (ts.map It.e) := upE_pln It.pl
theorem It.st {ts : List It} {i : Nat} {a0 : Int} : (ts.map It.e).set i [vi a0] = (ts.set i ⟨a0⟩).map It.e := by rw [List.map_set]; rfl
theorem It.ap {ts : List It} {a0 : Int} : ts.map It.e ++ [[vi a0]] = (ts ++ [(⟨a0⟩ : It)]).map It.e := by rw [List.map_append]; rfl
theorem It.aq {ts us : List It} : ts.map It.e ++ us.map It.e = (ts ++ us).map It.e := by rw [List.map_append]
theorem It.rp {n : Nat} : List.replicate n [AV.v (.int .i64 0)] = (List.replicate n (default : It)).map It.e := by rw [List.map_replicate]; rfl
theorem It.row : (type_of% @It.ee) ∧ (type_of% @It.pl) ∧ (type_of% @It.ns) ∧ (type_of% @It.rn) ∧ (type_of% @It.up) ∧ (type_of% @It.st) ∧ (type_of% @It.ap) ∧ (type_of% @It.aq) ∧ (type_of% @It.rp) :=
  ⟨@It.ee, @It.pl, @It.ns, @It.rn, @It.up, @It.st, @It.ap, @It.aq, @It.rp⟩
theorem It.n_ite {c : Prop} [Decidable c] {x y : It} : (if c then x else y).n = if c then x.n else y.n := by split <;> rfl
theorem It.ite : (type_of% @It.n_ite) :=
  @It.n_ite
def It.ok (t : It) : Prop := I64 t.n
theorem It.of : ∀ {xs : List (List Int)}, (∀ e ∈ xs, e.length = 1 ∧ ∀ z ∈ e, (Lit.int .i64 z).wf = true) → ∃ ts : List It, els .i64 xs = ts.map It.e ∧ ts.length = xs.length ∧ ∀ t ∈ ts, t.ok
  | [], _ => ⟨[], rfl, rfl, by simp⟩
  | e :: xs, h => by
    obtain ⟨ts, h1, h2, h3⟩ := It.of (xs := xs) fun e he => h e (by simp [he])
    obtain ⟨h4, h5⟩ := h e (by simp)
    match e, h4, h5 with
    | [a0], _, h5 =>
      refine ⟨⟨a0⟩ :: ts, ?_, by simp [h2], ?_⟩
      · simp only [els, List.map_cons] at h1 ⊢
        rw [h1]; rfl
      · intro t ht
        rcases List.mem_cons.1 ht with rfl | ht
        · exact h5 _ (by simp)
        · exact h3 t ht

set_option maxRecDepth 100000 in
set_option maxHeartbeats 4000000 in
theorem eqPlace_gc {a0 a1 b0 b1 : Int} : GC Try.prog 82 [.agg [vi a0, vi a1], .agg [vi b0, vi b1]] [] (fun r_ hs_ => r_ = vb (a0 == b0 && a1 == b1) ∧ hs_ = []) := by
  refine GC.of_func [] Try.call82 Try.func82 rfl ⟨by kernel_rfl, by kernel_rfl⟩ (by kernel_rfl) ?_
  rw [Try.results82]
  simp -implicitDefEqProofs (maxSteps := 4000000) only [sim0, sim1, sim2, sim3, sim4, sim5, sim6, sim7, sim8, ↓reduceIte, Nat.reduceEqDiff, Nat.reduceAdd, Nat.reduceMul, Nat.reduceSub, Nat.reduceLT, Nat.reduceLeDiff, reduceCtorEq, Int.reduceToNat, Int.reduceNeg, Nat.reduceBEq, simx, ty]
  repeat' (first
    | ((with_reducible refine onFin ?_); first
      | (refine fin_nil ?_; (first | (simp_all [fins]; done) | (simp_all [-Int.not_lt, -Int.not_le, fins]; done) | (simp_all [fins]; omega)))
      | fail)
    | (with_reducible refine ite_intro (fun hq => ?_) (fun hq => ?_))
    | (with_reducible refine And.intro (fun hq => ?_) (fun hq => ?_))
    | (with_reducible refine And.intro ?_ ?_)
    | ((fail_if_success (with_reducible refine onCode ?_)); (fail_if_success (with_reducible refine onLps ?_)); (fail_if_success (with_reducible refine onLpd ?_)); (fail_if_success (with_reducible refine onLpe ?_)); (fail_if_success (with_reducible refine onFin ?_)); (fail_if_success (with_reducible refine onCall ?_)); (fail_if_success (with_reducible refine onQcall ?_)); first | omega | (rw [wrap_id (by omega) (by omega)]; omega) | (simp_all; done)))

set_option maxRecDepth 100000 in
set_option maxHeartbeats 4000000 in
theorem szPlaceS_gc {ts : List Plc} {n : Int} (hn : 0 ≤ n ∧ n ≤ 1048576) (hl : ts.length ≤ maxLen) : GC Try.prog 41 [.sl 2 (ts.map Plc.e), vi n] [] (fun r_ hs_ => r_ = vi (if n < (ts.length : Int) then -1 else n - ts.length) ∧ hs_ = []) := by
  refine GC.of_func [] Try.call41 Try.func41 rfl ⟨by kernel_rfl, by kernel_rfl⟩ (by kernel_rfl) ?_
  rw [Try.results41]
  simp -implicitDefEqProofs (maxSteps := 4000000) only [sim0, sim1, sim2, sim3, sim4, sim5, sim6, sim7, sim8, ↓reduceIte, Nat.reduceEqDiff, Nat.reduceAdd, Nat.reduceMul, Nat.reduceSub, Nat.reduceLT, Nat.reduceLeDiff, reduceCtorEq, Int.reduceToNat, Int.reduceNeg, Nat.reduceBEq, simx, ty, Trk.row, Plc.row, It.row, idxS_map, loadS_map, stoS_map, ← List.map_take, ← List.map_drop]
  repeat' (first
    | ((with_reducible refine onFin ?_); first
      | (refine fin_nil ?_; (first | (have hm : maxLen = 9223372036854775807 := rfl; have e : IntKind.i64.wrap (n - ↑ts.length) = n - ↑ts.length := wrap_id (by omega) (by omega); (try rw [e] at hq); (try rw [e]); first | (rw [if_pos (by omega)]; simp [fins]; done) | (rw [if_neg (by omega)]; simp [fins]; done)) | (simp_all [fins]; done) | (simp_all [-Int.not_lt, -Int.not_le, fins]; done) | (simp_all [fins]; omega)))
      | fail)
    | (with_reducible refine ite_intro (fun hq => ?_) (fun hq => ?_))
    | (with_reducible refine And.intro (fun hq => ?_) (fun hq => ?_))
    | (with_reducible refine And.intro ?_ ?_)
    | ((fail_if_success (with_reducible refine onCode ?_)); (fail_if_success (with_reducible refine onLps ?_)); (fail_if_success (with_reducible refine onLpd ?_)); (fail_if_success (with_reducible refine onLpe ?_)); (fail_if_success (with_reducible refine onFin ?_)); (fail_if_success (with_reducible refine onCall ?_)); (fail_if_success (with_reducible refine onQcall ?_)); first | omega | (rw [wrap_id (by omega) (by omega)]; omega) | (have hm : maxLen = 9223372036854775807 := rfl; have e : IntKind.i64.wrap (n - ↑ts.length) = n - ↑ts.length := wrap_id (by omega) (by omega); (try rw [e] at hq); (try rw [e]); first | (rw [if_pos (by omega)]; simp [fins]; done) | (rw [if_neg (by omega)]; simp [fins]; done))))

set_option maxRecDepth 100000 in
set_option maxHeartbeats 4000000 in
theorem toPlaceS_gc {ts : List Plc} (hl : ts.length ≤ 1048576) : GC Try.prog 44 [.sl 2 (ts.map Plc.e)] [] (fun r_ hs_ => r_ = .ref 0 ts.length ∧ hs_ = [.arr 2 (ts.map Plc.e)]) := by
  refine GC.of_func [] Try.call44 Try.func44 rfl ⟨by kernel_rfl, by kernel_rfl⟩ (by kernel_rfl) ?_
  rw [Try.results44]
  simp -implicitDefEqProofs (maxSteps := 4000000) only [sim0, sim1, sim2, sim3, sim4, sim5, sim6, sim7, sim8, ↓reduceIte, Nat.reduceEqDiff, Nat.reduceAdd, Nat.reduceMul, Nat.reduceSub, Nat.reduceLT, Nat.reduceLeDiff, reduceCtorEq, Int.reduceToNat, Int.reduceNeg, Nat.reduceBEq, simx, ty, Trk.row, Plc.row, It.row, idxS_map, loadS_map, stoS_map, ← List.map_take, ← List.map_drop]
  repeat' (first
    | ((with_reducible refine onCall ?_); first
      | (refine GC.callS toPlace_gc rfl rfl ?_ <;> try simp -implicitDefEqProofs (maxSteps := 4000000) only [sim0, sim1, sim2, sim3, sim4, sim5, sim6, sim7, sim8, ↓reduceIte, Nat.reduceEqDiff, Nat.reduceAdd, Nat.reduceMul, Nat.reduceSub, Nat.reduceLT, Nat.reduceLeDiff, reduceCtorEq, Int.reduceToNat, Int.reduceNeg, Nat.reduceBEq, simx, ty, Trk.row, Plc.row, It.row, idxS_map, loadS_map, stoS_map, ← List.map_take, ← List.map_drop])
      | fail)
    | ((with_reducible refine onCode ?_); first
      | (refine onLid 3 ?_ (by rfl); refine acode_prune [0, 2, 3, 4] ?_; simp only [prn_cons, prn_nil, lk_cons, lk_emp, Nat.reduceEqDiff, ↓reduceIte]; refine acode_loopE2 3 (by rfl) (α := Int × List Plc) (fun ⟨i, us⟩ => [(4, vi i), (3, .ref 0 ts.length)]) [8, 9, 10, 11, 12, 13, 14, 15, 16, 17, 18, 19, 20, 21] [] (by kernel_rfl) [] (fun ⟨i, us⟩ => [.arr 2 (us.map Plc.e)]) (fun _ => by simp) (fun _ _ => rfl) (fun ⟨i, us⟩ => (0 ≤ i ∧ i ≤ ts.length) ∧ us.length = ts.length ∧ us.take i.toNat = ts.take i.toNat) (fun ⟨i, us⟩ => (ts.length - i).toNat) ((0, List.replicate ts.length default)) ?_ ?_ (by (try simp only []) <;> first | (simp_all; done) | (simp_all; omega) | omega) ?_; (focus ((try dsimp only []); (repeat' (first | exact agr_none | exact lk_hd | refine lk_tl (by decide) ?_ | refine agr_one ?_ ?_)); done)); (focus (first | rfl | (simp; done))); rintro ⟨i, us⟩ hJ; (try simp only [] at hJ); have hJ3 := hJ; simp -implicitDefEqProofs (maxSteps := 4000000) only [sim0, sim1, sim2, sim3, sim4, sim5, sim6, sim7, sim8, ↓reduceIte, Nat.reduceEqDiff, Nat.reduceAdd, Nat.reduceMul, Nat.reduceSub, Nat.reduceLT, Nat.reduceLeDiff, reduceCtorEq, Int.reduceToNat, Int.reduceNeg, Nat.reduceBEq, simx, ty, Trk.row, Plc.row, It.row, idxS_map, loadS_map, stoS_map, ← List.map_take, ← List.map_drop])
      | fail)
    | ((with_reducible refine onLpe ?_); first
      | (refine lpe2_end0 (α := Int × List Plc) (mods := (fun ⟨i, us⟩ => [(4, vi i), (3, .ref 0 ts.length)])) [0] (_, _) rfl rfl rfl (by (try dsimp only []); rfl) (by first | (simp only [plnLL, pln, Value.oneCell', List.all_cons, List.all_nil, plnH, Trk.pl, Plc.pl, It.pl, Bool.and_true, Bool.and_self]; done) | rfl) (by (try dsimp only []); simp only [agrR_cons, agrR_nil, lk_cons, lk_emp, Nat.reduceEqDiff, ↓reduceIte, and_true]; repeat' (first | exact rn_v | rfl | (simp only [List.length_append, List.length_cons, List.length_nil]; rfl) | apply And.intro)) (by unfold undK; kernel_rfl) ?_ ?_ <;> ((try simp only []); (obtain ⟨hb, hm, hg⟩ := hJ; have e : IntKind.i64.wrap (i + 1) = i + 1 := wrap_id (by omega) (by omega); rw [e]; first | omega | (refine ⟨by omega, by simp [hm], ?_⟩; have e2 : (i + 1).toNat = i.toNat + 1 := (by omega); rw [e2]; exact take_set' rfl hm (by omega) hg))))
      | fail)
    | ((with_reducible refine onFin ?_); first
      | (refine fin_own' ?_ ?_ (by simp) (by first | (simp only [plnLL, pln, Value.oneCell', List.all_cons, List.all_nil, plnH, Trk.pl, Plc.pl, It.pl, Bool.and_true, Bool.and_self, List.take_zero, List.nil_append, List.map_cons, List.map_nil]; done) | rfl) <;> (first | (obtain ⟨hb, hm, hg⟩ := hJ; first | rfl | (have e2 : i.toNat = ts.length := (by omega); have h1 : us.take ts.length = us := List.take_of_length_le (by omega); have h2 : ts.take ts.length = ts := List.take_length; rw [e2, h1, h2] at hg; subst hg; rfl)) | (simp_all [fins]; done) | (simp_all [-Int.not_lt, -Int.not_le, fins]; done) | (simp_all [fins]; omega)))
      | (refine fin_ownT' ?_ ?_ ?_ (by simp) (by first | (simp only [plnLL, pln, Value.oneCell', List.all_cons, List.all_nil, plnH, Trk.pl, Plc.pl, It.pl, Bool.and_true, Bool.and_self, List.take_zero, List.nil_append, List.map_cons, List.map_nil]; done) | rfl) rfl <;> (first | (obtain ⟨hb, hm, hg⟩ := hJ; first | rfl | (have e2 : i.toNat = ts.length := (by omega); have h1 : us.take ts.length = us := List.take_of_length_le (by omega); have h2 : ts.take ts.length = ts := List.take_length; rw [e2, h1, h2] at hg; subst hg; rfl)) | (simp_all [fins]; done) | (simp_all [-Int.not_lt, -Int.not_le, fins]; done) | (simp_all [fins]; omega)))
      | (refine fin_ids ?_ ?_ ?_ (by first | (simp only [plnLL, pln, Value.oneCell', List.all_cons, List.all_nil, plnH, Trk.pl, Plc.pl, It.pl, Bool.and_true, Bool.and_self, List.take_zero, List.nil_append, List.map_cons, List.map_nil]; done) | rfl) <;> (first | (obtain ⟨hb, hm, hg⟩ := hJ; first | rfl | (have e2 : i.toNat = ts.length := (by omega); have h1 : us.take ts.length = us := List.take_of_length_le (by omega); have h2 : ts.take ts.length = ts := List.take_length; rw [e2, h1, h2] at hg; subst hg; rfl)) | (simp_all [fins, funs]; done) | (simp [fins, funs]; done) | (simp_all [-Int.not_lt, -Int.not_le, fins, funs]; done) | (simp_all [fins, funs]; omega)))
      | fail)
    | (with_reducible refine ite_intro (fun hq => ?_) (fun hq => ?_))
    | (with_reducible refine And.intro (fun hq => ?_) (fun hq => ?_))
    | (with_reducible refine And.intro ?_ ?_)
    | ((fail_if_success (with_reducible refine onCode ?_)); (fail_if_success (with_reducible refine onLps ?_)); (fail_if_success (with_reducible refine onLpd ?_)); (fail_if_success (with_reducible refine onLpe ?_)); (fail_if_success (with_reducible refine onFin ?_)); (fail_if_success (with_reducible refine onCall ?_)); (fail_if_success (with_reducible refine onQcall ?_)); first | omega | (rw [wrap_id (by omega) (by omega)]; omega) | (obtain ⟨hb, hm, hg⟩ := hJ; first | rfl | (have e2 : i.toNat = ts.length := (by omega); have h1 : us.take ts.length = us := List.take_of_length_le (by omega); have h2 : ts.take ts.length = ts := List.take_length; rw [e2, h1, h2] at hg; subst hg; rfl))))

set_option maxRecDepth 100000 in
set_option maxHeartbeats 4000000 in
theorem eqPlaceS_gc {ts : List Plc} (hl : ts.length ≤ 1048576) : GC Try.prog 46 [.sl 2 (ts.map Plc.e), .sl 2 (ts.map Plc.e)] [] (fun r_ hs_ => r_ = vb true ∧ hs_ = []) := by
  refine GC.of_func [(6, .val 0 (.val 1 (.val 2 (.val 3 (.val 4 (.val 5 (.val 6 (.val 7 (.val 8 (.val 9 (.done)))))))))))] Try.call46 Try.func46 rfl ⟨by kernel_rfl, by kernel_rfl⟩ (by kernel_rfl) ?_
  rw [Try.results46]
  simp -implicitDefEqProofs (maxSteps := 4000000) only [sim0, sim1, sim2, sim3, sim4, sim5, sim6, sim7, sim8, ↓reduceIte, Nat.reduceEqDiff, Nat.reduceAdd, Nat.reduceMul, Nat.reduceSub, Nat.reduceLT, Nat.reduceLeDiff, reduceCtorEq, Int.reduceToNat, Int.reduceNeg, Nat.reduceBEq, simx, ty, Trk.row, Plc.row, It.row, idxS_map, loadS_map, stoS_map, ← List.map_take, ← List.map_drop]
  repeat' (first
    | ((with_reducible refine onQcall ?_); first
      | (refine qcallS eqPlace_gc rfl rfl ?_ <;> try simp -implicitDefEqProofs (maxSteps := 4000000) only [sim0, sim1, sim2, sim3, sim4, sim5, sim6, sim7, sim8, ↓reduceIte, Nat.reduceEqDiff, Nat.reduceAdd, Nat.reduceMul, Nat.reduceSub, Nat.reduceLT, Nat.reduceLeDiff, reduceCtorEq, Int.reduceToNat, Int.reduceNeg, Nat.reduceBEq, simx, ty, Trk.row, Plc.row, It.row, idxS_map, loadS_map, stoS_map, ← List.map_take, ← List.map_drop])
      | fail)
    | ((with_reducible refine onCode ?_); first
      | (refine onLid 4 ?_ (by rfl); refine acode_prune [0, 1, 4, 5] ?_; simp only [prn_cons, prn_nil, lk_cons, lk_emp, Nat.reduceEqDiff, ↓reduceIte]; refine acode_loopS2 4 (by rfl) (α := Int) (fun i => [(5, vi i)]) [4, 11, 12, 13, 14, 15, 16, 17, 18, 19, 20, 21, 22, 23, 24, 25, 26] [4] (by kernel_rfl) (fun i => 0 ≤ i ∧ i ≤ ts.length) (fun i => (ts.length - i).toNat) (0) ?_ (by (try simp only []) <;> first | (simp_all; done) | (simp_all; omega) | omega) ?_; (focus ((try dsimp only []); (repeat' (first | exact agr_none | exact lk_hd | refine lk_tl (by decide) ?_ | refine agr_one ?_ ?_)); done)); rintro i hJ; (try simp only [] at hJ); have hJ4 := hJ; simp -implicitDefEqProofs (maxSteps := 4000000) only [sim0, sim1, sim2, sim3, sim4, sim5, sim6, sim7, sim8, ↓reduceIte, Nat.reduceEqDiff, Nat.reduceAdd, Nat.reduceMul, Nat.reduceSub, Nat.reduceLT, Nat.reduceLeDiff, reduceCtorEq, Int.reduceToNat, Int.reduceNeg, Nat.reduceBEq, simx, ty, Trk.row, Plc.row, It.row, idxS_map, loadS_map, stoS_map, ← List.map_take, ← List.map_drop])
      | fail)
    | ((with_reducible refine onLps ?_); first
      | (refine lps2_end (α := Int) (mods := (fun i => [(5, vi i)])) _ (by (try dsimp only []); simp only [agr_cons, agr_nil, lk_cons, lk_emp, Nat.reduceEqDiff, ↓reduceIte, and_true]; repeat' (first | rfl | apply And.intro)) (by unfold undK; kernel_rfl) ?_ ?_ <;> ((try simp only []); (have e : IntKind.i64.wrap (i + 1) = i + 1 := wrap_id (by omega) (by omega); rw [e]; omega)))
      | fail)
    | ((with_reducible refine onFin ?_); first
      | (refine fin_nil ?_; (first | (simp_all [fins]; done) | (simp_all [-Int.not_lt, -Int.not_le, fins]; done) | (simp_all [fins]; omega)))
      | fail)
    | (with_reducible refine ite_intro (fun hq => ?_) (fun hq => ?_))
    | (with_reducible refine And.intro (fun hq => ?_) (fun hq => ?_))
    | (with_reducible refine And.intro ?_ ?_)
    | ((fail_if_success (with_reducible refine onCode ?_)); (fail_if_success (with_reducible refine onLps ?_)); (fail_if_success (with_reducible refine onLpd ?_)); (fail_if_success (with_reducible refine onLpe ?_)); (fail_if_success (with_reducible refine onFin ?_)); (fail_if_success (with_reducible refine onCall ?_)); (fail_if_success (with_reducible refine onQcall ?_)); first | omega | (rw [wrap_id (by omega) (by omega)]; omega) | (simp_all; done)))



set_option maxRecDepth 100000 in
set_option maxHeartbeats 4000000 in
theorem toIntS_gc {ts : List It} (hl : ts.length ≤ 1048576) : GC Try.prog 43 [.sl 1 (ts.map It.e)] [] (fun r_ hs_ => r_ = .ref 0 ts.length ∧ hs_ = [.arr 1 (ts.map It.e)]) := by
  refine GC.of_func [] Try.call43 Try.func43 rfl ⟨by kernel_rfl, by kernel_rfl⟩ (by kernel_rfl) ?_
  rw [Try.results43]
  simp -implicitDefEqProofs (maxSteps := 4000000) only [sim0, sim1, sim2, sim3, sim4, sim5, sim6, sim7, sim8, ↓reduceIte, Nat.reduceEqDiff, Nat.reduceAdd, Nat.reduceMul, Nat.reduceSub, Nat.reduceLT, Nat.reduceLeDiff, reduceCtorEq, Int.reduceToNat, Int.reduceNeg, Nat.reduceBEq, simx, ty, Trk.row, Plc.row, It.row, idxS_map, loadS_map, stoS_map, ← List.map_take, ← List.map_drop]
  repeat' (first
    | ((with_reducible refine onCode ?_); first
      | (refine onLid 3 ?_ (by rfl); refine acode_prune [0, 2, 3, 4] ?_; simp only [prn_cons, prn_nil, lk_cons, lk_emp, Nat.reduceEqDiff, ↓reduceIte]; refine acode_loopE2 3 (by rfl) (α := Int × List It) (fun ⟨i, us⟩ => [(4, vi i), (3, .ref 0 ts.length)]) [8, 9, 10, 11, 12, 13, 14, 15, 16, 17, 18, 19, 20] [] (by kernel_rfl) [] (fun ⟨i, us⟩ => [.arr 1 (us.map It.e)]) (fun _ => by simp) (fun _ _ => rfl) (fun ⟨i, us⟩ => (0 ≤ i ∧ i ≤ ts.length) ∧ us.length = ts.length ∧ us.take i.toNat = ts.take i.toNat) (fun ⟨i, us⟩ => (ts.length - i).toNat) ((0, List.replicate ts.length default)) ?_ ?_ (by (try simp only []) <;> first | (simp_all; done) | (simp_all; omega) | omega) ?_; (focus ((try dsimp only []); (repeat' (first | exact agr_none | exact lk_hd | refine lk_tl (by decide) ?_ | refine agr_one ?_ ?_)); done)); (focus (first | rfl | (simp; done))); rintro ⟨i, us⟩ hJ; (try simp only [] at hJ); have hJ3 := hJ; simp -implicitDefEqProofs (maxSteps := 4000000) only [sim0, sim1, sim2, sim3, sim4, sim5, sim6, sim7, sim8, ↓reduceIte, Nat.reduceEqDiff, Nat.reduceAdd, Nat.reduceMul, Nat.reduceSub, Nat.reduceLT, Nat.reduceLeDiff, reduceCtorEq, Int.reduceToNat, Int.reduceNeg, Nat.reduceBEq, simx, ty, Trk.row, Plc.row, It.row, idxS_map, loadS_map, stoS_map, ← List.map_take, ← List.map_drop])
      | fail)
    | ((with_reducible refine onLpe ?_); first
      | (refine lpe2_end0 (α := Int × List It) (mods := (fun ⟨i, us⟩ => [(4, vi i), (3, .ref 0 ts.length)])) [0] (_, _) rfl rfl rfl (by (try dsimp only []); rfl) (by first | (simp only [plnLL, pln, Value.oneCell', List.all_cons, List.all_nil, plnH, Trk.pl, Plc.pl, It.pl, Bool.and_true, Bool.and_self]; done) | rfl) (by (try dsimp only []); simp only [agrR_cons, agrR_nil, lk_cons, lk_emp, Nat.reduceEqDiff, ↓reduceIte, and_true]; repeat' (first | exact rn_v | rfl | (simp only [List.length_append, List.length_cons, List.length_nil]; rfl) | apply And.intro)) (by unfold undK; kernel_rfl) ?_ ?_ <;> ((try simp only []); (obtain ⟨hb, hm, hg⟩ := hJ; have e : IntKind.i64.wrap (i + 1) = i + 1 := wrap_id (by omega) (by omega); rw [e]; first | omega | (refine ⟨by omega, by simp [hm], ?_⟩; have e2 : (i + 1).toNat = i.toNat + 1 := (by omega); rw [e2]; exact take_set' rfl hm (by omega) hg))))
      | fail)
    | ((with_reducible refine onFin ?_); first
      | (refine fin_own' ?_ ?_ (by simp) (by first | (simp only [plnLL, pln, Value.oneCell', List.all_cons, List.all_nil, plnH, Trk.pl, Plc.pl, It.pl, Bool.and_true, Bool.and_self, List.take_zero, List.nil_append, List.map_cons, List.map_nil]; done) | rfl) <;> (first | (obtain ⟨hb, hm, hg⟩ := hJ; first | rfl | (have e2 : i.toNat = ts.length := (by omega); have h1 : us.take ts.length = us := List.take_of_length_le (by omega); have h2 : ts.take ts.length = ts := List.take_length; rw [e2, h1, h2] at hg; subst hg; rfl)) | (simp_all [fins]; done) | (simp_all [-Int.not_lt, -Int.not_le, fins]; done) | (simp_all [fins]; omega)))
      | (refine fin_ownT' ?_ ?_ ?_ (by simp) (by first | (simp only [plnLL, pln, Value.oneCell', List.all_cons, List.all_nil, plnH, Trk.pl, Plc.pl, It.pl, Bool.and_true, Bool.and_self, List.take_zero, List.nil_append, List.map_cons, List.map_nil]; done) | rfl) rfl <;> (first | (obtain ⟨hb, hm, hg⟩ := hJ; first | rfl | (have e2 : i.toNat = ts.length := (by omega); have h1 : us.take ts.length = us := List.take_of_length_le (by omega); have h2 : ts.take ts.length = ts := List.take_length; rw [e2, h1, h2] at hg; subst hg; rfl)) | (simp_all [fins]; done) | (simp_all [-Int.not_lt, -Int.not_le, fins]; done) | (simp_all [fins]; omega)))
      | (refine fin_ids ?_ ?_ ?_ (by first | (simp only [plnLL, pln, Value.oneCell', List.all_cons, List.all_nil, plnH, Trk.pl, Plc.pl, It.pl, Bool.and_true, Bool.and_self, List.take_zero, List.nil_append, List.map_cons, List.map_nil]; done) | rfl) <;> (first | (obtain ⟨hb, hm, hg⟩ := hJ; first | rfl | (have e2 : i.toNat = ts.length := (by omega); have h1 : us.take ts.length = us := List.take_of_length_le (by omega); have h2 : ts.take ts.length = ts := List.take_length; rw [e2, h1, h2] at hg; subst hg; rfl)) | (simp_all [fins, funs]; done) | (simp [fins, funs]; done) | (simp_all [-Int.not_lt, -Int.not_le, fins, funs]; done) | (simp_all [fins, funs]; omega)))
      | fail)
    | (with_reducible refine ite_intro (fun hq => ?_) (fun hq => ?_))
    | (with_reducible refine And.intro (fun hq => ?_) (fun hq => ?_))
    | (with_reducible refine And.intro ?_ ?_)
    | ((fail_if_success (with_reducible refine onCode ?_)); (fail_if_success (with_reducible refine onLps ?_)); (fail_if_success (with_reducible refine onLpd ?_)); (fail_if_success (with_reducible refine onLpe ?_)); (fail_if_success (with_reducible refine onFin ?_)); (fail_if_success (with_reducible refine onCall ?_)); (fail_if_success (with_reducible refine onQcall ?_)); first | omega | (rw [wrap_id (by omega) (by omega)]; omega) | (obtain ⟨hb, hm, hg⟩ := hJ; first | rfl | (have e2 : i.toNat = ts.length := (by omega); have h1 : us.take ts.length = us := List.take_of_length_le (by omega); have h2 : ts.take ts.length = ts := List.take_length; rw [e2, h1, h2] at hg; subst hg; rfl))))

set_option maxRecDepth 100000 in
set_option maxHeartbeats 4000000 in
theorem eqIntS_gc {ts : List It} (hl : ts.length ≤ 1048576) : GC Try.prog 26 [.sl 1 (ts.map It.e), .sl 1 (ts.map It.e)] [] (fun r_ hs_ => r_ = vb true ∧ hs_ = []) := by
  refine GC.of_func [(6, .val 0 (.val 1 (.val 2 (.val 3 (.val 4 (.val 5 (.val 6 (.val 7 (.val 8 (.done))))))))))] Try.call26 Try.func26 rfl ⟨by kernel_rfl, by kernel_rfl⟩ (by kernel_rfl) ?_
  rw [Try.results26]
  simp -implicitDefEqProofs (maxSteps := 4000000) only [sim0, sim1, sim2, sim3, sim4, sim5, sim6, sim7, sim8, ↓reduceIte, Nat.reduceEqDiff, Nat.reduceAdd, Nat.reduceMul, Nat.reduceSub, Nat.reduceLT, Nat.reduceLeDiff, reduceCtorEq, Int.reduceToNat, Int.reduceNeg, Nat.reduceBEq, simx, ty, Trk.row, Plc.row, It.row, idxS_map, loadS_map, stoS_map, ← List.map_take, ← List.map_drop]
  repeat' (first
    | ((with_reducible refine onCode ?_); first
      | (refine onLid 4 ?_ (by rfl); refine acode_prune [0, 1, 4, 5] ?_; simp only [prn_cons, prn_nil, lk_cons, lk_emp, Nat.reduceEqDiff, ↓reduceIte]; refine acode_loopS2 4 (by rfl) (α := Int) (fun i => [(5, vi i)]) [4, 11, 12, 13, 14, 15, 16, 17, 18, 19, 20, 21, 22, 23, 24, 25] [4] (by kernel_rfl) (fun i => 0 ≤ i ∧ i ≤ ts.length) (fun i => (ts.length - i).toNat) (0) ?_ (by (try simp only []) <;> first | (simp_all; done) | (simp_all; omega) | omega) ?_; (focus ((try dsimp only []); (repeat' (first | exact agr_none | exact lk_hd | refine lk_tl (by decide) ?_ | refine agr_one ?_ ?_)); done)); rintro i hJ; (try simp only [] at hJ); have hJ4 := hJ; simp -implicitDefEqProofs (maxSteps := 4000000) only [sim0, sim1, sim2, sim3, sim4, sim5, sim6, sim7, sim8, ↓reduceIte, Nat.reduceEqDiff, Nat.reduceAdd, Nat.reduceMul, Nat.reduceSub, Nat.reduceLT, Nat.reduceLeDiff, reduceCtorEq, Int.reduceToNat, Int.reduceNeg, Nat.reduceBEq, simx, ty, Trk.row, Plc.row, It.row, idxS_map, loadS_map, stoS_map, ← List.map_take, ← List.map_drop])
      | fail)
    | ((with_reducible refine onLps ?_); first
      | (refine lps2_end (α := Int) (mods := (fun i => [(5, vi i)])) _ (by (try dsimp only []); simp only [agr_cons, agr_nil, lk_cons, lk_emp, Nat.reduceEqDiff, ↓reduceIte, and_true]; repeat' (first | rfl | apply And.intro)) (by unfold undK; kernel_rfl) ?_ ?_ <;> ((try simp only []); (have e : IntKind.i64.wrap (i + 1) = i + 1 := wrap_id (by omega) (by omega); rw [e]; omega)))
      | fail)
    | ((with_reducible refine onFin ?_); first
      | (refine fin_nil ?_; (first | (simp_all [fins]; done) | (simp_all [-Int.not_lt, -Int.not_le, fins]; done) | (simp_all [fins]; omega)))
      | fail)
    | (with_reducible refine ite_intro (fun hq => ?_) (fun hq => ?_))
    | (with_reducible refine And.intro (fun hq => ?_) (fun hq => ?_))
    | (with_reducible refine And.intro ?_ ?_)
    | ((fail_if_success (with_reducible refine onCode ?_)); (fail_if_success (with_reducible refine onLps ?_)); (fail_if_success (with_reducible refine onLpd ?_)); (fail_if_success (with_reducible refine onLpe ?_)); (fail_if_success (with_reducible refine onFin ?_)); (fail_if_success (with_reducible refine onCall ?_)); (fail_if_success (with_reducible refine onQcall ?_)); first | omega | (rw [wrap_id (by omega) (by omega)]; omega) | (simp_all; done)))


def mkTrk (k : Int) (n : Nat) : List Trk := (List.range n).map fun (j : Nat) => (⟨k + 6 * j, k + 6 * j + 1, k + 6 * j + 2, k + 6 * j + 3, k + 6 * j + 4, k + 6 * j + 5⟩ : Trk)
theorem mkTrk_succ {k : Int} {n : Nat} : mkTrk k (n + 1) = mkTrk k n ++ [⟨k + 6 * n, k + 6 * n + 1, k + 6 * n + 2, k + 6 * n + 3, k + 6 * n + 4, k + 6 * n + 5⟩] := by
  simp [mkTrk, List.range_succ]
theorem mkTrk_get {k : Int} {m n : Nat} (h : n < m) : (mkTrk k m).getD n default = ⟨k + 6 * n, k + 6 * n + 1, k + 6 * n + 2, k + 6 * n + 3, k + 6 * n + 4, k + 6 * n + 5⟩ := by
  simp [mkTrk, List.getD, h]
theorem mkTrk_len {k : Int} {m : Nat} : (mkTrk k m).length = m := by simp [mkTrk]
set_option maxRecDepth 100000 in
set_option maxHeartbeats 4000000 in
theorem markTrackS_gc {ts : List Trk} {k : Int} (hl : ts.length ≤ 1048576) (hk : 0 ≤ k ∧ k ≤ 1000000000) : GC Try.prog 27 [.ref 0 ts.length, vi k] [.arr 6 (ts.map Trk.e)] (fun r_ hs_ => r_ = vi (k + 6 * ts.length) ∧ hs_ = [.arr 6 ((mkTrk k ts.length).map Trk.e)]) := by
  refine GC.of_func [] Try.call27 Try.func27 rfl ⟨by kernel_rfl, by kernel_rfl⟩ (by kernel_rfl) ?_
  rw [Try.results27]
  simp -implicitDefEqProofs (maxSteps := 4000000) only [sim0, sim1, sim2, sim3, sim4, sim5, sim6, sim7, sim8, ↓reduceIte, Nat.reduceEqDiff, Nat.reduceAdd, Nat.reduceMul, Nat.reduceSub, Nat.reduceLT, Nat.reduceLeDiff, reduceCtorEq, Int.reduceToNat, Int.reduceNeg, Nat.reduceBEq, simx, ty, Trk.row, Plc.row, It.row, idxS_map, loadS_map, stoS_map, ← List.map_take, ← List.map_drop, List.set_set, getD_set_if, Trk.ite]
  repeat' (first
    | ((with_reducible refine onCode ?_); first
      | (refine onLid 2 ?_ (by rfl); refine acode_prune [0, 1, 4, 5] ?_; simp only [prn_cons, prn_nil, lk_cons, lk_emp, Nat.reduceEqDiff, ↓reduceIte]; refine acode_loopE2 2 (by rfl) (α := Int × Int × List Trk) (fun ⟨i, kk, us⟩ => [(5, vi i), (1, vi kk)]) [6, 7, 8, 9, 10, 11, 12, 13, 14, 15, 16, 17, 18, 19, 20, 21, 22, 23, 24, 25, 26, 27, 28, 29, 30, 31, 32, 33, 34, 35, 36, 37, 38, 39, 40, 41, 42, 43, 44, 45, 46, 47, 48, 49, 50, 51, 52, 53] [] (by kernel_rfl) [] (fun ⟨i, kk, us⟩ => [.arr 6 (us.map Trk.e)]) (fun _ => by simp) (fun _ _ => rfl) (fun ⟨i, kk, us⟩ => (0 ≤ i ∧ i ≤ ts.length) ∧ kk = k + 6 * i ∧ us.length = ts.length ∧ us.take i.toNat = mkTrk k i.toNat) (fun ⟨i, kk, us⟩ => (ts.length - i).toNat) ((0, k, ts)) ?_ ?_ (by (try simp only []) <;> first | (simp_all [mkTrk]; done) | (simp_all [mkTrk]; omega) | omega) ?_; (focus ((try dsimp only []); (repeat' (first | exact agr_none | exact lk_hd | refine lk_tl (by decide) ?_ | refine agr_one ?_ ?_)); done)); (focus (first | rfl | (simp; done))); rintro ⟨i, kk, us⟩ hJ; (try simp only [] at hJ); have hJ2 := hJ; simp -implicitDefEqProofs (maxSteps := 4000000) only [sim0, sim1, sim2, sim3, sim4, sim5, sim6, sim7, sim8, ↓reduceIte, Nat.reduceEqDiff, Nat.reduceAdd, Nat.reduceMul, Nat.reduceSub, Nat.reduceLT, Nat.reduceLeDiff, reduceCtorEq, Int.reduceToNat, Int.reduceNeg, Nat.reduceBEq, simx, ty, Trk.row, Plc.row, It.row, idxS_map, loadS_map, stoS_map, ← List.map_take, ← List.map_drop, List.set_set, getD_set_if, Trk.ite])
      | fail)
    | ((with_reducible refine onLpe ?_); first
      | (refine lpe2_endP (α := Int × Int × List Trk) (mods := (fun ⟨i, kk, us⟩ => [(5, vi i), (1, vi kk)])) (_, _, _) (by simp) [] (by (try dsimp only []); rfl) (by first | (simp only [plnLL, pln, Value.oneCell', List.all_cons, List.all_nil, plnH, Trk.pl, Plc.pl, It.pl, Bool.and_true, Bool.and_self]; done) | rfl) rfl (by (try dsimp only []); simp only [agr_cons, agr_nil, lk_cons, lk_emp, Nat.reduceEqDiff, ↓reduceIte, and_true]; repeat' (first | rfl | apply And.intro)) (by unfold undK; kernel_rfl) ?_ ?_ <;> ((try simp only []); (obtain ⟨hb, hk2, hm, hg⟩ := hJ; have hlt : i.toNat < us.length := (by omega); (try simp only [hlt, if_true]); have e : IntKind.i64.wrap (i + 1) = i + 1 := wrap_id (by omega) (by omega); have e1 : IntKind.i64.wrap (kk + 1) = kk + 1 := wrap_id (by omega) (by omega); have e2 : IntKind.i64.wrap (kk + 1 + 1) = kk + 2 := wrap_id' (by omega) (by omega) (by omega); have e3 : IntKind.i64.wrap (kk + 2 + 1) = kk + 3 := wrap_id' (by omega) (by omega) (by omega); have e4 : IntKind.i64.wrap (kk + 3 + 1) = kk + 4 := wrap_id' (by omega) (by omega) (by omega); have e5 : IntKind.i64.wrap (kk + 4 + 1) = kk + 5 := wrap_id' (by omega) (by omega) (by omega); have e6 : IntKind.i64.wrap (kk + 5 + 1) = kk + 6 := wrap_id' (by omega) (by omega) (by omega); (try simp only [e, e1, e2, e3, e4, e5, e6]); first | omega | (have e7 : (i + 1).toNat = i.toNat + 1 := (by omega); refine ⟨by omega, by omega, by simp [hm], ?_⟩; have e8 : ((i.toNat : Nat) : Int) = i := (by omega); rw [e7, take_set_app hlt, hg, mkTrk_succ, e8, hk2]))))
      | (refine lpe2_end0 (α := Int × Int × List Trk) (mods := (fun ⟨i, kk, us⟩ => [(5, vi i), (1, vi kk)])) [0] (_, _, _) rfl rfl rfl (by (try dsimp only []); rfl) (by first | (simp only [plnLL, pln, Value.oneCell', List.all_cons, List.all_nil, plnH, Trk.pl, Plc.pl, It.pl, Bool.and_true, Bool.and_self]; done) | rfl) (by (try dsimp only []); simp only [agrR_cons, agrR_nil, lk_cons, lk_emp, Nat.reduceEqDiff, ↓reduceIte, and_true]; repeat' (first | exact rn_v | rfl | (simp only [List.length_append, List.length_cons, List.length_nil]; rfl) | apply And.intro)) (by unfold undK; kernel_rfl) ?_ ?_ <;> ((try simp only []); (obtain ⟨hb, hk2, hm, hg⟩ := hJ; have hlt : i.toNat < us.length := (by omega); (try simp only [hlt, if_true]); have e : IntKind.i64.wrap (i + 1) = i + 1 := wrap_id (by omega) (by omega); have e1 : IntKind.i64.wrap (kk + 1) = kk + 1 := wrap_id (by omega) (by omega); have e2 : IntKind.i64.wrap (kk + 1 + 1) = kk + 2 := wrap_id' (by omega) (by omega) (by omega); have e3 : IntKind.i64.wrap (kk + 2 + 1) = kk + 3 := wrap_id' (by omega) (by omega) (by omega); have e4 : IntKind.i64.wrap (kk + 3 + 1) = kk + 4 := wrap_id' (by omega) (by omega) (by omega); have e5 : IntKind.i64.wrap (kk + 4 + 1) = kk + 5 := wrap_id' (by omega) (by omega) (by omega); have e6 : IntKind.i64.wrap (kk + 5 + 1) = kk + 6 := wrap_id' (by omega) (by omega) (by omega); (try simp only [e, e1, e2, e3, e4, e5, e6]); first | omega | (have e7 : (i + 1).toNat = i.toNat + 1 := (by omega); refine ⟨by omega, by omega, by simp [hm], ?_⟩; have e8 : ((i.toNat : Nat) : Int) = i := (by omega); rw [e7, take_set_app hlt, hg, mkTrk_succ, e8, hk2]))))
      | fail)
    | ((with_reducible refine onFin ?_); first
      | (refine fin_wr ?_ ?_ (by first | (simp only [plnLL, pln, Value.oneCell', List.all_cons, List.all_nil, plnH, Trk.pl, Plc.pl, It.pl, Bool.and_true, Bool.and_self]; done) | rfl) <;> (first | (obtain ⟨hb, hk2, hm, hg⟩ := hJ; have e2 : i.toNat = ts.length := (by omega); have h1 : us.take ts.length = us := List.take_of_length_le (by omega); rw [e2, h1] at hg; first | (have e9 : kk = k + 6 * ts.length := (by omega); rw [e9]; done) | (subst hg; rfl)) | (simp_all [fins, mkTrk]; done) | (simp_all [-Int.not_lt, -Int.not_le, fins, mkTrk]; done) | (simp_all [fins, mkTrk]; omega)))
      | fail)
    | (with_reducible refine ite_intro (fun hq => ?_) (fun hq => ?_))
    | (with_reducible refine And.intro (fun hq => ?_) (fun hq => ?_))
    | (with_reducible refine And.intro ?_ ?_)
    | ((fail_if_success (with_reducible refine onCode ?_)); (fail_if_success (with_reducible refine onLps ?_)); (fail_if_success (with_reducible refine onLpd ?_)); (fail_if_success (with_reducible refine onLpe ?_)); (fail_if_success (with_reducible refine onFin ?_)); (fail_if_success (with_reducible refine onCall ?_)); (fail_if_success (with_reducible refine onQcall ?_)); first | omega | (rw [wrap_id (by omega) (by omega)]; omega) | (obtain ⟨hb, hk2, hm, hg⟩ := hJ; have e2 : i.toNat = ts.length := (by omega); have h1 : us.take ts.length = us := List.take_of_length_le (by omega); rw [e2, h1] at hg; first | (have e9 : kk = k + 6 * ts.length := (by omega); rw [e9]; done) | (subst hg; rfl))))

set_option maxRecDepth 100000 in
set_option maxHeartbeats 4000000 in
theorem heldTrackS_gc {ts : List Trk} {k : Int} (hl : ts.length ≤ 1048576) (hk : 0 ≤ k ∧ k ≤ 1000000000) (hm : ∀ n : Nat, n < ts.length → ts.getD n default = ⟨k + 6 * n, k + 6 * n + 1, k + 6 * n + 2, k + 6 * n + 3, k + 6 * n + 4, k + 6 * n + 5⟩) : GC Try.prog 33 [.sl 6 (ts.map Trk.e), vi k] [] (fun r_ hs_ => r_ = vi (k + 6 * ts.length) ∧ hs_ = []) := by
  refine GC.of_func [] Try.call33 Try.func33 rfl ⟨by kernel_rfl, by kernel_rfl⟩ (by kernel_rfl) ?_
  rw [Try.results33]
  simp -implicitDefEqProofs (maxSteps := 4000000) only [sim0, sim1, sim2, sim3, sim4, sim5, sim6, sim7, sim8, ↓reduceIte, Nat.reduceEqDiff, Nat.reduceAdd, Nat.reduceMul, Nat.reduceSub, Nat.reduceLT, Nat.reduceLeDiff, reduceCtorEq, Int.reduceToNat, Int.reduceNeg, Nat.reduceBEq, simx, ty, Trk.row, Plc.row, It.row, idxS_map, loadS_map, stoS_map, ← List.map_take, ← List.map_drop]
  repeat' (first
    | ((with_reducible refine onCode ?_); first
      | (refine onLid 2 ?_ (by rfl); refine acode_prune [0, 1, 4, 5] ?_; simp only [prn_cons, prn_nil, lk_cons, lk_emp, Nat.reduceEqDiff, ↓reduceIte]; refine acode_loopS2 2 (by rfl) (α := Int × Int) (fun ⟨i, kk⟩ => [(5, vi i), (1, vi kk)]) [4, 6, 7, 8, 9, 10, 11, 12, 13, 14, 15, 16, 17, 18, 19, 20, 21, 22, 23, 24, 25, 26, 27, 28, 29, 30, 31, 32, 33, 34, 35, 36, 37, 38, 39, 40, 41, 42, 43, 44, 45, 46, 47, 48, 49, 50, 51, 52, 53, 54, 55, 56, 57, 58, 59, 60, 61, 62, 63, 64, 65] [4] (by kernel_rfl) (fun ⟨i, kk⟩ => (0 ≤ i ∧ i ≤ ts.length) ∧ kk = k + 6 * i) (fun ⟨i, kk⟩ => (ts.length - i).toNat) ((0, k)) ?_ (by (try simp only []) <;> first | (omega) | fail) ?_; (focus ((try dsimp only []); (repeat' (first | exact agr_none | exact lk_hd | refine lk_tl (by decide) ?_ | refine agr_one ?_ ?_)); done)); rintro ⟨i, kk⟩ hJ; (try simp only [] at hJ); have hJ2 := hJ; simp -implicitDefEqProofs (maxSteps := 4000000) only [sim0, sim1, sim2, sim3, sim4, sim5, sim6, sim7, sim8, ↓reduceIte, Nat.reduceEqDiff, Nat.reduceAdd, Nat.reduceMul, Nat.reduceSub, Nat.reduceLT, Nat.reduceLeDiff, reduceCtorEq, Int.reduceToNat, Int.reduceNeg, Nat.reduceBEq, simx, ty, Trk.row, Plc.row, It.row, idxS_map, loadS_map, stoS_map, ← List.map_take, ← List.map_drop])
      | fail)
    | ((with_reducible refine onLps ?_); first
      | (refine lps2_end (α := Int × Int) (mods := (fun ⟨i, kk⟩ => [(5, vi i), (1, vi kk)])) (_, _) (by (try dsimp only []); simp only [agr_cons, agr_nil, lk_cons, lk_emp, Nat.reduceEqDiff, ↓reduceIte, and_true]; repeat' (first | rfl | apply And.intro)) (by unfold undK; kernel_rfl) ?_ ?_ <;> ((try simp only []); (obtain ⟨hb, hk2⟩ := hJ; have e : IntKind.i64.wrap (i + 1) = i + 1 := wrap_id (by omega) (by omega); have e1 : IntKind.i64.wrap (kk + 1) = kk + 1 := wrap_id (by omega) (by omega); have e2 : IntKind.i64.wrap (kk + 1 + 1) = kk + 2 := wrap_id' (by omega) (by omega) (by omega); have e3 : IntKind.i64.wrap (kk + 2 + 1) = kk + 3 := wrap_id' (by omega) (by omega) (by omega); have e4 : IntKind.i64.wrap (kk + 3 + 1) = kk + 4 := wrap_id' (by omega) (by omega) (by omega); have e5 : IntKind.i64.wrap (kk + 4 + 1) = kk + 5 := wrap_id' (by omega) (by omega) (by omega); have e6 : IntKind.i64.wrap (kk + 5 + 1) = kk + 6 := wrap_id' (by omega) (by omega) (by omega); (try simp only [e, e1, e2, e3, e4, e5, e6]); omega)))
      | fail)
    | ((with_reducible refine onFin ?_); first
      | (refine fin_nil ?_; (first | (obtain ⟨hb, hk2⟩ := hJ; by_cases hi : i < ts.length; (case neg => (first | (exfalso; omega; done) | (have e9 : kk = k + 6 * ts.length := (by omega); rw [e9]; rfl))); (case pos => (exfalso; first | (omega; done) | (have g := hm i.toNat (by omega); have e0 : ((i.toNat : Nat) : Int) = i := (by omega); rw [e0, ← hk2] at g; have e1 : IntKind.i64.wrap (kk + 1) = kk + 1 := wrap_id (by omega) (by omega); have e2 : IntKind.i64.wrap (kk + 1 + 1) = kk + 2 := wrap_id' (by omega) (by omega) (by omega); have e3 : IntKind.i64.wrap (kk + 2 + 1) = kk + 3 := wrap_id' (by omega) (by omega) (by omega); have e4 : IntKind.i64.wrap (kk + 3 + 1) = kk + 4 := wrap_id' (by omega) (by omega) (by omega); have e5 : IntKind.i64.wrap (kk + 4 + 1) = kk + 5 := wrap_id' (by omega) (by omega) (by omega); have e6 : IntKind.i64.wrap (kk + 5 + 1) = kk + 6 := wrap_id' (by omega) (by omega) (by omega); rw [g] at hq; clear hm; first | omega | (simp [e1, e2, e3, e4, e5, e6] at hq; done))))) | (simp_all [fins]; done) | (simp_all [-Int.not_lt, -Int.not_le, fins]; done) | (simp_all [fins]; omega)))
      | fail)
    | (with_reducible refine ite_intro (fun hq => ?_) (fun hq => ?_))
    | (with_reducible refine And.intro (fun hq => ?_) (fun hq => ?_))
    | (with_reducible refine And.intro ?_ ?_)
    | ((fail_if_success (with_reducible refine onCode ?_)); (fail_if_success (with_reducible refine onLps ?_)); (fail_if_success (with_reducible refine onLpd ?_)); (fail_if_success (with_reducible refine onLpe ?_)); (fail_if_success (with_reducible refine onFin ?_)); (fail_if_success (with_reducible refine onCall ?_)); (fail_if_success (with_reducible refine onQcall ?_)); first | omega | (rw [wrap_id (by omega) (by omega)]; omega) | (obtain ⟨hb, hk2⟩ := hJ; by_cases hi : i < ts.length; (case neg => (first | (exfalso; omega; done) | (have e9 : kk = k + 6 * ts.length := (by omega); rw [e9]; rfl))); (case pos => (exfalso; first | (omega; done) | (have g := hm i.toNat (by omega); have e0 : ((i.toNat : Nat) : Int) = i := (by omega); rw [e0, ← hk2] at g; have e1 : IntKind.i64.wrap (kk + 1) = kk + 1 := wrap_id (by omega) (by omega); have e2 : IntKind.i64.wrap (kk + 1 + 1) = kk + 2 := wrap_id' (by omega) (by omega) (by omega); have e3 : IntKind.i64.wrap (kk + 2 + 1) = kk + 3 := wrap_id' (by omega) (by omega) (by omega); have e4 : IntKind.i64.wrap (kk + 3 + 1) = kk + 4 := wrap_id' (by omega) (by omega) (by omega); have e5 : IntKind.i64.wrap (kk + 4 + 1) = kk + 5 := wrap_id' (by omega) (by omega) (by omega); have e6 : IntKind.i64.wrap (kk + 5 + 1) = kk + 6 := wrap_id' (by omega) (by omega) (by omega); rw [g] at hq; clear hm; first | omega | (simp [e1, e2, e3, e4, e5, e6] at hq; done)))))))


def mkPlc (k : Int) (n : Nat) : List Plc := (List.range n).map fun (j : Nat) => (⟨k + 2 * j, k + 2 * j + 1⟩ : Plc)
theorem mkPlc_succ {k : Int} {n : Nat} : mkPlc k (n + 1) = mkPlc k n ++ [⟨k + 2 * n, k + 2 * n + 1⟩] := by
  simp [mkPlc, List.range_succ]
theorem mkPlc_get {k : Int} {m n : Nat} (h : n < m) : (mkPlc k m).getD n default = ⟨k + 2 * n, k + 2 * n + 1⟩ := by
  simp [mkPlc, List.getD, h]
theorem mkPlc_len {k : Int} {m : Nat} : (mkPlc k m).length = m := by simp [mkPlc]
set_option maxRecDepth 100000 in
set_option maxHeartbeats 4000000 in
theorem markPlaceS_gc {ts : List Plc} {k : Int} (hl : ts.length ≤ 1048576) (hk : 0 ≤ k ∧ k ≤ 1000000000) : GC Try.prog 47 [.ref 0 ts.length, vi k] [.arr 2 (ts.map Plc.e)] (fun r_ hs_ => r_ = vi (k + 2 * ts.length) ∧ hs_ = [.arr 2 ((mkPlc k ts.length).map Plc.e)]) := by
  refine GC.of_func [] Try.call47 Try.func47 rfl ⟨by kernel_rfl, by kernel_rfl⟩ (by kernel_rfl) ?_
  rw [Try.results47]
  simp -implicitDefEqProofs (maxSteps := 4000000) only [sim0, sim1, sim2, sim3, sim4, sim5, sim6, sim7, sim8, ↓reduceIte, Nat.reduceEqDiff, Nat.reduceAdd, Nat.reduceMul, Nat.reduceSub, Nat.reduceLT, Nat.reduceLeDiff, reduceCtorEq, Int.reduceToNat, Int.reduceNeg, Nat.reduceBEq, simx, ty, Trk.row, Plc.row, It.row, idxS_map, loadS_map, stoS_map, ← List.map_take, ← List.map_drop, List.set_set, getD_set_if, Plc.ite]
  repeat' (first
    | ((with_reducible refine onCode ?_); first
      | (refine onLid 2 ?_ (by rfl); refine acode_prune [0, 1, 4, 5] ?_; simp only [prn_cons, prn_nil, lk_cons, lk_emp, Nat.reduceEqDiff, ↓reduceIte]; refine acode_loopE2 2 (by rfl) (α := Int × Int × List Plc) (fun ⟨i, kk, us⟩ => [(5, vi i), (1, vi kk)]) [6, 7, 8, 9, 10, 11, 12, 13, 14, 15, 16, 17, 18, 19, 20, 21, 22, 23, 24, 25] [] (by kernel_rfl) [] (fun ⟨i, kk, us⟩ => [.arr 2 (us.map Plc.e)]) (fun _ => by simp) (fun _ _ => rfl) (fun ⟨i, kk, us⟩ => (0 ≤ i ∧ i ≤ ts.length) ∧ kk = k + 2 * i ∧ us.length = ts.length ∧ us.take i.toNat = mkPlc k i.toNat) (fun ⟨i, kk, us⟩ => (ts.length - i).toNat) ((0, k, ts)) ?_ ?_ (by (try simp only []) <;> first | (simp_all [mkPlc]; done) | (simp_all [mkPlc]; omega) | omega) ?_; (focus ((try dsimp only []); (repeat' (first | exact agr_none | exact lk_hd | refine lk_tl (by decide) ?_ | refine agr_one ?_ ?_)); done)); (focus (first | rfl | (simp; done))); rintro ⟨i, kk, us⟩ hJ; (try simp only [] at hJ); have hJ2 := hJ; simp -implicitDefEqProofs (maxSteps := 4000000) only [sim0, sim1, sim2, sim3, sim4, sim5, sim6, sim7, sim8, ↓reduceIte, Nat.reduceEqDiff, Nat.reduceAdd, Nat.reduceMul, Nat.reduceSub, Nat.reduceLT, Nat.reduceLeDiff, reduceCtorEq, Int.reduceToNat, Int.reduceNeg, Nat.reduceBEq, simx, ty, Trk.row, Plc.row, It.row, idxS_map, loadS_map, stoS_map, ← List.map_take, ← List.map_drop, List.set_set, getD_set_if, Plc.ite])
      | fail)
    | ((with_reducible refine onLpe ?_); first
      | (refine lpe2_endP (α := Int × Int × List Plc) (mods := (fun ⟨i, kk, us⟩ => [(5, vi i), (1, vi kk)])) (_, _, _) (by simp) [] (by (try dsimp only []); rfl) (by first | (simp only [plnLL, pln, Value.oneCell', List.all_cons, List.all_nil, plnH, Trk.pl, Plc.pl, It.pl, Bool.and_true, Bool.and_self]; done) | rfl) rfl (by (try dsimp only []); simp only [agr_cons, agr_nil, lk_cons, lk_emp, Nat.reduceEqDiff, ↓reduceIte, and_true]; repeat' (first | rfl | apply And.intro)) (by unfold undK; kernel_rfl) ?_ ?_ <;> ((try simp only []); (obtain ⟨hb, hk2, hm, hg⟩ := hJ; have hlt : i.toNat < us.length := (by omega); (try simp only [hlt, if_true]); have e : IntKind.i64.wrap (i + 1) = i + 1 := wrap_id (by omega) (by omega); have e1 : IntKind.i64.wrap (kk + 1) = kk + 1 := wrap_id (by omega) (by omega); have e2 : IntKind.i64.wrap (kk + 1 + 1) = kk + 2 := wrap_id' (by omega) (by omega) (by omega); (try simp only [e, e1, e2]); first | omega | (have e7 : (i + 1).toNat = i.toNat + 1 := (by omega); refine ⟨by omega, by omega, by simp [hm], ?_⟩; have e8 : ((i.toNat : Nat) : Int) = i := (by omega); rw [e7, take_set_app hlt, hg, mkPlc_succ, e8, hk2]))))
      | (refine lpe2_end0 (α := Int × Int × List Plc) (mods := (fun ⟨i, kk, us⟩ => [(5, vi i), (1, vi kk)])) [0] (_, _, _) rfl rfl rfl (by (try dsimp only []); rfl) (by first | (simp only [plnLL, pln, Value.oneCell', List.all_cons, List.all_nil, plnH, Trk.pl, Plc.pl, It.pl, Bool.and_true, Bool.and_self]; done) | rfl) (by (try dsimp only []); simp only [agrR_cons, agrR_nil, lk_cons, lk_emp, Nat.reduceEqDiff, ↓reduceIte, and_true]; repeat' (first | exact rn_v | rfl | (simp only [List.length_append, List.length_cons, List.length_nil]; rfl) | apply And.intro)) (by unfold undK; kernel_rfl) ?_ ?_ <;> ((try simp only []); (obtain ⟨hb, hk2, hm, hg⟩ := hJ; have hlt : i.toNat < us.length := (by omega); (try simp only [hlt, if_true]); have e : IntKind.i64.wrap (i + 1) = i + 1 := wrap_id (by omega) (by omega); have e1 : IntKind.i64.wrap (kk + 1) = kk + 1 := wrap_id (by omega) (by omega); have e2 : IntKind.i64.wrap (kk + 1 + 1) = kk + 2 := wrap_id' (by omega) (by omega) (by omega); (try simp only [e, e1, e2]); first | omega | (have e7 : (i + 1).toNat = i.toNat + 1 := (by omega); refine ⟨by omega, by omega, by simp [hm], ?_⟩; have e8 : ((i.toNat : Nat) : Int) = i := (by omega); rw [e7, take_set_app hlt, hg, mkPlc_succ, e8, hk2]))))
      | fail)
    | ((with_reducible refine onFin ?_); first
      | (refine fin_wr ?_ ?_ (by first | (simp only [plnLL, pln, Value.oneCell', List.all_cons, List.all_nil, plnH, Trk.pl, Plc.pl, It.pl, Bool.and_true, Bool.and_self]; done) | rfl) <;> (first | (obtain ⟨hb, hk2, hm, hg⟩ := hJ; have e2 : i.toNat = ts.length := (by omega); have h1 : us.take ts.length = us := List.take_of_length_le (by omega); rw [e2, h1] at hg; first | (have e9 : kk = k + 2 * ts.length := (by omega); rw [e9]; done) | (subst hg; rfl)) | (simp_all [fins, mkPlc]; done) | (simp_all [-Int.not_lt, -Int.not_le, fins, mkPlc]; done) | (simp_all [fins, mkPlc]; omega)))
      | fail)
    | (with_reducible refine ite_intro (fun hq => ?_) (fun hq => ?_))
    | (with_reducible refine And.intro (fun hq => ?_) (fun hq => ?_))
    | (with_reducible refine And.intro ?_ ?_)
    | ((fail_if_success (with_reducible refine onCode ?_)); (fail_if_success (with_reducible refine onLps ?_)); (fail_if_success (with_reducible refine onLpd ?_)); (fail_if_success (with_reducible refine onLpe ?_)); (fail_if_success (with_reducible refine onFin ?_)); (fail_if_success (with_reducible refine onCall ?_)); (fail_if_success (with_reducible refine onQcall ?_)); first | omega | (rw [wrap_id (by omega) (by omega)]; omega) | (obtain ⟨hb, hk2, hm, hg⟩ := hJ; have e2 : i.toNat = ts.length := (by omega); have h1 : us.take ts.length = us := List.take_of_length_le (by omega); rw [e2, h1] at hg; first | (have e9 : kk = k + 2 * ts.length := (by omega); rw [e9]; done) | (subst hg; rfl))))



def mkIt (k : Int) (n : Nat) : List It := (List.range n).map fun (j : Nat) => (⟨k + 1 * j⟩ : It)
theorem mkIt_succ {k : Int} {n : Nat} : mkIt k (n + 1) = mkIt k n ++ [⟨k + 1 * n⟩] := by
  simp [mkIt, List.range_succ]
theorem mkIt_get {k : Int} {m n : Nat} (h : n < m) : (mkIt k m).getD n default = ⟨k + 1 * n⟩ := by
  simp [mkIt, List.getD, h]
theorem mkIt_len {k : Int} {m : Nat} : (mkIt k m).length = m := by simp [mkIt]
set_option maxRecDepth 100000 in
set_option maxHeartbeats 4000000 in
theorem markIntS_gc {ts : List It} {k : Int} (hl : ts.length ≤ 1048576) (hk : 0 ≤ k ∧ k ≤ 1000000000) : GC Try.prog 28 [.ref 0 ts.length, vi k] [.arr 1 (ts.map It.e)] (fun r_ hs_ => r_ = vi (k + 1 * ts.length) ∧ hs_ = [.arr 1 ((mkIt k ts.length).map It.e)]) := by
  refine GC.of_func [] Try.call28 Try.func28 rfl ⟨by kernel_rfl, by kernel_rfl⟩ (by kernel_rfl) ?_
  rw [Try.results28]
  simp -implicitDefEqProofs (maxSteps := 4000000) only [sim0, sim1, sim2, sim3, sim4, sim5, sim6, sim7, sim8, ↓reduceIte, Nat.reduceEqDiff, Nat.reduceAdd, Nat.reduceMul, Nat.reduceSub, Nat.reduceLT, Nat.reduceLeDiff, reduceCtorEq, Int.reduceToNat, Int.reduceNeg, Nat.reduceBEq, simx, ty, Trk.row, Plc.row, It.row, idxS_map, loadS_map, stoS_map, ← List.map_take, ← List.map_drop, List.set_set, getD_set_if, It.ite]
  repeat' (first
    | ((with_reducible refine onCode ?_); first
      | (refine onLid 2 ?_ (by rfl); refine acode_prune [0, 1, 4, 5] ?_; simp only [prn_cons, prn_nil, lk_cons, lk_emp, Nat.reduceEqDiff, ↓reduceIte]; refine acode_loopE2 2 (by rfl) (α := Int × Int × List It) (fun ⟨i, kk, us⟩ => [(5, vi i), (1, vi kk)]) [6, 7, 8, 9, 10, 11, 12, 13, 14, 15, 16, 17] [] (by kernel_rfl) [] (fun ⟨i, kk, us⟩ => [.arr 1 (us.map It.e)]) (fun _ => by simp) (fun _ _ => rfl) (fun ⟨i, kk, us⟩ => (0 ≤ i ∧ i ≤ ts.length) ∧ kk = k + 1 * i ∧ us.length = ts.length ∧ us.take i.toNat = mkIt k i.toNat) (fun ⟨i, kk, us⟩ => (ts.length - i).toNat) ((0, k, ts)) ?_ ?_ (by (try simp only []) <;> first | (simp_all [mkIt]; done) | (simp_all [mkIt]; omega) | omega) ?_; (focus ((try dsimp only []); (repeat' (first | exact agr_none | exact lk_hd | refine lk_tl (by decide) ?_ | refine agr_one ?_ ?_)); done)); (focus (first | rfl | (simp; done))); rintro ⟨i, kk, us⟩ hJ; (try simp only [] at hJ); have hJ2 := hJ; simp -implicitDefEqProofs (maxSteps := 4000000) only [sim0, sim1, sim2, sim3, sim4, sim5, sim6, sim7, sim8, ↓reduceIte, Nat.reduceEqDiff, Nat.reduceAdd, Nat.reduceMul, Nat.reduceSub, Nat.reduceLT, Nat.reduceLeDiff, reduceCtorEq, Int.reduceToNat, Int.reduceNeg, Nat.reduceBEq, simx, ty, Trk.row, Plc.row, It.row, idxS_map, loadS_map, stoS_map, ← List.map_take, ← List.map_drop, List.set_set, getD_set_if, It.ite])
      | fail)
    | ((with_reducible refine onLpe ?_); first
      | (refine lpe2_endP (α := Int × Int × List It) (mods := (fun ⟨i, kk, us⟩ => [(5, vi i), (1, vi kk)])) (_, _, _) (by simp) [] (by (try dsimp only []); rfl) (by first | (simp only [plnLL, pln, Value.oneCell', List.all_cons, List.all_nil, plnH, Trk.pl, Plc.pl, It.pl, Bool.and_true, Bool.and_self]; done) | rfl) rfl (by (try dsimp only []); simp only [agr_cons, agr_nil, lk_cons, lk_emp, Nat.reduceEqDiff, ↓reduceIte, and_true]; repeat' (first | rfl | apply And.intro)) (by unfold undK; kernel_rfl) ?_ ?_ <;> ((try simp only []); (obtain ⟨hb, hk2, hm, hg⟩ := hJ; have hlt : i.toNat < us.length := (by omega); (try simp only [hlt, if_true]); have e : IntKind.i64.wrap (i + 1) = i + 1 := wrap_id (by omega) (by omega); have e1 : IntKind.i64.wrap (kk + 1) = kk + 1 := wrap_id (by omega) (by omega); (try simp only [e, e1]); first | omega | (have e7 : (i + 1).toNat = i.toNat + 1 := (by omega); refine ⟨by omega, by omega, by simp [hm], ?_⟩; have e8 : ((i.toNat : Nat) : Int) = i := (by omega); rw [e7, take_set_app hlt, hg, mkIt_succ, e8, hk2]))))
      | (refine lpe2_end0 (α := Int × Int × List It) (mods := (fun ⟨i, kk, us⟩ => [(5, vi i), (1, vi kk)])) [0] (_, _, _) rfl rfl rfl (by (try dsimp only []); rfl) (by first | (simp only [plnLL, pln, Value.oneCell', List.all_cons, List.all_nil, plnH, Trk.pl, Plc.pl, It.pl, Bool.and_true, Bool.and_self]; done) | rfl) (by (try dsimp only []); simp only [agrR_cons, agrR_nil, lk_cons, lk_emp, Nat.reduceEqDiff, ↓reduceIte, and_true]; repeat' (first | exact rn_v | rfl | (simp only [List.length_append, List.length_cons, List.length_nil]; rfl) | apply And.intro)) (by unfold undK; kernel_rfl) ?_ ?_ <;> ((try simp only []); (obtain ⟨hb, hk2, hm, hg⟩ := hJ; have hlt : i.toNat < us.length := (by omega); (try simp only [hlt, if_true]); have e : IntKind.i64.wrap (i + 1) = i + 1 := wrap_id (by omega) (by omega); have e1 : IntKind.i64.wrap (kk + 1) = kk + 1 := wrap_id (by omega) (by omega); (try simp only [e, e1]); first | omega | (have e7 : (i + 1).toNat = i.toNat + 1 := (by omega); refine ⟨by omega, by omega, by simp [hm], ?_⟩; have e8 : ((i.toNat : Nat) : Int) = i := (by omega); rw [e7, take_set_app hlt, hg, mkIt_succ, e8, hk2]))))
      | fail)
    | ((with_reducible refine onFin ?_); first
      | (refine fin_wr ?_ ?_ (by first | (simp only [plnLL, pln, Value.oneCell', List.all_cons, List.all_nil, plnH, Trk.pl, Plc.pl, It.pl, Bool.and_true, Bool.and_self]; done) | rfl) <;> (first | (obtain ⟨hb, hk2, hm, hg⟩ := hJ; have e2 : i.toNat = ts.length := (by omega); have h1 : us.take ts.length = us := List.take_of_length_le (by omega); rw [e2, h1] at hg; first | (have e9 : kk = k + 1 * ts.length := (by omega); rw [e9]; done) | (subst hg; rfl)) | (simp_all [fins, mkIt]; done) | (simp_all [-Int.not_lt, -Int.not_le, fins, mkIt]; done) | (simp_all [fins, mkIt]; omega)))
      | fail)
    | (with_reducible refine ite_intro (fun hq => ?_) (fun hq => ?_))
    | (with_reducible refine And.intro (fun hq => ?_) (fun hq => ?_))
    | (with_reducible refine And.intro ?_ ?_)
    | ((fail_if_success (with_reducible refine onCode ?_)); (fail_if_success (with_reducible refine onLps ?_)); (fail_if_success (with_reducible refine onLpd ?_)); (fail_if_success (with_reducible refine onLpe ?_)); (fail_if_success (with_reducible refine onFin ?_)); (fail_if_success (with_reducible refine onCall ?_)); (fail_if_success (with_reducible refine onQcall ?_)); first | omega | (rw [wrap_id (by omega) (by omega)]; omega) | (obtain ⟨hb, hk2, hm, hg⟩ := hJ; have e2 : i.toNat = ts.length := (by omega); have h1 : us.take ts.length = us := List.take_of_length_le (by omega); rw [e2, h1] at hg; first | (have e9 : kk = k + 1 * ts.length := (by omega); rw [e9]; done) | (subst hg; rfl))))

set_option maxRecDepth 100000 in
set_option maxHeartbeats 4000000 in
theorem heldIntS_gc {ts : List It} {k : Int} (hl : ts.length ≤ 1048576) (hk : 0 ≤ k ∧ k ≤ 1000000000) (hm : ∀ n : Nat, n < ts.length → ts.getD n default = ⟨k + 1 * n⟩) : GC Try.prog 29 [.sl 1 (ts.map It.e), vi k] [] (fun r_ hs_ => r_ = vi (k + 1 * ts.length) ∧ hs_ = []) := by
  refine GC.of_func [] Try.call29 Try.func29 rfl ⟨by kernel_rfl, by kernel_rfl⟩ (by kernel_rfl) ?_
  rw [Try.results29]
  simp -implicitDefEqProofs (maxSteps := 4000000) only [sim0, sim1, sim2, sim3, sim4, sim5, sim6, sim7, sim8, ↓reduceIte, Nat.reduceEqDiff, Nat.reduceAdd, Nat.reduceMul, Nat.reduceSub, Nat.reduceLT, Nat.reduceLeDiff, reduceCtorEq, Int.reduceToNat, Int.reduceNeg, Nat.reduceBEq, simx, ty, Trk.row, Plc.row, It.row, idxS_map, loadS_map, stoS_map, ← List.map_take, ← List.map_drop]
  repeat' (first
    | ((with_reducible refine onCode ?_); first
      | (refine onLid 2 ?_ (by rfl); refine acode_prune [0, 1, 4, 5] ?_; simp only [prn_cons, prn_nil, lk_cons, lk_emp, Nat.reduceEqDiff, ↓reduceIte]; refine acode_loopS2 2 (by rfl) (α := Int × Int) (fun ⟨i, kk⟩ => [(5, vi i), (1, vi kk)]) [4, 6, 7, 8, 9, 10, 11, 12, 13, 14, 15, 16, 17, 18, 19] [4] (by kernel_rfl) (fun ⟨i, kk⟩ => (0 ≤ i ∧ i ≤ ts.length) ∧ kk = k + 1 * i) (fun ⟨i, kk⟩ => (ts.length - i).toNat) ((0, k)) ?_ (by (try simp only []) <;> first | (omega) | fail) ?_; (focus ((try dsimp only []); (repeat' (first | exact agr_none | exact lk_hd | refine lk_tl (by decide) ?_ | refine agr_one ?_ ?_)); done)); rintro ⟨i, kk⟩ hJ; (try simp only [] at hJ); have hJ2 := hJ; simp -implicitDefEqProofs (maxSteps := 4000000) only [sim0, sim1, sim2, sim3, sim4, sim5, sim6, sim7, sim8, ↓reduceIte, Nat.reduceEqDiff, Nat.reduceAdd, Nat.reduceMul, Nat.reduceSub, Nat.reduceLT, Nat.reduceLeDiff, reduceCtorEq, Int.reduceToNat, Int.reduceNeg, Nat.reduceBEq, simx, ty, Trk.row, Plc.row, It.row, idxS_map, loadS_map, stoS_map, ← List.map_take, ← List.map_drop])
      | fail)
    | ((with_reducible refine onLps ?_); first
      | (refine lps2_end (α := Int × Int) (mods := (fun ⟨i, kk⟩ => [(5, vi i), (1, vi kk)])) (_, _) (by (try dsimp only []); simp only [agr_cons, agr_nil, lk_cons, lk_emp, Nat.reduceEqDiff, ↓reduceIte, and_true]; repeat' (first | rfl | apply And.intro)) (by unfold undK; kernel_rfl) ?_ ?_ <;> ((try simp only []); (obtain ⟨hb, hk2⟩ := hJ; have e : IntKind.i64.wrap (i + 1) = i + 1 := wrap_id (by omega) (by omega); have e1 : IntKind.i64.wrap (kk + 1) = kk + 1 := wrap_id (by omega) (by omega); (try simp only [e, e1]); omega)))
      | fail)
    | ((with_reducible refine onFin ?_); first
      | (refine fin_nil ?_; (first | (obtain ⟨hb, hk2⟩ := hJ; by_cases hi : i < ts.length; (case neg => (first | (exfalso; omega; done) | (have e9 : kk = k + 1 * ts.length := (by omega); rw [e9]; rfl))); (case pos => (exfalso; first | (omega; done) | (have g := hm i.toNat (by omega); have e0 : ((i.toNat : Nat) : Int) = i := (by omega); rw [e0, ← hk2] at g; have e1 : IntKind.i64.wrap (kk + 1) = kk + 1 := wrap_id (by omega) (by omega); rw [g] at hq; clear hm; first | omega | (simp [e1] at hq; done))))) | (simp_all [fins]; done) | (simp_all [-Int.not_lt, -Int.not_le, fins]; done) | (simp_all [fins]; omega)))
      | fail)
    | (with_reducible refine ite_intro (fun hq => ?_) (fun hq => ?_))
    | (with_reducible refine And.intro (fun hq => ?_) (fun hq => ?_))
    | (with_reducible refine And.intro ?_ ?_)
    | ((fail_if_success (with_reducible refine onCode ?_)); (fail_if_success (with_reducible refine onLps ?_)); (fail_if_success (with_reducible refine onLpd ?_)); (fail_if_success (with_reducible refine onLpe ?_)); (fail_if_success (with_reducible refine onFin ?_)); (fail_if_success (with_reducible refine onCall ?_)); (fail_if_success (with_reducible refine onQcall ?_)); first | omega | (rw [wrap_id (by omega) (by omega)]; omega) | (obtain ⟨hb, hk2⟩ := hJ; by_cases hi : i < ts.length; (case neg => (first | (exfalso; omega; done) | (have e9 : kk = k + 1 * ts.length := (by omega); rw [e9]; rfl))); (case pos => (exfalso; first | (omega; done) | (have g := hm i.toNat (by omega); have e0 : ((i.toNat : Nat) : Int) = i := (by omega); rw [e0, ← hk2] at g; have e1 : IntKind.i64.wrap (kk + 1) = kk + 1 := wrap_id (by omega) (by omega); rw [g] at hq; clear hm; first | omega | (simp [e1] at hq; done)))))))


theorem rn_vb {is : List Nat} {n0 : Nat} {b c : Bool} (h : c = b) : rn n0 is (AV.v (Value.bool b)) = vb c := by rw [h]; rfl
theorem rn_vi {is : List Nat} {n0 : Nat} {b c : Int} (h : c = b) : rn n0 is (AV.v (Value.int .i64 b)) = vi c := by rw [h]; rfl
def tk (ts : List Trk) (i : Int) : Trk := ts.getD i.toNat default
def pl (ps : List Plc) (i : Int) : Plc := ps.getD i.toNat default
def ig (xs : List It) (i : Int) : Int := (xs.getD i.toNat default).n
end Go.Proofs.Ytejahpnbplcgnaa
