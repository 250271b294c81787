/-
Contracts of what reads lists of tracks, over plain data.
No condition but those that the contracts name.
-/
import Derived.Test.YtejahpnbplcgnaaT1
namespace Go.Proofs.Ytejahpnbplcgnaa
open Eng
set_option linter.unusedSimpArgs false
set_option linter.unusedVariables false
structure Trk where
  i : Int
  s : Int
  x : Int
  y : Int
  h : Int
  l : Int
instance : Inhabited Trk := ⟨⟨0, 0, 0, 0, 0, 0⟩⟩
def Trk.e (t : Trk) : List AV := [vi t.i, vi t.s, vi t.x, vi t.y, vi t.h, vi t.l]
theorem Trk.ee {t : Trk} : Trk.e t = [vi t.i, vi t.s, vi t.x, vi t.y, vi t.h, vi t.l] := (rfl)
theorem Trk.pl {ts : List Trk} : plnLL (ts.map Trk.e) = true := plnLL_map (fun _ => rfl) ts
theorem Trk.ns {z : Nat} {ts : List Trk} : noslE (.arr z (ts.map Trk.e)) = true := nosl_map (fun _ => rfl) ts
theorem Trk.rn {n0 z : Nat} {is : List Nat} {ts : List Trk} : rnE n0 is (.arr z (ts.map Trk.e)) = .arr z (ts.map Trk.e) := rnE_pln Trk.pl
theorem Trk.up {n z : Nat} {r : List Nat} {ts : List Trk} : upE r n (.arr z (ts.map Trk.e)) = .arr z (ts.map Trk.e) := upE_pln Trk.pl
theorem Trk.st {ts : List Trk} {i : Nat} {a0 a1 a2 a3 a4 a5 : Int} : (ts.map Trk.e).set i [vi a0, vi a1, vi a2, vi a3, vi a4, vi a5] = (ts.set i ⟨a0, a1, a2, a3, a4, a5⟩).map Trk.e := by rw [List.map_set]; rfl
theorem Trk.ap {ts : List Trk} {a0 a1 a2 a3 a4 a5 : Int} : ts.map Trk.e ++ [[vi a0, vi a1, vi a2, vi a3, vi a4, vi a5]] = (ts ++ [(⟨a0, a1, a2, a3, a4, a5⟩ : Trk)]).map Trk.e := by rw [List.map_append]; rfl
theorem Trk.aq {ts us : List Trk} : ts.map Trk.e ++ us.map Trk.e = (ts ++ us).map Trk.e := by rw [List.map_append]
theorem Trk.rp {n : Nat} : List.replicate n [AV.v (.int .i64 0), AV.v (.int .i64 0), AV.v (.int .i64 0), AV.v (.int .i64 0), AV.v (.int .i64 0), AV.v (.int .i64 0)] = (List.replicate n (default : Trk)).map Trk.e := by rw [List.map_replicate]; rfl
theorem Trk.row : (type_of% @Trk.ee) ∧ (type_of% @Trk.pl) ∧ (type_of% @Trk.ns) ∧ (type_of% @Trk.rn) ∧ (type_of% @Trk.up) ∧ (type_of% @Trk.st) ∧ (type_of% @Trk.ap) ∧ (type_of% @Trk.aq) ∧ (type_of% @Trk.rp) :=
  ⟨@Trk.ee, @Trk.pl, @Trk.ns, @Trk.rn, @Trk.up, @Trk.st, @Trk.ap, @Trk.aq, @Trk.rp⟩
theorem Trk.i_ite {c : Prop} [Decidable c] {x y : Trk} : (if c then x else y).i = if c then x.i else y.i := by split <;> rfl
theorem Trk.s_ite {c : Prop} [Decidable c] {x y : Trk} : (if c then x else y).s = if c then x.s else y.s := by split <;> rfl
theorem Trk.x_ite {c : Prop} [Decidable c] {x y : Trk} : (if c then x else y).x = if c then x.x else y.x := by split <;> rfl
theorem Trk.y_ite {c : Prop} [Decidable c] {x y : Trk} : (if c then x else y).y = if c then x.y else y.y := by split <;> rfl
theorem Trk.h_ite {c : Prop} [Decidable c] {x y : Trk} : (if c then x else y).h = if c then x.h else y.h := by split <;> rfl
theorem Trk.l_ite {c : Prop} [Decidable c] {x y : Trk} : (if c then x else y).l = if c then x.l else y.l := by split <;> rfl
theorem Trk.ite : (type_of% @Trk.i_ite) ∧ (type_of% @Trk.s_ite) ∧ (type_of% @Trk.x_ite) ∧ (type_of% @Trk.y_ite) ∧ (type_of% @Trk.h_ite) ∧ (type_of% @Trk.l_ite) :=
  ⟨@Trk.i_ite, @Trk.s_ite, @Trk.x_ite, @Trk.y_ite, @Trk.h_ite, @Trk.l_ite⟩
def Trk.ok (t : Trk) : Prop := I64 t.i ∧ I64 t.s ∧ I64 t.x ∧ I64 t.y ∧ I64 t.h ∧ I64 t.l
theorem Trk.of : ∀ {xs : List (List Int)}, (∀ e ∈ xs, e.length = 6 ∧ ∀ z ∈ e, (Lit.int .i64 z).wf = true) → ∃ ts : List Trk, els .i64 xs = ts.map Trk.e ∧ ts.length = xs.length ∧ ∀ t ∈ ts, t.ok
  | [], _ => ⟨[], rfl, rfl, by simp⟩
  | e :: xs, h => by
    obtain ⟨ts, h1, h2, h3⟩ := Trk.of (xs := xs) fun e he => h e (by simp [he])
    obtain ⟨h4, h5⟩ := h e (by simp)
    match e, h4, h5 with
    | [a0, a1, a2, a3, a4, a5], _, h5 =>
      refine ⟨⟨a0, a1, a2, a3, a4, a5⟩ :: ts, ?_, by simp [h2], ?_⟩
      · simp only [els, List.map_cons] at h1 ⊢
        rw [h1]; rfl
      · intro t ht
        rcases List.mem_cons.1 ht with rfl | ht
        · exact ⟨h5 _ (by simp), h5 _ (by simp), h5 _ (by simp), h5 _ (by simp), h5 _ (by simp), h5 _ (by simp)⟩
        · exact h3 t ht

def Trk.b (t : Trk) : Bool := trB t.i t.s t.x t.y t.h t.l
def tlGo (ts : List Trk) (i : Int) : Bool :=
  if i < ts.length then (if Trk.b (ts.getD i.toNat default) = true ∧ ¬ (0 < i ∧ (ts.getD i.toNat default).i ≤ (ts.getD (i - 1).toNat default).i) then tlGo ts (i + 1) else false) else true
termination_by (ts.length - i).toNat
def tlB (ts : List Trk) : Bool := decide (ts.length ≤ 6) && tlGo ts 0
theorem tlB_long {ts : List Trk} (h : 6 < ts.length) : tlB ts = false := by
  have : ¬ ts.length ≤ 6 := by omega
  simp [tlB, this]
theorem tlB_short {ts : List Trk} (h : ts.length ≤ 6) : tlB ts = tlGo ts 0 := by simp [tlB, h]
set_option maxRecDepth 100000 in
set_option maxHeartbeats 4000000 in
theorem szTrackS_gc {ts : List Trk} {n : Int} (hn : 0 ≤ n ∧ n ≤ 1048576) (hl : ts.length ≤ maxLen) : GC Try.prog 17 [.sl 6 (ts.map Trk.e), vi n] [] (fun r_ hs_ => r_ = vi (if n < (ts.length : Int) then -1 else n - ts.length) ∧ hs_ = []) := by
  refine GC.of_func [] Try.call17 Try.func17 rfl ⟨by kernel_rfl, by kernel_rfl⟩ (by kernel_rfl) ?_
  rw [Try.results17]
  simp -implicitDefEqProofs (maxSteps := 4000000) only [sim0, sim1, sim2, sim3, sim4, sim5, sim6, sim7, sim8, ↓reduceIte, Nat.reduceEqDiff, Nat.reduceAdd, Nat.reduceMul, Nat.reduceSub, Nat.reduceLT, Nat.reduceLeDiff, reduceCtorEq, Int.reduceToNat, Int.reduceNeg, Nat.reduceBEq, simx, ty, Trk.row, idxS_map, loadS_map, stoS_map, ← List.map_take, ← List.map_drop]
  repeat' (first
    | ((with_reducible refine onFin ?_); first
      | (refine fin_nil ?_; (first | (have hm : maxLen = 9223372036854775807 := rfl; have e : IntKind.i64.wrap (n - ↑ts.length) = n - ↑ts.length := wrap_id (by omega) (by omega); (try rw [e] at hq); (try rw [e]); first | (rw [if_pos (by omega)]; simp [fins]; done) | (rw [if_neg (by omega)]; simp [fins]; done)) | (simp_all [fins]; done) | (simp_all [-Int.not_lt, -Int.not_le, fins]; done) | (simp_all [fins]; omega)))
      | fail)
    | (with_reducible refine ite_intro (fun hq => ?_) (fun hq => ?_))
    | (with_reducible refine And.intro (fun hq => ?_) (fun hq => ?_))
    | (with_reducible refine And.intro ?_ ?_)
    | ((fail_if_success (with_reducible refine onCode ?_)); (fail_if_success (with_reducible refine onLps ?_)); (fail_if_success (with_reducible refine onLpd ?_)); (fail_if_success (with_reducible refine onLpe ?_)); (fail_if_success (with_reducible refine onFin ?_)); (fail_if_success (with_reducible refine onCall ?_)); (fail_if_success (with_reducible refine onQcall ?_)); first | omega | (rw [wrap_id (by omega) (by omega)]; omega) | (have hm : maxLen = 9223372036854775807 := rfl; have e : IntKind.i64.wrap (n - ↑ts.length) = n - ↑ts.length := wrap_id (by omega) (by omega); (try rw [e] at hq); (try rw [e]); first | (rw [if_pos (by omega)]; simp [fins]; done) | (rw [if_neg (by omega)]; simp [fins]; done))))

set_option maxRecDepth 100000 in
set_option maxHeartbeats 4000000 in
theorem eqTrack_gc {a b c d e f a' b' c' d' e' f' : Int} : GC Try.prog 40 [.agg [vi a, vi b, vi c, vi d, vi e, vi f], .agg [vi a', vi b', vi c', vi d', vi e', vi f']] [] (fun r_ hs_ => r_ = vb (a == a' && b == b' && c == c' && d == d' && e == e' && f == f') ∧ hs_ = []) := by
  refine GC.of_func [] Try.call40 Try.func40 rfl ⟨by kernel_rfl, by kernel_rfl⟩ (by kernel_rfl) ?_
  rw [Try.results40]
  simp -implicitDefEqProofs (maxSteps := 4000000) only [sim0, sim1, sim2, sim3, sim4, sim5, sim6, sim7, sim8, ↓reduceIte, Nat.reduceEqDiff, Nat.reduceAdd, Nat.reduceMul, Nat.reduceSub, Nat.reduceLT, Nat.reduceLeDiff, reduceCtorEq, Int.reduceToNat, Int.reduceNeg, Nat.reduceBEq, simx, ty]
  repeat' (first
    | ((with_reducible refine onFin ?_); first
      | (refine fin_nil ?_; (first | (simp_all [fins]; done) | (simp_all [-Int.not_lt, -Int.not_le, fins]; done) | (simp_all [fins]; omega)))
      | fail)
    | (with_reducible refine ite_intro (fun hq => ?_) (fun hq => ?_))
    | (with_reducible refine And.intro (fun hq => ?_) (fun hq => ?_))
    | (with_reducible refine And.intro ?_ ?_)
    | ((fail_if_success (with_reducible refine onCode ?_)); (fail_if_success (with_reducible refine onLps ?_)); (fail_if_success (with_reducible refine onLpd ?_)); (fail_if_success (with_reducible refine onLpe ?_)); (fail_if_success (with_reducible refine onFin ?_)); (fail_if_success (with_reducible refine onCall ?_)); (fail_if_success (with_reducible refine onQcall ?_)); first | omega | (rw [wrap_id (by omega) (by omega)]; omega) | (simp_all; done)))

set_option maxRecDepth 100000 in
set_option maxHeartbeats 4000000 in
theorem isValidTracks_gc {ts : List Trk} : GC Try.prog 20 [.sl 6 (ts.map Trk.e)] [] (fun r_ hs_ => r_ = vb (tlB ts) ∧ hs_ = []) := by
  refine GC.of_func [(6, .val 0 (.val 1 (.val 2 (.val 3 (.val 4 (.val 5 (.val 6 (.val 7 (.val 8 (.val 9 (.val 10 (.val 11 (.val 12 (.val 13 (.val 14 (.val 15 (.val 16 (.val 17 (.done)))))))))))))))))))] Try.call20 Try.func20 rfl ⟨by kernel_rfl, by kernel_rfl⟩ (by kernel_rfl) ?_
  rw [Try.results20]
  simp -implicitDefEqProofs (maxSteps := 4000000) only [sim0, sim1, sim2, sim3, sim4, sim5, sim6, sim7, sim8, ↓reduceIte, Nat.reduceEqDiff, Nat.reduceAdd, Nat.reduceMul, Nat.reduceSub, Nat.reduceLT, Nat.reduceLeDiff, reduceCtorEq, Int.reduceToNat, Int.reduceNeg, Nat.reduceBEq, simx, ty, Trk.row, idxS_map, loadS_map, stoS_map, ← List.map_take, ← List.map_drop]
  repeat' (first
    | ((with_reducible refine onQcall ?_); first
      | (refine qcallS isValidTrack_gc rfl rfl ?_ <;> try simp -implicitDefEqProofs (maxSteps := 4000000) only [sim0, sim1, sim2, sim3, sim4, sim5, sim6, sim7, sim8, ↓reduceIte, Nat.reduceEqDiff, Nat.reduceAdd, Nat.reduceMul, Nat.reduceSub, Nat.reduceLT, Nat.reduceLeDiff, reduceCtorEq, Int.reduceToNat, Int.reduceNeg, Nat.reduceBEq, simx, ty, Trk.row, idxS_map, loadS_map, stoS_map, ← List.map_take, ← List.map_drop])
      | fail)
    | ((with_reducible refine onCode ?_); first
      | (refine onLid 4 ?_ (by rfl); refine acode_prune [0, 2, 3, 4, 8, 9, 10] ?_; simp only [prn_cons, prn_nil, lk_cons, lk_emp, Nat.reduceEqDiff, ↓reduceIte]; refine acode_loopD2 4 (by rfl) (α := Int) (fun i => [(10, vi i)]) [2, 3, 4, 11, 12, 13, 14, 15, 16, 17, 18, 19, 20, 21, 22, 23, 24, 25, 26, 27, 28, 29, 30, 31, 32, 33] [2, 3, 4] (by kernel_rfl) (fun i => (0 ≤ i ∧ i ≤ ts.length) ∧ ts.length ≤ 6 ∧ tlGo ts 0 = tlGo ts i) (fun i => (ts.length - i).toNat) (0) ?_ (by first | (simp only [plnLL, pln, Value.oneCell', List.all_cons, List.all_nil, plnH, Trk.pl, Bool.and_true, Bool.and_self]; done) | rfl) (by simp) rfl (by (try simp only []) <;> first | (simp_all [tlB]; done) | (simp_all [tlB]; omega) | omega) ?_; (focus ((try dsimp only []); (repeat' (first | exact agr_none | exact lk_hd | refine lk_tl (by decide) ?_ | refine agr_one ?_ ?_)); done)); rintro i hJ; (try simp only [] at hJ); have hJ4 := hJ; simp -implicitDefEqProofs (maxSteps := 4000000) only [sim0, sim1, sim2, sim3, sim4, sim5, sim6, sim7, sim8, ↓reduceIte, Nat.reduceEqDiff, Nat.reduceAdd, Nat.reduceMul, Nat.reduceSub, Nat.reduceLT, Nat.reduceLeDiff, reduceCtorEq, Int.reduceToNat, Int.reduceNeg, Nat.reduceBEq, simx, ty, Trk.row, idxS_map, loadS_map, stoS_map, ← List.map_take, ← List.map_drop])
      | fail)
    | ((with_reducible refine onLpd ?_); first
      | (refine lpd2_end (α := Int) (mods := (fun i => [(10, vi i)])) _ (by (try dsimp only []); simp only [agr_cons, agr_nil, lk_cons, lk_emp, Nat.reduceEqDiff, ↓reduceIte, and_true]; repeat' (first | rfl | apply And.intro)) (by unfold undK; kernel_rfl) _ rfl rfl ?_ ?_ <;> ((try simp only []); (obtain ⟨hb, hm, hg⟩ := hJ; have e : IntKind.i64.wrap (i + 1) = i + 1 := wrap_id (by omega) (by omega); rw [e]; first | omega | (refine ⟨by omega, hm, ?_⟩; rw [hg, tlGo.eq_1 ts i, if_pos (by omega)]; have e2 : IntKind.i64.wrap (i - 1) = i - 1 := wrap_id (by omega) (by omega); simp_all [Trk.b]; done))))
      | fail)
    | ((with_reducible refine onFin ?_); first
      | (refine fin_nil ?_; (first | (obtain ⟨hb, hm, hg⟩ := hJ; have e2 : 0 < i → IntKind.i64.wrap (i - 1) = i - 1 := fun h => wrap_id (by omega) (by omega); rw [tlGo.eq_1 ts i] at hg; (first | rw [if_pos (by omega)] at hg | rw [if_neg (by omega)] at hg); simp_all [Trk.b, tlB, fins]; done) | (simp_all [fins, tlB]; done) | (simp_all [-Int.not_lt, -Int.not_le, fins, tlB]; done) | (simp_all [fins, tlB]; omega)))
      | fail)
    | (with_reducible refine ite_intro (fun hq => ?_) (fun hq => ?_))
    | (with_reducible refine And.intro (fun hq => ?_) (fun hq => ?_))
    | (with_reducible refine And.intro ?_ ?_)
    | ((fail_if_success (with_reducible refine onCode ?_)); (fail_if_success (with_reducible refine onLps ?_)); (fail_if_success (with_reducible refine onLpd ?_)); (fail_if_success (with_reducible refine onLpe ?_)); (fail_if_success (with_reducible refine onFin ?_)); (fail_if_success (with_reducible refine onCall ?_)); (fail_if_success (with_reducible refine onQcall ?_)); first | omega | (rw [wrap_id (by omega) (by omega)]; omega) | (obtain ⟨hb, hm, hg⟩ := hJ; have e2 : 0 < i → IntKind.i64.wrap (i - 1) = i - 1 := fun h => wrap_id (by omega) (by omega); rw [tlGo.eq_1 ts i] at hg; (first | rw [if_pos (by omega)] at hg | rw [if_neg (by omega)] at hg); simp_all [Trk.b, tlB, fins]; done)))

set_option maxRecDepth 100000 in
set_option maxHeartbeats 4000000 in
theorem l14List_gc {ts : List Trk} : GC Try.prog 62 [.sl 6 (ts.map Trk.e)] [] (fun r_ hs_ => r_ = vb (tlB ts) ∧ hs_ = []) := by
  refine GC.of_func [(4, .val 0 (.val 1 (.val 2 (.val 3 (.val 4 (.val 5 (.val 6 (.val 7 (.val 8 (.val 9 (.val 10 (.val 11 (.val 12 (.val 13 (.val 14 (.val 15 (.val 16 (.val 17 (.val 18 (.val 19 (.val 20 (.val 21 (.val 22 (.val 23 (.done)))))))))))))))))))))))))] Try.call62 Try.func62 rfl ⟨by kernel_rfl, by kernel_rfl⟩ (by kernel_rfl) ?_
  rw [Try.results62]
  simp -implicitDefEqProofs (maxSteps := 4000000) only [sim0, sim1, sim2, sim3, sim4, sim5, sim6, sim7, sim8, ↓reduceIte, Nat.reduceEqDiff, Nat.reduceAdd, Nat.reduceMul, Nat.reduceSub, Nat.reduceLT, Nat.reduceLeDiff, reduceCtorEq, Int.reduceToNat, Int.reduceNeg, Nat.reduceBEq, simx, ty, Trk.row, idxS_map, loadS_map, stoS_map, ← List.map_take, ← List.map_drop]
  repeat' (first
    | ((with_reducible refine onQcall ?_); first
      | (refine qcallS l14Good_gc rfl rfl ?_ <;> try simp -implicitDefEqProofs (maxSteps := 4000000) only [sim0, sim1, sim2, sim3, sim4, sim5, sim6, sim7, sim8, ↓reduceIte, Nat.reduceEqDiff, Nat.reduceAdd, Nat.reduceMul, Nat.reduceSub, Nat.reduceLT, Nat.reduceLeDiff, reduceCtorEq, Int.reduceToNat, Int.reduceNeg, Nat.reduceBEq, simx, ty, Trk.row, idxS_map, loadS_map, stoS_map, ← List.map_take, ← List.map_drop])
      | fail)
    | ((with_reducible refine onCode ?_); first
      | (refine onLid 2 ?_ (by rfl); refine acode_prune [0, 2, 3] ?_; simp only [prn_cons, prn_nil, lk_cons, lk_emp, Nat.reduceEqDiff, ↓reduceIte]; refine acode_loopS2 2 (by rfl) (α := Int) (fun i => [(3, vi i)]) [2, 4, 5, 6, 7, 8, 9, 10, 11, 12, 13, 14, 15, 16, 17, 18, 19, 20, 21, 22, 23, 24, 25, 26, 27, 28, 29, 30, 31, 32, 33, 34, 35, 36, 37] [2] (by kernel_rfl) (fun i => (0 ≤ i ∧ i ≤ ts.length ∧ i ≤ 7) ∧ (ts.length ≤ 6 → tlGo ts 0 = tlGo ts i)) (fun i => (ts.length - i).toNat) (0) ?_ (by (try simp only []) <;> first | (simp_all [tlB]; done) | (simp_all [tlB]; omega) | omega) ?_; (focus ((try dsimp only []); (repeat' (first | exact agr_none | exact lk_hd | refine lk_tl (by decide) ?_ | refine agr_one ?_ ?_)); done)); rintro i hJ; (try simp only [] at hJ); have hJ2 := hJ; simp -implicitDefEqProofs (maxSteps := 4000000) only [sim0, sim1, sim2, sim3, sim4, sim5, sim6, sim7, sim8, ↓reduceIte, Nat.reduceEqDiff, Nat.reduceAdd, Nat.reduceMul, Nat.reduceSub, Nat.reduceLT, Nat.reduceLeDiff, reduceCtorEq, Int.reduceToNat, Int.reduceNeg, Nat.reduceBEq, simx, ty, Trk.row, idxS_map, loadS_map, stoS_map, ← List.map_take, ← List.map_drop])
      | fail)
    | ((with_reducible refine onLps ?_); first
      | (refine lps2_end (α := Int) (mods := (fun i => [(3, vi i)])) _ (by (try dsimp only []); simp only [agr_cons, agr_nil, lk_cons, lk_emp, Nat.reduceEqDiff, ↓reduceIte, and_true]; repeat' (first | rfl | apply And.intro)) (by unfold undK; kernel_rfl) ?_ ?_ <;> ((try simp only []); (obtain ⟨hb, hg⟩ := hJ; have e : IntKind.i64.wrap (i + 1) = i + 1 := wrap_id (by omega) (by omega); rw [e]; first | omega | (refine ⟨by omega, fun h6 => ?_⟩; rw [hg h6, tlGo.eq_1 ts i, if_pos (by omega)]; have e2 : IntKind.i64.wrap (i - 1) = i - 1 := wrap_id (by omega) (by omega); simp_all [Trk.b]; done))))
      | fail)
    | ((with_reducible refine onFin ?_); first
      | (refine fin_nil ?_; (first | (obtain ⟨hb, hg⟩ := hJ; have e2 : 0 < i → IntKind.i64.wrap (i - 1) = i - 1 := fun h => wrap_id (by omega) (by omega); by_cases h6 : ts.length ≤ 6; (case neg => (have h7 := tlB_long (ts := ts) (by omega); clear hg; first | (simp [fins, h7]; done) | (simp [fins, h7]; omega))); (case pos => (have hg1 := hg h6; clear hg; have h7 := tlB_short h6; rw [tlGo.eq_1 ts i] at hg1; (first | rw [if_pos (by omega)] at hg1 | rw [if_neg (by omega)] at hg1); rw [h7, hg1]; clear hg1 h7; first | (simp_all [Trk.b, fins]; done) | (simp_all [Trk.b, fins]; omega)))) | (simp_all [fins, tlB]; done) | (simp_all [-Int.not_lt, -Int.not_le, fins, tlB]; done) | (simp_all [fins, tlB]; omega)))
      | fail)
    | (with_reducible refine ite_intro (fun hq => ?_) (fun hq => ?_))
    | (with_reducible refine And.intro (fun hq => ?_) (fun hq => ?_))
    | (with_reducible refine And.intro ?_ ?_)
    | ((fail_if_success (with_reducible refine onCode ?_)); (fail_if_success (with_reducible refine onLps ?_)); (fail_if_success (with_reducible refine onLpd ?_)); (fail_if_success (with_reducible refine onLpe ?_)); (fail_if_success (with_reducible refine onFin ?_)); (fail_if_success (with_reducible refine onCall ?_)); (fail_if_success (with_reducible refine onQcall ?_)); first | omega | (rw [wrap_id (by omega) (by omega)]; omega) | (obtain ⟨hb, hg⟩ := hJ; have e2 : 0 < i → IntKind.i64.wrap (i - 1) = i - 1 := fun h => wrap_id (by omega) (by omega); by_cases h6 : ts.length ≤ 6; (case neg => (have h7 := tlB_long (ts := ts) (by omega); clear hg; first | (simp [fins, h7]; done) | (simp [fins, h7]; omega))); (case pos => (have hg1 := hg h6; clear hg; have h7 := tlB_short h6; rw [tlGo.eq_1 ts i] at hg1; (first | rw [if_pos (by omega)] at hg1 | rw [if_neg (by omega)] at hg1); rw [h7, hg1]; clear hg1 h7; first | (simp_all [Trk.b, fins]; done) | (simp_all [Trk.b, fins]; omega))))))

set_option maxRecDepth 100000 in
set_option maxHeartbeats 4000000 in
theorem sIsValidTracks_gc {ts : List Trk} : GC Try.prog 18 [.sl 6 (ts.map Trk.e)] [] (fun r_ hs_ => r_ = vb (tlB ts) ∧ hs_ = []) := by
  refine GC.of_func [] Try.call18 Try.func18 rfl ⟨by kernel_rfl, by kernel_rfl⟩ (by kernel_rfl) ?_
  rw [Try.results18]
  simp -implicitDefEqProofs (maxSteps := 4000000) only [sim0, sim1, sim2, sim3, sim4, sim5, sim6, sim7, sim8, ↓reduceIte, Nat.reduceEqDiff, Nat.reduceAdd, Nat.reduceMul, Nat.reduceSub, Nat.reduceLT, Nat.reduceLeDiff, reduceCtorEq, Int.reduceToNat, Int.reduceNeg, Nat.reduceBEq, simx, ty, Trk.row, idxS_map, loadS_map, stoS_map, ← List.map_take, ← List.map_drop]
  repeat' (first
    | ((with_reducible refine onCall ?_); first
      | (refine GC.callR (by repeat' (first | exact rdL_nil | refine rdL_cons ?_ ?_ | exact rd_v | exact rd_sl | exact rd_nil | refine rd_ref rfl (by simp) (plnLL_map (fun _ => rfl) _) | refine rd_rs rfl (by simp; omega) (plnLL_map (fun _ => rfl) _) | refine rd_agg ?_)) l14List_gc rfl ?_ <;> try simp -implicitDefEqProofs (maxSteps := 4000000) only [sim0, sim1, sim2, sim3, sim4, sim5, sim6, sim7, sim8, ↓reduceIte, Nat.reduceEqDiff, Nat.reduceAdd, Nat.reduceMul, Nat.reduceSub, Nat.reduceLT, Nat.reduceLeDiff, reduceCtorEq, Int.reduceToNat, Int.reduceNeg, Nat.reduceBEq, simx, ty, Trk.row, idxS_map, loadS_map, stoS_map, ← List.map_take, ← List.map_drop])
      | fail)
    | ((with_reducible refine onFin ?_); first
      | (refine fin_nil ?_; (first | (simp_all [fins]; done) | (simp_all [-Int.not_lt, -Int.not_le, fins]; done) | (simp_all [fins]; omega)))
      | fail)
    | (with_reducible refine ite_intro (fun hq => ?_) (fun hq => ?_))
    | (with_reducible refine And.intro (fun hq => ?_) (fun hq => ?_))
    | (with_reducible refine And.intro ?_ ?_)
    | ((fail_if_success (with_reducible refine onCode ?_)); (fail_if_success (with_reducible refine onLps ?_)); (fail_if_success (with_reducible refine onLpd ?_)); (fail_if_success (with_reducible refine onLpe ?_)); (fail_if_success (with_reducible refine onFin ?_)); (fail_if_success (with_reducible refine onCall ?_)); (fail_if_success (with_reducible refine onQcall ?_)); first | omega | (rw [wrap_id (by omega) (by omega)]; omega) | (simp_all; done)))

end Go.Proofs.Ytejahpnbplcgnaa
