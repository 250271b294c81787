/-
Contracts of lists of integers and of what says that a plot is valid, and the law FnExactIsValidPlot, over plain data.
No condition but those that the contracts name.
-/
import Derived.Test.YtgcmahhejblpkaaC1
import Derived.Test.YtgcmahhejblpkaaW2
namespace Go.Proofs.Ytgcmahhejblpkaa
open Eng
set_option linter.unusedSimpArgs false
set_option linter.unusedVariables false
structure It where
  n : Int
instance : Inhabited It := ⟨⟨0⟩⟩
def It.e (t : It) : List AV := [vi t.n]
theorem It.ee {t : It} : It.e t = [vi t.n] := (rfl)
theorem It.pl {ts : List It} : plnLL (ts.map It.e) = true := plnLL_map (fun _ => rfl) ts
theorem It.ns {z : Nat} {ts : List It} : noslE (.arr z (ts.map It.e)) = true := nosl_map (fun _ => rfl) ts
theorem It.rn {n0 z : Nat} {is : List Nat} {ts : List It} : rnE n0 is (.arr z (ts.map It.e)) = .arr z (ts.map It.e) := rnE_pln It.pl
theorem It.up {n z : Nat} {r : List Nat} {ts : List It} : upE r n (.arr z (ts.map It.e)) = .arr z (ts.map It.e) := upE_pln It.pl
theorem It.st {ts : List It} {i : Nat} {a0 : Int} : (ts.map It.e).set i [vi a0] = (ts.set i ⟨a0⟩).map It.e := by rw [List.map_set]; rfl
theorem It.ap {ts : List It} {a0 : Int} : ts.map It.e ++ [[vi a0]] = (ts ++ [(⟨a0⟩ : It)]).map It.e := by rw [List.map_append]; rfl
theorem It.aq {ts us : List It} : ts.map It.e ++ us.map It.e = (ts ++ us).map It.e := by rw [List.map_append]
theorem It.rp {n : Nat} : List.replicate n [AV.v (.int .i64 0)] = (List.replicate n (default : It)).map It.e := by rw [List.map_replicate]; rfl
theorem It.row : (type_of% @It.ee) ∧ (type_of% @It.pl) ∧ (type_of% @It.ns) ∧ (type_of% @It.rn) ∧ (type_of% @It.up) ∧ (type_of% @It.st) ∧ (type_of% @It.ap) ∧ (type_of% @It.aq) ∧ (type_of% @It.rp) :=
  ⟨@It.ee, @It.pl, @It.ns, @It.rn, @It.up, @It.st, @It.ap, @It.aq, @It.rp⟩
theorem It.n_ite {c : Prop} [Decidable c] {x y : It} : (if c then x else y).n = if c then x.n else y.n := by split <;> rfl
theorem It.ite : (type_of% @It.n_ite) :=
  @It.n_ite
def It.ok (t : It) : Prop := I64 t.n
theorem It.of : ∀ {xs : List (List Int)}, (∀ e ∈ xs, e.length = 1 ∧ ∀ z ∈ e, (Lit.int .i64 z).wf = true) → ∃ ts : List It, els .i64 xs = ts.map It.e ∧ ts.length = xs.length ∧ ∀ t ∈ ts, t.ok
  | [], _ => ⟨[], rfl, rfl, by simp⟩
  | e :: xs, h => by
    obtain ⟨ts, h1, h2, h3⟩ := It.of (xs := xs) fun e he => h e (by simp [he])
    obtain ⟨h4, h5⟩ := h e (by simp)
    match e, h4, h5 with
    | [a0], _, h5 =>
      refine ⟨⟨a0⟩ :: ts, ?_, by simp [h2], ?_⟩
      · simp only [els, List.map_cons] at h1 ⊢
        rw [h1]; rfl
      · intro t ht
        rcases List.mem_cons.1 ht with rfl | ht
        · exact h5 _ (by simp)
        · exact h3 t ht

set_option maxRecDepth 100000 in
set_option maxHeartbeats 4000000 in
theorem szIntS_gc {ts : List It} {n : Int} (hn : 0 ≤ n ∧ n ≤ 1048576) (hl : ts.length ≤ maxLen) : GC Try.prog 65 [.sl 1 (ts.map It.e), vi n] [] (fun r_ hs_ => r_ = vi (if n < (ts.length : Int) then -1 else n - ts.length) ∧ hs_ = []) := by
  refine GC.of_func [] Try.call65 Try.func65 rfl ⟨by kernel_rfl, by kernel_rfl⟩ (by kernel_rfl) ?_
  rw [Try.results65]
  simp -implicitDefEqProofs (maxSteps := 4000000) only [sim0, sim1, sim2, sim3, sim4, sim5, sim6, sim7, sim8, ↓reduceIte, Nat.reduceEqDiff, Nat.reduceAdd, Nat.reduceMul, Nat.reduceSub, Nat.reduceLT, Nat.reduceLeDiff, reduceCtorEq, Int.reduceToNat, Int.reduceNeg, Nat.reduceBEq, simx, ty, It.row, idxS_map, loadS_map, stoS_map, ← List.map_take, ← List.map_drop]
  repeat' (first
    | ((with_reducible refine onFin ?_); first
      | (refine fin_nil ?_; (first | (have hm : maxLen = 9223372036854775807 := rfl; have e : IntKind.i64.wrap (n - ↑ts.length) = n - ↑ts.length := wrap_id (by omega) (by omega); (try rw [e] at hq); (try rw [e]); first | (rw [if_pos (by omega)]; simp [fins]; done) | (rw [if_neg (by omega)]; simp [fins]; done)) | (simp_all [fins]; done) | (simp_all [-Int.not_lt, -Int.not_le, fins]; done) | (simp_all [fins]; omega)))
      | fail)
    | (with_reducible refine ite_intro (fun hq => ?_) (fun hq => ?_))
    | (with_reducible refine And.intro (fun hq => ?_) (fun hq => ?_))
    | (with_reducible refine And.intro ?_ ?_)
    | ((fail_if_success (with_reducible refine onCode ?_)); (fail_if_success (with_reducible refine onLps ?_)); (fail_if_success (with_reducible refine onLpd ?_)); (fail_if_success (with_reducible refine onLpe ?_)); (fail_if_success (with_reducible refine onFin ?_)); (fail_if_success (with_reducible refine onCall ?_)); (fail_if_success (with_reducible refine onQcall ?_)); first | omega | (rw [wrap_id (by omega) (by omega)]; omega) | (have hm : maxLen = 9223372036854775807 := rfl; have e : IntKind.i64.wrap (n - ↑ts.length) = n - ↑ts.length := wrap_id (by omega) (by omega); (try rw [e] at hq); (try rw [e]); first | (rw [if_pos (by omega)]; simp [fins]; done) | (rw [if_neg (by omega)]; simp [fins]; done))))

set_option maxRecDepth 100000 in
set_option maxHeartbeats 4000000 in
theorem toIntS_gc {ts : List It} (hl : ts.length ≤ 1048576) : GC Try.prog 68 [.sl 1 (ts.map It.e)] [] (fun r_ hs_ => r_ = .ref 0 ts.length ∧ hs_ = [.arr 1 (ts.map It.e)]) := by
  refine GC.of_func [] Try.call68 Try.func68 rfl ⟨by kernel_rfl, by kernel_rfl⟩ (by kernel_rfl) ?_
  rw [Try.results68]
  simp -implicitDefEqProofs (maxSteps := 4000000) only [sim0, sim1, sim2, sim3, sim4, sim5, sim6, sim7, sim8, ↓reduceIte, Nat.reduceEqDiff, Nat.reduceAdd, Nat.reduceMul, Nat.reduceSub, Nat.reduceLT, Nat.reduceLeDiff, reduceCtorEq, Int.reduceToNat, Int.reduceNeg, Nat.reduceBEq, simx, ty, It.row, idxS_map, loadS_map, stoS_map, ← List.map_take, ← List.map_drop]
  repeat' (first
    | ((with_reducible refine onCode ?_); first
      | (refine onLid 3 ?_ (by rfl); refine acode_prune [0, 2, 3, 4] ?_; simp only [prn_cons, prn_nil, lk_cons, lk_emp, Nat.reduceEqDiff, ↓reduceIte]; refine acode_loopE2 3 (by rfl) (α := Int × List It) (fun ⟨i, us⟩ => [(4, vi i), (3, .ref 0 ts.length)]) [8, 9, 10, 11, 12, 13, 14, 15, 16, 17, 18, 19, 20] [] (by kernel_rfl) [] (fun ⟨i, us⟩ => [.arr 1 (us.map It.e)]) (fun _ => by simp) (fun _ _ => rfl) (fun ⟨i, us⟩ => (0 ≤ i ∧ i ≤ ts.length) ∧ us.length = ts.length ∧ us.take i.toNat = ts.take i.toNat) (fun ⟨i, us⟩ => (ts.length - i).toNat) ((0, List.replicate ts.length default)) ?_ ?_ (by (try simp only []) <;> first | (simp_all; done) | (simp_all; omega) | omega) ?_; (focus ((try dsimp only []); (repeat' (first | exact agr_none | exact lk_hd | refine lk_tl (by decide) ?_ | refine agr_one ?_ ?_)); done)); (focus (first | rfl | (simp; done))); rintro ⟨i, us⟩ hJ; (try simp only [] at hJ); have hJ3 := hJ; simp -implicitDefEqProofs (maxSteps := 4000000) only [sim0, sim1, sim2, sim3, sim4, sim5, sim6, sim7, sim8, ↓reduceIte, Nat.reduceEqDiff, Nat.reduceAdd, Nat.reduceMul, Nat.reduceSub, Nat.reduceLT, Nat.reduceLeDiff, reduceCtorEq, Int.reduceToNat, Int.reduceNeg, Nat.reduceBEq, simx, ty, It.row, idxS_map, loadS_map, stoS_map, ← List.map_take, ← List.map_drop])
      | fail)
    | ((with_reducible refine onLpe ?_); first
      | (refine lpe2_end0 (α := Int × List It) (mods := (fun ⟨i, us⟩ => [(4, vi i), (3, .ref 0 ts.length)])) [0] (_, _) rfl rfl rfl (by (try dsimp only []); rfl) (by first | (simp only [plnLL, pln, Value.oneCell', List.all_cons, List.all_nil, plnH, It.pl, Bool.and_true, Bool.and_self]; done) | rfl) (by (try dsimp only []); simp only [agrR_cons, agrR_nil, lk_cons, lk_emp, Nat.reduceEqDiff, ↓reduceIte, and_true]; repeat' (first | exact rn_v | rfl | (simp only [List.length_append, List.length_cons, List.length_nil]; rfl) | apply And.intro)) (by unfold undK; kernel_rfl) ?_ ?_ <;> ((try simp only []); (obtain ⟨hb, hm, hg⟩ := hJ; have e : IntKind.i64.wrap (i + 1) = i + 1 := wrap_id (by omega) (by omega); rw [e]; first | omega | (refine ⟨by omega, by simp [hm], ?_⟩; have e2 : (i + 1).toNat = i.toNat + 1 := (by omega); rw [e2]; exact take_set' rfl hm (by omega) hg))))
      | fail)
    | ((with_reducible refine onFin ?_); first
      | (refine fin_own' ?_ ?_ (by simp) (by first | (simp only [plnLL, pln, Value.oneCell', List.all_cons, List.all_nil, plnH, It.pl, Bool.and_true, Bool.and_self, List.take_zero, List.nil_append, List.map_cons, List.map_nil]; done) | rfl) <;> (first | (obtain ⟨hb, hm, hg⟩ := hJ; first | rfl | (have e2 : i.toNat = ts.length := (by omega); have h1 : us.take ts.length = us := List.take_of_length_le (by omega); have h2 : ts.take ts.length = ts := List.take_length; rw [e2, h1, h2] at hg; subst hg; rfl)) | (simp_all [fins]; done) | (simp_all [-Int.not_lt, -Int.not_le, fins]; done) | (simp_all [fins]; omega)))
      | (refine fin_ownT' ?_ ?_ ?_ (by simp) (by first | (simp only [plnLL, pln, Value.oneCell', List.all_cons, List.all_nil, plnH, It.pl, Bool.and_true, Bool.and_self, List.take_zero, List.nil_append, List.map_cons, List.map_nil]; done) | rfl) rfl <;> (first | (obtain ⟨hb, hm, hg⟩ := hJ; first | rfl | (have e2 : i.toNat = ts.length := (by omega); have h1 : us.take ts.length = us := List.take_of_length_le (by omega); have h2 : ts.take ts.length = ts := List.take_length; rw [e2, h1, h2] at hg; subst hg; rfl)) | (simp_all [fins]; done) | (simp_all [-Int.not_lt, -Int.not_le, fins]; done) | (simp_all [fins]; omega)))
      | (refine fin_ids ?_ ?_ ?_ (by first | (simp only [plnLL, pln, Value.oneCell', List.all_cons, List.all_nil, plnH, It.pl, Bool.and_true, Bool.and_self, List.take_zero, List.nil_append, List.map_cons, List.map_nil]; done) | rfl) <;> (first | (obtain ⟨hb, hm, hg⟩ := hJ; first | rfl | (have e2 : i.toNat = ts.length := (by omega); have h1 : us.take ts.length = us := List.take_of_length_le (by omega); have h2 : ts.take ts.length = ts := List.take_length; rw [e2, h1, h2] at hg; subst hg; rfl)) | (simp_all [fins, funs]; done) | (simp [fins, funs]; done) | (simp_all [-Int.not_lt, -Int.not_le, fins, funs]; done) | (simp_all [fins, funs]; omega)))
      | fail)
    | (with_reducible refine ite_intro (fun hq => ?_) (fun hq => ?_))
    | (with_reducible refine And.intro (fun hq => ?_) (fun hq => ?_))
    | (with_reducible refine And.intro ?_ ?_)
    | ((fail_if_success (with_reducible refine onCode ?_)); (fail_if_success (with_reducible refine onLps ?_)); (fail_if_success (with_reducible refine onLpd ?_)); (fail_if_success (with_reducible refine onLpe ?_)); (fail_if_success (with_reducible refine onFin ?_)); (fail_if_success (with_reducible refine onCall ?_)); (fail_if_success (with_reducible refine onQcall ?_)); first | omega | (rw [wrap_id (by omega) (by omega)]; omega) | (obtain ⟨hb, hm, hg⟩ := hJ; first | rfl | (have e2 : i.toNat = ts.length := (by omega); have h1 : us.take ts.length = us := List.take_of_length_le (by omega); have h2 : ts.take ts.length = ts := List.take_length; rw [e2, h1, h2] at hg; subst hg; rfl))))

set_option maxRecDepth 100000 in
set_option maxHeartbeats 4000000 in
theorem eqIntS_gc {ts : List It} (hl : ts.length ≤ 1048576) : GC Try.prog 26 [.sl 1 (ts.map It.e), .sl 1 (ts.map It.e)] [] (fun r_ hs_ => r_ = vb true ∧ hs_ = []) := by
  refine GC.of_func [(6, .val 0 (.val 1 (.val 2 (.val 3 (.val 4 (.val 5 (.val 6 (.val 7 (.val 8 (.done))))))))))] Try.call26 Try.func26 rfl ⟨by kernel_rfl, by kernel_rfl⟩ (by kernel_rfl) ?_
  rw [Try.results26]
  simp -implicitDefEqProofs (maxSteps := 4000000) only [sim0, sim1, sim2, sim3, sim4, sim5, sim6, sim7, sim8, ↓reduceIte, Nat.reduceEqDiff, Nat.reduceAdd, Nat.reduceMul, Nat.reduceSub, Nat.reduceLT, Nat.reduceLeDiff, reduceCtorEq, Int.reduceToNat, Int.reduceNeg, Nat.reduceBEq, simx, ty, It.row, idxS_map, loadS_map, stoS_map, ← List.map_take, ← List.map_drop]
  repeat' (first
    | ((with_reducible refine onCode ?_); first
      | (refine onLid 4 ?_ (by rfl); refine acode_prune [0, 1, 4, 5] ?_; simp only [prn_cons, prn_nil, lk_cons, lk_emp, Nat.reduceEqDiff, ↓reduceIte]; refine acode_loopS2 4 (by rfl) (α := Int) (fun i => [(5, vi i)]) [4, 11, 12, 13, 14, 15, 16, 17, 18, 19, 20, 21, 22, 23, 24, 25] [4] (by kernel_rfl) (fun i => 0 ≤ i ∧ i ≤ ts.length) (fun i => (ts.length - i).toNat) (0) ?_ (by (try simp only []) <;> first | (simp_all; done) | (simp_all; omega) | omega) ?_; (focus ((try dsimp only []); (repeat' (first | exact agr_none | exact lk_hd | refine lk_tl (by decide) ?_ | refine agr_one ?_ ?_)); done)); rintro i hJ; (try simp only [] at hJ); have hJ4 := hJ; simp -implicitDefEqProofs (maxSteps := 4000000) only [sim0, sim1, sim2, sim3, sim4, sim5, sim6, sim7, sim8, ↓reduceIte, Nat.reduceEqDiff, Nat.reduceAdd, Nat.reduceMul, Nat.reduceSub, Nat.reduceLT, Nat.reduceLeDiff, reduceCtorEq, Int.reduceToNat, Int.reduceNeg, Nat.reduceBEq, simx, ty, It.row, idxS_map, loadS_map, stoS_map, ← List.map_take, ← List.map_drop])
      | fail)
    | ((with_reducible refine onLps ?_); first
      | (refine lps2_end (α := Int) (mods := (fun i => [(5, vi i)])) _ (by (try dsimp only []); simp only [agr_cons, agr_nil, lk_cons, lk_emp, Nat.reduceEqDiff, ↓reduceIte, and_true]; repeat' (first | rfl | apply And.intro)) (by unfold undK; kernel_rfl) ?_ ?_ <;> ((try simp only []); (have e : IntKind.i64.wrap (i + 1) = i + 1 := wrap_id (by omega) (by omega); rw [e]; omega)))
      | fail)
    | ((with_reducible refine onFin ?_); first
      | (refine fin_nil ?_; (first | (simp_all [fins]; done) | (simp_all [-Int.not_lt, -Int.not_le, fins]; done) | (simp_all [fins]; omega)))
      | fail)
    | (with_reducible refine ite_intro (fun hq => ?_) (fun hq => ?_))
    | (with_reducible refine And.intro (fun hq => ?_) (fun hq => ?_))
    | (with_reducible refine And.intro ?_ ?_)
    | ((fail_if_success (with_reducible refine onCode ?_)); (fail_if_success (with_reducible refine onLps ?_)); (fail_if_success (with_reducible refine onLpd ?_)); (fail_if_success (with_reducible refine onLpe ?_)); (fail_if_success (with_reducible refine onFin ?_)); (fail_if_success (with_reducible refine onCall ?_)); (fail_if_success (with_reducible refine onQcall ?_)); first | omega | (rw [wrap_id (by omega) (by omega)]; omega) | (simp_all; done)))


theorem rn_vb {is : List Nat} {n0 : Nat} {b c : Bool} (h : c = b) : rn n0 is (AV.v (Value.bool b)) = vb c := by rw [h]; rfl
theorem rn_vi {is : List Nat} {n0 : Nat} {b c : Int} (h : c = b) : rn n0 is (AV.v (Value.int .i64 b)) = vi c := by rw [h]; rfl
def ig (ts : List It) (i : Int) : Int := (ts.getD i.toNat default).n
def awP (ts : List It) (lo hi i : Int) : Bool := inB (ig ts i) lo hi
def riP (ts : List It) (i : Int) : Bool := decide (ig ts (i - 1) < ig ts i)
def rbP (ts : List It) (lo hi i : Int) : Bool := awP ts lo hi i && (decide (i = 0) || riP ts i)
theorem rb_eq {ts : List It} {lo hi : Int} : allI (rbP ts lo hi) 0 ts.length = (allI (awP ts lo hi) 0 ts.length && allI (riP ts) 1 ts.length) := by
  rw [Bool.eq_iff_iff, Bool.and_eq_true, allI_iff, allI_iff, allI_iff]
  constructor
  · intro h
    refine ⟨fun j h1 h2 => ?_, fun j h1 h2 => ?_⟩
    · have := h j h1 h2; simp only [rbP, Bool.and_eq_true] at this; exact this.1
    · have := h j (by omega) h2
      have e : ¬ j = 0 := by omega
      simp only [rbP, Bool.and_eq_true, e, decide_false, Bool.false_or] at this; exact this.2
  · intro h j h1 h2
    simp only [rbP, Bool.and_eq_true, Bool.or_eq_true, decide_eq_true_eq]
    refine ⟨h.1 j h1 h2, ?_⟩
    by_cases e : j = 0
    · exact .inl e
    · exact .inr (h.2 j (by omega) h2)
set_option maxRecDepth 100000 in
set_option maxHeartbeats 4000000 in
theorem allWithin_gc {ts : List It} {lo hi : Int} (hl : ts.length ≤ 1048576) : GC Try.prog 69 [.sl 1 (ts.map It.e), vi lo, vi hi] [] (fun r_ hs_ => r_ = vb (allI (awP ts lo hi) 0 ts.length) ∧ hs_ = []) := by
  refine GC.of_func [] Try.call69 Try.func69 rfl ⟨by kernel_rfl, by kernel_rfl⟩ (by kernel_rfl) ?_
  rw [Try.results69]
  simp -implicitDefEqProofs (maxSteps := 4000000) only [sim0, sim1, sim2, sim3, sim4, sim5, sim6, sim7, sim8, ↓reduceIte, Nat.reduceEqDiff, Nat.reduceAdd, Nat.reduceMul, Nat.reduceSub, Nat.reduceLT, Nat.reduceLeDiff, reduceCtorEq, Int.reduceToNat, Int.reduceNeg, Nat.reduceBEq, simx, ty, It.row, idxS_map, loadS_map, stoS_map, ← List.map_take, ← List.map_drop]
  repeat' (first
    | ((with_reducible refine onCall ?_); first
      | (refine GC.callS within_gc rfl rfl ?_ <;> try simp -implicitDefEqProofs (maxSteps := 4000000) only [sim0, sim1, sim2, sim3, sim4, sim5, sim6, sim7, sim8, ↓reduceIte, Nat.reduceEqDiff, Nat.reduceAdd, Nat.reduceMul, Nat.reduceSub, Nat.reduceLT, Nat.reduceLeDiff, reduceCtorEq, Int.reduceToNat, Int.reduceNeg, Nat.reduceBEq, simx, ty, It.row, idxS_map, loadS_map, stoS_map, ← List.map_take, ← List.map_drop])
      | fail)
    | ((with_reducible refine onCode ?_); first
      | (refine onLid 2 ?_ (by rfl); refine acode_prune [0, 1, 2, 6, 8, 9, 10, 11] ?_; simp only [prn_cons, prn_nil, lk_cons, lk_emp, Nat.reduceEqDiff, ↓reduceIte]; refine acode_loopS2 2 (by rfl) (α := Int) (fun i => [(11, vi i)]) [6, 8, 12, 13, 14, 15, 16, 17, 18, 19, 20] [6, 8] (by kernel_rfl) (fun i => (0 ≤ i ∧ i ≤ ts.length) ∧ allI (awP ts lo hi) 0 ts.length = allI (awP ts lo hi) i ts.length) (fun i => (ts.length - i).toNat) (0) ?_ (by (try simp only []) <;> first | (simp_all; done) | (simp_all; omega) | omega) ?_; (focus ((try dsimp only []); (repeat' (first | exact agr_none | exact lk_hd | refine lk_tl (by decide) ?_ | refine agr_one ?_ ?_)); done)); rintro i hJ; (try simp only [] at hJ); have hJ2 := hJ; simp -implicitDefEqProofs (maxSteps := 4000000) only [sim0, sim1, sim2, sim3, sim4, sim5, sim6, sim7, sim8, ↓reduceIte, Nat.reduceEqDiff, Nat.reduceAdd, Nat.reduceMul, Nat.reduceSub, Nat.reduceLT, Nat.reduceLeDiff, reduceCtorEq, Int.reduceToNat, Int.reduceNeg, Nat.reduceBEq, simx, ty, It.row, idxS_map, loadS_map, stoS_map, ← List.map_take, ← List.map_drop])
      | fail)
    | ((with_reducible refine onLps ?_); first
      | (refine lps2_end (α := Int) (mods := (fun i => [(11, vi i)])) _ (by (try dsimp only []); simp only [agr_cons, agr_nil, lk_cons, lk_emp, Nat.reduceEqDiff, ↓reduceIte, and_true]; repeat' (first | rfl | apply And.intro)) (by unfold undK; kernel_rfl) ?_ ?_ <;> ((try simp only []); (have e_ : IntKind.i64.wrap (i + 1) = i + 1 := wrap_id (by omega) (by omega); (try simp only [e_] at hq ⊢); first | omega | exact ⟨by omega, allI_go rfl (by omega) (by simpa [awP, ig] using hq) hJ2.2⟩)))
      | fail)
    | ((with_reducible refine onFin ?_); first
      | (refine fin_nil ?_; (first | (refine rn_vb ?_; first | exact allI_fin (by omega) hJ2.2 | exact allI_bad (by omega) (by simpa [awP, ig] using hq) hJ2.2) | (simp_all [fins]; done) | (simp_all [-Int.not_lt, -Int.not_le, fins]; done) | (simp_all [fins]; omega)))
      | fail)
    | (with_reducible refine ite_intro (fun hq => ?_) (fun hq => ?_))
    | (with_reducible refine And.intro (fun hq => ?_) (fun hq => ?_))
    | (with_reducible refine And.intro ?_ ?_)
    | ((fail_if_success (with_reducible refine onCode ?_)); (fail_if_success (with_reducible refine onLps ?_)); (fail_if_success (with_reducible refine onLpd ?_)); (fail_if_success (with_reducible refine onLpe ?_)); (fail_if_success (with_reducible refine onFin ?_)); (fail_if_success (with_reducible refine onCall ?_)); (fail_if_success (with_reducible refine onQcall ?_)); first | omega | (rw [wrap_id (by omega) (by omega)]; omega) | (refine rn_vb ?_; first | exact allI_fin (by omega) hJ2.2 | exact allI_bad (by omega) (by simpa [awP, ig] using hq) hJ2.2)))

set_option maxRecDepth 100000 in
set_option maxHeartbeats 4000000 in
theorem isRising_gc {ts : List It} (hl : ts.length ≤ 1048576) : GC Try.prog 70 [.sl 1 (ts.map It.e)] [] (fun r_ hs_ => r_ = vb (allI (riP ts) 1 ts.length) ∧ hs_ = []) := by
  refine GC.of_func [(4, .val 0 (.val 1 (.val 2 (.val 3 (.val 4 (.val 5 (.val 6 (.val 7 (.val 8 (.val 9 (.done)))))))))))] Try.call70 Try.func70 rfl ⟨by kernel_rfl, by kernel_rfl⟩ (by kernel_rfl) ?_
  rw [Try.results70]
  simp -implicitDefEqProofs (maxSteps := 4000000) only [sim0, sim1, sim2, sim3, sim4, sim5, sim6, sim7, sim8, ↓reduceIte, Nat.reduceEqDiff, Nat.reduceAdd, Nat.reduceMul, Nat.reduceSub, Nat.reduceLT, Nat.reduceLeDiff, reduceCtorEq, Int.reduceToNat, Int.reduceNeg, Nat.reduceBEq, simx, ty, It.row, idxS_map, loadS_map, stoS_map, ← List.map_take, ← List.map_drop]
  repeat' (first
    | ((with_reducible refine onCode ?_); first
      | (refine onLid 2 ?_ (by rfl); refine acode_prune [0, 2, 3] ?_; simp only [prn_cons, prn_nil, lk_cons, lk_emp, Nat.reduceEqDiff, ↓reduceIte]; refine acode_loopS2 2 (by rfl) (α := Int) (fun i => [(3, vi i)]) [2, 4, 5, 6, 7, 8, 9, 10, 11, 12, 13, 14, 15, 16, 17, 18, 19] [2] (by kernel_rfl) (fun i => (1 ≤ i ∧ i ≤ ts.length + 1) ∧ allI (riP ts) 1 ts.length = allI (riP ts) i ts.length) (fun i => (ts.length + 1 - i).toNat) (1) ?_ (by (try simp only []) <;> first | (exact ⟨by omega, trivial⟩) | fail) ?_; (focus ((try dsimp only []); (repeat' (first | exact agr_none | exact lk_hd | refine lk_tl (by decide) ?_ | refine agr_one ?_ ?_)); done)); rintro i hJ; (try simp only [] at hJ); have hJ2 := hJ; simp -implicitDefEqProofs (maxSteps := 4000000) only [sim0, sim1, sim2, sim3, sim4, sim5, sim6, sim7, sim8, ↓reduceIte, Nat.reduceEqDiff, Nat.reduceAdd, Nat.reduceMul, Nat.reduceSub, Nat.reduceLT, Nat.reduceLeDiff, reduceCtorEq, Int.reduceToNat, Int.reduceNeg, Nat.reduceBEq, simx, ty, It.row, idxS_map, loadS_map, stoS_map, ← List.map_take, ← List.map_drop])
      | fail)
    | ((with_reducible refine onLps ?_); first
      | (refine lps2_end (α := Int) (mods := (fun i => [(3, vi i)])) _ (by (try dsimp only []); simp only [agr_cons, agr_nil, lk_cons, lk_emp, Nat.reduceEqDiff, ↓reduceIte, and_true]; repeat' (first | rfl | apply And.intro)) (by unfold undK; kernel_rfl) ?_ ?_ <;> ((try simp only []); (have e_ : IntKind.i64.wrap (i + 1) = i + 1 := wrap_id (by omega) (by omega); (try simp only [e_] at hq ⊢); (have e9 : IntKind.i64.wrap (i - 1) = i - 1 := wrap_id (by omega) (by omega)); (try simp only [e9] at hq); first | omega | exact ⟨by omega, allI_go rfl (by omega) (by simpa [riP, ig] using hq) hJ2.2⟩)))
      | fail)
    | ((with_reducible refine onFin ?_); first
      | (refine fin_nil ?_; (first | (refine rn_vb ?_; (have e9 : IntKind.i64.wrap (i - 1) = i - 1 := wrap_id (by omega) (by omega)); (try simp only [e9] at hq); first | exact allI_fin (by omega) hJ2.2 | exact allI_bad (by omega) (by simpa [riP, ig] using hq) hJ2.2) | (simp_all [fins]; done) | (simp_all [-Int.not_lt, -Int.not_le, fins]; done) | (simp_all [fins]; omega)))
      | fail)
    | (with_reducible refine ite_intro (fun hq => ?_) (fun hq => ?_))
    | (with_reducible refine And.intro (fun hq => ?_) (fun hq => ?_))
    | (with_reducible refine And.intro ?_ ?_)
    | ((fail_if_success (with_reducible refine onCode ?_)); (fail_if_success (with_reducible refine onLps ?_)); (fail_if_success (with_reducible refine onLpd ?_)); (fail_if_success (with_reducible refine onLpe ?_)); (fail_if_success (with_reducible refine onFin ?_)); (fail_if_success (with_reducible refine onCall ?_)); (fail_if_success (with_reducible refine onQcall ?_)); first | omega | (rw [wrap_id (by omega) (by omega)]; omega) | (refine rn_vb ?_; (have e9 : IntKind.i64.wrap (i - 1) = i - 1 := wrap_id (by omega) (by omega)); (try simp only [e9] at hq); first | exact allI_fin (by omega) hJ2.2 | exact allI_bad (by omega) (by simpa [riP, ig] using hq) hJ2.2)))

set_option maxRecDepth 100000 in
set_option maxHeartbeats 4000000 in
theorem l1Rising_gc {ts : List It} {lo hi : Int} (hl : ts.length ≤ 1048576) : GC Try.prog 100 [.sl 1 (ts.map It.e), vi lo, vi hi] [] (fun r_ hs_ => r_ = vb (allI (rbP ts lo hi) 0 ts.length) ∧ hs_ = []) := by
  refine GC.of_func [(4, .val 0 (.val 1 (.val 2 (.val 3 (.val 4 (.val 5 (.val 6 (.val 7 (.val 8 (.val 9 (.val 10 (.val 11 (.val 12 (.val 13 (.val 14 (.val 15 (.val 16 (.val 17 (.val 18 (.val 19 (.val 20 (.val 21 (.val 22 (.val 23 (.done)))))))))))))))))))))))))] Try.call100 Try.func100 rfl ⟨by kernel_rfl, by kernel_rfl⟩ (by kernel_rfl) ?_
  rw [Try.results100]
  simp -implicitDefEqProofs (maxSteps := 4000000) only [sim0, sim1, sim2, sim3, sim4, sim5, sim6, sim7, sim8, ↓reduceIte, Nat.reduceEqDiff, Nat.reduceAdd, Nat.reduceMul, Nat.reduceSub, Nat.reduceLT, Nat.reduceLeDiff, reduceCtorEq, Int.reduceToNat, Int.reduceNeg, Nat.reduceBEq, simx, ty, It.row, idxS_map, loadS_map, stoS_map, ← List.map_take, ← List.map_drop]
  repeat' (first
    | ((with_reducible refine onQcall ?_); first
      | (refine qcallS l1In_gc rfl rfl ?_ <;> try simp -implicitDefEqProofs (maxSteps := 4000000) only [sim0, sim1, sim2, sim3, sim4, sim5, sim6, sim7, sim8, ↓reduceIte, Nat.reduceEqDiff, Nat.reduceAdd, Nat.reduceMul, Nat.reduceSub, Nat.reduceLT, Nat.reduceLeDiff, reduceCtorEq, Int.reduceToNat, Int.reduceNeg, Nat.reduceBEq, simx, ty, It.row, idxS_map, loadS_map, stoS_map, ← List.map_take, ← List.map_drop])
      | fail)
    | ((with_reducible refine onCode ?_); first
      | (refine onLid 2 ?_ (by rfl); refine acode_prune [0, 1, 2, 6, 7] ?_; simp only [prn_cons, prn_nil, lk_cons, lk_emp, Nat.reduceEqDiff, ↓reduceIte]; refine acode_loopS2 2 (by rfl) (α := Int) (fun i => [(7, vi i)]) [6, 8, 9, 10, 11, 12, 13, 14, 15, 16, 17, 18, 19, 20, 21, 22, 23, 24, 25, 26, 27, 28, 29, 30, 31, 32, 33, 34, 35, 36, 37] [6] (by kernel_rfl) (fun i => (0 ≤ i ∧ i ≤ ts.length) ∧ allI (rbP ts lo hi) 0 ts.length = allI (rbP ts lo hi) i ts.length) (fun i => (ts.length - i).toNat) (0) ?_ (by (try simp only []) <;> first | (simp_all; done) | (simp_all; omega) | omega) ?_; (focus ((try dsimp only []); (repeat' (first | exact agr_none | exact lk_hd | refine lk_tl (by decide) ?_ | refine agr_one ?_ ?_)); done)); rintro i hJ; (try simp only [] at hJ); have hJ2 := hJ; simp -implicitDefEqProofs (maxSteps := 4000000) only [sim0, sim1, sim2, sim3, sim4, sim5, sim6, sim7, sim8, ↓reduceIte, Nat.reduceEqDiff, Nat.reduceAdd, Nat.reduceMul, Nat.reduceSub, Nat.reduceLT, Nat.reduceLeDiff, reduceCtorEq, Int.reduceToNat, Int.reduceNeg, Nat.reduceBEq, simx, ty, It.row, idxS_map, loadS_map, stoS_map, ← List.map_take, ← List.map_drop])
      | fail)
    | ((with_reducible refine onLps ?_); first
      | (refine lps2_end (α := Int) (mods := (fun i => [(7, vi i)])) _ (by (try dsimp only []); simp only [agr_cons, agr_nil, lk_cons, lk_emp, Nat.reduceEqDiff, ↓reduceIte, and_true]; repeat' (first | rfl | apply And.intro)) (by unfold undK; kernel_rfl) ?_ ?_ <;> ((try simp only []); (have e_ : IntKind.i64.wrap (i + 1) = i + 1 := wrap_id (by omega) (by omega); (try simp only [e_] at hq ⊢); first | omega | (refine ⟨by omega, allI_go rfl (by omega) ?_ hJ2.2⟩; simp only [rbP, awP, riP, ig]; by_cases h0 : i = 0; (case pos => (subst h0; simp_all; done)); (case neg => ((have e9 : IntKind.i64.wrap (i - 1) = i - 1 := wrap_id (by omega) (by omega)); simp_all; first | done | omega))))))
      | fail)
    | ((with_reducible refine onFin ?_); first
      | (refine fin_nil ?_; (first | (refine rn_vb ?_; first | exact allI_fin (by omega) hJ2.2 | (refine allI_bad (by omega) ?_ hJ2.2; simp only [rbP, awP, riP, ig]; by_cases h0 : i = 0; (case pos => (subst h0; simp_all; done)); (case neg => ((have e9 : IntKind.i64.wrap (i - 1) = i - 1 := wrap_id (by omega) (by omega)); simp_all; first | done | omega)))) | (simp_all [fins]; done) | (simp_all [-Int.not_lt, -Int.not_le, fins]; done) | (simp_all [fins]; omega)))
      | fail)
    | (with_reducible refine ite_intro (fun hq => ?_) (fun hq => ?_))
    | (with_reducible refine And.intro (fun hq => ?_) (fun hq => ?_))
    | (with_reducible refine And.intro ?_ ?_)
    | ((fail_if_success (with_reducible refine onCode ?_)); (fail_if_success (with_reducible refine onLps ?_)); (fail_if_success (with_reducible refine onLpd ?_)); (fail_if_success (with_reducible refine onLpe ?_)); (fail_if_success (with_reducible refine onFin ?_)); (fail_if_success (with_reducible refine onCall ?_)); (fail_if_success (with_reducible refine onQcall ?_)); first | omega | (rw [wrap_id (by omega) (by omega)]; omega) | (refine rn_vb ?_; first | exact allI_fin (by omega) hJ2.2 | (refine allI_bad (by omega) ?_ hJ2.2; simp only [rbP, awP, riP, ig]; by_cases h0 : i = 0; (case pos => (subst h0; simp_all; done)); (case neg => ((have e9 : IntKind.i64.wrap (i - 1) = i - 1 := wrap_id (by omega) (by omega)); simp_all; first | done | omega))))))

def plotB (s a x y : Int) (ts : List It) : Bool := inB s 0 86400 && inB a 1 65535 && placeB x y && inB ts.length 1 9 && allI (awP ts 1 9) 0 ts.length && allI (riP ts) 1 ts.length
set_option maxRecDepth 100000 in
set_option maxHeartbeats 4000000 in
theorem toPlot_gc {s a x y : Int} {ts : List It} (hl : ts.length ≤ 1048576) : GC Try.prog 21 [.agg [vi s, vi a, vi x, vi y, .sl 1 (ts.map It.e)]] [] (fun r_ hs_ => r_ = .agg [vi s, vi a, vi x, vi y, .ref 0 ts.length] ∧ hs_ = [.arr 1 (ts.map It.e)]) := by
  refine GC.of_func [] Try.call21 Try.func21 rfl ⟨by kernel_rfl, by kernel_rfl⟩ (by kernel_rfl) ?_
  rw [Try.results21]
  simp -implicitDefEqProofs (maxSteps := 4000000) only [sim0, sim1, sim2, sim3, sim4, sim5, sim6, sim7, sim8, ↓reduceIte, Nat.reduceEqDiff, Nat.reduceAdd, Nat.reduceMul, Nat.reduceSub, Nat.reduceLT, Nat.reduceLeDiff, reduceCtorEq, Int.reduceToNat, Int.reduceNeg, Nat.reduceBEq, simx, ty, It.row, idxS_map, loadS_map, stoS_map, ← List.map_take, ← List.map_drop]
  repeat' (first
    | ((with_reducible refine onCall ?_); first
      | (refine GC.callS toPlace_gc rfl rfl ?_ <;> try simp -implicitDefEqProofs (maxSteps := 4000000) only [sim0, sim1, sim2, sim3, sim4, sim5, sim6, sim7, sim8, ↓reduceIte, Nat.reduceEqDiff, Nat.reduceAdd, Nat.reduceMul, Nat.reduceSub, Nat.reduceLT, Nat.reduceLeDiff, reduceCtorEq, Int.reduceToNat, Int.reduceNeg, Nat.reduceBEq, simx, ty, It.row, idxS_map, loadS_map, stoS_map, ← List.map_take, ← List.map_drop])
      | (refine GC.use true [] (toIntS_gc ?_) rfl trivial (by repeat' (first | exact arL_nil | refine arL_cons ?_ ?_ | exact ar_v | exact ar_sl | exact ar_nil | refine ar_ref rfl rfl (by simp) (plnLL_map (fun _ => rfl) _) | refine ar_rs rfl rfl (by simp; omega) (plnLL_map (fun _ => rfl) _) | refine ar_agg ?_)) (.inr ⟨rfl, by first | rfl | simp [It.ns]⟩) ?_ <;> try simp -implicitDefEqProofs (maxSteps := 4000000) only [sim0, sim1, sim2, sim3, sim4, sim5, sim6, sim7, sim8, ↓reduceIte, Nat.reduceEqDiff, Nat.reduceAdd, Nat.reduceMul, Nat.reduceSub, Nat.reduceLT, Nat.reduceLeDiff, reduceCtorEq, Int.reduceToNat, Int.reduceNeg, Nat.reduceBEq, simx, ty, It.row, idxS_map, loadS_map, stoS_map, ← List.map_take, ← List.map_drop])
      | fail)
    | ((with_reducible refine onFin ?_); first
      | (refine fin_own' ?_ ?_ (by simp) (by first | (simp only [plnLL, pln, Value.oneCell', List.all_cons, List.all_nil, plnH, It.pl, Bool.and_true, Bool.and_self, List.take_zero, List.nil_append, List.map_cons, List.map_nil]; done) | rfl) <;> (first | (simp_all [fins]; done) | (simp_all [-Int.not_lt, -Int.not_le, fins]; done) | (simp_all [fins]; omega)))
      | (refine fin_ownT' ?_ ?_ ?_ (by simp) (by first | (simp only [plnLL, pln, Value.oneCell', List.all_cons, List.all_nil, plnH, It.pl, Bool.and_true, Bool.and_self, List.take_zero, List.nil_append, List.map_cons, List.map_nil]; done) | rfl) rfl <;> (first | (simp_all [fins]; done) | (simp_all [-Int.not_lt, -Int.not_le, fins]; done) | (simp_all [fins]; omega)))
      | (refine fin_ids ?_ ?_ ?_ (by first | (simp only [plnLL, pln, Value.oneCell', List.all_cons, List.all_nil, plnH, It.pl, Bool.and_true, Bool.and_self, List.take_zero, List.nil_append, List.map_cons, List.map_nil]; done) | rfl) <;> (first | (simp_all [fins, funs]; done) | (simp [fins, funs]; done) | (simp_all [-Int.not_lt, -Int.not_le, fins, funs]; done) | (simp_all [fins, funs]; omega)))
      | fail)
    | (with_reducible refine ite_intro (fun hq => ?_) (fun hq => ?_))
    | (with_reducible refine And.intro (fun hq => ?_) (fun hq => ?_))
    | (with_reducible refine And.intro ?_ ?_)
    | ((fail_if_success (with_reducible refine onCode ?_)); (fail_if_success (with_reducible refine onLps ?_)); (fail_if_success (with_reducible refine onLpd ?_)); (fail_if_success (with_reducible refine onLpe ?_)); (fail_if_success (with_reducible refine onFin ?_)); (fail_if_success (with_reducible refine onCall ?_)); (fail_if_success (with_reducible refine onQcall ?_)); first | ((omega); done) | omega | (rw [wrap_id (by omega) (by omega)]; omega) | (simp_all; done)))

set_option maxRecDepth 100000 in
set_option maxHeartbeats 4000000 in
theorem szPlot_gc {s a x y : Int} {ts : List It} {n : Int} (hn : 0 ≤ n ∧ n ≤ 1048576) (hl : ts.length ≤ maxLen) : GC Try.prog 19 [.agg [vi s, vi a, vi x, vi y, .sl 1 (ts.map It.e)], vi n] [] (fun r_ hs_ => r_ = vi (if n < (ts.length : Int) then -1 else n - ts.length) ∧ hs_ = []) := by
  refine GC.of_func [] Try.call19 Try.func19 rfl ⟨by kernel_rfl, by kernel_rfl⟩ (by kernel_rfl) ?_
  rw [Try.results19]
  simp -implicitDefEqProofs (maxSteps := 4000000) only [sim0, sim1, sim2, sim3, sim4, sim5, sim6, sim7, sim8, ↓reduceIte, Nat.reduceEqDiff, Nat.reduceAdd, Nat.reduceMul, Nat.reduceSub, Nat.reduceLT, Nat.reduceLeDiff, reduceCtorEq, Int.reduceToNat, Int.reduceNeg, Nat.reduceBEq, simx, ty, It.row, idxS_map, loadS_map, stoS_map, ← List.map_take, ← List.map_drop, sz_neg]
  repeat' (first
    | ((with_reducible refine onCall ?_); first
      | (refine GC.callR (by repeat' (first | exact rdL_nil | refine rdL_cons ?_ ?_ | exact rd_v | exact rd_sl | exact rd_nil | refine rd_ref rfl (by simp) (plnLL_map (fun _ => rfl) _) | refine rd_rs rfl (by simp; omega) (plnLL_map (fun _ => rfl) _) | refine rd_agg ?_)) (szIntS_gc ?_ ?_) rfl ?_ <;> try simp -implicitDefEqProofs (maxSteps := 4000000) only [sim0, sim1, sim2, sim3, sim4, sim5, sim6, sim7, sim8, ↓reduceIte, Nat.reduceEqDiff, Nat.reduceAdd, Nat.reduceMul, Nat.reduceSub, Nat.reduceLT, Nat.reduceLeDiff, reduceCtorEq, Int.reduceToNat, Int.reduceNeg, Nat.reduceBEq, simx, ty, It.row, idxS_map, loadS_map, stoS_map, ← List.map_take, ← List.map_drop, sz_neg])
      | fail)
    | ((with_reducible refine onFin ?_); first
      | (refine fin_nil ?_; (first | (simp_all [fins]; done) | (simp_all [-Int.not_lt, -Int.not_le, fins]; done) | (simp_all [fins]; omega)))
      | fail)
    | (with_reducible refine ite_intro (fun hq => ?_) (fun hq => ?_))
    | (with_reducible refine And.intro (fun hq => ?_) (fun hq => ?_))
    | (with_reducible refine And.intro ?_ ?_)
    | ((fail_if_success (with_reducible refine onCode ?_)); (fail_if_success (with_reducible refine onLps ?_)); (fail_if_success (with_reducible refine onLpd ?_)); (fail_if_success (with_reducible refine onLpe ?_)); (fail_if_success (with_reducible refine onFin ?_)); (fail_if_success (with_reducible refine onCall ?_)); (fail_if_success (with_reducible refine onQcall ?_)); first | ((omega); done) | omega | (rw [wrap_id (by omega) (by omega)]; omega) | (simp_all; done)))

set_option maxRecDepth 100000 in
set_option maxHeartbeats 4000000 in
theorem eqPlot_gc {s a x y : Int} {ts : List It} (hl : ts.length ≤ 1048576) : GC Try.prog 23 [.agg [vi s, vi a, vi x, vi y, .sl 1 (ts.map It.e)], .agg [vi s, vi a, vi x, vi y, .sl 1 (ts.map It.e)]] [] (fun r_ hs_ => r_ = vb true ∧ hs_ = []) := by
  refine GC.of_func [] Try.call23 Try.func23 rfl ⟨by kernel_rfl, by kernel_rfl⟩ (by kernel_rfl) ?_
  rw [Try.results23]
  simp -implicitDefEqProofs (maxSteps := 4000000) only [sim0, sim1, sim2, sim3, sim4, sim5, sim6, sim7, sim8, ↓reduceIte, Nat.reduceEqDiff, Nat.reduceAdd, Nat.reduceMul, Nat.reduceSub, Nat.reduceLT, Nat.reduceLeDiff, reduceCtorEq, Int.reduceToNat, Int.reduceNeg, Nat.reduceBEq, simx, ty, It.row, idxS_map, loadS_map, stoS_map, ← List.map_take, ← List.map_drop]
  repeat' (first
    | ((with_reducible refine onCall ?_); first
      | (refine GC.callS eqPlace_gc rfl rfl ?_ <;> try simp -implicitDefEqProofs (maxSteps := 4000000) only [sim0, sim1, sim2, sim3, sim4, sim5, sim6, sim7, sim8, ↓reduceIte, Nat.reduceEqDiff, Nat.reduceAdd, Nat.reduceMul, Nat.reduceSub, Nat.reduceLT, Nat.reduceLeDiff, reduceCtorEq, Int.reduceToNat, Int.reduceNeg, Nat.reduceBEq, simx, ty, It.row, idxS_map, loadS_map, stoS_map, ← List.map_take, ← List.map_drop])
      | (refine GC.callR (by repeat' (first | exact rdL_nil | refine rdL_cons ?_ ?_ | exact rd_v | exact rd_sl | exact rd_nil | refine rd_ref rfl (by simp) (plnLL_map (fun _ => rfl) _) | refine rd_rs rfl (by simp; omega) (plnLL_map (fun _ => rfl) _) | refine rd_agg ?_)) (eqIntS_gc ?_) rfl ?_ <;> try simp -implicitDefEqProofs (maxSteps := 4000000) only [sim0, sim1, sim2, sim3, sim4, sim5, sim6, sim7, sim8, ↓reduceIte, Nat.reduceEqDiff, Nat.reduceAdd, Nat.reduceMul, Nat.reduceSub, Nat.reduceLT, Nat.reduceLeDiff, reduceCtorEq, Int.reduceToNat, Int.reduceNeg, Nat.reduceBEq, simx, ty, It.row, idxS_map, loadS_map, stoS_map, ← List.map_take, ← List.map_drop])
      | fail)
    | ((with_reducible refine onFin ?_); first
      | (refine fin_nil ?_; (first | (simp_all [fins]; done) | (simp_all [-Int.not_lt, -Int.not_le, fins]; done) | (simp_all [fins]; omega)))
      | fail)
    | (with_reducible refine ite_intro (fun hq => ?_) (fun hq => ?_))
    | (with_reducible refine And.intro (fun hq => ?_) (fun hq => ?_))
    | (with_reducible refine And.intro ?_ ?_)
    | ((fail_if_success (with_reducible refine onCode ?_)); (fail_if_success (with_reducible refine onLps ?_)); (fail_if_success (with_reducible refine onLpd ?_)); (fail_if_success (with_reducible refine onLpe ?_)); (fail_if_success (with_reducible refine onFin ?_)); (fail_if_success (with_reducible refine onCall ?_)); (fail_if_success (with_reducible refine onQcall ?_)); first | ((omega); done) | omega | (rw [wrap_id (by omega) (by omega)]; omega) | (simp_all; done)))

set_option maxRecDepth 100000 in
set_option maxHeartbeats 4000000 in
theorem isValidPlot_gc {s a x y : Int} {ts : List It} (hl : ts.length ≤ 1048576) : GC Try.prog 22 [.agg [vi s, vi a, vi x, vi y, .sl 1 (ts.map It.e)]] [] (fun r_ hs_ => r_ = vb (plotB s a x y ts) ∧ hs_ = []) := by
  refine GC.of_func [] Try.call22 Try.func22 rfl ⟨by kernel_rfl, by kernel_rfl⟩ (by kernel_rfl) ?_
  rw [Try.results22]
  simp -implicitDefEqProofs (maxSteps := 4000000) only [sim0, sim1, sim2, sim3, sim4, sim5, sim6, sim7, sim8, ↓reduceIte, Nat.reduceEqDiff, Nat.reduceAdd, Nat.reduceMul, Nat.reduceSub, Nat.reduceLT, Nat.reduceLeDiff, reduceCtorEq, Int.reduceToNat, Int.reduceNeg, Nat.reduceBEq, simx, ty, It.row, idxS_map, loadS_map, stoS_map, ← List.map_take, ← List.map_drop]
  repeat' (first
    | ((with_reducible refine onCall ?_); first
      | (refine GC.callS isSecond_gc rfl rfl ?_ <;> try simp -implicitDefEqProofs (maxSteps := 4000000) only [sim0, sim1, sim2, sim3, sim4, sim5, sim6, sim7, sim8, ↓reduceIte, Nat.reduceEqDiff, Nat.reduceAdd, Nat.reduceMul, Nat.reduceSub, Nat.reduceLT, Nat.reduceLeDiff, reduceCtorEq, Int.reduceToNat, Int.reduceNeg, Nat.reduceBEq, simx, ty, It.row, idxS_map, loadS_map, stoS_map, ← List.map_take, ← List.map_drop])
      | (refine GC.callS isAddress_gc rfl rfl ?_ <;> try simp -implicitDefEqProofs (maxSteps := 4000000) only [sim0, sim1, sim2, sim3, sim4, sim5, sim6, sim7, sim8, ↓reduceIte, Nat.reduceEqDiff, Nat.reduceAdd, Nat.reduceMul, Nat.reduceSub, Nat.reduceLT, Nat.reduceLeDiff, reduceCtorEq, Int.reduceToNat, Int.reduceNeg, Nat.reduceBEq, simx, ty, It.row, idxS_map, loadS_map, stoS_map, ← List.map_take, ← List.map_drop])
      | (refine GC.callS isValidPlace_gc rfl rfl ?_ <;> try simp -implicitDefEqProofs (maxSteps := 4000000) only [sim0, sim1, sim2, sim3, sim4, sim5, sim6, sim7, sim8, ↓reduceIte, Nat.reduceEqDiff, Nat.reduceAdd, Nat.reduceMul, Nat.reduceSub, Nat.reduceLT, Nat.reduceLeDiff, reduceCtorEq, Int.reduceToNat, Int.reduceNeg, Nat.reduceBEq, simx, ty, It.row, idxS_map, loadS_map, stoS_map, ← List.map_take, ← List.map_drop])
      | (refine GC.callS within_gc rfl rfl ?_ <;> try simp -implicitDefEqProofs (maxSteps := 4000000) only [sim0, sim1, sim2, sim3, sim4, sim5, sim6, sim7, sim8, ↓reduceIte, Nat.reduceEqDiff, Nat.reduceAdd, Nat.reduceMul, Nat.reduceSub, Nat.reduceLT, Nat.reduceLeDiff, reduceCtorEq, Int.reduceToNat, Int.reduceNeg, Nat.reduceBEq, simx, ty, It.row, idxS_map, loadS_map, stoS_map, ← List.map_take, ← List.map_drop])
      | (refine GC.callR (by repeat' (first | exact rdL_nil | refine rdL_cons ?_ ?_ | exact rd_v | exact rd_sl | exact rd_nil | refine rd_ref rfl (by simp) (plnLL_map (fun _ => rfl) _) | refine rd_rs rfl (by simp; omega) (plnLL_map (fun _ => rfl) _) | refine rd_agg ?_)) (allWithin_gc ?_) rfl ?_ <;> try simp -implicitDefEqProofs (maxSteps := 4000000) only [sim0, sim1, sim2, sim3, sim4, sim5, sim6, sim7, sim8, ↓reduceIte, Nat.reduceEqDiff, Nat.reduceAdd, Nat.reduceMul, Nat.reduceSub, Nat.reduceLT, Nat.reduceLeDiff, reduceCtorEq, Int.reduceToNat, Int.reduceNeg, Nat.reduceBEq, simx, ty, It.row, idxS_map, loadS_map, stoS_map, ← List.map_take, ← List.map_drop])
      | (refine GC.callR (by repeat' (first | exact rdL_nil | refine rdL_cons ?_ ?_ | exact rd_v | exact rd_sl | exact rd_nil | refine rd_ref rfl (by simp) (plnLL_map (fun _ => rfl) _) | refine rd_rs rfl (by simp; omega) (plnLL_map (fun _ => rfl) _) | refine rd_agg ?_)) (isRising_gc ?_) rfl ?_ <;> try simp -implicitDefEqProofs (maxSteps := 4000000) only [sim0, sim1, sim2, sim3, sim4, sim5, sim6, sim7, sim8, ↓reduceIte, Nat.reduceEqDiff, Nat.reduceAdd, Nat.reduceMul, Nat.reduceSub, Nat.reduceLT, Nat.reduceLeDiff, reduceCtorEq, Int.reduceToNat, Int.reduceNeg, Nat.reduceBEq, simx, ty, It.row, idxS_map, loadS_map, stoS_map, ← List.map_take, ← List.map_drop])
      | fail)
    | ((with_reducible refine onFin ?_); first
      | (refine fin_nil ?_; (first | (simp_all [fins, plotB]; done) | (simp_all [-Int.not_lt, -Int.not_le, fins, plotB]; done) | (simp_all [fins, plotB]; omega)))
      | fail)
    | (with_reducible refine ite_intro (fun hq => ?_) (fun hq => ?_))
    | (with_reducible refine And.intro (fun hq => ?_) (fun hq => ?_))
    | (with_reducible refine And.intro ?_ ?_)
    | ((fail_if_success (with_reducible refine onCode ?_)); (fail_if_success (with_reducible refine onLps ?_)); (fail_if_success (with_reducible refine onLpd ?_)); (fail_if_success (with_reducible refine onLpe ?_)); (fail_if_success (with_reducible refine onFin ?_)); (fail_if_success (with_reducible refine onCall ?_)); (fail_if_success (with_reducible refine onQcall ?_)); first | ((exact hl); done) | omega | (rw [wrap_id (by omega) (by omega)]; omega) | (simp_all; done)))

set_option maxRecDepth 100000 in
set_option maxHeartbeats 4000000 in
theorem l13Plot_gc {s a x y : Int} {ts : List It} (hl : ts.length ≤ 1048576) : GC Try.prog 66 [.agg [vi s, vi a, vi x, vi y, .sl 1 (ts.map It.e)]] [] (fun r_ hs_ => r_ = vb (plotB s a x y ts) ∧ hs_ = []) := by
  refine GC.of_func [] Try.call66 Try.func66 rfl ⟨by kernel_rfl, by kernel_rfl⟩ (by kernel_rfl) ?_
  rw [Try.results66]
  simp -implicitDefEqProofs (maxSteps := 4000000) only [sim0, sim1, sim2, sim3, sim4, sim5, sim6, sim7, sim8, ↓reduceIte, Nat.reduceEqDiff, Nat.reduceAdd, Nat.reduceMul, Nat.reduceSub, Nat.reduceLT, Nat.reduceLeDiff, reduceCtorEq, Int.reduceToNat, Int.reduceNeg, Nat.reduceBEq, simx, ty, It.row, idxS_map, loadS_map, stoS_map, ← List.map_take, ← List.map_drop, rb_eq]
  repeat' (first
    | ((with_reducible refine onCall ?_); first
      | (refine GC.callS l13Second_gc rfl rfl ?_ <;> try simp -implicitDefEqProofs (maxSteps := 4000000) only [sim0, sim1, sim2, sim3, sim4, sim5, sim6, sim7, sim8, ↓reduceIte, Nat.reduceEqDiff, Nat.reduceAdd, Nat.reduceMul, Nat.reduceSub, Nat.reduceLT, Nat.reduceLeDiff, reduceCtorEq, Int.reduceToNat, Int.reduceNeg, Nat.reduceBEq, simx, ty, It.row, idxS_map, loadS_map, stoS_map, ← List.map_take, ← List.map_drop, rb_eq])
      | (refine GC.callS l13Address_gc rfl rfl ?_ <;> try simp -implicitDefEqProofs (maxSteps := 4000000) only [sim0, sim1, sim2, sim3, sim4, sim5, sim6, sim7, sim8, ↓reduceIte, Nat.reduceEqDiff, Nat.reduceAdd, Nat.reduceMul, Nat.reduceSub, Nat.reduceLT, Nat.reduceLeDiff, reduceCtorEq, Int.reduceToNat, Int.reduceNeg, Nat.reduceBEq, simx, ty, It.row, idxS_map, loadS_map, stoS_map, ← List.map_take, ← List.map_drop, rb_eq])
      | (refine GC.callS l7Good_gc rfl rfl ?_ <;> try simp -implicitDefEqProofs (maxSteps := 4000000) only [sim0, sim1, sim2, sim3, sim4, sim5, sim6, sim7, sim8, ↓reduceIte, Nat.reduceEqDiff, Nat.reduceAdd, Nat.reduceMul, Nat.reduceSub, Nat.reduceLT, Nat.reduceLeDiff, reduceCtorEq, Int.reduceToNat, Int.reduceNeg, Nat.reduceBEq, simx, ty, It.row, idxS_map, loadS_map, stoS_map, ← List.map_take, ← List.map_drop, rb_eq])
      | (refine GC.callS l1In_gc rfl rfl ?_ <;> try simp -implicitDefEqProofs (maxSteps := 4000000) only [sim0, sim1, sim2, sim3, sim4, sim5, sim6, sim7, sim8, ↓reduceIte, Nat.reduceEqDiff, Nat.reduceAdd, Nat.reduceMul, Nat.reduceSub, Nat.reduceLT, Nat.reduceLeDiff, reduceCtorEq, Int.reduceToNat, Int.reduceNeg, Nat.reduceBEq, simx, ty, It.row, idxS_map, loadS_map, stoS_map, ← List.map_take, ← List.map_drop, rb_eq])
      | (refine GC.callR (by repeat' (first | exact rdL_nil | refine rdL_cons ?_ ?_ | exact rd_v | exact rd_sl | exact rd_nil | refine rd_ref rfl (by simp) (plnLL_map (fun _ => rfl) _) | refine rd_rs rfl (by simp; omega) (plnLL_map (fun _ => rfl) _) | refine rd_agg ?_)) (l1Rising_gc ?_) rfl ?_ <;> try simp -implicitDefEqProofs (maxSteps := 4000000) only [sim0, sim1, sim2, sim3, sim4, sim5, sim6, sim7, sim8, ↓reduceIte, Nat.reduceEqDiff, Nat.reduceAdd, Nat.reduceMul, Nat.reduceSub, Nat.reduceLT, Nat.reduceLeDiff, reduceCtorEq, Int.reduceToNat, Int.reduceNeg, Nat.reduceBEq, simx, ty, It.row, idxS_map, loadS_map, stoS_map, ← List.map_take, ← List.map_drop, rb_eq])
      | fail)
    | ((with_reducible refine onFin ?_); first
      | (refine fin_nil ?_; (first | (simp_all [fins, plotB, rb_eq]; done) | (simp_all [-Int.not_lt, -Int.not_le, fins, plotB, rb_eq]; done) | (simp_all [fins, plotB, rb_eq]; omega)))
      | fail)
    | (with_reducible refine ite_intro (fun hq => ?_) (fun hq => ?_))
    | (with_reducible refine And.intro (fun hq => ?_) (fun hq => ?_))
    | (with_reducible refine And.intro ?_ ?_)
    | ((fail_if_success (with_reducible refine onCode ?_)); (fail_if_success (with_reducible refine onLps ?_)); (fail_if_success (with_reducible refine onLpd ?_)); (fail_if_success (with_reducible refine onLpe ?_)); (fail_if_success (with_reducible refine onFin ?_)); (fail_if_success (with_reducible refine onCall ?_)); (fail_if_success (with_reducible refine onQcall ?_)); first | ((exact hl); done) | omega | (rw [wrap_id (by omega) (by omega)]; omega) | (simp_all; done)))

set_option maxRecDepth 100000 in
set_option maxHeartbeats 4000000 in
theorem sIsValidPlot_gc {s a x y : Int} {ts : List It} (hl : ts.length ≤ 1048576) : GC Try.prog 20 [.agg [vi s, vi a, vi x, vi y, .sl 1 (ts.map It.e)]] [] (fun r_ hs_ => r_ = vb (plotB s a x y ts) ∧ hs_ = []) := by
  refine GC.of_func [] Try.call20 Try.func20 rfl ⟨by kernel_rfl, by kernel_rfl⟩ (by kernel_rfl) ?_
  rw [Try.results20]
  simp -implicitDefEqProofs (maxSteps := 4000000) only [sim0, sim1, sim2, sim3, sim4, sim5, sim6, sim7, sim8, ↓reduceIte, Nat.reduceEqDiff, Nat.reduceAdd, Nat.reduceMul, Nat.reduceSub, Nat.reduceLT, Nat.reduceLeDiff, reduceCtorEq, Int.reduceToNat, Int.reduceNeg, Nat.reduceBEq, simx, ty, It.row, idxS_map, loadS_map, stoS_map, ← List.map_take, ← List.map_drop]
  repeat' (first
    | ((with_reducible refine onCall ?_); first
      | (refine GC.callR (by repeat' (first | exact rdL_nil | refine rdL_cons ?_ ?_ | exact rd_v | exact rd_sl | exact rd_nil | refine rd_ref rfl (by simp) (plnLL_map (fun _ => rfl) _) | refine rd_rs rfl (by simp; omega) (plnLL_map (fun _ => rfl) _) | refine rd_agg ?_)) (l13Plot_gc ?_) rfl ?_ <;> try simp -implicitDefEqProofs (maxSteps := 4000000) only [sim0, sim1, sim2, sim3, sim4, sim5, sim6, sim7, sim8, ↓reduceIte, Nat.reduceEqDiff, Nat.reduceAdd, Nat.reduceMul, Nat.reduceSub, Nat.reduceLT, Nat.reduceLeDiff, reduceCtorEq, Int.reduceToNat, Int.reduceNeg, Nat.reduceBEq, simx, ty, It.row, idxS_map, loadS_map, stoS_map, ← List.map_take, ← List.map_drop])
      | fail)
    | ((with_reducible refine onFin ?_); first
      | (refine fin_nil ?_; (first | (simp_all [fins]; done) | (simp_all [-Int.not_lt, -Int.not_le, fins]; done) | (simp_all [fins]; omega)))
      | fail)
    | (with_reducible refine ite_intro (fun hq => ?_) (fun hq => ?_))
    | (with_reducible refine And.intro (fun hq => ?_) (fun hq => ?_))
    | (with_reducible refine And.intro ?_ ?_)
    | ((fail_if_success (with_reducible refine onCode ?_)); (fail_if_success (with_reducible refine onLps ?_)); (fail_if_success (with_reducible refine onLpd ?_)); (fail_if_success (with_reducible refine onLpe ?_)); (fail_if_success (with_reducible refine onFin ?_)); (fail_if_success (with_reducible refine onCall ?_)); (fail_if_success (with_reducible refine onQcall ?_)); first | ((exact hl); done) | omega | (rw [wrap_id (by omega) (by omega)]; omega) | (simp_all; done)))

set_option maxRecDepth 100000 in
set_option maxHeartbeats 4000000 in
theorem FnExactIsValidPlot_g0 {s a x y : Int} {ts : List It} (hl : ts.length ≤ maxLen) : GC Try.prog 4 [.agg [vi s, vi a, vi x, vi y, .sl 1 (ts.map It.e)]] [] (fun r _ => r = vb true) := by
  refine GC.of_func [(10, .val 0 (.val 1 (.eff [(2, [0], .val 3 (.val 4 (.done)))])))] Try.call4 Try.func4 rfl ⟨by kernel_rfl, by kernel_rfl⟩ (by kernel_rfl) ?_
  rw [Try.results4]
  simp -implicitDefEqProofs (maxSteps := 4000000) only [sim0, sim1, sim2, sim3, sim4, sim5, sim6, sim7, sim8, ↓reduceIte, Nat.reduceEqDiff, Nat.reduceAdd, Nat.reduceMul, Nat.reduceSub, Nat.reduceLT, Nat.reduceLeDiff, reduceCtorEq, Int.reduceToNat, Int.reduceNeg, Nat.reduceBEq, simx, ty, It.row, idxS_map, loadS_map, stoS_map, ← List.map_take, ← List.map_drop, sz_neg]
  repeat' (first
    | ((with_reducible refine onCall ?_); first
      | (refine GC.callR (by repeat' (first | exact rdL_nil | refine rdL_cons ?_ ?_ | exact rd_v | exact rd_sl | exact rd_nil | refine rd_ref rfl (by simp) (plnLL_map (fun _ => rfl) _) | refine rd_rs rfl (by simp; omega) (plnLL_map (fun _ => rfl) _) | refine rd_agg ?_)) (szPlot_gc ?_ ?_) rfl ?_ <;> try simp -implicitDefEqProofs (maxSteps := 4000000) only [sim0, sim1, sim2, sim3, sim4, sim5, sim6, sim7, sim8, ↓reduceIte, Nat.reduceEqDiff, Nat.reduceAdd, Nat.reduceMul, Nat.reduceSub, Nat.reduceLT, Nat.reduceLeDiff, reduceCtorEq, Int.reduceToNat, Int.reduceNeg, Nat.reduceBEq, simx, ty, It.row, idxS_map, loadS_map, stoS_map, ← List.map_take, ← List.map_drop, sz_neg])
      | (refine GC.use true [] (toPlot_gc ?_) rfl trivial (by repeat' (first | exact arL_nil | refine arL_cons ?_ ?_ | exact ar_v | exact ar_sl | exact ar_nil | refine ar_ref rfl rfl (by simp) (plnLL_map (fun _ => rfl) _) | refine ar_rs rfl rfl (by simp; omega) (plnLL_map (fun _ => rfl) _) | refine ar_agg ?_)) (.inr ⟨rfl, by first | rfl | simp [It.ns]⟩) ?_ <;> try simp -implicitDefEqProofs (maxSteps := 4000000) only [sim0, sim1, sim2, sim3, sim4, sim5, sim6, sim7, sim8, ↓reduceIte, Nat.reduceEqDiff, Nat.reduceAdd, Nat.reduceMul, Nat.reduceSub, Nat.reduceLT, Nat.reduceLeDiff, reduceCtorEq, Int.reduceToNat, Int.reduceNeg, Nat.reduceBEq, simx, ty, It.row, idxS_map, loadS_map, stoS_map, ← List.map_take, ← List.map_drop, sz_neg])
      | (refine GC.callR (by repeat' (first | exact rdL_nil | refine rdL_cons ?_ ?_ | exact rd_v | exact rd_sl | exact rd_nil | refine rd_ref rfl (by simp) (plnLL_map (fun _ => rfl) _) | refine rd_rs rfl (by simp; omega) (plnLL_map (fun _ => rfl) _) | refine rd_agg ?_)) (sIsValidPlot_gc ?_) rfl ?_ <;> try simp -implicitDefEqProofs (maxSteps := 4000000) only [sim0, sim1, sim2, sim3, sim4, sim5, sim6, sim7, sim8, ↓reduceIte, Nat.reduceEqDiff, Nat.reduceAdd, Nat.reduceMul, Nat.reduceSub, Nat.reduceLT, Nat.reduceLeDiff, reduceCtorEq, Int.reduceToNat, Int.reduceNeg, Nat.reduceBEq, simx, ty, It.row, idxS_map, loadS_map, stoS_map, ← List.map_take, ← List.map_drop, sz_neg])
      | (refine GC.callR (by repeat' (first | exact rdL_nil | refine rdL_cons ?_ ?_ | exact rd_v | exact rd_sl | exact rd_nil | refine rd_ref rfl (by simp) (plnLL_map (fun _ => rfl) _) | refine rd_rs rfl (by simp; omega) (plnLL_map (fun _ => rfl) _) | refine rd_agg ?_)) (isValidPlot_gc ?_) rfl ?_ <;> try simp -implicitDefEqProofs (maxSteps := 4000000) only [sim0, sim1, sim2, sim3, sim4, sim5, sim6, sim7, sim8, ↓reduceIte, Nat.reduceEqDiff, Nat.reduceAdd, Nat.reduceMul, Nat.reduceSub, Nat.reduceLT, Nat.reduceLeDiff, reduceCtorEq, Int.reduceToNat, Int.reduceNeg, Nat.reduceBEq, simx, ty, It.row, idxS_map, loadS_map, stoS_map, ← List.map_take, ← List.map_drop, sz_neg])
      | fail)
    | ((with_reducible refine onQcall ?_); first
      | (refine qcallR (by repeat' (first | exact rdL_nil | refine rdL_cons ?_ ?_ | exact rd_v | exact rd_sl | exact rd_nil | refine rd_ref rfl (by simp) (plnLL_map (fun _ => rfl) _) | refine rd_rs rfl (by simp; omega) (plnLL_map (fun _ => rfl) _) | refine rd_agg ?_)) (eqPlot_gc ?_) rfl ?_ <;> try simp -implicitDefEqProofs (maxSteps := 4000000) only [sim0, sim1, sim2, sim3, sim4, sim5, sim6, sim7, sim8, ↓reduceIte, Nat.reduceEqDiff, Nat.reduceAdd, Nat.reduceMul, Nat.reduceSub, Nat.reduceLT, Nat.reduceLeDiff, reduceCtorEq, Int.reduceToNat, Int.reduceNeg, Nat.reduceBEq, simx, ty, It.row, idxS_map, loadS_map, stoS_map, ← List.map_take, ← List.map_drop, sz_neg])
      | fail)
    | ((with_reducible refine onFin ?_); first
      | (refine fin_law ?_; (first | (simp_all [fins]; done) | (simp_all [-Int.not_lt, -Int.not_le, fins]; done) | (simp_all [fins]; omega)))
      | fail)
    | (with_reducible refine ite_intro (fun hq => ?_) (fun hq => ?_))
    | (with_reducible refine And.intro (fun hq => ?_) (fun hq => ?_))
    | (with_reducible refine And.intro ?_ ?_)
    | ((fail_if_success (with_reducible refine onCode ?_)); (fail_if_success (with_reducible refine onLps ?_)); (fail_if_success (with_reducible refine onLpd ?_)); (fail_if_success (with_reducible refine onLpe ?_)); (fail_if_success (with_reducible refine onFin ?_)); (fail_if_success (with_reducible refine onCall ?_)); (fail_if_success (with_reducible refine onQcall ?_)); first | ((omega); done) | omega | (rw [wrap_id (by omega) (by omega)]; omega) | (simp_all; done)))

theorem FnExactIsValidPlot_gc (s : Int) (h1 : I64 s) (a : Int) (h2 : I64 a) (x : Int) (h3 : I64 x) (y : Int) (h4 : I64 y) (xs : List (List Int)) (w : ∀ e ∈ xs, e.length = 1 ∧ ∀ z ∈ e, (Lit.int .i64 z).wf = true) (m : xs.length ≤ maxLen) : GC Try.prog 4 [.agg [vi s, vi a, vi x, vi y, .sl 1 (els .i64 xs)]] [] (fun r _ => r = vb true) := by
  obtain ⟨ts, h1, h2, h3⟩ := It.of w
  rw [h1]; exact FnExactIsValidPlot_g0 (by omega)
end Go.Proofs.Ytgcmahhejblpkaa
