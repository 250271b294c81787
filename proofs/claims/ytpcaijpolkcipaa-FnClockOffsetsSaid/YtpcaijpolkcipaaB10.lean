/-
Contracts of what clocks show from one clock on, over plain data.
No condition but those that the contracts name.
-/
import Derived.Test.YtpcaijpolkcipaaB9
namespace Go.Proofs.Ytpcaijpolkcipaa
open Eng
set_option linter.unusedSimpArgs false
set_option linter.unusedVariables false
structure Bo where
  b : Bool
instance : Inhabited Bo := ⟨⟨false⟩⟩
def Bo.e (t : Bo) : List AV := [vb t.b]
theorem Bo.ee {t : Bo} : Bo.e t = [vb t.b] := (rfl)
theorem Bo.pl {ts : List Bo} : plnLL (ts.map Bo.e) = true := plnLL_map (fun _ => rfl) ts
theorem Bo.ns {z : Nat} {ts : List Bo} : noslE (.arr z (ts.map Bo.e)) = true := nosl_map (fun _ => rfl) ts
theorem Bo.rn {n0 z : Nat} {is : List Nat} {ts : List Bo} : rnE n0 is (.arr z (ts.map Bo.e)) = .arr z (ts.map Bo.e) := rnE_pln Bo.pl
theorem Bo.up {n z : Nat} {r : List Nat} {ts : List Bo} : upE r n (.arr z (ts.map Bo.e)) = .arr z (ts.map Bo.e) := upE_pln Bo.pl
theorem Bo.st {ts : List Bo} {i : Nat} {a0 : Bool} : (ts.map Bo.e).set i [vb a0] = (ts.set i ⟨a0⟩).map Bo.e := by rw [List.map_set]; rfl
theorem Bo.ap {ts : List Bo} {a0 : Bool} : ts.map Bo.e ++ [[vb a0]] = (ts ++ [(⟨a0⟩ : Bo)]).map Bo.e := by rw [List.map_append]; rfl
theorem Bo.aq {ts us : List Bo} : ts.map Bo.e ++ us.map Bo.e = (ts ++ us).map Bo.e := by rw [List.map_append]
theorem Bo.rp {n : Nat} : List.replicate n [AV.v (.bool false)] = (List.replicate n (default : Bo)).map Bo.e := by rw [List.map_replicate]; rfl
theorem Bo.row : (type_of% @Bo.ee) ∧ (type_of% @Bo.pl) ∧ (type_of% @Bo.ns) ∧ (type_of% @Bo.rn) ∧ (type_of% @Bo.up) ∧ (type_of% @Bo.st) ∧ (type_of% @Bo.ap) ∧ (type_of% @Bo.aq) ∧ (type_of% @Bo.rp) :=
  ⟨@Bo.ee, @Bo.pl, @Bo.ns, @Bo.rn, @Bo.up, @Bo.st, @Bo.ap, @Bo.aq, @Bo.rp⟩
theorem Bo.b_ite {c : Prop} [Decidable c] {x y : Bo} : (if c then x else y).b = if c then x.b else y.b := by split <;> rfl
theorem Bo.ite : (type_of% @Bo.b_ite) :=
  @Bo.b_ite

theorem bcells {b : Bool} : (Value.bool b).cells.toList = [Value.bool b] := (rfl)
def sb (ss : List Bo) (i : Int) : Bool := (ss.getD i.toNat default).b
def paF (ls : List Lnk) (q : List Bo × List It × Bool) (i : Int) : List Bo × List It × Bool :=
  if (sb q.1 (lk' ls i).f && !sb q.1 (lk' ls i).t) = true then (q.1.set (lk' ls i).t.toNat ⟨true⟩, q.2.1.set (lk' ls i).t.toNat ⟨w64 (ig q.2.1 (lk' ls i).f + (lk' ls i).o)⟩, true)
  else if (sb q.1 (lk' ls i).t && !sb q.1 (lk' ls i).f) = true then (q.1.set (lk' ls i).f.toNat ⟨true⟩, q.2.1.set (lk' ls i).f.toNat ⟨w64 (ig q.2.1 (lk' ls i).t - (lk' ls i).o)⟩, true)
  else q
def paR (ls : List Lnk) (ss : List Bo) (ds : List It) : List Bo × List It × Bool := foldI (paF ls) (ss, ds, false) 0 ls.length
def shGo (ls : List Lnk) : Nat → List Bo × List It × Bool → List Bo × List It
  | 0, q => (q.1, q.2.1)
  | k + 1, q => if q.2.2 = true then shGo ls k (paR ls q.1 q.2.1) else (q.1, q.2.1)
def zrB (n : Nat) : List Bo := List.replicate n default
@[simp] theorem zrB_len {k : Nat} : (zrB k).length = k := by simp [zrB]
def shR (n : Int) (ls : List Lnk) (s : Int) : List Bo × List It := shGo ls (n.toNat + 1) ((zrB n.toNat).set s.toNat ⟨true⟩, zrL n.toNat, true)
/-- how many are not seen -/
def uns (ss : List Bo) : Nat := (ss.filter (fun x => !x.b)).length
theorem uns_le {ss : List Bo} : uns ss ≤ ss.length := List.length_filter_le _ _
theorem uns_set : ∀ {ss : List Bo} {k : Nat}, k < ss.length → (ss.getD k default).b = false → uns (ss.set k ⟨true⟩) + 1 = uns ss
  | [], k, h, _ => by simp at h
  | x :: ss, 0, h, h1 => by
    have h1 : x.b = false := h1
    simp [uns, h1]
  | x :: ss, k + 1, h, h1 => by
    have ih := uns_set (ss := ss) (k := k) (by simpa using h) (by simpa using h1)
    simp only [uns, List.set_cons_succ, List.filter_cons] at ih ⊢
    split <;> (try simp only [List.length_cons]) <;> omega
variable {ls : List Lnk} {q : List Bo × List It × Bool} {i n : Int}
theorem paF_len (h : (q.1.length = n.toNat ∧ q.2.1.length = n.toNat)) : (paF ls q i).1.length = n.toNat ∧ (paF ls q i).2.1.length = n.toNat := by
  unfold paF; split
  · simpa using h
  · split
    · simpa using h
    · exact h
theorem paR_len {ss : List Bo} {ds : List It} (h : ss.length = n.toNat ∧ ds.length = n.toNat) : (paR ls ss ds).1.length = n.toNat ∧ (paR ls ss ds).2.1.length = n.toNat :=
  foldI_ind (f := paF ls) (fun (p : List Bo × List It × Bool) _ => p.1.length = n.toNat ∧ p.2.1.length = n.toNat) (by omega) h (fun p j _ _ h => paF_len h)
/-- a pass that sees more leaves less to be seen -/
theorem paR_uns (hk : lkOk n ls) {ss : List Bo} {ds : List It} (h : ss.length = n.toNat ∧ ds.length = n.toNat) : ((paR ls ss ds).2.2 = false → (paR ls ss ds).1 = ss ∧ (paR ls ss ds).2.1 = ds) ∧ ((paR ls ss ds).2.2 = true → uns (paR ls ss ds).1 < uns ss) := by
  have key := foldI_ind (f := paF ls) (n := ls.length) (a := (ss, ds, false)) (i := 0) (fun (p : List Bo × List It × Bool) _ => (p.1.length = n.toNat ∧ p.2.1.length = n.toNat) ∧ uns p.1 ≤ uns ss ∧ (p.2.2 = false → p.1 = ss ∧ p.2.1 = ds) ∧ (p.2.2 = true → uns p.1 < uns ss)) (by omega)
    ⟨h, Nat.le_refl _, fun _ => ⟨rfl, rfl⟩, fun h => by cases h⟩
    (fun p j h1 h2 hp => by
      obtain ⟨p1, p2, p3, p4⟩ := hp
      have hj := hk j h1 h2
      refine ⟨paF_len p1, ?_⟩
      unfold paF
      split
      · rename_i hc
        simp only [Bool.and_eq_true, Bool.not_eq_true'] at hc
        have := uns_set (ss := p.1) (k := (lk' ls j).t.toNat) (by omega) hc.2
        exact ⟨by (try simp only []); omega, fun h => Bool.noConfusion h, fun _ => by (try simp only []); omega⟩
      · split
        · rename_i hc
          simp only [Bool.and_eq_true, Bool.not_eq_true'] at hc
          have := uns_set (ss := p.1) (k := (lk' ls j).f.toNat) (by omega) hc.2
          exact ⟨by (try simp only []); omega, fun h => Bool.noConfusion h, fun _ => by (try simp only []); omega⟩
        · exact ⟨p2, p3, p4⟩)
  exact ⟨key.2.2.1, key.2.2.2⟩
def shP (ls : List Lnk) (ss : List Bo) (ds : List It) (i : Int) : Bool := !(sb ss (lk' ls i).f && !(ig ds (lk' ls i).t == w64 (ig ds (lk' ls i).f + (lk' ls i).o)))
def shO (n : Int) (ls : List Lnk) (s : Int) : Bool := allI (shP ls (shR n ls s).1 (shR n ls s).2) 0 ls.length
def shJ (n : Int) (ls : List Lnk) (s : Int) (k : Nat) (ss : List Bo) (ds : List It) (m : Bool) : Prop :=
  (ss.length = n.toNat ∧ ds.length = n.toNat) ∧ (m = true → uns ss < k) ∧ shR n ls s = shGo ls k (ss, ds, m)
theorem shJ_start {s : Int} : shJ n ls s (n.toNat + 1) ((zrB n.toNat).set s.toNat ⟨true⟩) (zrL n.toNat) true :=
  ⟨by simp, fun _ => by have := uns_le (ss := (zrB n.toNat).set s.toNat ⟨true⟩); simp at this; omega, rfl⟩
theorem shJ_go {s : Int} {k : Nat} {ss us : List Bo} {ds vs : List It} {m b : Bool} (hk : lkOk n ls) (h : shJ n ls s k ss ds m) (hm : m = true) (e : paR ls ss ds = (us, vs, b)) : shJ n ls s (k - 1) us vs b ∧ k - 1 < k := by
  obtain ⟨h1, h2, h3⟩ := h
  have h4 := h2 hm
  obtain ⟨k, rfl⟩ : ∃ j, k = j + 1 := ⟨k - 1, by omega⟩
  have h5 := paR_len (ls := ls) h1
  have h6 := paR_uns hk h1
  rw [e] at h5 h6
  refine ⟨⟨h5, fun hb => ?_, ?_⟩, by omega⟩
  · have h7 : uns us < uns ss := h6.2 hb
    omega
  · rw [h3, hm]
    show (if true = true then shGo ls k (paR ls ss ds) else _) = _
    rw [if_pos rfl, e]; rfl
theorem shJ_out {s : Int} {k : Nat} {ss : List Bo} {ds : List It} {m : Bool} (h : shJ n ls s k ss ds m) (hm : ¬ m = true) : shR n ls s = (ss, ds) := by
  rw [h.2.2]
  cases k with
  | zero => rfl
  | succ k => exact if_neg hm
set_option maxRecDepth 100000 in
set_option maxHeartbeats 4000000 in
theorem l12Show_gc {n s : Int} {ls : List Lnk} (hn : 0 ≤ n ∧ n ≤ 1000) (hs : 0 ≤ s ∧ s < n) (hl : ls.length ≤ 1048576) (hk : lkOk n ls) : GC Try.prog 67 [vi n, .sl 3 (ls.map Lnk.e), vi s] [] (fun r_ hs_ => r_ = .tup [.ref 0 n.toNat, .ref 1 n.toNat, vb (shO n ls s)] ∧ hs_ = [.arr 1 ((shR n ls s).1.map Bo.e), .arr 1 ((shR n ls s).2.map It.e)]) := by
  refine GC.of_func [(1, .val 0 (.val 2 (.eff [(1, [2], .val 4 (.eff [(3, [4, 0], .val 5 (.done))])), (3, [0], .eff [(1, [2], .val 4 (.val 5 (.done)))])]))), (11, .val 0 (.val 1 (.val 2 (.val 3 (.val 4 (.val 5 (.val 6 (.val 7 (.val 8 (.val 9 (.val 10 (.val 11 (.eff [(12, [], .done)]))))))))))))), (15, .val 0 (.val 1 (.val 2 (.val 3 (.val 4 (.val 5 (.val 6 (.val 7 (.val 8 (.val 9 (.val 10 (.val 11 (.eff [(12, [], .done)]))))))))))))), (22, .val 0 (.val 1 (.val 2 (.val 3 (.val 4 (.val 5 (.val 6 (.val 7 (.val 8 (.val 9 (.val 10 (.val 11 (.val 12 (.val 13 (.val 14 (.val 15 (.val 16 (.val 17 (.val 18 (.val 19 (.val 20 (.done))))))))))))))))))))))] Try.call67 Try.func67 rfl ⟨by kernel_rfl, by kernel_rfl⟩ (by kernel_rfl) ?_
  rw [Try.results67]
  simp -implicitDefEqProofs (maxSteps := 4000000) only [sim0, sim1, sim2, sim3, sim4, sim5, sim6, sim7, sim8, ↓reduceIte, Nat.reduceEqDiff, Nat.reduceAdd, Nat.reduceMul, Nat.reduceSub, Nat.reduceLT, Nat.reduceLeDiff, reduceCtorEq, Int.reduceToNat, Int.reduceNeg, Nat.reduceBEq, simx, ty, Lnk.row, It.row, Bo.row, idxS_map, loadS_map, stoS_map, ← List.map_take, ← List.map_drop, bcells]
  repeat' (first
    | ((with_reducible refine onCode ?_); first
      | (refine onLid 4 ?_ (by rfl); refine acode_prune [0, 1, 2, 6, 7, 8, 9, 10, 11, 12, 13, 14, 15] ?_; simp only [prn_cons, prn_nil, lk_cons, lk_emp, Nat.reduceEqDiff, ↓reduceIte]; refine acode_loopE2 4 (by rfl) (α := Nat × List Bo × List It × Bool) (fun ⟨k, ss, ds, m⟩ => [(11, vb m)]) [12, 13, 23, 24, 25, 26, 27, 28, 29, 30, 31, 32, 33, 34, 35, 36, 37, 38, 39, 40, 41, 42, 43, 44, 45, 46, 47, 48, 49, 50, 51, 52, 53, 54, 55, 56, 57, 58, 59, 60, 61, 62, 63, 64, 65, 66, 67, 68, 69, 70, 71, 72, 73, 74, 75, 76, 77, 78, 79, 80, 81, 82, 83, 84, 85, 86, 87, 88, 89, 90, 91, 92, 93] [12, 13] (by kernel_rfl) [] (fun ⟨k, ss, ds, m⟩ => [.arr 1 (ss.map Bo.e), .arr 1 (ds.map It.e)]) (fun _ => by simp) (fun _ _ => rfl) (fun ⟨k, ss, ds, m⟩ => shJ n ls s k ss ds m) (fun ⟨k, ss, ds, m⟩ => k) ((n.toNat + 1, (zrB n.toNat).set s.toNat ⟨true⟩, zrL n.toNat, true)) ?_ ?_ (by (try simp only []) <;> first | (first | exact shJ_start | exact ⟨by omega, hJ4.1, rfl⟩ | (have h := shJ_out hJ4 hq; exact ⟨by omega, h, by unfold shO; rw [h]⟩)) | fail) ?_; (focus ((try dsimp only []); (repeat' (first | exact agr_none | exact lk_hd | refine lk_tl (by decide) ?_ | refine agr_one ?_ ?_)); done)); (focus (first | rfl | (simp; done))); rintro ⟨k, ss, ds, m⟩ hJ; (try simp only [] at hJ); have hJ4 := hJ; simp -implicitDefEqProofs (maxSteps := 4000000) only [sim0, sim1, sim2, sim3, sim4, sim5, sim6, sim7, sim8, ↓reduceIte, Nat.reduceEqDiff, Nat.reduceAdd, Nat.reduceMul, Nat.reduceSub, Nat.reduceLT, Nat.reduceLeDiff, reduceCtorEq, Int.reduceToNat, Int.reduceNeg, Nat.reduceBEq, simx, ty, Lnk.row, It.row, Bo.row, idxS_map, loadS_map, stoS_map, ← List.map_take, ← List.map_drop, bcells])
      | (refine onLid 4 ?_ (by rfl); refine acode_prune [0, 1, 2, 6, 7, 8, 9, 10, 11, 12, 13, 14, 15] ?_; simp only [prn_cons, prn_nil, lk_cons, lk_emp, Nat.reduceEqDiff, ↓reduceIte]; refine acode_loopE2 4 (by rfl) (α := Nat × List Bo × List It × Bool) (fun ⟨k, ss, ds, m⟩ => [(11, vb m)]) [12, 13, 23, 24, 25, 26, 27, 28, 29, 30, 31, 32, 33, 34, 35, 36, 37, 38, 39, 40, 41, 42, 43, 44, 45, 46, 47, 48, 49, 50, 51, 52, 53, 54, 55, 56, 57, 58, 59, 60, 61, 62, 63, 64, 65, 66, 67, 68, 69, 70, 71, 72, 73, 74, 75, 76, 77, 78, 79, 80, 81, 82, 83, 84, 85, 86, 87, 88, 89, 90, 91, 92, 93] [12, 13] (by kernel_rfl) [] (fun ⟨k, ss, ds, m⟩ => [.arr 1 (ds.map It.e), .arr 1 (ss.map Bo.e)]) (fun _ => by simp) (fun _ _ => rfl) (fun ⟨k, ss, ds, m⟩ => shJ n ls s k ss ds m) (fun ⟨k, ss, ds, m⟩ => k) ((n.toNat + 1, (zrB n.toNat).set s.toNat ⟨true⟩, zrL n.toNat, true)) ?_ ?_ (by (try simp only []) <;> first | (first | exact shJ_start | exact ⟨by omega, hJ4.1, rfl⟩ | (have h := shJ_out hJ4 hq; exact ⟨by omega, h, by unfold shO; rw [h]⟩)) | fail) ?_; (focus ((try dsimp only []); (repeat' (first | exact agr_none | exact lk_hd | refine lk_tl (by decide) ?_ | refine agr_one ?_ ?_)); done)); (focus (first | rfl | (simp; done))); rintro ⟨k, ss, ds, m⟩ hJ; (try simp only [] at hJ); have hJ4 := hJ; simp -implicitDefEqProofs (maxSteps := 4000000) only [sim0, sim1, sim2, sim3, sim4, sim5, sim6, sim7, sim8, ↓reduceIte, Nat.reduceEqDiff, Nat.reduceAdd, Nat.reduceMul, Nat.reduceSub, Nat.reduceLT, Nat.reduceLeDiff, reduceCtorEq, Int.reduceToNat, Int.reduceNeg, Nat.reduceBEq, simx, ty, Lnk.row, It.row, Bo.row, idxS_map, loadS_map, stoS_map, ← List.map_take, ← List.map_drop, bcells])
      | (refine onLid 7 ?_ (by rfl); refine acode_prune [0, 1, 2, 6, 7, 8, 9, 10, 11, 12, 13, 14, 15] ?_; simp only [prn_cons, prn_nil, lk_cons, lk_emp, Nat.reduceEqDiff, ↓reduceIte]; refine acode_loopE2 7 (by rfl) (α := Int × List Bo × List It × Bool) (fun ⟨i, us, vs, b⟩ => [(12, vi i), (11, vb b)]) [13, 24, 25, 26, 27, 28, 29, 30, 31, 32, 33, 34, 35, 36, 37, 38, 39, 40, 41, 42, 43, 44, 45, 46, 47, 48, 49, 50, 51, 52, 53, 54, 55, 56, 57, 58, 59, 60, 61, 62, 63, 64, 65, 66, 67, 68, 69, 70, 71, 72, 73, 74, 75, 76, 77, 78, 79, 80, 81, 82, 83, 84, 85, 86, 87, 88, 89, 90, 91, 92, 93] [13] (by kernel_rfl) [] (fun ⟨i, us, vs, b⟩ => [.arr 1 (us.map Bo.e), .arr 1 (vs.map It.e)]) (fun _ => by simp) (fun _ _ => rfl) (fun ⟨i, us, vs, b⟩ => (0 ≤ i ∧ i ≤ ls.length) ∧ (us.length = n.toNat ∧ vs.length = n.toNat) ∧ paR ls ss ds = foldI (paF ls) (us, vs, b) i ls.length) (fun ⟨i, us, vs, b⟩ => (ls.length - i).toNat) ((0, ss, ds, false)) ?_ ?_ (by (try simp only []) <;> first | (first | exact shJ_start | exact ⟨by omega, hJ4.1, rfl⟩ | (have h := shJ_out hJ4 hq; exact ⟨by omega, h, by unfold shO; rw [h]⟩)) | fail) ?_; (focus ((try dsimp only []); (repeat' (first | exact agr_none | exact lk_hd | refine lk_tl (by decide) ?_ | refine agr_one ?_ ?_)); done)); (focus (first | rfl | (simp; done))); rintro ⟨i, us, vs, b⟩ hJ; (try simp only [] at hJ); have hJ7 := hJ; simp -implicitDefEqProofs (maxSteps := 4000000) only [sim0, sim1, sim2, sim3, sim4, sim5, sim6, sim7, sim8, ↓reduceIte, Nat.reduceEqDiff, Nat.reduceAdd, Nat.reduceMul, Nat.reduceSub, Nat.reduceLT, Nat.reduceLeDiff, reduceCtorEq, Int.reduceToNat, Int.reduceNeg, Nat.reduceBEq, simx, ty, Lnk.row, It.row, Bo.row, idxS_map, loadS_map, stoS_map, ← List.map_take, ← List.map_drop, bcells])
      | (refine onLid 7 ?_ (by rfl); refine acode_prune [0, 1, 2, 6, 7, 8, 9, 10, 11, 12, 13, 14, 15] ?_; simp only [prn_cons, prn_nil, lk_cons, lk_emp, Nat.reduceEqDiff, ↓reduceIte]; refine acode_loopE2 7 (by rfl) (α := Int × List Bo × List It × Bool) (fun ⟨i, us, vs, b⟩ => [(12, vi i), (11, vb b)]) [13, 24, 25, 26, 27, 28, 29, 30, 31, 32, 33, 34, 35, 36, 37, 38, 39, 40, 41, 42, 43, 44, 45, 46, 47, 48, 49, 50, 51, 52, 53, 54, 55, 56, 57, 58, 59, 60, 61, 62, 63, 64, 65, 66, 67, 68, 69, 70, 71, 72, 73, 74, 75, 76, 77, 78, 79, 80, 81, 82, 83, 84, 85, 86, 87, 88, 89, 90, 91, 92, 93] [13] (by kernel_rfl) [] (fun ⟨i, us, vs, b⟩ => [.arr 1 (vs.map It.e), .arr 1 (us.map Bo.e)]) (fun _ => by simp) (fun _ _ => rfl) (fun ⟨i, us, vs, b⟩ => (0 ≤ i ∧ i ≤ ls.length) ∧ (us.length = n.toNat ∧ vs.length = n.toNat) ∧ paR ls ss ds = foldI (paF ls) (us, vs, b) i ls.length) (fun ⟨i, us, vs, b⟩ => (ls.length - i).toNat) ((0, ss, ds, false)) ?_ ?_ (by (try simp only []) <;> first | (first | exact shJ_start | exact ⟨by omega, hJ4.1, rfl⟩ | (have h := shJ_out hJ4 hq; exact ⟨by omega, h, by unfold shO; rw [h]⟩)) | fail) ?_; (focus ((try dsimp only []); (repeat' (first | exact agr_none | exact lk_hd | refine lk_tl (by decide) ?_ | refine agr_one ?_ ?_)); done)); (focus (first | rfl | (simp; done))); rintro ⟨i, us, vs, b⟩ hJ; (try simp only [] at hJ); have hJ7 := hJ; simp -implicitDefEqProofs (maxSteps := 4000000) only [sim0, sim1, sim2, sim3, sim4, sim5, sim6, sim7, sim8, ↓reduceIte, Nat.reduceEqDiff, Nat.reduceAdd, Nat.reduceMul, Nat.reduceSub, Nat.reduceLT, Nat.reduceLeDiff, reduceCtorEq, Int.reduceToNat, Int.reduceNeg, Nat.reduceBEq, simx, ty, Lnk.row, It.row, Bo.row, idxS_map, loadS_map, stoS_map, ← List.map_take, ← List.map_drop, bcells])
      | (refine onLid 19 ?_ (by rfl); refine acode_prune [0, 1, 2, 6, 7, 8, 9, 10, 11, 12, 13, 14, 15] ?_; simp only [prn_cons, prn_nil, lk_cons, lk_emp, Nat.reduceEqDiff, ↓reduceIte]; refine acode_loopD2 19 (by rfl) (α := Int) (fun i => [(14, vi i)]) [6, 7, 8, 15, 94, 95, 96, 97, 98, 99, 100, 101, 102, 103, 104, 105, 106, 107, 108, 109, 110, 111, 112, 113, 114, 115, 116, 117, 118, 119, 120, 121, 122, 123, 124, 125, 126] [6, 7, 8, 15] (by kernel_rfl) (fun i => (0 ≤ i ∧ i ≤ ls.length) ∧ shR n ls s = (ss, ds) ∧ shO n ls s = allI (shP ls ss ds) i ls.length) (fun i => (ls.length - i).toNat) (0) ?_ (by first | (simp only [plnLL, pln, Value.oneCell', List.all_cons, List.all_nil, plnH, Lnk.pl, It.pl, Bo.pl, Bool.and_true, Bool.and_self]; done) | rfl) (by simp) rfl (by (try simp only []) <;> first | (first | exact shJ_start | exact ⟨by omega, hJ4.1, rfl⟩ | (have h := shJ_out hJ4 hq; exact ⟨by omega, h, by unfold shO; rw [h]⟩)) | fail) ?_; (focus ((try dsimp only []); (repeat' (first | exact agr_none | exact lk_hd | refine lk_tl (by decide) ?_ | refine agr_one ?_ ?_)); done)); rintro i hJ; (try simp only [] at hJ); have hJ19 := hJ; simp -implicitDefEqProofs (maxSteps := 4000000) only [sim0, sim1, sim2, sim3, sim4, sim5, sim6, sim7, sim8, ↓reduceIte, Nat.reduceEqDiff, Nat.reduceAdd, Nat.reduceMul, Nat.reduceSub, Nat.reduceLT, Nat.reduceLeDiff, reduceCtorEq, Int.reduceToNat, Int.reduceNeg, Nat.reduceBEq, simx, ty, Lnk.row, It.row, Bo.row, idxS_map, loadS_map, stoS_map, ← List.map_take, ← List.map_drop, bcells])
      | fail)
    | ((with_reducible refine onLpd ?_); first
      | (refine lpd2_end (α := Int) (mods := (fun i => [(14, vi i)])) _ (by (try dsimp only []); simp only [agr_cons, agr_nil, lk_cons, lk_emp, Nat.reduceEqDiff, ↓reduceIte, and_true]; repeat' (first | rfl | apply And.intro)) (by unfold undK; kernel_rfl) _ rfl rfl ?_ ?_ <;> ((try simp only []); (have _hid := hJ19; (have e_ : IntKind.i64.wrap (i + 1) = i + 1 := wrap_id (by omega) (by omega); (try simp only [e_] at hq ⊢); first | omega | (refine ⟨by omega, hJ19.2.1, allI_go rfl (by omega) ?_ hJ19.2.2⟩; unfold shP sb lk' ig; clear hJ hJ4 hJ19; simp_all; done)))))
      | fail)
    | ((with_reducible refine onLpe ?_); first
      | (refine lpe2_endG (α := Nat × List Bo × List It × Bool) (mods := (fun ⟨k, ss, ds, m⟩ => [(11, vb m)])) [0, 1] (k - 1, us, vs, b) rfl rfl rfl ?_ ?_ (by (try dsimp only []); simp only [agrR_cons, agrR_nil, lk_cons, lk_emp, Nat.reduceEqDiff, ↓reduceIte, and_true]; repeat' (first | exact rn_v | rfl | (simp only [List.length_append, List.length_cons, List.length_nil]; rfl) | apply And.intro)) (by unfold undK; kernel_rfl) ?_ ?_; (focus ((try dsimp only []); simp -implicitDefEqProofs (maxSteps := 4000000) only [sim0, sim1, sim2, sim3, sim4, sim5, sim6, sim7, sim8, ↓reduceIte, Nat.reduceEqDiff, Nat.reduceAdd, Nat.reduceMul, Nat.reduceSub, Nat.reduceLT, Nat.reduceLeDiff, reduceCtorEq, Int.reduceToNat, Int.reduceNeg, Nat.reduceBEq, simx, ty, fins, List.getD_cons_zero, List.getD_cons_succ, Lnk.row, It.row, Bo.row, idxS_map, loadS_map, stoS_map, ← List.map_take, ← List.map_drop, bcells]; (try rfl); done)); (focus ((try dsimp only []); (first | rfl | (simp only [okL, okE, plnH, Lnk.pl, It.pl, Bo.pl, Bool.true_or, Bool.true_and, Bool.and_true]; done) | (simp only [okL, okE, plnH, Lnk.pl, It.pl, Bo.pl, Bool.true_or, Bool.true_and, Bool.and_true]; rfl)); done)); (all_goals ((try simp only []); (have _hid := hJ4; (first | exact (shJ_go hk hJ4 (by assumption) (foldI_fin (by assumption) hJ7.2.2)).1 | exact (shJ_go hk hJ4 (by assumption) (foldI_fin (by assumption) hJ7.2.2)).2)))))
      | (refine lpe2_end0 (α := Nat × List Bo × List It × Bool) (mods := (fun ⟨k, ss, ds, m⟩ => [(11, vb m)])) [0, 1] (_, _, _, _) rfl rfl rfl (by (try dsimp only []); rfl) (by first | (simp only [plnLL, pln, Value.oneCell', List.all_cons, List.all_nil, plnH, Lnk.pl, It.pl, Bo.pl, Bool.and_true, Bool.and_self]; done) | rfl) (by (try dsimp only []); simp only [agrR_cons, agrR_nil, lk_cons, lk_emp, Nat.reduceEqDiff, ↓reduceIte, and_true]; repeat' (first | exact rn_v | rfl | (simp only [List.length_append, List.length_cons, List.length_nil]; rfl) | apply And.intro)) (by unfold undK; kernel_rfl) ?_ ?_ <;> ((try simp only []); (have _hid := hJ4; (first | exact (shJ_go hk hJ4 (by assumption) (foldI_fin (by assumption) hJ7.2.2)).1 | exact (shJ_go hk hJ4 (by assumption) (foldI_fin (by assumption) hJ7.2.2)).2))))
      | (refine lpe2_endG (α := Nat × List Bo × List It × Bool) (mods := (fun ⟨k, ss, ds, m⟩ => [(11, vb m)])) [0, 1] (k - 1, us, vs, b) rfl rfl rfl ?_ ?_ (by (try dsimp only []); simp only [agrR_cons, agrR_nil, lk_cons, lk_emp, Nat.reduceEqDiff, ↓reduceIte, and_true]; repeat' (first | exact rn_v | rfl | (simp only [List.length_append, List.length_cons, List.length_nil]; rfl) | apply And.intro)) (by unfold undK; kernel_rfl) ?_ ?_; (focus ((try dsimp only []); simp -implicitDefEqProofs (maxSteps := 4000000) only [sim0, sim1, sim2, sim3, sim4, sim5, sim6, sim7, sim8, ↓reduceIte, Nat.reduceEqDiff, Nat.reduceAdd, Nat.reduceMul, Nat.reduceSub, Nat.reduceLT, Nat.reduceLeDiff, reduceCtorEq, Int.reduceToNat, Int.reduceNeg, Nat.reduceBEq, simx, ty, fins, List.getD_cons_zero, List.getD_cons_succ, Lnk.row, It.row, Bo.row, idxS_map, loadS_map, stoS_map, ← List.map_take, ← List.map_drop, bcells]; (try rfl); done)); (focus ((try dsimp only []); (first | rfl | (simp only [okL, okE, plnH, Lnk.pl, It.pl, Bo.pl, Bool.true_or, Bool.true_and, Bool.and_true]; done) | (simp only [okL, okE, plnH, Lnk.pl, It.pl, Bo.pl, Bool.true_or, Bool.true_and, Bool.and_true]; rfl)); done)); (all_goals ((try simp only []); (have _hid := hJ4; (first | exact (shJ_go hk hJ4 (by assumption) (foldI_fin (by assumption) hJ7.2.2)).1 | exact (shJ_go hk hJ4 (by assumption) (foldI_fin (by assumption) hJ7.2.2)).2)))))
      | (refine lpe2_end0 (α := Nat × List Bo × List It × Bool) (mods := (fun ⟨k, ss, ds, m⟩ => [(11, vb m)])) [0, 1] (_, _, _, _) rfl rfl rfl (by (try dsimp only []); rfl) (by first | (simp only [plnLL, pln, Value.oneCell', List.all_cons, List.all_nil, plnH, Lnk.pl, It.pl, Bo.pl, Bool.and_true, Bool.and_self]; done) | rfl) (by (try dsimp only []); simp only [agrR_cons, agrR_nil, lk_cons, lk_emp, Nat.reduceEqDiff, ↓reduceIte, and_true]; repeat' (first | exact rn_v | rfl | (simp only [List.length_append, List.length_cons, List.length_nil]; rfl) | apply And.intro)) (by unfold undK; kernel_rfl) ?_ ?_ <;> ((try simp only []); (have _hid := hJ4; (first | exact (shJ_go hk hJ4 (by assumption) (foldI_fin (by assumption) hJ7.2.2)).1 | exact (shJ_go hk hJ4 (by assumption) (foldI_fin (by assumption) hJ7.2.2)).2))))
      | (refine lpe2_end0 (α := Int × List Bo × List It × Bool) (mods := (fun ⟨i, us, vs, b⟩ => [(12, vi i), (11, vb b)])) [0, 1] (_, _, _, _) rfl rfl rfl (by (try dsimp only []); rfl) (by first | (simp only [plnLL, pln, Value.oneCell', List.all_cons, List.all_nil, plnH, Lnk.pl, It.pl, Bo.pl, Bool.and_true, Bool.and_self]; done) | rfl) (by (try dsimp only []); simp only [agrR_cons, agrR_nil, lk_cons, lk_emp, Nat.reduceEqDiff, ↓reduceIte, and_true]; repeat' (first | exact rn_v | rfl | (simp only [List.length_append, List.length_cons, List.length_nil]; rfl) | apply And.intro)) (by unfold undK; kernel_rfl) ?_ ?_ <;> ((try simp only []); (have _hid := hJ7; (have e_ : IntKind.i64.wrap (i + 1) = i + 1 := wrap_id (by omega) (by omega); (try simp only [e_] at hq ⊢); first | omega | (refine ⟨by omega, by simpa using hJ7.2.1, foldI_go rfl (by omega) ?_ hJ7.2.2⟩; unfold paF sb lk' ig; clear hJ hJ4 hJ7; simp_all; done)))))
      | (refine lpe2_end0 (α := Int × List Bo × List It × Bool) (mods := (fun ⟨i, us, vs, b⟩ => [(12, vi i), (11, vb b)])) [0, 1] (_, _, _, _) rfl rfl rfl (by (try dsimp only []); rfl) (by first | (simp only [plnLL, pln, Value.oneCell', List.all_cons, List.all_nil, plnH, Lnk.pl, It.pl, Bo.pl, Bool.and_true, Bool.and_self]; done) | rfl) (by (try dsimp only []); simp only [agrR_cons, agrR_nil, lk_cons, lk_emp, Nat.reduceEqDiff, ↓reduceIte, and_true]; repeat' (first | exact rn_v | rfl | (simp only [List.length_append, List.length_cons, List.length_nil]; rfl) | apply And.intro)) (by unfold undK; kernel_rfl) ?_ ?_ <;> ((try simp only []); (have _hid := hJ7; (have e_ : IntKind.i64.wrap (i + 1) = i + 1 := wrap_id (by omega) (by omega); (try simp only [e_] at hq ⊢); first | omega | (refine ⟨by omega, by simpa using hJ7.2.1, foldI_go rfl (by omega) ?_ hJ7.2.2⟩; unfold paF sb lk' ig; clear hJ hJ4 hJ7; simp_all; done)))))
      | fail)
    | ((with_reducible refine onFin ?_); first
      | (refine fin_own' ?_ ?_ (by simp) (by first | (simp only [plnLL, pln, Value.oneCell', List.all_cons, List.all_nil, plnH, Lnk.pl, It.pl, Bo.pl, Bool.and_true, Bool.and_self, List.take_zero, List.nil_append, List.map_cons, List.map_nil]; done) | rfl) <;> (first | (first | (have h : shO n ls s = true := allI_fin (by assumption) hJ19.2.2; simp [fins, funs, ids_tup, hJ19.2.1, h]; done) | (have h : shO n ls s = false := allI_bad (p := shP ls ss ds) (i := i) (by assumption) (by unfold shP sb lk' ig; clear hJ hJ4 hJ19; simp_all; done) hJ19.2.2; simp [fins, funs, ids_tup, hJ19.2.1, h]; done)) | (simp_all [fins]; done) | (simp_all [-Int.not_lt, -Int.not_le, fins]; done) | (simp_all [fins]; omega)))
      | (refine fin_ownT' ?_ ?_ ?_ (by simp) (by first | (simp only [plnLL, pln, Value.oneCell', List.all_cons, List.all_nil, plnH, Lnk.pl, It.pl, Bo.pl, Bool.and_true, Bool.and_self, List.take_zero, List.nil_append, List.map_cons, List.map_nil]; done) | rfl) rfl <;> (first | (first | (have h : shO n ls s = true := allI_fin (by assumption) hJ19.2.2; simp [fins, funs, ids_tup, hJ19.2.1, h]; done) | (have h : shO n ls s = false := allI_bad (p := shP ls ss ds) (i := i) (by assumption) (by unfold shP sb lk' ig; clear hJ hJ4 hJ19; simp_all; done) hJ19.2.2; simp [fins, funs, ids_tup, hJ19.2.1, h]; done)) | (simp_all [fins]; done) | (simp_all [-Int.not_lt, -Int.not_le, fins]; done) | (simp_all [fins]; omega)))
      | (refine fin_ids ?_ ?_ ?_ (by first | (simp only [plnLL, pln, Value.oneCell', List.all_cons, List.all_nil, plnH, Lnk.pl, It.pl, Bo.pl, Bool.and_true, Bool.and_self, List.take_zero, List.nil_append, List.map_cons, List.map_nil]; done) | rfl) <;> (first | (first | (have h : shO n ls s = true := allI_fin (by assumption) hJ19.2.2; simp [fins, funs, ids_tup, hJ19.2.1, h]; done) | (have h : shO n ls s = false := allI_bad (p := shP ls ss ds) (i := i) (by assumption) (by unfold shP sb lk' ig; clear hJ hJ4 hJ19; simp_all; done) hJ19.2.2; simp [fins, funs, ids_tup, hJ19.2.1, h]; done)) | (simp_all [fins, funs]; done) | (simp [fins, funs]; done) | (simp_all [-Int.not_lt, -Int.not_le, fins, funs]; done) | (simp_all [fins, funs]; omega)))
      | fail)
    | (with_reducible refine ite_intro (fun hq => ?_) (fun hq => ?_))
    | (with_reducible refine And.intro (fun hq => ?_) (fun hq => ?_))
    | (with_reducible refine And.intro ?_ ?_)
    | ((fail_if_success (with_reducible refine onCode ?_)); (fail_if_success (with_reducible refine onLps ?_)); (fail_if_success (with_reducible refine onLpd ?_)); (fail_if_success (with_reducible refine onLpe ?_)); (fail_if_success (with_reducible refine onFin ?_)); (fail_if_success (with_reducible refine onCall ?_)); (fail_if_success (with_reducible refine onQcall ?_)); first | ((first | exact hn.1 | exact hn.2 | omega | (have h := hk i hJ7.1.1 (by omega); have h2 := hJ7.2.1; simp only [lk'] at h; omega) | (have h := hk i hJ19.1.1 (by omega); have h2 := hJ4.1; simp only [lk'] at h; omega) | (simp; omega)); done) | omega | (rw [wrap_id (by omega) (by omega)]; omega) | (first | (have h : shO n ls s = true := allI_fin (by assumption) hJ19.2.2; simp [fins, funs, ids_tup, hJ19.2.1, h]; done) | (have h : shO n ls s = false := allI_bad (p := shP ls ss ds) (i := i) (by assumption) (by unfold shP sb lk' ig; clear hJ hJ4 hJ19; simp_all; done) hJ19.2.2; simp [fins, funs, ids_tup, hJ19.2.1, h]; done))))

end Go.Proofs.Ytpcaijpolkcipaa
