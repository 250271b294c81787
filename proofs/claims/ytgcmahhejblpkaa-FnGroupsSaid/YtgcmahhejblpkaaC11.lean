/-
Groups of sightings, over plain data.
No condition but those that the contracts name.
-/
import Derived.Test.YtgcmahhejblpkaaC4
import Derived.Test.YtgcmahhejblpkaaVN
namespace Go.Proofs.Ytgcmahhejblpkaa
open Eng
set_option linter.unusedSimpArgs false
set_option linter.unusedVariables false
set_option maxRecDepth 100000 in
set_option maxHeartbeats 4000000 in
theorem l8Size_gc {n : Int} (h : -9223372036854775808 ≤ n ∧ n ≤ 9223372036854775807) : GC Try.prog 78 [vi n] [] (fun r_ hs_ => r_ = vi (absV n) ∧ hs_ = []) := by
  refine GC.of_func [] Try.call78 Try.func78 rfl ⟨by kernel_rfl, by kernel_rfl⟩ (by kernel_rfl) ?_
  rw [Try.results78]
  simp -implicitDefEqProofs (maxSteps := 4000000) only [sim0, sim1, sim2, sim3, sim4, sim5, sim6, sim7, sim8, ↓reduceIte, Nat.reduceEqDiff, Nat.reduceAdd, Nat.reduceMul, Nat.reduceSub, Nat.reduceLT, Nat.reduceLeDiff, reduceCtorEq, Int.reduceToNat, Int.reduceNeg, Nat.reduceBEq, simx, ty]
  repeat' (first
    | ((with_reducible refine onCall ?_); first
      | (refine GC.callS l1Most_gc rfl rfl ?_ <;> try simp -implicitDefEqProofs (maxSteps := 4000000) only [sim0, sim1, sim2, sim3, sim4, sim5, sim6, sim7, sim8, ↓reduceIte, Nat.reduceEqDiff, Nat.reduceAdd, Nat.reduceMul, Nat.reduceSub, Nat.reduceLT, Nat.reduceLeDiff, reduceCtorEq, Int.reduceToNat, Int.reduceNeg, Nat.reduceBEq, simx, ty])
      | fail)
    | ((with_reducible refine onFin ?_); first
      | (refine fin_nil ?_; (first | (simp_all [fins, most_abs h]; done) | (simp_all [-Int.not_lt, -Int.not_le, fins, most_abs h]; done) | (simp_all [fins, most_abs h]; omega)))
      | fail)
    | (with_reducible refine ite_intro (fun hq => ?_) (fun hq => ?_))
    | (with_reducible refine And.intro (fun hq => ?_) (fun hq => ?_))
    | (with_reducible refine And.intro ?_ ?_)
    | ((fail_if_success (with_reducible refine onCode ?_)); (fail_if_success (with_reducible refine onLps ?_)); (fail_if_success (with_reducible refine onLpd ?_)); (fail_if_success (with_reducible refine onLpe ?_)); (fail_if_success (with_reducible refine onFin ?_)); (fail_if_success (with_reducible refine onCall ?_)); (fail_if_success (with_reducible refine onQcall ?_)); first | omega | (rw [wrap_id (by omega) (by omega)]; omega) | (simp_all; done)))

def sg (ss : List Sgt) (i : Int) : Sgt := ss.getD i.toNat default
def twB (a b : Sgt) (w r : Int) : Bool := a.a == b.a && (decide (absV (w64 (a.c - b.c)) ≤ w) && (decide (absV (w64 (a.x - b.x)) ≤ r) && decide (absV (w64 (a.y - b.y)) ≤ r)))
set_option maxRecDepth 100000 in
set_option maxHeartbeats 4000000 in
theorem areDup_gc {c s a x y c' s' a' x' y' w r : Int} : GC Try.prog 104 [.agg [vi c, vi s, vi a, vi x, vi y], .agg [vi c', vi s', vi a', vi x', vi y'], vi w, vi r] [] (fun r_ hs_ => r_ = vb (twB ⟨c, s, a, x, y⟩ ⟨c', s', a', x', y'⟩ w r) ∧ hs_ = []) := by
  refine GC.of_func [] Try.call104 Try.func104 rfl ⟨by kernel_rfl, by kernel_rfl⟩ (by kernel_rfl) ?_
  rw [Try.results104]
  simp -implicitDefEqProofs (maxSteps := 4000000) only [sim0, sim1, sim2, sim3, sim4, sim5, sim6, sim7, sim8, ↓reduceIte, Nat.reduceEqDiff, Nat.reduceAdd, Nat.reduceMul, Nat.reduceSub, Nat.reduceLT, Nat.reduceLeDiff, reduceCtorEq, Int.reduceToNat, Int.reduceNeg, Nat.reduceBEq, simx, ty]
  repeat' (first
    | ((with_reducible refine onCall ?_); first
      | (refine GC.callS absI_gc rfl rfl ?_ <;> try simp -implicitDefEqProofs (maxSteps := 4000000) only [sim0, sim1, sim2, sim3, sim4, sim5, sim6, sim7, sim8, ↓reduceIte, Nat.reduceEqDiff, Nat.reduceAdd, Nat.reduceMul, Nat.reduceSub, Nat.reduceLT, Nat.reduceLeDiff, reduceCtorEq, Int.reduceToNat, Int.reduceNeg, Nat.reduceBEq, simx, ty])
      | fail)
    | ((with_reducible refine onFin ?_); first
      | (refine fin_nil ?_; (first | ((refine rn_vb ?_; unfold twB w64; simp [*]; done)) | (simp_all [fins]; done) | (simp_all [-Int.not_lt, -Int.not_le, fins]; done) | (simp_all [fins]; omega)))
      | fail)
    | (with_reducible refine ite_intro (fun hq => ?_) (fun hq => ?_))
    | (with_reducible refine And.intro (fun hq => ?_) (fun hq => ?_))
    | (with_reducible refine And.intro ?_ ?_)
    | ((fail_if_success (with_reducible refine onCode ?_)); (fail_if_success (with_reducible refine onLps ?_)); (fail_if_success (with_reducible refine onLpd ?_)); (fail_if_success (with_reducible refine onLpe ?_)); (fail_if_success (with_reducible refine onFin ?_)); (fail_if_success (with_reducible refine onCall ?_)); (fail_if_success (with_reducible refine onQcall ?_)); first | ((first | omega | exact wrap_bd _ | exact (wrap_bd _).1 | exact (wrap_bd _).2); done) | omega | (rw [wrap_id (by omega) (by omega)]; omega) | ((refine rn_vb ?_; unfold twB w64; simp [*]; done))))

set_option maxRecDepth 100000 in
set_option maxHeartbeats 4000000 in
theorem l13Twin_gc {c s a x y c' s' a' x' y' w r : Int} : GC Try.prog 103 [.agg [vi c, vi s, vi a, vi x, vi y], .agg [vi c', vi s', vi a', vi x', vi y'], vi w, vi r] [] (fun r_ hs_ => r_ = vb (twB ⟨c, s, a, x, y⟩ ⟨c', s', a', x', y'⟩ w r) ∧ hs_ = []) := by
  refine GC.of_func [] Try.call103 Try.func103 rfl ⟨by kernel_rfl, by kernel_rfl⟩ (by kernel_rfl) ?_
  rw [Try.results103]
  simp -implicitDefEqProofs (maxSteps := 4000000) only [sim0, sim1, sim2, sim3, sim4, sim5, sim6, sim7, sim8, ↓reduceIte, Nat.reduceEqDiff, Nat.reduceAdd, Nat.reduceMul, Nat.reduceSub, Nat.reduceLT, Nat.reduceLeDiff, reduceCtorEq, Int.reduceToNat, Int.reduceNeg, Nat.reduceBEq, simx, ty]
  repeat' (first
    | ((with_reducible refine onCall ?_); first
      | (refine GC.callS (l8Size_gc ?_) rfl rfl ?_ <;> try simp -implicitDefEqProofs (maxSteps := 4000000) only [sim0, sim1, sim2, sim3, sim4, sim5, sim6, sim7, sim8, ↓reduceIte, Nat.reduceEqDiff, Nat.reduceAdd, Nat.reduceMul, Nat.reduceSub, Nat.reduceLT, Nat.reduceLeDiff, reduceCtorEq, Int.reduceToNat, Int.reduceNeg, Nat.reduceBEq, simx, ty])
      | fail)
    | ((with_reducible refine onFin ?_); first
      | (refine fin_nil ?_; (first | ((refine rn_vb ?_; unfold twB w64; simp [*]; done)) | (simp_all [fins]; done) | (simp_all [-Int.not_lt, -Int.not_le, fins]; done) | (simp_all [fins]; omega)))
      | fail)
    | (with_reducible refine ite_intro (fun hq => ?_) (fun hq => ?_))
    | (with_reducible refine And.intro (fun hq => ?_) (fun hq => ?_))
    | (with_reducible refine And.intro ?_ ?_)
    | ((fail_if_success (with_reducible refine onCode ?_)); (fail_if_success (with_reducible refine onLps ?_)); (fail_if_success (with_reducible refine onLpd ?_)); (fail_if_success (with_reducible refine onLpe ?_)); (fail_if_success (with_reducible refine onFin ?_)); (fail_if_success (with_reducible refine onCall ?_)); (fail_if_success (with_reducible refine onQcall ?_)); first | ((first | omega | exact wrap_bd _ | exact (wrap_bd _).1 | exact (wrap_bd _).2); done) | omega | (rw [wrap_id (by omega) (by omega)]; omega) | ((refine rn_vb ?_; unfold twB w64; simp [*]; done))))

def agB (ss : List Sgt) (w r : Int) : Bool := sgB ss && inB w 0 60 && inB r 0 1000
set_option maxRecDepth 100000 in
set_option maxHeartbeats 4000000 in
theorem areGrouped_gc {ss : List Sgt} {w r : Int} : GC Try.prog 79 [.sl 5 (ss.map Sgt.e), vi w, vi r] [] (fun r_ hs_ => r_ = vb (agB ss w r) ∧ hs_ = []) := by
  refine GC.of_func [] Try.call79 Try.func79 rfl ⟨by kernel_rfl, by kernel_rfl⟩ (by kernel_rfl) ?_
  rw [Try.results79]
  simp -implicitDefEqProofs (maxSteps := 4000000) only [sim0, sim1, sim2, sim3, sim4, sim5, sim6, sim7, sim8, ↓reduceIte, Nat.reduceEqDiff, Nat.reduceAdd, Nat.reduceMul, Nat.reduceSub, Nat.reduceLT, Nat.reduceLeDiff, reduceCtorEq, Int.reduceToNat, Int.reduceNeg, Nat.reduceBEq, simx, ty, Sgt.row, It.row, idxS_map, loadS_map, stoS_map, ← List.map_take, ← List.map_drop]
  repeat' (first
    | ((with_reducible refine onCall ?_); first
      | (refine GC.callR (by repeat' (first | exact rdL_nil | refine rdL_cons ?_ ?_ | exact rd_v | exact rd_sl | exact rd_nil | refine rd_ref rfl (by simp) (plnLL_map (fun _ => rfl) _) | refine rd_rs rfl (by simp; omega) (plnLL_map (fun _ => rfl) _) | refine rd_agg ?_)) isValidSightings_gc rfl ?_ <;> try simp -implicitDefEqProofs (maxSteps := 4000000) only [sim0, sim1, sim2, sim3, sim4, sim5, sim6, sim7, sim8, ↓reduceIte, Nat.reduceEqDiff, Nat.reduceAdd, Nat.reduceMul, Nat.reduceSub, Nat.reduceLT, Nat.reduceLeDiff, reduceCtorEq, Int.reduceToNat, Int.reduceNeg, Nat.reduceBEq, simx, ty, Sgt.row, It.row, idxS_map, loadS_map, stoS_map, ← List.map_take, ← List.map_drop])
      | (refine GC.callS within_gc rfl rfl ?_ <;> try simp -implicitDefEqProofs (maxSteps := 4000000) only [sim0, sim1, sim2, sim3, sim4, sim5, sim6, sim7, sim8, ↓reduceIte, Nat.reduceEqDiff, Nat.reduceAdd, Nat.reduceMul, Nat.reduceSub, Nat.reduceLT, Nat.reduceLeDiff, reduceCtorEq, Int.reduceToNat, Int.reduceNeg, Nat.reduceBEq, simx, ty, Sgt.row, It.row, idxS_map, loadS_map, stoS_map, ← List.map_take, ← List.map_drop])
      | fail)
    | ((with_reducible refine onFin ?_); first
      | (refine fin_nil ?_; (first | (simp_all [fins, agB]; done) | (simp_all [-Int.not_lt, -Int.not_le, fins, agB]; done) | (simp_all [fins, agB]; omega)))
      | fail)
    | (with_reducible refine ite_intro (fun hq => ?_) (fun hq => ?_))
    | (with_reducible refine And.intro (fun hq => ?_) (fun hq => ?_))
    | (with_reducible refine And.intro ?_ ?_)
    | ((fail_if_success (with_reducible refine onCode ?_)); (fail_if_success (with_reducible refine onLps ?_)); (fail_if_success (with_reducible refine onLpd ?_)); (fail_if_success (with_reducible refine onLpe ?_)); (fail_if_success (with_reducible refine onFin ?_)); (fail_if_success (with_reducible refine onCall ?_)); (fail_if_success (with_reducible refine onQcall ?_)); first | omega | (rw [wrap_id (by omega) (by omega)]; omega) | (simp_all; done)))

set_option maxRecDepth 100000 in
set_option maxHeartbeats 4000000 in
theorem l13Asked_gc {ss : List Sgt} {w r : Int} (hl : ss.length ≤ 1048576) : GC Try.prog 74 [.sl 5 (ss.map Sgt.e), vi w, vi r] [] (fun r_ hs_ => r_ = vb (agB ss w r) ∧ hs_ = []) := by
  refine GC.of_func [] Try.call74 Try.func74 rfl ⟨by kernel_rfl, by kernel_rfl⟩ (by kernel_rfl) ?_
  rw [Try.results74]
  simp -implicitDefEqProofs (maxSteps := 4000000) only [sim0, sim1, sim2, sim3, sim4, sim5, sim6, sim7, sim8, ↓reduceIte, Nat.reduceEqDiff, Nat.reduceAdd, Nat.reduceMul, Nat.reduceSub, Nat.reduceLT, Nat.reduceLeDiff, reduceCtorEq, Int.reduceToNat, Int.reduceNeg, Nat.reduceBEq, simx, ty, Sgt.row, It.row, idxS_map, loadS_map, stoS_map, ← List.map_take, ← List.map_drop]
  repeat' (first
    | ((with_reducible refine onCall ?_); first
      | (refine GC.callR (by repeat' (first | exact rdL_nil | refine rdL_cons ?_ ?_ | exact rd_v | exact rd_sl | exact rd_nil | refine rd_ref rfl (by simp) (plnLL_map (fun _ => rfl) _) | refine rd_rs rfl (by simp; omega) (plnLL_map (fun _ => rfl) _) | refine rd_agg ?_)) (l13Good_gc ?_) rfl ?_ <;> try simp -implicitDefEqProofs (maxSteps := 4000000) only [sim0, sim1, sim2, sim3, sim4, sim5, sim6, sim7, sim8, ↓reduceIte, Nat.reduceEqDiff, Nat.reduceAdd, Nat.reduceMul, Nat.reduceSub, Nat.reduceLT, Nat.reduceLeDiff, reduceCtorEq, Int.reduceToNat, Int.reduceNeg, Nat.reduceBEq, simx, ty, Sgt.row, It.row, idxS_map, loadS_map, stoS_map, ← List.map_take, ← List.map_drop])
      | (refine GC.callS l1In_gc rfl rfl ?_ <;> try simp -implicitDefEqProofs (maxSteps := 4000000) only [sim0, sim1, sim2, sim3, sim4, sim5, sim6, sim7, sim8, ↓reduceIte, Nat.reduceEqDiff, Nat.reduceAdd, Nat.reduceMul, Nat.reduceSub, Nat.reduceLT, Nat.reduceLeDiff, reduceCtorEq, Int.reduceToNat, Int.reduceNeg, Nat.reduceBEq, simx, ty, Sgt.row, It.row, idxS_map, loadS_map, stoS_map, ← List.map_take, ← List.map_drop])
      | fail)
    | ((with_reducible refine onFin ?_); first
      | (refine fin_nil ?_; (first | (simp_all [fins, agB]; done) | (simp_all [-Int.not_lt, -Int.not_le, fins, agB]; done) | (simp_all [fins, agB]; omega)))
      | fail)
    | (with_reducible refine ite_intro (fun hq => ?_) (fun hq => ?_))
    | (with_reducible refine And.intro (fun hq => ?_) (fun hq => ?_))
    | (with_reducible refine And.intro ?_ ?_)
    | ((fail_if_success (with_reducible refine onCode ?_)); (fail_if_success (with_reducible refine onLps ?_)); (fail_if_success (with_reducible refine onLpd ?_)); (fail_if_success (with_reducible refine onLpe ?_)); (fail_if_success (with_reducible refine onFin ?_)); (fail_if_success (with_reducible refine onCall ?_)); (fail_if_success (with_reducible refine onQcall ?_)); first | ((exact hl); done) | omega | (rw [wrap_id (by omega) (by omega)]; omega) | (simp_all; done)))

/-- the first number from lo to hi for which p holds, or hi -/
def firstI (p : Int → Bool) (i n : Int) : Int := if i < n then (if p i = true then i else firstI p (i + 1) n) else n
termination_by (n - i).toNat
section
variable {ss : List Sgt} {w r i g k : Int} {gs : List (List It)} {X : Int} {p : Int → Bool} {n : Int}
def gat (gs : List (List It)) (g : Int) : List It := gs.getD g.toNat []
/-- does a sighting fit into group g? -/
def gkP (ss : List Sgt) (i : Int) (ks : List It) (k : Int) : Bool := !((sg ss (ks.getD k.toNat default).n).s == (sg ss i).s)
def gkB (ss : List Sgt) (w r : Int) (gs : List (List It)) (i g : Int) : Bool := twB (sg ss ((gat gs g).getD 0 default).n) (sg ss i) w r && allI (gkP ss i (gat gs g)) 0 (gat gs g).length
def grF (ss : List Sgt) (w r : Int) (gs : List (List It)) (i : Int) : List (List It) :=
  if firstI (gkB ss w r gs i) 0 gs.length < gs.length then gs.set (firstI (gkB ss w r gs i) 0 gs.length).toNat (gat gs (firstI (gkB ss w r gs i) 0 gs.length) ++ [⟨i⟩]) else gs ++ [[⟨i⟩]]
def grR (ss : List Sgt) (w r : Int) : List (List It) := foldI (grF ss w r) [] 0 ss.length
theorem fi_go (h : i < n) (h1 : p i = false) (e : X = firstI p i n) : X = firstI p (i + 1) n := by rw [e, firstI.eq_1, if_pos h, if_neg (by rw [h1]; decide)]
theorem fi_hit (h : i < n) (h1 : p i = true) (e : X = firstI p i n) : X = i := by rw [e, firstI.eq_1, if_pos h, if_pos h1]
theorem fi_end (h : ¬ i < n) (e : X = firstI p i n) : X = n := by rw [e, firstI.eq_1, if_neg h]
theorem gr_join (h : firstI (gkB ss w r gs i) 0 gs.length = g) (h1 : g < gs.length) : grF ss w r gs i = gs.set g.toNat (gat gs g ++ [⟨i⟩]) := by
  unfold grF; rw [h, if_pos h1]
theorem gr_push (h : firstI (gkB ss w r gs i) 0 gs.length = gs.length) : grF ss w r gs i = gs ++ [[⟨i⟩]] := by
  unfold grF; rw [h, if_neg (by omega)]
end
end Go.Proofs.Ytgcmahhejblpkaa
