/-
Contracts of what makes groups of sightings, over plain data.
No condition but those that the contracts name.
-/
import Derived.Test.YtgcmahhejblpkaaC11
namespace Go.Proofs.Ytgcmahhejblpkaa
open Eng
set_option linter.unusedSimpArgs false
set_option linter.unusedVariables false
section
variable {ss : List Sgt} {w r i g k n : Int} {gs : List (List It)}
/-- what is known of groups of the sightings before i -/
structure GI (gs : List (List It)) (i : Int) : Prop where
  len : (gs.length : Int) ≤ i
  pos : ∀ g : Nat, g < gs.length → 0 < (gs.getD g []).length ∧ ((gs.getD g []).length : Int) ≤ i
  mem : ∀ g : Nat, g < gs.length → ∀ k : Nat, k < (gs.getD g []).length → 0 ≤ ((gs.getD g []).getD k default).n ∧ ((gs.getD g []).getD k default).n < i
theorem GI.pos' (h : GI gs i) (h0 : 0 ≤ g) (h1 : g < gs.length) : 0 < (gs.getD g.toNat []).length ∧ ((gs.getD g.toNat []).length : Int) ≤ i := h.pos g.toNat (by omega)
theorem GI.mem' (h : GI gs i) (h0 : 0 ≤ g) (h1 : g < gs.length) (h2 : 0 ≤ k) (h3 : k < (gs.getD g.toNat []).length) : 0 ≤ ((gs.getD g.toNat []).getD k.toNat default).n ∧ ((gs.getD g.toNat []).getD k.toNat default).n < i := h.mem g.toNat (by omega) k.toNat (by omega)
theorem GI.mem0 (h : GI gs i) (h0 : 0 ≤ g) (h1 : g < gs.length) : 0 ≤ ((gs.getD g.toNat []).getD 0 default).n ∧ ((gs.getD g.toNat []).getD 0 default).n < i := h.mem g.toNat (by omega) 0 (h.pos g.toNat (by omega)).1
theorem GI.join (h : GI gs i) (hi : 0 ≤ i) (h0 : 0 ≤ g) (h1 : g < gs.length) : GI (gs.set g.toNat (gs.getD g.toNat [] ++ [⟨i⟩])) (i + 1) := by
  have hgd : ∀ k, k < gs.length → (gs.set g.toNat (gs.getD g.toNat [] ++ [⟨i⟩])).getD k [] = if g.toNat = k then gs.getD g.toNat [] ++ [⟨i⟩] else gs.getD k [] := by
    intro k hk
    simp only [List.getD, List.getElem?_set]
    split
    · rename_i e; subst e; simp [hk]
    · rfl
  have hp := h.pos g.toNat (by omega)
  have hl := h.len
  refine ⟨by rw [List.length_set]; omega, fun k hk => ?_, fun k hk j hj => ?_⟩
  · rw [List.length_set] at hk
    rw [hgd k hk]
    split
    · simp only [List.length_append, List.length_cons, List.length_nil]; omega
    · have := h.pos k hk; omega
  · rw [List.length_set] at hk
    rw [hgd k hk] at hj ⊢
    split at hj
    · rename_i e
      rw [if_pos e]
      by_cases ej : j < (gs.getD g.toNat []).length
      · have := h.mem g.toNat (by omega) j ej
        simp only [List.getD] at this ej ⊢
        rw [List.getElem?_append_left ej]; omega
      · simp only [List.length_append, List.length_cons, List.length_nil] at hj
        have ej2 : j = (gs.getD g.toNat []).length := by omega
        subst ej2
        simp only [List.getD]
        rw [List.getElem?_append_right (Nat.le_refl _)]
        simp; omega
    · rename_i e
      rw [if_neg e]
      have := h.mem k hk j hj; omega
theorem GI.push (h : GI gs i) (hi : 0 ≤ i) : GI (gs ++ [[⟨i⟩]]) (i + 1) := by
  have hl := h.len
  refine ⟨by simp; omega, fun k hk => ?_, fun k hk j hj => ?_⟩
  · simp only [List.length_append, List.length_cons, List.length_nil] at hk
    by_cases e : k < gs.length
    · have := h.pos k e
      simp only [List.getD] at this ⊢
      rw [List.getElem?_append_left e]; omega
    · have ek : k = gs.length := by omega
      subst ek
      simp [List.getD]; omega
  · simp only [List.length_append, List.length_cons, List.length_nil] at hk
    by_cases e : k < gs.length
    · have e2 : (gs ++ [[(⟨i⟩ : It)]]).getD k [] = gs.getD k [] := by simp only [List.getD]; rw [List.getElem?_append_left e]
      rw [e2] at hj ⊢
      have := h.mem k e j hj; omega
    · have ek : k = gs.length := by omega
      subst ek
      have e2 : (gs ++ [[(⟨i⟩ : It)]]).getD gs.length [] = [⟨i⟩] := by simp [List.getD]
      rw [e2] at hj ⊢
      simp at hj; subst hj
      simp; omega
theorem gk_no1 (h : twB (sg ss ((gs.getD g.toNat []).getD 0 default).n) (sg ss i) w r = false) : gkB ss w r gs i g = false := by
  have h' : twB (sg ss ((gat gs g).getD 0 default).n) (sg ss i) w r = false := h
  unfold gkB; rw [h']; rfl
theorem gk_no2 (h : allI (gkP ss i (gs.getD g.toNat [])) 0 (gs.getD g.toNat []).length = false) : gkB ss w r gs i g = false := by
  have h' : allI (gkP ss i (gat gs g)) 0 (gat gs g).length = false := h
  unfold gkB; rw [h', Bool.and_false]
theorem gk_yes (h0 : ¬ twB (sg ss ((gs.getD g.toNat []).getD 0 default).n) (sg ss i) w r = false) (h : allI (gkP ss i (gs.getD g.toNat [])) 0 (gs.getD g.toNat []).length = true) : gkB ss w r gs i g = true := by
  have h' : allI (gkP ss i (gat gs g)) 0 (gat gs g).length = true := h
  have h1 : twB (sg ss ((gat gs g).getD 0 default).n) (sg ss i) w r = true := eq_true_of_ne_false h0
  unfold gkB; rw [h1, h']; rfl
theorem al_end {A fr : Bool} {p : Int → Bool} (h : A = (fr && allI p k n)) (hk : ¬ k < n) : A = fr := by rw [h, allI_end hk, Bool.and_true]
theorem al_no {A fr : Bool} {p : Int → Bool} (h : A = (fr && allI p k n)) (hf : ¬ fr = true) : A = false := by
  have : fr = false := by simpa using hf
  rw [h, this]; rfl
theorem al_go {A fr b : Bool} {p : Int → Bool} (h : A = (fr && allI p k n)) (hk : k < n) (hf : fr = true) (e : b = p k) : A = (b && allI p (k + 1) n) := by
  rw [h, hf, e, Bool.true_and]
  cases hp : p k with
  | true => rw [allI_yes hk hp, Bool.true_and]
  | false => rw [allI_no hk hp, Bool.false_and]
theorem GI.nil : GI [] 0 := ⟨by simp, fun g h => by simp at h, fun g h => by simp at h⟩
end
set_option maxRecDepth 100000 in
set_option maxHeartbeats 4000000 in
theorem groupsOf_gc {ss : List Sgt} {w r : Int} (hl : ss.length ≤ 20) : GC Try.prog 80 [.sl 5 (ss.map Sgt.e), vi w, vi r] [] (fun r_ hs_ => r_ = .sl 1 ((grR ss w r).map fun g => [.sl 1 (g.map It.e)]) ∧ hs_ = []) := by
  refine GC.frzX ?_ rfl
  refine GC.of_func [(9, .val 0 (.val 1 (.val 2 (.val 3 (.val 4 (.val 5 (.val 6 (.val 7 (.val 8 (.val 9 (.val 10 (.done)))))))))))), (14, .val 0 (.val 1 (.val 2 (.val 3 (.val 4 (.val 5 (.val 6 (.val 7 (.val 8 (.val 9 (.val 10 (.val 11 (.done)))))))))))))] Try.call80 Try.func80 rfl ⟨by kernel_rfl, by kernel_rfl⟩ (by kernel_rfl) ?_
  rw [Try.results80]
  simp -implicitDefEqProofs (maxSteps := 4000000) only [sim0, sim1, sim2, sim3, sim4, sim5, sim6, sim7, sim8, ↓reduceIte, Nat.reduceEqDiff, Nat.reduceAdd, Nat.reduceMul, Nat.reduceSub, Nat.reduceLT, Nat.reduceLeDiff, reduceCtorEq, Int.reduceToNat, Int.reduceNeg, Nat.reduceBEq, simx, ty, Sgt.row, It.row, idxS_map, loadS_map, stoS_map, ← List.map_take, ← List.map_drop, lpe3_ret, lpe3_exit, nestH, nestI_len, nestC_len, nestI_new, nestI_new0, nestI_setN, nestI_set0, loadS_nest, stoS_nest, List.append_assoc]
  repeat' (first
    | ((with_reducible refine onQcall ?_); first
      | (refine qcallS areDup_gc rfl rfl ?_ <;> try simp -implicitDefEqProofs (maxSteps := 4000000) only [sim0, sim1, sim2, sim3, sim4, sim5, sim6, sim7, sim8, ↓reduceIte, Nat.reduceEqDiff, Nat.reduceAdd, Nat.reduceMul, Nat.reduceSub, Nat.reduceLT, Nat.reduceLeDiff, reduceCtorEq, Int.reduceToNat, Int.reduceNeg, Nat.reduceBEq, simx, ty, Sgt.row, It.row, idxS_map, loadS_map, stoS_map, ← List.map_take, ← List.map_drop, lpe3_ret, lpe3_exit, nestH, nestI_len, nestC_len, nestI_new, nestI_new0, nestI_setN, nestI_set0, loadS_nest, stoS_nest, List.append_assoc])
      | fail)
    | ((with_reducible refine onCode ?_); first
      | (refine onLid 3 ?_ (by rfl); refine acode_loop_wk (Wk.nil 7 1 (by rfl)) ?_; try (simp -implicitDefEqProofs (maxSteps := 4000000) only [sim0, sim1, sim2, sim3, sim4, sim5, sim6, sim7, sim8, ↓reduceIte, Nat.reduceEqDiff, Nat.reduceAdd, Nat.reduceMul, Nat.reduceSub, Nat.reduceLT, Nat.reduceLeDiff, reduceCtorEq, Int.reduceToNat, Int.reduceNeg, Nat.reduceBEq, simx, ty, Sgt.row, It.row, idxS_map, loadS_map, stoS_map, ← List.map_take, ← List.map_drop, lpe3_ret, lpe3_exit, nestH, nestI_len, nestC_len, nestI_new, nestI_new0, nestI_setN, nestI_set0, loadS_nest, stoS_nest, List.append_assoc]); refine acode_prune [0, 1, 2, 6, 7, 8, 9, 10, 11, 12, 13, 15, 16, 17, 18, 23, 24, 25, 41, 42, 43] ?_; simp only [prn_cons, prn_nil, lk_cons, lk_emp, Nat.reduceEqDiff, ↓reduceIte]; refine acode_loopE3 3 (by rfl) (α := Int × List (List It)) (fun ⟨i, gs⟩ => [(18, vi i), (7, .ref 0 gs.length)]) [8, 9, 10, 11, 12, 13, 15, 19, 20, 21, 22, 23, 24, 25, 26, 27, 28, 29, 30, 31, 32, 33, 34, 35, 36, 37, 38, 39, 40, 41, 42, 43, 44, 45, 46, 47, 48, 49, 50, 51, 52, 53, 54, 55, 56, 57, 58, 59, 60, 61, 62, 63, 64, 65, 66, 67, 68, 69, 70, 71, 72, 73, 74, 75, 76, 77, 78] [8, 9, 10, 11, 12, 13, 15, 23, 24, 25, 41, 42, 43] (by kernel_rfl) (List.range 64) (fun ⟨i, gs⟩ => nestH 1 It.e gs) (fun _ => Nat.zero_le _) (fun ⟨i, gs⟩ => (0 ≤ i ∧ i ≤ ss.length) ∧ GI gs i ∧ grR ss w r = foldI (grF ss w r) gs i ss.length) (fun ⟨i, gs⟩ => (ss.length - i).toNat) ((0, [])) ?_ ?_ (by (try simp only []) <;> first | (first | exact ⟨by omega, GI.nil, rfl⟩ | exact ⟨by omega, by first | rfl | trivial | simp⟩ | omega) | fail) ?_; (focus ((try dsimp only []); (repeat' (first | exact agr_none | exact lk_hd | refine lk_tl (by decide) ?_ | refine agr_one ?_ ?_)); done)); (focus (first | rfl | (simp; done))); rintro ⟨i, gs⟩ hJ; (try simp only [] at hJ); have hJ3 := hJ; simp -implicitDefEqProofs (maxSteps := 4000000) only [sim0, sim1, sim2, sim3, sim4, sim5, sim6, sim7, sim8, ↓reduceIte, Nat.reduceEqDiff, Nat.reduceAdd, Nat.reduceMul, Nat.reduceSub, Nat.reduceLT, Nat.reduceLeDiff, reduceCtorEq, Int.reduceToNat, Int.reduceNeg, Nat.reduceBEq, simx, ty, Sgt.row, It.row, idxS_map, loadS_map, stoS_map, ← List.map_take, ← List.map_drop, lpe3_ret, lpe3_exit, nestH, nestI_len, nestC_len, nestI_new, nestI_new0, nestI_setN, nestI_set0, loadS_nest, stoS_nest, List.append_assoc])
      | (refine onLid 7 ?_ (by rfl); refine acode_prune [0, 1, 2, 6, 7, 8, 9, 10, 11, 12, 13, 15, 16, 17, 18, 23, 24, 25, 41, 42, 43] ?_; simp only [prn_cons, prn_nil, lk_cons, lk_emp, Nat.reduceEqDiff, ↓reduceIte]; refine acode_loopS2 7 (by rfl) (α := Int) (fun g => [(25, vi g), (10, vb false)]) [11, 12, 13, 15, 26, 27, 28, 29, 30, 31, 32, 33, 34, 35, 36, 37, 38, 39, 40, 41, 42, 43, 44, 45, 46, 47, 48, 49, 50, 51, 52, 53, 54, 55, 56, 57, 58, 59, 60, 61, 62, 63, 64, 65, 66, 67, 68, 69, 70] [11, 12, 13, 15, 41, 42, 43] (by kernel_rfl) (fun g => (0 ≤ g ∧ g ≤ gs.length) ∧ firstI (gkB ss w r gs i) 0 gs.length = firstI (gkB ss w r gs i) g gs.length) (fun g => (gs.length - g).toNat) (0) ?_ (by (try simp only []) <;> first | (first | exact ⟨by omega, GI.nil, rfl⟩ | exact ⟨by omega, by first | rfl | trivial | simp⟩ | omega) | fail) ?_; (focus ((try dsimp only []); (repeat' (first | exact agr_none | exact lk_hd | refine lk_tl (by decide) ?_ | refine agr_one ?_ ?_)); done)); rintro g hJ; (try simp only [] at hJ); have hJ7 := hJ; simp -implicitDefEqProofs (maxSteps := 4000000) only [sim0, sim1, sim2, sim3, sim4, sim5, sim6, sim7, sim8, ↓reduceIte, Nat.reduceEqDiff, Nat.reduceAdd, Nat.reduceMul, Nat.reduceSub, Nat.reduceLT, Nat.reduceLeDiff, reduceCtorEq, Int.reduceToNat, Int.reduceNeg, Nat.reduceBEq, simx, ty, Sgt.row, It.row, idxS_map, loadS_map, stoS_map, ← List.map_take, ← List.map_drop, lpe3_ret, lpe3_exit, nestH, nestI_len, nestC_len, nestI_new, nestI_new0, nestI_setN, nestI_set0, loadS_nest, stoS_nest, List.append_assoc])
      | (refine onLid 12 ?_ (by rfl); refine acode_prune [0, 1, 2, 6, 7, 8, 9, 10, 11, 12, 13, 15, 16, 17, 18, 23, 24, 25, 41, 42, 43] ?_; simp only [prn_cons, prn_nil, lk_cons, lk_emp, Nat.reduceEqDiff, ↓reduceIte]; refine acode_loopS2 12 (by rfl) (α := Int × Bool) (fun ⟨k, fr⟩ => [(43, vi k), (13, vb fr)]) [15, 44, 45, 46, 47, 48, 49, 50, 51, 52, 53, 54, 55, 56, 57, 58] [15] (by kernel_rfl) (fun ⟨k, fr⟩ => (0 ≤ k ∧ k ≤ (gs.getD g.toNat []).length) ∧ allI (gkP ss i (gs.getD g.toNat [])) 0 (gs.getD g.toNat []).length = (fr && allI (gkP ss i (gs.getD g.toNat [])) k (gs.getD g.toNat []).length)) (fun ⟨k, fr⟩ => ((gs.getD g.toNat []).length - k).toNat) ((0, true)) ?_ (by (try simp only []) <;> first | (first | exact ⟨by omega, GI.nil, rfl⟩ | exact ⟨by omega, by first | rfl | trivial | simp⟩ | omega) | fail) ?_; (focus ((try dsimp only []); (repeat' (first | exact agr_none | exact lk_hd | refine lk_tl (by decide) ?_ | refine agr_one ?_ ?_)); done)); rintro ⟨k, fr⟩ hJ; (try simp only [] at hJ); have hJ12 := hJ; simp -implicitDefEqProofs (maxSteps := 4000000) only [sim0, sim1, sim2, sim3, sim4, sim5, sim6, sim7, sim8, ↓reduceIte, Nat.reduceEqDiff, Nat.reduceAdd, Nat.reduceMul, Nat.reduceSub, Nat.reduceLT, Nat.reduceLeDiff, reduceCtorEq, Int.reduceToNat, Int.reduceNeg, Nat.reduceBEq, simx, ty, Sgt.row, It.row, idxS_map, loadS_map, stoS_map, ← List.map_take, ← List.map_drop, lpe3_ret, lpe3_exit, nestH, nestI_len, nestC_len, nestI_new, nestI_new0, nestI_setN, nestI_set0, loadS_nest, stoS_nest, List.append_assoc])
      | fail)
    | ((with_reducible refine onLps ?_); first
      | (refine lps2_end (α := Int × List (List It)) (mods := (fun ⟨i, gs⟩ => [(18, vi i), (7, .ref 0 gs.length)])) (_, _) (by (try dsimp only []); simp only [agr_cons, agr_nil, lk_cons, lk_emp, Nat.reduceEqDiff, ↓reduceIte, and_true]; repeat' (first | rfl | apply And.intro)) (by unfold undK; kernel_rfl) ?_ ?_ <;> ((try simp only []); (omega)))
      | (refine lps2_end (α := Int) (mods := (fun g => [(25, vi g), (10, vb false)])) _ (by (try dsimp only []); simp only [agr_cons, agr_nil, lk_cons, lk_emp, Nat.reduceEqDiff, ↓reduceIte, and_true]; repeat' (first | rfl | apply And.intro)) (by unfold undK; kernel_rfl) ?_ ?_ <;> ((try simp only []); (have _hid := hJ7; ((have g9 := hJ3.2.1.len); have e_ : IntKind.i64.wrap (g + 1) = g + 1 := wrap_id (by omega) (by omega); (try simp only [e_] at hq ⊢); first | omega | exact ⟨by omega, fi_go (by omega) (gk_no1 hq) hJ7.2⟩ | exact ⟨by omega, fi_go (by omega) (gk_no2 (al_no hJ12.2 hq)) hJ7.2⟩))))
      | (refine lps2_end (α := Int × Bool) (mods := (fun ⟨k, fr⟩ => [(43, vi k), (13, vb fr)])) (_, _) (by (try dsimp only []); simp only [agr_cons, agr_nil, lk_cons, lk_emp, Nat.reduceEqDiff, ↓reduceIte, and_true]; repeat' (first | rfl | apply And.intro)) (by unfold undK; kernel_rfl) ?_ ?_ <;> ((try simp only []); (have _hid := hJ12; ((have g9 := (hJ3.2.1.pos' hJ7.1.1 (by omega)).2); have e_ : IntKind.i64.wrap (k + 1) = k + 1 := wrap_id (by omega) (by omega); (try simp only [e_] at hq ⊢); first | omega | exact ⟨by omega, al_go hJ12.2 (by omega) hq rfl⟩ | exact ⟨by omega, al_no hJ12.2 hq⟩))))
      | fail)
    | ((with_reducible refine onFin ?_); first
      | ((refine fin_nestX (fun _ => rfl) (fun _ => rfl) ?_; exact (foldI_fin (by omega) hJ3.2.2).symm))
      | (refine fin_fz ?_ (by first | (simp only [plnLL, pln, Value.oneCell', List.all_cons, List.all_nil, plnH, Sgt.pl, It.pl, Bool.and_true, Bool.and_self, List.take_zero, List.nil_append, List.map_cons, List.map_nil]; done) | rfl) (by rfl) <;> (fail))
      | fail)
    | ((refine idx_in ?_ ?_ <;> try simp -implicitDefEqProofs (maxSteps := 4000000) only [sim0, sim1, sim2, sim3, sim4, sim5, sim6, sim7, sim8, ↓reduceIte, Nat.reduceEqDiff, Nat.reduceAdd, Nat.reduceMul, Nat.reduceSub, Nat.reduceLT, Nat.reduceLeDiff, reduceCtorEq, Int.reduceToNat, Int.reduceNeg, Nat.reduceBEq, simx, ty, Sgt.row, It.row, idxS_map, loadS_map, stoS_map, ← List.map_take, ← List.map_drop, lpe3_ret, lpe3_exit, nestI_len, nestC_len, nestI_new, nestI_new0, nestI_setN, nestI_set0, loadS_nest, stoS_nest, List.append_assoc]))
    | ((refine load_in ?_ ?_ <;> try simp -implicitDefEqProofs (maxSteps := 4000000) only [sim0, sim1, sim2, sim3, sim4, sim5, sim6, sim7, sim8, ↓reduceIte, Nat.reduceEqDiff, Nat.reduceAdd, Nat.reduceMul, Nat.reduceSub, Nat.reduceLT, Nat.reduceLeDiff, reduceCtorEq, Int.reduceToNat, Int.reduceNeg, Nat.reduceBEq, simx, ty, Sgt.row, It.row, idxS_map, loadS_map, stoS_map, ← List.map_take, ← List.map_drop, lpe3_ret, lpe3_exit, nestI_len, nestC_len, nestI_new, nestI_new0, nestI_setN, nestI_set0, loadS_nest, stoS_nest, List.append_assoc]))
    | ((refine app_in ?_ ?_ <;> try simp -implicitDefEqProofs (maxSteps := 4000000) only [sim0, sim1, sim2, sim3, sim4, sim5, sim6, sim7, sim8, ↓reduceIte, Nat.reduceEqDiff, Nat.reduceAdd, Nat.reduceMul, Nat.reduceSub, Nat.reduceLT, Nat.reduceLeDiff, reduceCtorEq, Int.reduceToNat, Int.reduceNeg, Nat.reduceBEq, simx, ty, Sgt.row, It.row, idxS_map, loadS_map, stoS_map, ← List.map_take, ← List.map_drop, lpe3_ret, lpe3_exit, nestI_len, nestC_len, nestI_new, nestI_new0, nestI_setN, nestI_set0, loadS_nest, stoS_nest, List.append_assoc]))
    | ((refine onLpe3 ?_; first | (refine lpe3_end (0 :: ((List.range gs.length).map (· + 1)).set g.toNat (gs.length + 3)) (IntKind.i64.wrap (i + 1), gs.set g.toNat (gs.getD g.toNat [] ++ [⟨i⟩])) (join_end (z := 1) (f := It.e) (gs := gs) (g := g.toNat) (x := ⟨i⟩) (fun _ => rfl) (by omega)).1 (fix_rng (n := 64) ?_) (join_end (z := 1) (f := It.e) (gs := gs) (g := g.toNat) (x := ⟨i⟩) (fun _ => rfl) (by omega)).2 (nest_okL fun _ => rfl) ?_ (by unfold undK; kernel_rfl) ?_ ?_; (show (nestH 1 It.e _).length ≤ 64; rw [nestH_len, List.length_set]; have g9 := hJ3.2.1.len; omega); (focus ((try dsimp only []); simp only [agrR_cons, agrR_nil, lk_cons, lk_emp, Nat.reduceEqDiff, ↓reduceIte, and_true, List.length_set]; (repeat' (first | exact rn_v | exact rn_r | rfl | apply And.intro)); done)); ((try simp only []); have e1 : IntKind.i64.wrap (i + 1) = i + 1 := wrap_id (by omega) (by omega); rw [e1]; exact ⟨by omega, hJ3.2.1.join (by omega) (by omega) (by omega), foldI_go rfl (by omega) (gr_join (fi_hit (by omega) (gk_yes (by assumption) ((al_end hJ12.2 (by omega)).trans (by assumption))) hJ7.2) (by omega)).symm hJ3.2.2⟩); ((try simp only []); rw [wrap_id (n := i + 1) (by omega) (by omega)]; omega)) | (refine lpe3_end ((gs.length + 4) :: ((List.range gs.length).map (· + 1) ++ [gs.length + 2])) (IntKind.i64.wrap (i + 1), gs ++ [[⟨i⟩]]) (push_end (z := 1) (f := It.e) (gs := gs) (x := ⟨i⟩) (fun _ => rfl)).1 (fix_rng (n := 64) ?_) (push_end (z := 1) (f := It.e) (gs := gs) (x := ⟨i⟩) (fun _ => rfl)).2 (nest_okL fun _ => rfl) ?_ (by unfold undK; kernel_rfl) ?_ ?_; (show (nestH 1 It.e _).length ≤ 64; rw [nestH_len, List.length_append]; have g9 := hJ3.2.1.len; simp; omega); (focus ((try dsimp only []); simp only [agrR_cons, agrR_nil, lk_cons, lk_emp, Nat.reduceEqDiff, ↓reduceIte, and_true, List.length_append, List.length_cons, List.length_nil]; (repeat' (first | exact rn_v | exact rn_r | rfl | apply And.intro)); done)); ((try simp only []); have e1 : IntKind.i64.wrap (i + 1) = i + 1 := wrap_id (by omega) (by omega); rw [e1]; exact ⟨by omega, hJ3.2.1.push (by omega), foldI_go rfl (by omega) (gr_push (fi_end (by omega) hJ7.2)).symm hJ3.2.2⟩); ((try simp only []); rw [wrap_id (n := i + 1) (by omega) (by omega)]; omega))))
    | (with_reducible refine ite_intro (fun hq => ?_) (fun hq => ?_))
    | (with_reducible refine And.intro (fun hq => ?_) (fun hq => ?_))
    | (with_reducible refine And.intro ?_ ?_)
    | ((fail_if_success (with_reducible refine onCode ?_)); (fail_if_success (with_reducible refine onLps ?_)); (fail_if_success (with_reducible refine onLpd ?_)); (fail_if_success (with_reducible refine onLpe ?_)); (fail_if_success (with_reducible refine onFin ?_)); (fail_if_success (with_reducible refine onCall ?_)); (fail_if_success (with_reducible refine onQcall ?_)); first | ((first | omega | (have g9 := hJ3.2.1.len; omega) | exact (hJ3.2.1.pos' hJ7.1.1 (by omega)).1 | (have g9 := (hJ3.2.1.pos' hJ7.1.1 (by omega)); omega) | (have g9 := hJ3.2.1.mem0 hJ7.1.1 (by omega); omega) | (have g9 := hJ3.2.1.mem' hJ7.1.1 (by omega) hJ12.1.1 (by omega); omega)); done) | omega | (rw [wrap_id (by omega) (by omega)]; omega) | (fail)))

end Go.Proofs.Ytgcmahhejblpkaa
