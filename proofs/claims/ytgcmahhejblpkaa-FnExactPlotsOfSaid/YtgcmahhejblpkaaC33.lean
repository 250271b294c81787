/-
The law FnExactPlotsOf, over plain data.
No condition but those that the contracts name.
-/
import Derived.Test.YtgcmahhejblpkaaC32
namespace Go.Proofs.Ytgcmahhejblpkaa
open Eng
set_option linter.unusedSimpArgs false
set_option linter.unusedVariables false
namespace Eng
section
variable {P : Program} {ps qs : List Pl} {e0 e1 : Ent} {K : AV → List Ent → Prop} {k : FuncId}
/-- blocks of plots behind two others -/
def plC2 (ps : List Pl) : List (List AV) := (List.range ps.length).map fun k => [vi (ps.getD k default).c, vi (ps.getD k default).a, vi (ps.getD k default).x, vi (ps.getD k default).y, .ref (k + 3) (ps.getD k default).ts.length]
def plH2 (ps : List Pl) : List Ent := .arr 5 (plC2 ps) :: plI ps
def rho (ps : List Pl) : List Nat := (List.range (ps.length + 1)).map (· + 2)
theorem plH2_len : (plH2 ps).length = ps.length + 1 := by simp [plH2, plI]
theorem rho_len : (rho ps).length = ps.length + 1 := by simp [rho]
theorem rho_get {j : Nat} (h : j < ps.length + 1) : (rho ps)[j]? = some (j + 2) := by
  unfold rho; rw [List.getElem?_map, List.getElem?_range h]; rfl
theorem rho_id {n j : Nat} (h : j < ps.length + 1) : upId (rho ps) n j = j + 2 := by
  rw [upId_eq, if_pos (by rw [rho_len]; exact h)]
  simp only [List.getD, rho_get h, Option.getD_some]
theorem upL_pl {ρ : List Nat} {n : Nat} : ∀ {b : List AV}, (b.all pln) = true → up.upL ρ n b = b
  | [], _ => rfl
  | x :: b, h => by
    simp only [List.all_cons, Bool.and_eq_true] at h
    simp only [up.upL, upL_pl h.2]
    have hx := h.1
    cases x <;> simp [pln] at hx <;> rfl
theorem upE_plC {ρ : List Nat} {n : Nat} (h : ∀ j, j < ps.length → upId ρ n (j + 1) = j + 3) : upE ρ n (.arr 5 (plC ps)) = .arr 5 (plC2 ps) := by
  simp only [upE, upLL]
  congr 1
  have e2 : (plC ps).map (up.upL ρ n) = plC2 ps := by
    unfold plC plC2
    rw [List.map_map]
    apply List.map_congr_left
    intro j hj
    rw [List.mem_range] at hj
    simp only [Function.comp, up.upL, up, h j hj]
  split
  · rename_i hp
    rw [← e2]
    have e3 : ∀ x ∈ plC ps, up.upL ρ n x = id x := fun x hx => upL_pl (List.all_eq_true.2 fun d hd => plnLL_get hp hx hd)
    rw [List.map_congr_left e3, List.map_id]
  · exact e2
theorem upE_plI {ρ : List Nat} {n : Nat} : (plI ps).map (upE ρ n) = plI ps := by
  unfold plI
  rw [List.map_map]
  apply List.map_congr_left
  intro p _
  exact upE_pln (plnLL_map it_pl _)
theorem upE_plH {ρ : List Nat} {n : Nat} (h : ∀ j, j < ps.length → upId ρ n (j + 1) = j + 3) : (plH ps).map (upE ρ n) = plH2 ps := by
  unfold plH plH2
  rw [List.map_cons, upE_plC h, upE_plI]
theorem embL_of {hp : List Ent} {ρ : List Nat} : ∀ {r : List Nat} {hs : List Ent}, r.length = hs.length → (∀ (j i : Nat) (e : Ent), hs[j]? = some e → r[j]? = some i → e.alive = true ∧ hp[i]? = some (upE ρ hp.length e)) → embL hp ρ r hs
  | [], [], _, _ => trivial
  | [], e :: hs, h, _ => by simp at h
  | i :: r, [], h, _ => by simp at h
  | i :: r, e :: hs, h, hg => by
    have h0 := hg 0 i e rfl rfl
    exact ⟨h0.1, h0.2, embL_of (by simpa using h) fun j i e h1 h2 => hg (j + 1) i e (by simpa using h1) (by simpa using h2)⟩
theorem emb_pl : embL (e0 :: e1 :: plH2 ps) (rho ps) (rho ps) (plH ps) := by
  refine embL_of (by rw [rho_len, plH_len]) fun j i e h1 h2 => ?_
  have hj : j < ps.length + 1 := by have := lt_of_some h1; rwa [plH_len] at this
  rw [rho_get hj] at h2
  simp only [Option.some.injEq] at h2
  subst h2
  have hm := upE_plH (ps := ps) (ρ := rho ps) (n := (e0 :: e1 :: plH2 ps).length) fun j hj => rho_id (by omega)
  constructor
  · unfold plH at h1
    cases j with
    | zero => simp at h1; subst h1; rfl
    | succ j =>
      rw [List.getElem?_cons_succ] at h1
      unfold plI at h1
      rw [List.getElem?_map] at h1
      cases hx : ps[j]? <;> simp [hx] at h1
      subst h1; rfl
  · have h3 : ((plH ps).map (upE (rho ps) (e0 :: e1 :: plH2 ps).length))[j]? = _ := List.getElem?_map
    rw [hm, h1, Option.map_some] at h3
    rw [List.getElem?_cons_succ, List.getElem?_cons_succ]; exact h3
theorem rho_nd : (rho ps).Nodup := List.Pairwise.map _ (fun a b h => by omega) List.nodup_range
theorem mrg_pl (hl : qs.length = ps.length) : mrg (e0 :: e1 :: plH2 ps) (rho ps) (plH qs) = e0 :: e1 :: plH2 qs := by
  rw [mrg_eq, List.drop_eq_nil_of_le (by rw [plH_len, rho_len]; omega), List.map_nil, List.append_nil, upE_plH fun j hj => rho_id (by omega)]
  apply List.ext_getElem?
  intro i
  have hb : ∀ j ∈ rho ps, j < (e0 :: e1 :: plH2 ps).length := by
    intro j hj
    unfold rho at hj
    obtain ⟨m, hm, rfl⟩ := List.mem_map.1 hj
    rw [List.mem_range] at hm
    simp only [List.length_cons, plH2_len]; omega
  match i with
  | 0 => rw [setL_ne (by unfold rho; simp)]; rfl
  | 1 => rw [setL_ne (by unfold rho; simp)]; rfl
  | i + 2 =>
    by_cases hi : i < ps.length + 1
    · rw [setL_at rho_nd hb (rho_get hi) (by rw [plH2_len]; omega)]; rfl
    · rw [List.getElem?_eq_none (by rw [setL_length]; simp only [List.length_cons, plH2_len]; omega), List.getElem?_eq_none (by simp only [List.length_cons, plH2_len]; omega)]
/-- a call that is handed the blocks of plots -/
theorem use_pl {n : Nat} {y : AV} {x : Value} (h : GC P k [.ref 0 n, y] (plH ps) (fun r hs => r = .v x ∧ hs = plH qs)) (hl : qs.length = ps.length) (hy : ∀ ρ hp, Ar false ρ hp y y) (hK : K (.v x) (e0 :: e1 :: plH2 qs)) : GC P k [.ref 2 n, y] (e0 :: e1 :: plH2 ps) K := by
  refine GC.use false (rho ps) h (ndB_of rho_nd) emb_pl (arL_cons (ar_own (by rw [rho_id (by omega)])) (arL_cons (hy _ _) arL_nil)) (.inl rfl) ?_
  rw [mrg_pl hl]; exact hK
/-- a call that is handed no block, and gives none -/
theorem GC.useZ2 {xs : List AV} {d : AV} (h : GC P k xs [] (fun r hs => r = d ∧ hs = [])) (ha : ArL false [] (e0 :: e1 :: plH2 ps) xs xs) (hd : ∀ n, up [] n d = d) (hK : K d (e0 :: e1 :: plH2 ps)) : GC P k xs (e0 :: e1 :: plH2 ps) K := by
  refine GC.use false [] h rfl trivial ha (.inl rfl) ?_
  rw [hd, mrg_eq, setL_nil]
  simpa using hK
theorem nosl_plH : (plH ps).all noslE = true := by
  rw [List.all_eq_true]
  intro e he
  unfold plH at he
  rcases List.mem_cons.1 he with rfl | he
  · simp only [noslE, List.all_eq_true]
    intro x hx
    unfold plC at hx
    obtain ⟨j, _, rfl⟩ := List.mem_map.1 hx
    intro d hd
    simp only [List.mem_cons, List.not_mem_nil, or_false] at hd
    rcases hd with rfl | rfl | rfl | rfl | rfl <;> rfl
  · unfold plI at he
    obtain ⟨g, _, rfl⟩ := List.mem_map.1 he
    exact nosl_map (fun _ => rfl) _
end
end Eng
section
variable {ss : List Sgt} {w r : Int} {e0 : Ent} {K : AV → List Ent → Prop}
theorem GC.fzR {P : Program} {k : FuncId} {args : List AV} {r0 d : AV} {h1 : List Ent} (hz : Fz h1 r0 d) (hn : noid d = true) (h : GC P k args [] (fun r hs => r = r0 ∧ hs = h1)) : GC P k args [] (fun r hs => r = d ∧ hs = []) :=
  GC.frzX (h.mono fun r hs e => by obtain ⟨rfl, rfl⟩ := e; exact hz) hn
theorem impl_call (hl : ss.length ≤ 1048576) (hK : K (.tup [.ref 2 (plV ss w r).length, vb (agB ss w r)]) (e0 :: .arr 5 (ss.map Sgt.e) :: plH2 (plV ss w r))) : GC Try.prog 43 [.ref 1 ss.length, vi w, vi r] [e0, .arr 5 (ss.map Sgt.e)] K := by
  refine GC.use true [] (impPlotsOf_gc hl) rfl trivial (arL_cons (ar_ref rfl rfl rfl Sgt.pl) (arL_cons ar_v (arL_cons ar_v arL_nil))) (.inr ⟨rfl, nosl_plH⟩) ?_
  have e5 : mrg [e0, Ent.arr 5 (ss.map Sgt.e)] [] (plH (plV ss w r)) = e0 :: .arr 5 (ss.map Sgt.e) :: plH2 (plV ss w r) := by
    rw [mrg_eq, setL_nil, List.length_nil, List.drop_zero, upE_plH]
    · rfl
    · intro j hj
      rw [upId_eq, if_neg (by simp)]
      simp only [List.length_cons, List.length_nil]; omega
  rw [e5]; exact hK
theorem impPlotsOfZ_gc (hl : ss.length ≤ 1048576) : GC Try.prog 43 [.sl 5 (ss.map Sgt.e), vi w, vi r] [] (fun x hs => x = .tup [.sl 5 ((plV ss w r).map Pl.e), vb (agB ss w r)] ∧ hs = []) :=
  GC.fzR (fz_tup (fzL_cons fz_plH (fzL_cons fz_v fzL_nil))) rfl (impPlotsOf_gc hl)
theorem sPlotsOfZ_gc (hl : ss.length ≤ 1048576) : GC Try.prog 42 [.sl 5 (ss.map Sgt.e), vi w, vi r] [] (fun x hs => x = .tup [.sl 5 ((plV ss w r).map Pl.e), vb (agB ss w r)] ∧ hs = []) :=
  GC.fzR (fz_tup (fzL_cons fz_plH (fzL_cons fz_v fzL_nil))) rfl (sPlotsOf_gc hl)
theorem toSightingSZ_gc (hl : ss.length ≤ 1048576) : GC Try.prog 16 [.sl 5 (ss.map Sgt.e)] [] (fun x hs => x = .sl 5 (ss.map Sgt.e) ∧ hs = []) :=
  GC.fzR (fz_ref rfl rfl (fun _ => rfl) (fun _ => rfl)) rfl (toSightingS_gc hl)
theorem plV_bd : (plV ss w r).length ≤ 40 ∧ ∀ j : Nat, j < (plV ss w r).length → ((plV ss w r).getD j default).ts.length ≤ 100 := by
  cases h : agB ss w r with
  | false => rw [plV_no h]; exact ⟨by simp, fun j hj => by simp at hj⟩
  | true =>
    rw [plV_yes h]
    obtain ⟨h1, h2⟩ := plR_spec (ss := ss) (w := w) (r := r)
    have g1 := (grR_GI (ss := ss) (w := w) (r := r)).len
    have g2 := ag_len h
    refine ⟨by omega, fun j hj => ?_⟩
    rw [h2 j (by omega)]
    have d := grR_DS h (g := j) (by omega) (by omega)
    rw [Int.toNat_natCast] at d
    have e := (siR_SI d).len
    have e2 := d.len
    show (siR ss ((grR ss w r).getD j default)).length ≤ 100
    omega
end
set_option maxRecDepth 100000 in
set_option maxHeartbeats 4000000 in
theorem FnExactPlotsOf_g0 {ss : List Sgt} {w r : Int} (hl : ss.length ≤ maxLen) : GC Try.prog 11 [.sl 5 (ss.map Sgt.e), vi w, vi r] [] (fun r _ => r = vb true) := by
  refine GC.of_func [] Try.call11 Try.func11 rfl ⟨by kernel_rfl, by kernel_rfl⟩ (by kernel_rfl) ?_
  rw [Try.results11]
  simp -implicitDefEqProofs (maxSteps := 4000000) only [sim0, sim1, sim2, sim3, sim4, sim5, sim6, sim7, sim8, ↓reduceIte, Nat.reduceEqDiff, Nat.reduceAdd, Nat.reduceMul, Nat.reduceSub, Nat.reduceLT, Nat.reduceLeDiff, reduceCtorEq, Int.reduceToNat, Int.reduceNeg, Nat.reduceBEq, simx, ty, Sgt.row, It.row, idxS_map, loadS_map, stoS_map, ← List.map_take, ← List.map_drop, sz_neg, mkSgt_len, mkP_len]
  repeat' (first
    | ((with_reducible refine onCall ?_); first
      | ((refine GC.useZ2 (toSightingSZ_gc ?_) (arL_cons ar_sl arL_nil) (fun _ => rfl) ?_ <;> try simp -implicitDefEqProofs (maxSteps := 4000000) only [sim0, sim1, sim2, sim3, sim4, sim5, sim6, sim7, sim8, ↓reduceIte, Nat.reduceEqDiff, Nat.reduceAdd, Nat.reduceMul, Nat.reduceSub, Nat.reduceLT, Nat.reduceLeDiff, reduceCtorEq, Int.reduceToNat, Int.reduceNeg, Nat.reduceBEq, simx, ty, Sgt.row, It.row, idxS_map, loadS_map, stoS_map, ← List.map_take, ← List.map_drop, sz_neg, mkSgt_len, mkP_len]))
      | ((refine GC.useF (by repeat' (first | exact fzL_nil | refine fzL_cons ?_ ?_ | exact fz_v | exact fz_sl | exact fz_nil | exact fz_ref0 rfl | refine fz_ref rfl (by simp) (fun _ => rfl) (fun _ => rfl) | refine fz_agg ?_)) (sPlotsOfZ_gc ?_) rfl ?_ <;> try simp -implicitDefEqProofs (maxSteps := 4000000) only [sim0, sim1, sim2, sim3, sim4, sim5, sim6, sim7, sim8, ↓reduceIte, Nat.reduceEqDiff, Nat.reduceAdd, Nat.reduceMul, Nat.reduceSub, Nat.reduceLT, Nat.reduceLeDiff, reduceCtorEq, Int.reduceToNat, Int.reduceNeg, Nat.reduceBEq, simx, ty, deads_nil, deads_cons, Sgt.row, It.row, idxS_map, loadS_map, stoS_map, ← List.map_take, ← List.map_drop, sz_neg, mkSgt_len, mkP_len]))
      | ((refine GC.useZ2 (impPlotsOfZ_gc ?_) (arL_cons ar_sl (arL_cons ar_v (arL_cons ar_v arL_nil))) (fun _ => rfl) ?_ <;> try simp -implicitDefEqProofs (maxSteps := 4000000) only [sim0, sim1, sim2, sim3, sim4, sim5, sim6, sim7, sim8, ↓reduceIte, Nat.reduceEqDiff, Nat.reduceAdd, Nat.reduceMul, Nat.reduceSub, Nat.reduceLT, Nat.reduceLeDiff, reduceCtorEq, Int.reduceToNat, Int.reduceNeg, Nat.reduceBEq, simx, ty, Sgt.row, It.row, idxS_map, loadS_map, stoS_map, ← List.map_take, ← List.map_drop, sz_neg, mkSgt_len, mkP_len]))
      | ((refine GC.useZ2 (eqPlotZ_gc plV_bd.1 plV_bd.2) (arL_cons ar_sl (arL_cons ar_sl arL_nil)) (fun _ => rfl) ?_ <;> try simp -implicitDefEqProofs (maxSteps := 4000000) only [sim0, sim1, sim2, sim3, sim4, sim5, sim6, sim7, sim8, ↓reduceIte, Nat.reduceEqDiff, Nat.reduceAdd, Nat.reduceMul, Nat.reduceSub, Nat.reduceLT, Nat.reduceLeDiff, reduceCtorEq, Int.reduceToNat, Int.reduceNeg, Nat.reduceBEq, simx, ty, Sgt.row, It.row, idxS_map, loadS_map, stoS_map, ← List.map_take, ← List.map_drop, sz_neg, mkSgt_len, mkP_len]))
      | (refine GC.callR (by repeat' (first | exact rdL_nil | refine rdL_cons ?_ ?_ | exact rd_v | exact rd_sl | exact rd_nil | refine rd_ref rfl (by simp [mkSgt_len, mkP_len]) (plnLL_map (fun _ => rfl) _) | refine rd_rs rfl (by simp; omega) (plnLL_map (fun _ => rfl) _) | refine rd_agg ?_)) (szSightingS_gc ?_ ?_) rfl ?_ <;> try simp -implicitDefEqProofs (maxSteps := 4000000) only [sim0, sim1, sim2, sim3, sim4, sim5, sim6, sim7, sim8, ↓reduceIte, Nat.reduceEqDiff, Nat.reduceAdd, Nat.reduceMul, Nat.reduceSub, Nat.reduceLT, Nat.reduceLeDiff, reduceCtorEq, Int.reduceToNat, Int.reduceNeg, Nat.reduceBEq, simx, ty, Sgt.row, It.row, idxS_map, loadS_map, stoS_map, ← List.map_take, ← List.map_drop, sz_neg, mkSgt_len, mkP_len])
      | (refine GC.use true [] (toSightingS_gc ?_) rfl trivial (by repeat' (first | exact arL_nil | refine arL_cons ?_ ?_ | exact ar_v | exact ar_sl | exact ar_nil | refine ar_ref rfl rfl (by simp [mkSgt_len, mkP_len]) (plnLL_map (fun _ => rfl) _) | refine ar_rs rfl rfl (by simp; omega) (plnLL_map (fun _ => rfl) _) | refine ar_agg ?_)) (.inr ⟨rfl, by first | rfl | simp [Sgt.ns, It.ns]⟩) ?_ <;> try simp -implicitDefEqProofs (maxSteps := 4000000) only [sim0, sim1, sim2, sim3, sim4, sim5, sim6, sim7, sim8, ↓reduceIte, Nat.reduceEqDiff, Nat.reduceAdd, Nat.reduceMul, Nat.reduceSub, Nat.reduceLT, Nat.reduceLeDiff, reduceCtorEq, Int.reduceToNat, Int.reduceNeg, Nat.reduceBEq, simx, ty, Sgt.row, It.row, idxS_map, loadS_map, stoS_map, ← List.map_take, ← List.map_drop, sz_neg, mkSgt_len, mkP_len])
      | (refine GC.callR (by repeat' (first | exact rdL_nil | refine rdL_cons ?_ ?_ | exact rd_v | exact rd_sl | exact rd_nil | refine rd_ref rfl (by simp [mkSgt_len, mkP_len]) (plnLL_map (fun _ => rfl) _) | refine rd_rs rfl (by simp; omega) (plnLL_map (fun _ => rfl) _) | refine rd_agg ?_)) (eqSightingS_gc ?_) rfl ?_ <;> try simp -implicitDefEqProofs (maxSteps := 4000000) only [sim0, sim1, sim2, sim3, sim4, sim5, sim6, sim7, sim8, ↓reduceIte, Nat.reduceEqDiff, Nat.reduceAdd, Nat.reduceMul, Nat.reduceSub, Nat.reduceLT, Nat.reduceLeDiff, reduceCtorEq, Int.reduceToNat, Int.reduceNeg, Nat.reduceBEq, simx, ty, Sgt.row, It.row, idxS_map, loadS_map, stoS_map, ← List.map_take, ← List.map_drop, sz_neg, mkSgt_len, mkP_len])
      | (apply GC.use false [1] (markSightingS_gc ?_ ?_) rfl ?he ?ha (.inl rfl) ?_; (case he => (refine ⟨rfl, ?_, trivial⟩; (first | rw [Sgt.up] | rw [It.up]); exact rfl)); (case ha => (repeat' (first | exact arL_nil | refine arL_cons ?_ ?_ | exact ar_v | exact ar_own rfl | refine ar_agg ?_))); (all_goals (try simp -implicitDefEqProofs (maxSteps := 4000000) only [sim0, sim1, sim2, sim3, sim4, sim5, sim6, sim7, sim8, ↓reduceIte, Nat.reduceEqDiff, Nat.reduceAdd, Nat.reduceMul, Nat.reduceSub, Nat.reduceLT, Nat.reduceLeDiff, reduceCtorEq, Int.reduceToNat, Int.reduceNeg, Nat.reduceBEq, simx, ty, Sgt.row, It.row, idxS_map, loadS_map, stoS_map, ← List.map_take, ← List.map_drop, sz_neg, mkSgt_len, mkP_len])))
      | fail)
    | ((with_reducible refine onFin ?_); first
      | (refine fin_law ?_; (first | (first | rfl | (exfalso; simp at hq; done) | (exfalso; have g1 := off_bd (k := 1) (plV_bd (ss := ss) (w := w) (r := r)).2 (Nat.le_refl _); omega)) | (simp_all [fins]; done) | (simp_all [-Int.not_lt, -Int.not_le, fins]; done) | (simp_all [fins]; omega)))
      | fail)
    | (((with_reducible refine onCall ?_); refine impl_call ?_ ?_ <;> try simp -implicitDefEqProofs (maxSteps := 4000000) only [sim0, sim1, sim2, sim3, sim4, sim5, sim6, sim7, sim8, ↓reduceIte, Nat.reduceEqDiff, Nat.reduceAdd, Nat.reduceMul, Nat.reduceSub, Nat.reduceLT, Nat.reduceLeDiff, reduceCtorEq, Int.reduceToNat, Int.reduceNeg, Nat.reduceBEq, simx, ty, Sgt.row, It.row, idxS_map, loadS_map, stoS_map, ← List.map_take, ← List.map_drop, sz_neg, mkSgt_len, mkP_len]))
    | (((with_reducible refine onCall ?_); refine use_pl (eqPlotO_gc plV_bd.1 plV_bd.2) rfl (fun _ _ => ar_sl) ?_ <;> try simp -implicitDefEqProofs (maxSteps := 4000000) only [sim0, sim1, sim2, sim3, sim4, sim5, sim6, sim7, sim8, ↓reduceIte, Nat.reduceEqDiff, Nat.reduceAdd, Nat.reduceMul, Nat.reduceSub, Nat.reduceLT, Nat.reduceLeDiff, reduceCtorEq, Int.reduceToNat, Int.reduceNeg, Nat.reduceBEq, simx, ty, Sgt.row, It.row, idxS_map, loadS_map, stoS_map, ← List.map_take, ← List.map_drop, sz_neg, mkSgt_len, mkP_len]))
    | (((with_reducible refine onCall ?_); refine use_pl (markPlotS_gc plV_bd.1 plV_bd.2 (by omega)) mkP_len (fun _ _ => ar_v) ?_ <;> try simp -implicitDefEqProofs (maxSteps := 4000000) only [sim0, sim1, sim2, sim3, sim4, sim5, sim6, sim7, sim8, ↓reduceIte, Nat.reduceEqDiff, Nat.reduceAdd, Nat.reduceMul, Nat.reduceSub, Nat.reduceLT, Nat.reduceLeDiff, reduceCtorEq, Int.reduceToNat, Int.reduceNeg, Nat.reduceBEq, simx, ty, Sgt.row, It.row, idxS_map, loadS_map, stoS_map, ← List.map_take, ← List.map_drop, sz_neg, mkSgt_len, mkP_len]))
    | (((with_reducible refine onCall ?_); refine use_pl (heldPlotS_gc plV_bd.1 plV_bd.2 (by omega)) rfl (fun _ _ => ar_v) ?_ <;> try simp -implicitDefEqProofs (maxSteps := 4000000) only [sim0, sim1, sim2, sim3, sim4, sim5, sim6, sim7, sim8, ↓reduceIte, Nat.reduceEqDiff, Nat.reduceAdd, Nat.reduceMul, Nat.reduceSub, Nat.reduceLT, Nat.reduceLeDiff, reduceCtorEq, Int.reduceToNat, Int.reduceNeg, Nat.reduceBEq, simx, ty, Sgt.row, It.row, idxS_map, loadS_map, stoS_map, ← List.map_take, ← List.map_drop, sz_neg, mkSgt_len, mkP_len]))
    | (with_reducible refine ite_intro (fun hq => ?_) (fun hq => ?_))
    | (with_reducible refine And.intro (fun hq => ?_) (fun hq => ?_))
    | (with_reducible refine And.intro ?_ ?_)
    | ((fail_if_success (with_reducible refine onCode ?_)); (fail_if_success (with_reducible refine onLps ?_)); (fail_if_success (with_reducible refine onLpd ?_)); (fail_if_success (with_reducible refine onLpe ?_)); (fail_if_success (with_reducible refine onFin ?_)); (fail_if_success (with_reducible refine onCall ?_)); (fail_if_success (with_reducible refine onQcall ?_)); first | ((first | omega | exact fun n h => mkIt_get h); done) | omega | (rw [wrap_id (by omega) (by omega)]; omega) | (first | rfl | (exfalso; simp at hq; done) | (exfalso; have g1 := off_bd (k := 1) (plV_bd (ss := ss) (w := w) (r := r)).2 (Nat.le_refl _); omega))))

theorem FnExactPlotsOf_gc (xs : List (List Int)) (w : ∀ e ∈ xs, e.length = 5 ∧ ∀ z ∈ e, (Lit.int .i64 z).wf = true) (m : xs.length ≤ maxLen) (a : Int) (ha : I64 a) (b : Int) (hb : I64 b) : GC Try.prog 11 [.sl 5 (els .i64 xs), vi a, vi b] [] (fun r _ => r = vb true) := by
  obtain ⟨ts, h1, h2, h3⟩ := Sgt.of w
  rw [h1]; exact FnExactPlotsOf_g0 (by omega)
end Go.Proofs.Ytgcmahhejblpkaa
