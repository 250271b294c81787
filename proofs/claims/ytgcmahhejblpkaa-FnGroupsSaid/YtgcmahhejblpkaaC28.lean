/-
Contracts of impl.PlotsOf, over plain data.
No condition but those that the contracts name.
-/
import Derived.Test.YtgcmahhejblpkaaC27
namespace Go.Proofs.Ytgcmahhejblpkaa
open Eng
set_option linter.unusedSimpArgs false
set_option linter.unusedVariables false
namespace Eng
section
variable {P : Program} {pl : List (Nat × Plan)} {l : List (Nat × AV)} {ps : List Pl} {cs : List (List AV)} {e0 e1 e2 e3 : Ent} {us : List It} {n a b x y : Int} {Q : Exit → St → Prop} {c : Code}
theorem plX {X : List Ent} {k : Nat} : (e0 :: (plI ps ++ X))[ps.length + 1 + k]? = X[k]? := by
  rw [show ps.length + 1 + k = (ps.length + k) + 1 by omega, List.getElem?_cons_succ, plI_new]
theorem plX_set {X : List Ent} {k : Nat} {v : Ent} : (e0 :: (plI ps ++ X)).set (ps.length + 1 + k) v = e0 :: (plI ps ++ X.set k v) := by
  rw [show ps.length + 1 + k = (ps.length + k) + 1 by omega, List.set_cons_succ, plI_setN]
theorem plX_len {X : List Ent} : (e0 :: (plI ps ++ X)).length = ps.length + 1 + X.length := by simp [plI_len]; omega
theorem nil_plG {E : List Ent} {p q : Int} (h : acode P 0 pl (.loop c) Q ⟨l, e0 :: (plI ps ++ (E ++ [.arr 5 [[vi a, vi b, vi p, vi q, .ref (ps.length + 2 + E.length) 0]], .arr 1 []]))⟩) :
    acode P 0 pl (.loop c) Q ⟨l, e0 :: (plI ps ++ (E ++ [.arr 5 [[vi a, vi b, vi p, vi q, .v (.slice none 0 0)]]]))⟩ := by
  refine acode_nilAt (ps.length + 1 + E.length) 1 (e := .arr 5 [[vi a, vi b, vi p, vi q, .v (.slice none 0 0)]]) ?_ ?_
  · rw [plX, List.getElem?_append_right (Nat.le_refl _), Nat.sub_self]; rfl
  · have e4 : (e0 :: (plI ps ++ (E ++ [Ent.arr 5 [[vi a, vi b, vi p, vi q, .v (.slice none 0 0)]]]))).length = ps.length + 2 + E.length := by rw [plX_len]; simp; omega
    rw [e4, List.cons_append, List.append_assoc, List.append_assoc, plX_set, List.set_append_right _ _ (Nat.le_refl _), Nat.sub_self]
    exact h
theorem nil_pl {p q : Int} (h : acode P 0 pl (.loop c) Q ⟨l, e0 :: (plI ps ++ [e1, .arr 5 [[vi a, vi b, vi p, vi q, .ref (ps.length + 3) 0]], .arr 1 []])⟩) :
    acode P 0 pl (.loop c) Q ⟨l, e0 :: (plI ps ++ [e1, .arr 5 [[vi a, vi b, vi p, vi q, .v (.slice none 0 0)]]])⟩ := nil_plG (E := [e1]) h
theorem nil_pl0 {p q : Int} (h : acode P 0 pl (.loop c) Q ⟨l, e0 :: (plI ps ++ [.arr 5 [[vi a, vi b, vi p, vi q, .ref (ps.length + 2) 0]], .arr 1 []])⟩) :
    acode P 0 pl (.loop c) Q ⟨l, e0 :: (plI ps ++ [.arr 5 [[vi a, vi b, vi p, vi q, .v (.slice none 0 0)]]])⟩ := nil_plG (E := []) h
theorem put_call {K : AV → List Ent → Prop} (hl : us.length ≤ 1048576) (hn : ∀ k : Nat, k < us.length → ¬ (us.getD k default).n = n) (hK : K (.ref (ps.length + 4) (us.length + 1)) (e0 :: (plI ps ++ [e1, e2, .dead, .arr 1 ((puV us n).map It.e)]))) :
    GC Try.prog 81 [.ref (ps.length + 3) us.length, vi n] (e0 :: (plI ps ++ [e1, e2, .arr 1 (us.map It.e)])) K := by
  have e4 : (e0 :: (plI ps ++ [e1, e2, Ent.arr 1 (us.map It.e)])).length = ps.length + 4 := by rw [plX_len]; rfl
  refine GC.use false [ps.length + 3] (putIn_gc hl hn) rfl ⟨rfl, ?_, trivial⟩ (arL_cons (ar_own rfl) (arL_cons ar_v arL_nil)) (.inl rfl) ?_
  · rw [upE_pln (plnLL_map it_pl _)]; exact plX (k := 2)
  · have e5 : mrg (e0 :: (plI ps ++ [e1, e2, Ent.arr 1 (us.map It.e)])) [ps.length + 3] [.dead, .arr 1 ((puV us n).map It.e)] = e0 :: (plI ps ++ [e1, e2, .dead, .arr 1 ((puV us n).map It.e)]) := by
      rw [mrg_eq, List.map_cons, setL_cons, setL_nil, upE_dead]
      have := plX_set (e0 := e0) (ps := ps) (X := [e1, e2, Ent.arr 1 (us.map It.e)]) (k := 2) (v := .dead)
      rw [show ps.length + 1 + 2 = ps.length + 3 by omega] at this
      rw [this]
      simp only [List.length_cons, List.length_nil, List.drop_succ_cons, List.drop_zero, List.map_cons, List.map_nil, List.set_cons_succ, List.set_cons_zero, Nat.zero_add]
      rw [upE_pln (plnLL_map it_pl _)]
      simp
    rw [e5]
    have e6 : up [ps.length + 3] (e0 :: (plI ps ++ [e1, e2, Ent.arr 1 (us.map It.e)])).length (.ref 1 (us.length + 1)) = .ref (ps.length + 4) (us.length + 1) := by
      rw [e4, up_ref, upId_eq]; rfl
    rw [e6]
    exact hK
theorem l1_call {K : AV → List Ent → Prop} (hl : us.length ≤ 1048576) (hr : rise us) (hn : ∀ k : Nat, k < us.length → ¬ (us.getD k default).n = n) (hK : K (.ref (ps.length + 4) (us.length + 1)) (e0 :: (plI ps ++ [e1, .arr 1 (us.map It.e), e3, .arr 1 ((puV us n).map It.e)]))) :
    GC Try.prog 86 [.ref (ps.length + 2) us.length, vi n] (e0 :: (plI ps ++ [e1, .arr 1 (us.map It.e), e3])) K := by
  have e4 : (e0 :: (plI ps ++ [e1, Ent.arr 1 (us.map It.e), e3])).length = ps.length + 4 := by rw [plX_len]; rfl
  refine GC.use true [] (l1Put_gc hl hr hn) rfl trivial (arL_cons (ar_ref rfl (plX (k := 1)) rfl (plnLL_map it_pl _)) (arL_cons ar_v arL_nil)) (.inr ⟨rfl, by simp only [List.all_cons, List.all_nil, Bool.and_true]; exact nosl_map (fun _ => rfl) _⟩) ?_
  have e5 : mrg (e0 :: (plI ps ++ [e1, Ent.arr 1 (us.map It.e), e3])) [] [.arr 1 ((puV us n).map It.e)] = e0 :: (plI ps ++ [e1, .arr 1 (us.map It.e), e3, .arr 1 ((puV us n).map It.e)]) := by
    rw [mrg_eq, setL_nil]
    simp only [List.length_nil, List.drop_zero, List.map_cons, List.map_nil]
    rw [upE_pln (plnLL_map it_pl _)]
    simp
  rw [e5]
  have e6 : up [] (e0 :: (plI ps ++ [e1, Ent.arr 1 (us.map It.e), e3])).length (.ref 0 (us.length + 1)) = .ref (ps.length + 4) (us.length + 1) := by
    rw [e4, up_ref, upId_eq]; rfl
  rw [e6]
  exact hK
theorem rn_tl {n : Nat} {ks : List Nat} {j q : Nat} {i o : Nat} (hk : ks.Nodup) (hg : ∀ i ∈ ks, n < i) (h : ks[j]? = some q) : rn 0 (0 :: ((List.range n).map (· + 1) ++ ks)) (.ptr q i o) = .ptr (n + 1 + j) i o := by
  have hp : pos q (0 :: ((List.range n).map (· + 1) ++ ks)) = some (n + 1 + j) := pos_at (rng_nd hk hg) (by
    rw [show n + 1 + j = (n + j) + 1 by omega, List.getElem?_cons_succ, List.getElem?_append_right (by simp)]
    simpa using h)
  simp only [rn, rnId, Nat.not_lt_zero, if_false, hp, Option.map_some, Nat.zero_add]
theorem rnr_tl {n : Nat} {ks : List Nat} {j q m : Nat} (hk : ks.Nodup) (hg : ∀ i ∈ ks, n < i) (h : ks[j]? = some q) : rn 0 (0 :: ((List.range n).map (· + 1) ++ ks)) (.ref q m) = .ref (n + 1 + j) m := by
  have hp : pos q (0 :: ((List.range n).map (· + 1) ++ ks)) = some (n + 1 + j) := pos_at (rng_nd hk hg) (by
    rw [show n + 1 + j = (n + j) + 1 by omega, List.getElem?_cons_succ, List.getElem?_append_right (by simp)]
    simpa using h)
  simp only [rn, rnId, Nat.not_lt_zero, if_false, hp, Option.map_some, Nat.zero_add]
theorem k3_nd {n : Nat} : [n + 1, n + 2, n + 4].Nodup ∧ ∀ i ∈ [n + 1, n + 2, n + 4], n < i := by
  refine ⟨by simp, fun i hi => by simp at hi; omega⟩
theorem k2_nd {n : Nat} : [n + 1, n + 4].Nodup ∧ ∀ i ∈ [n + 1, n + 4], n < i := by
  refine ⟨by simp, fun i hi => by simp at hi; omega⟩
theorem rnE_row {is : List Nat} {p q r s : Int} {k m : Nat} {d : AV} (h : rn 0 is (.ref k m) = d) (hd : ∃ k2, d = .ref k2 m) : rnE 0 is (.arr 5 [[vi p, vi q, vi r, vi s, .ref k m]]) = .arr 5 [[vi p, vi q, vi r, vi s, d]] := by
  subst h; rfl
/-- an inner round of impl.PlotsOf: the list of sites is told anew -/
theorem inn1 {p q r s : Int} {vs : List It} {row : List AV} {m : Nat} (hrow : row.all pln = true) (hm : m = vs.length) :
    isB 0 (plH ps ++ [.arr 5 [row], .arr 5 [[vi p, vi q, vi r, vi s, .ref (ps.length + 4) m]], e2, .arr 1 (vs.map It.e)]).length (0 :: ((List.range ps.length).map (· + 1) ++ [ps.length + 1, ps.length + 2, ps.length + 4])) = true ∧
    (0 :: ((List.range ps.length).map (· + 1) ++ [ps.length + 1, ps.length + 2, ps.length + 4])).map (fun i => rnE 0 (0 :: ((List.range ps.length).map (· + 1) ++ [ps.length + 1, ps.length + 2, ps.length + 4])) ((plH ps ++ [.arr 5 [row], .arr 5 [[vi p, vi q, vi r, vi s, .ref (ps.length + 4) m]], e2, .arr 1 (vs.map It.e)]).getD i .dead)) = plH ps ++ [.arr 5 [row], .arr 5 [[vi p, vi q, vi r, vi s, .ref (ps.length + 3) vs.length]], .arr 1 (vs.map It.e)] := by
  subst hm
  refine pl_keep k3_nd.1 (fun i hi => by simp at hi; simp; omega) ?_
  simp only [List.map_cons, List.map_nil]
  have a1 := plH_atD (ps := ps) (X := [.arr 5 [row], .arr 5 [[vi p, vi q, vi r, vi s, .ref (ps.length + 4) vs.length]], e2, .arr 1 (vs.map It.e)]) (k := 0)
  have a2 := plH_atD (ps := ps) (X := [.arr 5 [row], .arr 5 [[vi p, vi q, vi r, vi s, .ref (ps.length + 4) vs.length]], e2, .arr 1 (vs.map It.e)]) (k := 1)
  have a3 := plH_atD (ps := ps) (X := [.arr 5 [row], .arr 5 [[vi p, vi q, vi r, vi s, .ref (ps.length + 4) vs.length]], e2, .arr 1 (vs.map It.e)]) (k := 3)
  rw [show ps.length + 1 + 0 = ps.length + 1 by omega] at a1
  rw [show ps.length + 1 + 1 = ps.length + 2 by omega] at a2
  rw [show ps.length + 1 + 3 = ps.length + 4 by omega] at a3
  rw [a1, a2, a3]
  simp only [List.getD_cons_zero, List.getD_cons_succ]
  have b1 : rnE 0 (0 :: ((List.range ps.length).map (· + 1) ++ [ps.length + 1, ps.length + 2, ps.length + 4])) (.arr 5 [row]) = .arr 5 [row] := rnE_pln (by simp only [plnLL, hrow, Bool.and_true])
  have b2 := rnE_row (p := p) (q := q) (r := r) (s := s) (rnr_tl (m := vs.length) (n := ps.length) (j := 2) k3_nd.1 k3_nd.2 rfl) ⟨_, rfl⟩
  rw [b1, b2, rnE_pln (plnLL_map it_pl _)]
/-- an inner round of spec.PlotsOf -/
theorem inn2 {p q r s : Int} {vs : List It} {m : Nat} (hm : m = vs.length) :
    isB 0 (plH ps ++ [.arr 5 [[vi p, vi q, vi r, vi s, .ref (ps.length + 4) m]], e1, e2, .arr 1 (vs.map It.e)]).length (0 :: ((List.range ps.length).map (· + 1) ++ [ps.length + 1, ps.length + 4])) = true ∧
    (0 :: ((List.range ps.length).map (· + 1) ++ [ps.length + 1, ps.length + 4])).map (fun i => rnE 0 (0 :: ((List.range ps.length).map (· + 1) ++ [ps.length + 1, ps.length + 4])) ((plH ps ++ [.arr 5 [[vi p, vi q, vi r, vi s, .ref (ps.length + 4) m]], e1, e2, .arr 1 (vs.map It.e)]).getD i .dead)) = plH ps ++ [.arr 5 [[vi p, vi q, vi r, vi s, .ref (ps.length + 2) vs.length]], .arr 1 (vs.map It.e)] := by
  subst hm
  refine pl_keep k2_nd.1 (fun i hi => by simp at hi; simp; omega) ?_
  simp only [List.map_cons, List.map_nil]
  have a2 := plH_atD (ps := ps) (X := [.arr 5 [[vi p, vi q, vi r, vi s, .ref (ps.length + 4) vs.length]], e1, e2, .arr 1 (vs.map It.e)]) (k := 0)
  have a3 := plH_atD (ps := ps) (X := [.arr 5 [[vi p, vi q, vi r, vi s, .ref (ps.length + 4) vs.length]], e1, e2, .arr 1 (vs.map It.e)]) (k := 3)
  rw [show ps.length + 1 + 0 = ps.length + 1 by omega] at a2
  rw [show ps.length + 1 + 3 = ps.length + 4 by omega] at a3
  rw [a2, a3]
  simp only [List.getD_cons_zero, List.getD_cons_succ]
  have b2 := rnE_row (p := p) (q := q) (r := r) (s := s) (rnr_tl (m := vs.length) (n := ps.length) (j := 1) k2_nd.1 k2_nd.2 rfl) ⟨_, rfl⟩
  rw [b2, rnE_pln (plnLL_map it_pl _)]
end
end Eng
end Go.Proofs.Ytgcmahhejblpkaa
