/-
Blocks of plots that hold own slices, and contracts of what PlotsOf calls, over plain data.
No condition but those that the contracts name.
-/
import Derived.Test.YtgcmahhejblpkaaC22
namespace Go.Proofs.Ytgcmahhejblpkaa
open Eng
set_option linter.unusedSimpArgs false
set_option linter.unusedVariables false
structure Pl where
  c : Int
  a : Int
  x : Int
  y : Int
  ts : List It
instance : Inhabited Pl := ⟨⟨0, 0, 0, 0, []⟩⟩
namespace Eng
section
variable {ps : List Pl} {X : List Ent} {k : Nat}
/-- the outer block: the sites of plot k lie in block k + 1 -/
def plC (ps : List Pl) : List (List AV) := (List.range ps.length).map fun k => [vi (ps.getD k default).c, vi (ps.getD k default).a, vi (ps.getD k default).x, vi (ps.getD k default).y, .ref (k + 1) (ps.getD k default).ts.length]
def plI (ps : List Pl) : List Ent := ps.map fun p => .arr 1 (p.ts.map It.e)
def plH (ps : List Pl) : List Ent := .arr 5 (plC ps) :: plI ps
theorem plH_def : plH ps = .arr 5 (plC ps) :: plI ps := rfl
theorem plC_len : (plC ps).length = ps.length := by simp [plC]
theorem plI_len : (plI ps).length = ps.length := by simp [plI]
theorem plH_len : (plH ps).length = ps.length + 1 := by simp [plH, plI]
theorem plC_get (h : k < ps.length) : (plC ps)[k]? = some [vi (ps.getD k default).c, vi (ps.getD k default).a, vi (ps.getD k default).x, vi (ps.getD k default).y, .ref (k + 1) (ps.getD k default).ts.length] := by
  unfold plC; rw [List.getElem?_map, List.getElem?_range h]; rfl
theorem plI_get (h : k < ps.length) : (plI ps)[k]? = some (.arr 1 ((ps.getD k default).ts.map It.e)) := by
  unfold plI
  rw [List.getElem?_map]
  simp [List.getD, List.getElem?_eq_getElem h]
theorem plI_app (h : k < ps.length) : (plI ps ++ X)[k]? = some (.arr 1 ((ps.getD k default).ts.map It.e)) := by
  rw [List.getElem?_append_left (by rw [plI_len]; exact h), plI_get h]
theorem plI_new : (plI ps ++ X)[ps.length + k]? = X[k]? := by
  rw [List.getElem?_append_right (by rw [plI_len]; omega), plI_len]; congr 1; omega
theorem plI_new0 : (plI ps ++ X)[ps.length]? = X[0]? := plI_new (k := 0)
theorem plI_setN {v : Ent} : (plI ps ++ X).set (ps.length + k) v = plI ps ++ X.set k v := by
  rw [List.set_append_right _ _ (by rw [plI_len]; omega), plI_len]; congr 2; omega
theorem plI_set0 {v : Ent} : (plI ps ++ X).set ps.length v = plI ps ++ X.set 0 v := plI_setN (k := 0)
theorem it_pl : ∀ x : It, (It.e x).all pln = true := fun _ => rfl
theorem okL_of : ∀ {hs : List Ent}, (∀ e ∈ hs, okE e = true) → okL hs = true
  | [], _ => rfl
  | e :: r, h => by simp only [okL, Bool.and_eq_true]; exact ⟨h e (by simp), okL_of fun x hx => h x (by simp [hx])⟩
theorem pl_okL {Y : List Ent} (hY : okL Y = true) : okL (plH ps ++ Y) = true := by
  refine okL_of fun e he => ?_
  have hY2 : ∀ e ∈ Y, okE e = true := by
    have : ∀ {hs : List Ent}, okL hs = true → ∀ e ∈ hs, okE e = true := by
      intro hs
      induction hs with
      | nil => intro _ e h; simp at h
      | cons a r ih =>
        intro h e he
        simp only [okL, Bool.and_eq_true] at h
        rcases List.mem_cons.1 he with rfl | he
        · exact h.1
        · exact ih h.2 e he
    exact this hY
  rcases List.mem_append.1 he with he | he
  · unfold plH at he
    rcases List.mem_cons.1 he with rfl | he
    · simp only [okE, Bool.or_eq_true, List.all_eq_true]
      right
      intro x hx
      unfold plC at hx
      obtain ⟨k, _, rfl⟩ := List.mem_map.1 hx
      rfl
    · unfold plI at he
      obtain ⟨g, _, rfl⟩ := List.mem_map.1 he
      simp only [okE, Bool.or_eq_true]
      exact .inl (plnLL_map it_pl _)
  · exact hY2 e he
/-- blocks of plots, told anew: r is the outer block, js are the inner ones, ks are the blocks behind -/
theorem pl_end {sh Y : List Ent} {r : Nat} {js ks : List Nat} {cs : List (List AV)} (hr : sh[r]? = some (.arr 5 cs)) (hl : js.length = ps.length) (hcl : cs.length = ps.length)
    (hc : ∀ k j, k < ps.length → js[k]? = some j → cs[k]? = some [vi (ps.getD k default).c, vi (ps.getD k default).a, vi (ps.getD k default).x, vi (ps.getD k default).y, .ref j (ps.getD k default).ts.length] ∧ sh[j]? = some (.arr 1 ((ps.getD k default).ts.map It.e))) (hn : (r :: (js ++ ks)).Nodup)
    (hks : ∀ i ∈ ks, i < sh.length) (hY : ks.map (fun i => rnE 0 (r :: (js ++ ks)) (sh.getD i .dead)) = Y) :
    isB 0 sh.length (r :: (js ++ ks)) = true ∧ (r :: (js ++ ks)).map (fun i => rnE 0 (r :: (js ++ ks)) (sh.getD i .dead)) = plH ps ++ Y := by
  constructor
  · simp only [isB, Bool.and_eq_true, List.all_eq_true, decide_eq_true_eq]
    refine ⟨ndB_of hn, fun i hi => ⟨Nat.zero_le _, ?_⟩⟩
    rcases List.mem_cons.1 hi with rfl | hi
    · exact lt_of_some hr
    · rcases List.mem_append.1 hi with hi | hi
      · obtain ⟨k, hk, e⟩ := List.getElem_of_mem hi
        exact lt_of_some (hc k i (by omega) (by rw [List.getElem?_eq_getElem hk, e])).2
      · exact hks i hi
  · unfold plH
    rw [List.map_cons, List.map_append, hY, List.cons_append]
    congr 1
    · simp only [List.getD, hr, Option.getD_some, rnE, rnLL]
      congr 1
      have e2 : cs.map (rn.rnL 0 (r :: (js ++ ks))) = plC ps := by
        apply List.ext_getElem?
        intro k
        by_cases hk : k < ps.length
        · have hj : js[k]? = some (js[k]'(by omega)) := List.getElem?_eq_getElem (by omega)
          rw [List.getElem?_map, (hc k _ hk hj).1, plC_get hk]
          have hp : pos (js[k]'(by omega)) (r :: (js ++ ks)) = some (k + 1) := pos_at hn (by rw [List.getElem?_cons_succ, List.getElem?_append_left (by omega)]; exact hj)
          simp only [Option.map_some, rn.rnL, rn, rnId, Nat.not_lt_zero, if_false, hp, Option.map_some, Nat.zero_add]
        · rw [List.getElem?_eq_none (by rw [List.length_map]; omega), List.getElem?_eq_none (by rw [plC_len]; omega)]
      split
      · rename_i hp
        rw [← e2]
        have e3 : ∀ x ∈ cs, rn.rnL 0 (r :: (js ++ ks)) x = id x := by
          intro x hx
          refine rnL_pl ?_
          exact List.all_eq_true.2 fun d hd => plnLL_get hp hx hd
        rw [List.map_congr_left e3, List.map_id]
      · exact e2
    · congr 1
      apply List.ext_getElem?
      intro k
      by_cases hk : k < ps.length
      · have hj : js[k]? = some (js[k]'(by omega)) := List.getElem?_eq_getElem (by omega)
        rw [List.getElem?_map, hj, plI_get hk]
        simp only [Option.map_some, List.getD, (hc k _ hk hj).2, Option.getD_some]
        rw [rnE_pln (plnLL_map it_pl _)]
      · rw [List.getElem?_eq_none (by rw [List.length_map]; omega), List.getElem?_eq_none (by rw [plI_len]; omega)]
theorem rng_nd {n : Nat} {ks : List Nat} (h : ks.Nodup) (hk : ∀ i ∈ ks, n < i) : (0 :: ((List.range n).map (· + 1) ++ ks)).Nodup := by
  rw [List.nodup_cons, List.nodup_append]
  refine ⟨?_, List.Pairwise.map _ (fun a b h => by omega) List.nodup_range, h, ?_⟩
  · intro hm
    rcases List.mem_append.1 hm with h2 | h2
    · simp at h2
    · have := hk 0 h2; omega
  · intro a ha b hb
    have := hk b hb
    simp at ha; omega
/-- plots that stay, and blocks behind them -/
theorem pl_keep {X Y : List Ent} {ks : List Nat} (hn : ks.Nodup) (hk : ∀ i ∈ ks, ps.length < i ∧ i < ps.length + 1 + X.length)
    (hY : ks.map (fun i => rnE 0 (0 :: ((List.range ps.length).map (· + 1) ++ ks)) ((plH ps ++ X).getD i .dead)) = Y) :
    isB 0 (plH ps ++ X).length (0 :: ((List.range ps.length).map (· + 1) ++ ks)) = true ∧ (0 :: ((List.range ps.length).map (· + 1) ++ ks)).map (fun i => rnE 0 (0 :: ((List.range ps.length).map (· + 1) ++ ks)) ((plH ps ++ X).getD i .dead)) = plH ps ++ Y := by
  refine pl_end (r := 0) (cs := plC ps) rfl (by simp) plC_len ?_ (rng_nd hn fun i hi => (hk i hi).1) (fun i hi => by rw [List.length_append, plH_len]; exact (hk i hi).2) hY
  intro k j hk hj
  rw [List.getElem?_map, List.getElem?_range hk] at hj
  simp only [Option.map_some, Option.some.injEq] at hj
  subst hj
  refine ⟨plC_get hk, ?_⟩
  unfold plH
  rw [List.cons_append, List.getElem?_cons_succ]
  exact plI_app hk
theorem plH_at {X : List Ent} : (plH ps ++ X)[ps.length + 1 + k]? = X[k]? := by
  unfold plH
  rw [List.cons_append, show ps.length + 1 + k = (ps.length + k) + 1 by omega, List.getElem?_cons_succ]; exact plI_new
theorem plH_atD {X : List Ent} : (plH ps ++ X).getD (ps.length + 1 + k) .dead = X.getD k .dead := by
  simp only [List.getD]; rw [plH_at]
/-- a new plot at the end: the outer block is T[b], its sites are T[a] -/
theorem pl_push {p : Pl} {T : List Ent} {e : Ent} {a b : Nat} (ha : T[a]? = some (.arr 1 (p.ts.map It.e))) (hb : T[b]? = some (.arr 5 (plC ps ++ [[vi p.c, vi p.a, vi p.x, vi p.y, .ref (ps.length + 1 + a) p.ts.length]]))) (hab : a ≠ b) :
    isB 0 (e :: (plI ps ++ T)).length ((ps.length + 1 + b) :: ((List.range ps.length).map (· + 1) ++ [ps.length + 1 + a])) = true ∧
    ((ps.length + 1 + b) :: ((List.range ps.length).map (· + 1) ++ [ps.length + 1 + a])).map (fun i => rnE 0 ((ps.length + 1 + b) :: ((List.range ps.length).map (· + 1) ++ [ps.length + 1 + a])) ((e :: (plI ps ++ T)).getD i .dead)) = plH (ps ++ [p]) := by
  have := pl_end (ps := ps ++ [p]) (sh := e :: (plI ps ++ T)) (Y := []) (r := ps.length + 1 + b) (js := (List.range ps.length).map (· + 1) ++ [ps.length + 1 + a]) (ks := []) (cs := plC ps ++ [[vi p.c, vi p.a, vi p.x, vi p.y, .ref (ps.length + 1 + a) p.ts.length]])
    (by rw [show ps.length + 1 + b = (ps.length + b) + 1 by omega, List.getElem?_cons_succ, plI_new]; exact hb) (by simp) (by simp [plC_len]) ?_ ?_ (by simp) rfl
  · simpa using this
  · intro k j hk hj
    simp only [List.length_append, List.length_cons, List.length_nil] at hk
    by_cases e : k < ps.length
    · rw [List.getElem?_append_left (by simp; exact e), List.getElem?_map, List.getElem?_range e] at hj
      simp only [Option.map_some, Option.some.injEq] at hj
      subst hj
      have hgd : (ps ++ [p]).getD k default = ps.getD k default := by simp only [List.getD]; rw [List.getElem?_append_left e]
      rw [hgd]
      constructor
      · rw [List.getElem?_append_left (by rw [plC_len]; exact e), plC_get e]
      · rw [List.getElem?_cons_succ, plI_app e]
    · have ek : k = ps.length := by omega
      subst ek
      rw [List.getElem?_append_right (by simp)] at hj
      simp only [List.length_map, List.length_range, Nat.sub_self, List.getElem?_cons_zero, Option.some.injEq] at hj
      subst hj
      have hgd : (ps ++ [p]).getD ps.length default = p := by simp [List.getD]
      rw [hgd]
      constructor
      · rw [List.getElem?_append_right (by rw [plC_len]; omega), plC_len, Nat.sub_self]; rfl
      · rw [show ps.length + 1 + a = (ps.length + a) + 1 by omega, List.getElem?_cons_succ, plI_new]; exact ha
  · rw [List.append_nil, List.nodup_cons]
    constructor
    · intro hm
      rcases List.mem_append.1 hm with h | h
      · simp at h; omega
      · simp at h; omega
    · rw [List.nodup_append]
      refine ⟨List.Pairwise.map _ (fun a b h => by omega) List.nodup_range, by simp, ?_⟩
      intro a ha b hb
      simp at ha hb
      omega
theorem pl_self : isB 0 (plH ps).length (0 :: (List.range ps.length).map (· + 1)) = true ∧ (0 :: (List.range ps.length).map (· + 1)).map (fun i => rnE 0 (0 :: (List.range ps.length).map (· + 1)) ((plH ps).getD i .dead)) = plH ps := by
  have := pl_keep (ps := ps) (X := []) (Y := []) (ks := []) (by simp) (by simp) rfl
  simpa using this
theorem fz_plH : Fz (plH ps) (.ref 0 ps.length) (.sl 5 (ps.map fun p => [vi p.c, vi p.a, vi p.x, vi p.y, .sl 1 (p.ts.map It.e)])) := by
  refine .ref 0 ps.length 5 (plC ps) _ rfl (by rw [plC_len]; exact Nat.le_refl _) (by simp) ?_ ?_ ?_ ?_
  · intro e he
    obtain ⟨g, _, rfl⟩ := List.mem_map.1 he
    rfl
  · intro e he d hd
    obtain ⟨g, _, rfl⟩ := List.mem_map.1 he
    simp only [List.mem_cons, List.not_mem_nil, or_false] at hd
    rcases hd with rfl | rfl | rfl | rfl | rfl <;> rfl
  · intro e he
    unfold plC at he
    obtain ⟨k, _, rfl⟩ := List.mem_map.1 he
    rfl
  · intro i o e e' x d h1 h2 h3 h4
    have hi : i < ps.length := by
      have := lt_of_some h1; rwa [plC_len] at this
    rw [plC_get hi] at h1
    simp only [Option.some.injEq] at h1
    subst h1
    rw [List.getElem?_map, List.getElem?_eq_getElem hi] at h2
    simp only [Option.map_some, Option.some.injEq] at h2
    subst h2
    have e1 : ps.getD i default = ps[i] := by simp [List.getD, List.getElem?_eq_getElem hi]
    rw [e1] at h3
    have ho : o < 5 := by have := lt_of_some h3; simpa using this
    have hcs : o = 0 ∨ o = 1 ∨ o = 2 ∨ o = 3 ∨ o = 4 := by omega
    rcases hcs with rfl | rfl | rfl | rfl | rfl <;> simp only [List.getElem?_cons_zero, List.getElem?_cons_succ, Option.some.injEq] at h3 h4 <;> subst h3 <;> subst h4
    · exact fz_v
    · exact fz_v
    · exact fz_v
    · exact fz_v
    · refine fz_ref ?_ rfl (fun _ => rfl) it_pl
      unfold plH
      rw [List.getElem?_cons_succ, plI_get hi, e1]
end
end Eng
end Go.Proofs.Ytgcmahhejblpkaa
