/-
An abstract interpreter of the program's code on plain data: part Y, results of which something is told and that nobody writes any more.
No condition: everything here is stated over any program.
-/
import Derived.Test.YtgcmahhejblpkaaVX
namespace Go.Proofs.Ytgcmahhejblpkaa
namespace Eng
set_option linter.unusedVariables false
set_option linter.unusedSimpArgs false

variable {P : Program} {n0 : Nat} {pl : List (Nat × Plan)} {hp hs : List Ent} {l : List (Nat × AV)} {m : Mp} {w : World} {F : Nat → Prop}

/-- own content that is told as plain data, once nobody writes it any more -/
def FzR (hp : List Ent) (r d : AV) : Prop := ∀ (m : Mp) (w : World) (F : Nat → Prop) (v : Value), RelH m w F hp → RepA m w F r v → ∀ m' : Mp, RepA m' w (allF m F hp) d v
def FzRL (hp : List Ent) : List AV → List AV → Prop
  | [], [] => True
  | x :: xs, d :: ds => FzR hp x d ∧ FzRL hp xs ds
  | _, _ => False
theorem FzRL.get : ∀ {xs ds : List AV}, FzRL hp xs ds → ds.length = xs.length ∧ ∀ (i : Nat) (x d : AV), xs[i]? = some x → ds[i]? = some d → FzR hp x d
  | [], [], _ => ⟨rfl, fun i c v h => by simp at h⟩
  | x :: xs, v :: vs, h => by
    obtain ⟨h1, h2⟩ := FzRL.get h.2
    refine ⟨by simp [h1], ?_⟩
    intro i c u e1 e2
    cases i with
    | zero => simp at e1 e2; subst e1; subst e2; exact h.1
    | succ i => exact h2 i c u (by simpa using e1) (by simpa using e2)
theorem FzR.of {r d : AV} (h : Fz hp r d) : FzR hp r d := fun m w F v hh hr m' => h.rep hh hr m'
theorem fzr_v {x : Value} : FzR hp (.v x) (.v x) := .of fz_v
theorem fzr_sl {sz : Nat} {xs : List (List AV)} : FzR hp (.sl sz xs) (.sl sz xs) := .of fz_sl
theorem fzr_nil {α : Type} {sz : Nat} {f : α → List AV} : FzR hp (.v (.slice none 0 0)) (.sl sz (List.map f [])) := .of fz_nil
theorem fzrL_nil : FzRL hp [] [] := trivial
theorem fzrL_cons {x d : AV} {xs ds : List AV} (h : FzR hp x d) (t : FzRL hp xs ds) : FzRL hp (x :: xs) (d :: ds) := ⟨h, t⟩
theorem fzr_agg {cs ds : List AV} (h : FzRL hp cs ds) : FzR hp (.agg cs) (.agg ds) := by
  intro m w F v hh hr m'
  obtain ⟨h1, h2⟩ := FzRL.get h
  obtain ⟨vs, rfl, hlv, hrv⟩ := hr.inv_agg
  refine .agg ds vs (by rw [hlv, h1]) ?_
  intro i d u e1 e2
  have hi : i < cs.length := by rw [← h1]; exact lt_of_some e1
  have hc := List.getElem?_eq_getElem hi
  exact h2 i _ d hc e1 m w F u hh (hrv i _ u hc e2) m'
theorem fzr_tup {cs ds : List AV} (h : FzRL hp cs ds) : FzR hp (.tup cs) (.tup ds) := by
  intro m w F v hh hr m'
  obtain ⟨h1, h2⟩ := FzRL.get h
  obtain ⟨vs, rfl, hlv, hrv⟩ := hr.inv_tup
  refine .tup ds vs (by rw [hlv, h1]) ?_
  intro i d u e1 e2
  have hi : i < cs.length := by rw [← h1]; exact lt_of_some e1
  have hc := List.getElem?_eq_getElem hi
  exact h2 i _ d hc e1 m w F u hh (hrv i _ u hc e2) m'
theorem fzr_rs {α : Type} {id sz lo len : Nat} {ts : List α} {f : α → List AV} (he : hp[id]? = some (.arr sz (ts.map f))) (hl : lo + len ≤ ts.length) (hq : ∀ t, (f t).all pln = true) : FzR hp (.rs id lo len) (.sl sz (((ts.drop lo).take len).map f)) := by
  intro m w F v hh hr m'
  have hq' : plnLL (ts.map f) = true := plnLL_map hq ts
  have hl' : lo + len ≤ (ts.map f).length := by simpa using hl
  rw [List.map_take, List.map_drop]
  generalize ts.map f = elems at he hq' hl'
  rcases hr.inv_rs with ⟨rfl, ad, cap, rfl⟩ | ⟨b, s', cap, rfl, hm, hlc, hmax⟩
  · rw [List.take_zero]; exact .nil sz ad cap
  · obtain ⟨rfl, cur', T', cs, hA⟩ := hh.at_ he hm
    have hlen : ((elems.drop lo).take len).length = len := by simp; omega
    have := RepA.sl (m := m') (w := w) (F := allF m F hp) s' ((elems.drop lo).take len) b (lo * s') cap cur' T' (0, 0) (fun i o => cs (lo + i) o) (.inr ⟨id, _, s', he, rfl, hm⟩) hA.hb (by rw [hlen]; exact hlc) hmax
      (fun e h1 => (hA.hsz e (List.mem_of_mem_drop (List.mem_of_mem_take h1))).1) (fun e h1 d h2 => plnLL_get hq' (List.mem_of_mem_drop (List.mem_of_mem_take h1)) h2)
      (by
        intro i o hi ho; rw [hlen] at hi
        have := hA.hcell (lo + i) o (by omega) ho
        rw [Nat.add_mul] at this; exact this)
      (by
        intro i o e d h1 h2
        rw [List.getElem?_take] at h1
        split at h1
        · rw [List.getElem?_drop] at h1
          exact (hA.hrep (lo + i) o e d h1 h2).noid (pln_noid (plnLL_get hq' (List.mem_of_getElem? h1) (List.mem_of_getElem? h2))) (fun b hb => .inl hb)
        · cases h1)
    rw [hlen] at this
    exact this
theorem fzr_refT {α : Type} {id sz len : Nat} {ts : List α} {f : α → List AV} (he : hp[id]? = some (.arr sz (ts.map f))) (hl : len ≤ ts.length) (hq : ∀ t, (f t).all pln = true) : FzR hp (.ref id len) (.sl sz ((ts.take len).map f)) := by
  intro m w F v hh hr m'
  have hq' : plnLL (ts.map f) = true := plnLL_map hq ts
  have hl' : len ≤ (ts.map f).length := by simpa using hl
  rw [List.map_take]
  generalize ts.map f = elems at he hq' hl'
  rcases hr.inv_ref with ⟨hm, rfl, rfl⟩ | ⟨b, s', cap, cur, T, rfl, hm, hb, hsz, hlc, hmax⟩
  · rw [List.take_zero]; exact .nil sz none 0
  · obtain ⟨rfl, cur', T', cs, hA⟩ := hh.at_ he hm
    have hlen : (elems.take len).length = len := by simp; omega
    have := RepA.sl (m := m') (w := w) (F := allF m F hp) s' (elems.take len) b 0 cap cur' T' (0, 0) cs (.inr ⟨id, _, s', he, rfl, hm⟩) hA.hb (by rw [hlen]; exact hlc) hmax
      (fun e h1 => (hA.hsz e (List.mem_of_mem_take h1)).1) (fun e h1 d h2 => plnLL_get hq' (List.mem_of_mem_take h1) h2)
      (by intro i o hi ho; rw [hlen] at hi; simpa using hA.hcell i o (by omega) ho)
      (by
        intro i o e d h1 h2
        rw [List.getElem?_take] at h1
        split at h1
        · exact (hA.hrep i o e d h1 h2).noid (pln_noid (plnLL_get hq' (List.mem_of_getElem? h1) (List.mem_of_getElem? h2))) (fun b hb => .inl hb)
        · cases h1)
    rw [hlen] at this
    exact this
theorem fzr_ref {α : Type} {id sz len : Nat} {ts : List α} {f : α → List AV} (he : hp[id]? = some (.arr sz (ts.map f))) (hl : len = ts.length) (hq : ∀ t, (f t).all pln = true) : FzR hp (.ref id len) (.sl sz (ts.map f)) := by
  subst hl
  have := fzr_refT he (Nat.le_refl _) hq
  rwa [List.take_length] at this
theorem fzr_ref0 {α : Type} {id sz : Nat} {f : α → List AV} (h : hp[id]? = some (.arr sz [])) : FzR hp (.ref id 0) (.sl sz (List.map f [])) := .of (fz_ref0 h)
/-- A RESULT of which something is told, where nobody writes any more what it holds -/
theorem GC.frzE {k : FuncId} {args : List AV} {K : AV → List Ent → Prop} (h : GC P k args [] (fun r hs => ∃ d, noid d = true ∧ FzR hs r d ∧ K d [])) : GC P k args [] K := by
  refine ⟨h.1, fun m w F vals hh hv => ?_⟩
  have hm : m = [] := List.eq_nil_of_length_eq_zero hh.len
  subst hm
  refine (h.2 [] w F vals hh hv).mono ?_
  rintro e w' ⟨v, r, hp', m', F', rfl, ⟨d, hn, hz, hk⟩, hh', hr, t⟩
  refine ⟨v, d, [], [], allF m' F' hp', rfl, hk, relH_nil _ (allF_lt hh'), hz m' w' F' v hh' hr [], ?_⟩
  exact { os := t.os, tape := t.tape, output := t.output, size := t.size, blk := t.blk, sub := fun b hb => .inl (t.sub b hb), mid := fun _ _ => rfl, mlen := Nat.le_refl _, shp := t.shp, fix := t.fix
          own := fun b ho => absurd ho notOwn_nil
          frz := fun b hb => by
            rcases hb with g | g
            · exact t.frz b g
            · rcases t.own b g with g | g
              · exact absurd g notOwn_nil
              · exact .inr (.inl g) }
theorem fin_fzK {r d : AV} {K : AV → List Ent → Prop} (h : FzR hp r d) (hq : plnH hp = true) (hb : AV.big hp.length [] r = false) (hn : noid d = true) (hK : K d []) : fin 0 r hp (fun r' hs => ∃ d, noid d = true ∧ FzR hs r' d ∧ K d []) := by
  have hk : kept 0 (rngL 0 hp.length) hp = hp := by
    have := kept_rng (n0 := 0) (ex := []) hq (Nat.zero_le _)
    rwa [List.append_nil] at this
  refine ⟨rngL 0 hp.length, ⟨?_, by rw [hk]; exact okL_plnH hq⟩, by rw [rn_fix fixB_rng hb, hk]; exact ⟨d, hn, h, hK⟩⟩
  simp only [isB, Bool.and_eq_true, List.all_eq_true, decide_eq_true_eq]
  refine ⟨ndB_range' _ _, fun i hi => ?_⟩
  simp only [rngL, List.mem_range'] at hi
  obtain ⟨j, hj, rfl⟩ := hi
  omega
theorem fin_fzK' {r : AV} {K : AV → Prop} (hq : plnH hp = true) (hb : AV.big hp.length [] r = false) (h : ∃ d, FzR hp r d ∧ noid d = true ∧ K d) : fin 0 r hp (fun r' hs => ∃ d, noid d = true ∧ FzR hs r' d ∧ K d) := by
  obtain ⟨d, h1, h2, h3⟩ := h
  exact fin_fzK (K := fun d _ => K d) h1 hq hb h2 h3
/-- a whole own slice, told as a part -/
theorem RepA.ref_rs {id n : Nat} {v : Value} (h : RepA m w F (.ref id n) v) : RepA m w F (.rs id 0 n) v := by
  rcases h.inv_ref with ⟨hm, rfl, rfl⟩ | ⟨b, s', cap, cur, T, rfl, hm, hb, hsz, hlc, hmax⟩
  · exact .rsNil _ _ _ _
  · have := RepA.rs (w := w) (F := F) id 0 n b s' cap hm hlc hmax
    rwa [Nat.zero_mul] at this
theorem GC.rsX {k : FuncId} {args : List AV} {K : AV → List Ent → Prop} (h : GC P k args hp (fun r hs => ∃ r', (r = r' ∨ ∃ id n, r = .ref id n ∧ r' = .rs id 0 n) ∧ K r' hs)) : GC P k args hp K := by
  refine ⟨h.1, fun m w F vals hh hv => ?_⟩
  refine (h.2 m w F vals hh hv).mono ?_
  rintro e w' ⟨v, r, hp', m', F', rfl, ⟨r', hr', hk⟩, hh', hr, t⟩
  refine ⟨v, r', hp', m', F', rfl, hk, hh', ?_, t⟩
  rcases hr' with rfl | ⟨id, n, rfl, rfl⟩
  · exact hr
  · exact hr.ref_rs
end Eng
end Go.Proofs.Ytgcmahhejblpkaa
