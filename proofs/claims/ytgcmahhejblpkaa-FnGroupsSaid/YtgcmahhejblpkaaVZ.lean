/-
An abstract interpreter of the program's code on plain data: part Z, results that nobody writes any more, where the function is handed blocks.
No condition: everything here is stated over any program.
-/
import Derived.Test.YtgcmahhejblpkaaVY
namespace Go.Proofs.Ytgcmahhejblpkaa
namespace Eng
set_option linter.unusedVariables false
set_option linter.unusedSimpArgs false

variable {P : Program} {n0 : Nat} {pl : List (Nat × Plan)} {hp hs : List Ent} {l : List (Nat × AV)} {m : Mp} {w : World} {F : Nat → Prop}

/-- content that is told as d, once some own blocks are left alone for good -/
def FzP (hs : List Ent) (r d : AV) (hs' : List Ent) : Prop :=
  ∀ (m : Mp) (w : World) (F : Nat → Prop) (v : Value), RelH m w F hs → RepA m w F r v → ∃ F' : Nat → Prop, RelH m w F' hs' ∧ Tr m w F hs m w F' hs' ∧ RepA m w F' d v
theorem fzp_same {r : AV} : FzP hs r r hs := fun m w F v hh hr => ⟨F, hh, Tr.refl m w F hs, hr⟩
theorem RelH.killD (hh : RelH m w F hp) {id : Nat} (he : hp[id]? = some .dead) : hp.set id .dead = hp := by
  apply List.ext_getElem?
  intro j
  rw [List.getElem?_set]
  split
  · rename_i h; subst h
    rw [if_pos (lt_of_some he), he]
  · rfl
theorem fzp_gen {id sz lo len : Nat} {elems : List (List AV)} {r : AV} (he : hs[id]? = some (.arr sz elems)) (hq : plnLL elems = true) (hl : lo + len ≤ elems.length) (hr0 : r = .rs id lo len ∨ (lo = 0 ∧ r = .ref id len)) :
    FzP hs r (.sl sz ((elems.drop lo).take len)) (hs.set id .dead) := by
  intro m w F v hh hr
  have hrs : RepA m w F (.rs id lo len) v := by
    rcases hr0 with rfl | ⟨rfl, rfl⟩
    · exact hr
    · exact hr.ref_rs
  cases hmm : m[id]? with
  | none => have := lt_of_some he; rw [← hh.len] at this; simp at hmm; omega
  | some o =>
    cases o with
    | none =>
      obtain ⟨k1, k2⟩ := hh.kill id
      refine ⟨F, k1, k2, ?_⟩
      rcases hrs.inv_rs with ⟨rfl, ad, cap, rfl⟩ | ⟨b, s', cap, rfl, hm, hlc, hmax⟩
      · rw [List.take_zero]; exact .nil sz ad cap
      · rw [hmm] at hm; cases hm
    | some q =>
      obtain ⟨b, s⟩ := q
      obtain ⟨rfl, cur', T', cs, hA⟩ := hh.at_ he hmm
      obtain ⟨k1, k2⟩ := hh.frz1 he rfl hmm
      refine ⟨_, k1, k2, ?_⟩
      rcases hrs.inv_rs with ⟨rfl, ad, cap, rfl⟩ | ⟨b', s', cap, rfl, hm, hlc, hmax⟩
      · rw [List.take_zero]; exact .nil s ad cap
      · rw [hmm] at hm; cases hm
        have hlen : ((elems.drop lo).take len).length = len := by simp; omega
        have := RepA.sl (m := m) (w := w) (F := fun x => F x ∨ x = b) s ((elems.drop lo).take len) b (lo * s) cap cur' T' (0, 0) (fun i o => cs (lo + i) o) (.inr rfl) hA.hb (by rw [hlen]; exact hlc) hmax
          (fun e h1 => (hA.hsz e (List.mem_of_mem_drop (List.mem_of_mem_take h1))).1) (fun e h1 d h2 => plnLL_get hq (List.mem_of_mem_drop (List.mem_of_mem_take h1)) h2)
          (by
            intro i o hi ho; rw [hlen] at hi
            have := hA.hcell (lo + i) o (by omega) ho
            rw [Nat.add_mul] at this; exact this)
          (by
            intro i o e d h1 h2
            rw [List.getElem?_take] at h1
            split at h1
            · rw [List.getElem?_drop] at h1
              exact (hA.hrep (lo + i) o e d h1 h2).noid (pln_noid (plnLL_get hq (List.mem_of_getElem? h1) (List.mem_of_getElem? h2))) (fun b hb => .inl hb)
            · cases h1)
        rw [hlen] at this
        exact this
theorem fzp_ref {α : Type} {id sz len : Nat} {ts : List α} {f : α → List AV} (he : hs[id]? = some (.arr sz (ts.map f))) (hl : len = ts.length) (hq : ∀ t, (f t).all pln = true) : FzP hs (.ref id len) (.sl sz (ts.map f)) (hs.set id .dead) := by
  subst hl
  have := fzp_gen (lo := 0) (len := ts.length) he (plnLL_map hq ts) (by simp) (.inr ⟨rfl, rfl⟩)
  rw [List.drop_zero, ← List.map_take, List.take_length] at this
  exact this
theorem fzp_refT {α : Type} {id sz len : Nat} {ts : List α} {f : α → List AV} (he : hs[id]? = some (.arr sz (ts.map f))) (hl : len ≤ ts.length) (hq : ∀ t, (f t).all pln = true) : FzP hs (.ref id len) (.sl sz ((ts.take len).map f)) (hs.set id .dead) := by
  have := fzp_gen (lo := 0) (len := len) he (plnLL_map hq ts) (by simpa using hl) (.inr ⟨rfl, rfl⟩)
  rw [List.drop_zero, ← List.map_take] at this
  exact this
theorem fzp_rs {α : Type} {id sz lo len : Nat} {ts : List α} {f : α → List AV} (he : hs[id]? = some (.arr sz (ts.map f))) (hl : lo + len ≤ ts.length) (hq : ∀ t, (f t).all pln = true) : FzP hs (.rs id lo len) (.sl sz (((ts.drop lo).take len).map f)) (hs.set id .dead) := by
  have := fzp_gen (lo := lo) (len := len) he (plnLL_map hq ts) (by simpa using hl) (.inl rfl)
  rw [← List.map_drop, ← List.map_take] at this
  exact this
/-- A RESULT, where the function is handed blocks and nobody writes any more what the result holds -/
theorem GC.frzP {k : FuncId} {args : List AV} {K : AV → List Ent → Prop} (h : GC P k args hp (fun r hs => ∃ d hs', FzP hs r d hs' ∧ K d hs')) : GC P k args hp K := by
  refine ⟨h.1, fun m w F vals hh hv => ?_⟩
  refine (h.2 m w F vals hh hv).mono ?_
  rintro e w' ⟨v, r, hp', m', F', rfl, ⟨d, hs', hz, hk⟩, hh', hr, t⟩
  obtain ⟨F'', h1, h2, h3⟩ := hz m' w' F' v hh' hr
  exact ⟨v, d, hs', m', F'', rfl, hk, h1, h3, t.trans h2⟩
end Eng
end Go.Proofs.Ytgcmahhejblpkaa
