/-
An abstract interpreter of the program's code on plain data: part T, functions that write what they are handed, and results that are nil.
No condition: everything here is stated over any program.
-/
import Derived.Test.YtgcmahhejblpkaaVS
namespace Go.Proofs.Ytgcmahhejblpkaa
namespace Eng
set_option linter.unusedVariables false
set_option linter.unusedSimpArgs false

variable {P : Program} {n0 : Nat} {pl : List (Nat × Plan)} {hp hs : List Ent} {l : List (Nat × AV)}

/-- a result whose first part is nil reads as an own slice without elements -/
theorem GC.nilT {k : FuncId} {args : List AV} {K0 K : AV → List Ent → Prop} (sz : Nat) (h : GC P k args [] K0)
    (hK : ∀ r hs, K0 r hs → K r hs ∨ (∃ vs, r = .tup (.v (.slice none 0 0) :: vs) ∧ hs = [] ∧ K (.tup (.ref 0 0 :: vs)) [.arr sz []])) : GC P k args [] K := by
  refine ⟨h.1, fun m w F vals hh hv => (h.2 m w F vals hh hv).mono ?_⟩
  rintro e w' ⟨v, r, hp', m', F', rfl, hk, hh', hr, t⟩
  rcases hK r hp' hk with h1 | ⟨vs, rfl, rfl, h1⟩
  · exact ⟨v, r, hp', m', F', rfl, h1, hh', hr, t⟩
  · obtain ⟨g1, g2⟩ := hh'.nilEnt sz
    have hm : m'.length = 0 := hh'.len
    refine ⟨v, _, _, m' ++ [none], F', rfl, h1, by simpa using g1, ?_, by simpa using t.trans g2⟩
    have hr2 := hr.tr g2
    obtain ⟨us, rfl, hl, hu⟩ := hr2.inv_tup
    refine .tup _ _ (by simpa using hl) fun i c u hc hu' => ?_
    cases i with
    | zero =>
      simp at hc; subst hc
      have h0 := hu 0 _ u rfl hu'
      rw [h0.inv_v]
      exact .refNil _ (by rw [List.getElem?_append_right (by omega), hm]; rfl)
    | succ i => exact hu (i + 1) c u (by simpa using hc) hu'

theorem isOf_nil : ∀ (n p : Nat), isOf l [] p n = List.range' p n
  | 0, p => rfl
  | n + 1, p => by
    simp only [isOf, List.find?_nil, List.range'_succ, isOf_nil n (p + 1)]

/-- a round's end where blocks are written in place and those behind are dropped -/
theorem lpe_endP {α : Type} {mods : α → List (Nat × AV)} {tops : List Nat} {hps : α → List Ent} {J : α → Prop} {ν : α → Nat} {a : α} {Q : Exit → St → Prop} {sl : List (Nat × AV)} {sh : List Ent} (a' : α)
    (hn : n0 ≤ (hps a').length) (ex : List Ent) (he : sh = hps a' ++ ex) (hq : plnH (hps a') = true) (hb : nbig (hps a').length (mods a') = true)
    (h6 : agr sl (mods a')) (h7 : und ((mods a').map (·.1) ++ tops) (clr (hps a').length [] l) sl) (h8 : J a') (h9 : ν a' < ν a) : lpe n0 mods tops l [] hps J ν a Q .normal ⟨sl, sh⟩ := by
  have hk : kept n0 (rngL n0 (hps a').length) sh = hps a' := by rw [he]; exact kept_rng hq hn
  refine ⟨rngL n0 (hps a').length, a', by rw [isOf_nil]; rfl, ⟨?_, fixB_rng, ?_⟩, hk, ?_, h7, h8, h9⟩
  · simp only [isB, Bool.and_eq_true, List.all_eq_true, decide_eq_true_eq]
    refine ⟨ndB_range' _ _, fun i hi => ?_⟩
    simp only [rngL, List.mem_range'] at hi
    obtain ⟨j, hj, rfl⟩ := hi
    simp [he]; omega
  · rw [hk]
    refine okL_all fun e he => ?_
    have := List.all_eq_true.1 hq e he
    cases e with
    | dead => rfl
    | arr sz es => simp only [okE, this, Bool.true_or]
  · revert h6 hb
    generalize mods a' = ms
    induction ms with
    | nil => intro _ _; trivial
    | cons q ms ih =>
      obtain ⟨k, v⟩ := q
      intro hb h6
      simp only [nbig, List.all_cons, Bool.and_eq_true, Bool.not_eq_true'] at hb
      refine ⟨?_, ih hb.2 h6.2⟩
      rw [h6.1]
      exact rn_fix fixB_rng hb.1

/-- a function that writes what it is handed and gives a plain value -/
theorem fin_wr {x y : Value} {e : List Ent} (hx : x = y) (h : hp.take n0 = e) (hq : plnH e = true) : fin n0 (.v x) hp (fun r h' => r = .v y ∧ h' = e) := by
  subst hx
  have hk : kept n0 [] hp = e := by
    subst h
    unfold kept
    simp only [List.map_nil, List.append_nil]
    refine List.ext_getElem? fun i => ?_
    rw [List.getElem?_map]
    cases hi : (hp.take n0)[i]? with
    | none => rfl
    | some z => simp only [Option.map_some]; rw [plnH_get hq (List.mem_of_getElem? hi)]
  refine ⟨[], ⟨rfl, ?_⟩, rfl, hk⟩
  rw [hk]
  refine okL_all fun z hz => ?_
  have := List.all_eq_true.1 hq z hz
  cases z with
  | dead => rfl
  | arr sz es => simp only [okE, this, Bool.true_or]

theorem wrap_id' {n m : Int} (h1 : -9223372036854775808 ≤ n) (h2 : n ≤ 9223372036854775807) (h : n = m) : IntKind.i64.wrap n = m := by rw [wrap_id h1 h2, h]
theorem take_set_app {α : Type} {us : List α} {n : Nat} {x : α} (h : n < us.length) : (us.set n x).take (n + 1) = us.take n ++ [x] := by
  rw [List.take_succ_eq_append_getElem (by simpa using h), List.take_set_of_le (Nat.le_refl n)]
  simp
theorem getD_set_if {α : Type} {us : List α} {n : Nat} {x d : α} : (us.set n x).getD n d = if n < us.length then x else d := by
  by_cases h : n < us.length
  · simp [h, List.getD]
  · rw [if_neg h, List.getD_eq_getElem?_getD, List.getElem?_eq_none (by simpa using h)]; rfl
end Eng
end Go.Proofs.Ytgcmahhejblpkaa
