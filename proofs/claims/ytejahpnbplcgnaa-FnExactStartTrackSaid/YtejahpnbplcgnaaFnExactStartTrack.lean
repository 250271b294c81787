/-
The law FnExactStartTrack returns true for every input that its row allows, and each argument reads afterwards as before: the row's step and the statement.
Conditions: those of the given row, no others.
-/
import Derived.Test.YtejahpnbplcgnaaT7
import Derived.ProofKit
namespace Go.Proofs.Ytejahpnbplcgnaa
namespace fnExactStartTrack
open Go.ChangeShapes Go.WideShapes Go.ChangeAt Go.RowKit Go.ChangeMaps Eng
set_option linter.unusedVariables false
theorem own : ownKnob Try.prog.godebug = none := by kernel_rfl
theorem laidOut : laidOutB Try.prog = true := by kernel_rfl
set_option maxRecDepth 100000 in
theorem lifted (os : Os) (started : os.Started) (H : Type) (enc : TypeId × Value → H) :
    ReturnsInHanded {} Try.checked os 7 .any (Rows.fnExactStartTrackSpec.pre6 enc Try.prog Try.f7 Rows.fnExactStartTrackRow.domain false) (Rows.fnExactStartTrackSpec.post enc Try.prog Try.f7 false true false false) := by
  refine returnsInHanded_of_change (C := Try.checked) own started (by kernel_rfl) Try.func7
    (ChangeSpec.witness6 (enc := enc) (C := Try.checked) false ⟨#[], #[(.slice none 0 0), .agg #[(.int .i64 0), (.int .i64 0)]], []⟩ 8 (by kernel_rfl) (by kernel_rfl) (by kernel_rfl) (by kernel_rfl)) ?_
  intro W base args ds gs before hval0 hW hcnd _
  have hval : ∀ (j : Nat) t v, Try.f7.params[j]? = some t → args[j]? = some v → Value.okWide Try.prog W .any base t v := hval0
  have hW' := hW
  obtain ⟨p, q, hA0, hV, rfl, hfz, hnd⟩ := hW
  have hA : DataW.TrodAll enc Try.prog W 0 (fun _ => true) true Try.f7.params.toList args.toList ds p := hA0
  rw [Try.params7] at hA hval
  obtain ⟨v0, vs0, d0, ds0, p0, q0, hargs, rfl, rfl, h0, r0⟩ := trodAll_cons hA
  obtain ⟨v1, vs1, d1, ds1, p1, q1, rfl, rfl, rfl, h1, r1⟩ := trodAll_cons r0
  obtain ⟨rfl, rfl, rfl⟩ := trodAll_nil r1
  obtain rfl : args = #[v0, v1] := by cases args; simp_all
  obtain ⟨rfl, rfl⟩ := trodVars_none hV
  have lt0 := arg_lt h0
  have k0 := h0
  obtain ⟨b0, len0, cap0, rfl⟩ := okWide_slice Try.underlying28 (hval 0 28 v0 rfl rfl)
  obtain ⟨x0, e0, w0, m0⟩ := arg_one (c := .slice .i64 6) h0 (by kernel_rfl) rfl
  have lt1 := arg_lt h1
  have k1 := h1
  obtain ⟨s1, rfl, c1_0⟩ := arg_struct (l := [.int .i64, .int .i64]) h1 (by kernel_rfl) (by kernel_rfl) (hval 1 44 v1 rfl rfl)
  obtain ⟨y1_0, s1_0, rfl, g1_0, c1_1⟩ := c1_0.cons
  obtain ⟨a1_0, rfl, w1_0⟩ := g1_0
  obtain ⟨y1_1, s1_1, rfl, g1_1, c1_2⟩ := c1_1.cons
  obtain ⟨a1_1, rfl, w1_1⟩ := g1_1
  obtain rfl := c1_2.nil
  clear hA0 hval0
  have hc : Calls Try.prog 7 #[.slice b0 len0 cap0, .agg [.int .i64 a1_0, .int .i64 a1_1].toArray] W fun e W' => e = .returned (.bool true) ∧ Below W.heap.size W W' :=
    by have h1 := FnExactStartTrack_gc x0 w0 m0 a1_0 w1_0 a1_1 w1_1; exact law_calls h1 (RepL2.mk (e0) (RepL2.mk (agg_rep (RepL2.mk (rep_int _) (RepL2.mk (rep_int _) RepL2.mk0))) RepL2.mk0))
  refine hc.mono fun e W' ⟨he, bel⟩ => ?_
  subst he
  exact ⟨_, rfl, _, _, _, [], _, [], hW', trodAll_mk1 (shut_bool Try.underlying4 _), (trodAll_cons_mk (Below.trod laidOut (by kernel_rfl) (of_decide_eq_true (by kernel_rfl)) k0 bel lt0) (trodAll_cons_mk (Below.trod laidOut (by kernel_rfl) (of_decide_eq_true (by kernel_rfl)) k1 bel lt1) trodAll_mk0)), rfl, bel.frame _, fun h => by cases h⟩

theorem over : Rows.fnExactStartTrackRow.holds Try.pinned (OpenSpec.ofChange Rows.fnExactStartTrackSpec) :=
  OpenClaim.holds_of_wide 7 Try.f7 rfl rfl rfl rfl rfl rfl rfl ⟨rfl, rfl, rfl, rfl, rfl⟩ rfl rfl rfl rfl rfl (by kernel_rfl) Try.func7 (by kernel_rfl)
    (of_decide_eq_true (by kernel_rfl)) (by unfold Func.isWrapper; first | (rw [if_pos (by decide +kernel)]; kernel_rfl) | (rw [if_neg (by decide +kernel)]; exact ⟨rfl, rfl⟩))
    (fun os started H enc _ => lifted os started H enc)
end fnExactStartTrack
/-- THE STATEMENT -/
theorem FnExactStartTrack_holds : Rows.FnExactStartTrackSaid := fnExactStartTrack.over
end Go.Proofs.Ytejahpnbplcgnaa
