/-
The law FnExactPlotText returns true for every input that its row allows, and each argument reads afterwards as before: the row's step and the statement.
Conditions: those of the given row, no others.
-/
import Derived.Test.YtgcmahhejblpkaaC4
import Derived.ProofKit
namespace Go.Proofs.Ytgcmahhejblpkaa
namespace fnExactPlotText
open Go.ChangeShapes Go.WideShapes Go.ChangeAt Go.RowKit Go.ChangeMaps Eng
set_option linter.unusedVariables false
theorem own : ownKnob Try.prog.godebug = none := by kernel_rfl
theorem laidOut : laidOutB Try.prog = true := by kernel_rfl
set_option maxRecDepth 100000 in
theorem lifted (os : Os) (started : os.Started) (H : Type) (enc : TypeId × Value → H) :
    ReturnsInHanded {} Try.checked os 6 .any (Rows.fnExactPlotTextSpec.pre6 enc Try.prog Try.f6 Rows.fnExactPlotTextRow.domain false) (Rows.fnExactPlotTextSpec.post enc Try.prog Try.f6 false true false false) := by
  refine returnsInHanded_of_change (C := Try.checked) own started (by kernel_rfl) Try.func6
    (ChangeSpec.witness6 (enc := enc) (C := Try.checked) false ⟨#[], #[.agg #[(.int .i64 0), (.int .i64 0), (.int .i64 0), (.int .i64 0), (.slice none 0 0)]], []⟩ 8 (by kernel_rfl) (by kernel_rfl) (by kernel_rfl) (by kernel_rfl)) ?_
  intro W base args ds gs before hval0 hW hcnd _
  have hval : ∀ (j : Nat) t v, Try.f6.params[j]? = some t → args[j]? = some v → Value.okWide Try.prog W .any base t v := hval0
  have hW' := hW
  obtain ⟨p, q, hA0, hV, rfl, hfz, hnd⟩ := hW
  have hA : DataW.TrodAll enc Try.prog W 0 (fun _ => true) true Try.f6.params.toList args.toList ds p := hA0
  rw [Try.params6] at hA hval
  obtain ⟨v0, vs0, d0, ds0, p0, q0, hargs, rfl, rfl, h0, r0⟩ := trodAll_cons hA
  obtain ⟨rfl, rfl, rfl⟩ := trodAll_nil r0
  obtain rfl : args = #[v0] := by cases args; simp_all
  obtain ⟨rfl, rfl⟩ := trodVars_none hV
  have lt0 := arg_lt h0
  have k0 := h0
  obtain ⟨s0, rfl, c0_0⟩ := arg_struct (l := [.int .i64, .int .i64, .int .i64, .int .i64, .slice .i64 1]) h0 (by kernel_rfl) (by kernel_rfl) (hval 0 33 v0 rfl rfl)
  obtain ⟨y0_0, s0_0, rfl, g0_0, c0_1⟩ := c0_0.cons
  obtain ⟨a0_0, rfl, w0_0⟩ := g0_0
  obtain ⟨y0_1, s0_1, rfl, g0_1, c0_2⟩ := c0_1.cons
  obtain ⟨a0_1, rfl, w0_1⟩ := g0_1
  obtain ⟨y0_2, s0_2, rfl, g0_2, c0_3⟩ := c0_2.cons
  obtain ⟨a0_2, rfl, w0_2⟩ := g0_2
  obtain ⟨y0_3, s0_3, rfl, g0_3, c0_4⟩ := c0_3.cons
  obtain ⟨a0_3, rfl, w0_3⟩ := g0_3
  obtain ⟨y0_4, s0_4, rfl, g0_4, c0_5⟩ := c0_4.cons
  obtain ⟨x0_4, e0_4, w0_4, m0_4⟩ := g0_4
  obtain rfl := c0_5.nil
  clear hA0 hval0
  have hc : Calls Try.prog 6 #[.agg [.int .i64 a0_0, .int .i64 a0_1, .int .i64 a0_2, .int .i64 a0_3, y0_4].toArray] W fun e W' => e = .returned (.bool true) ∧ Below W.heap.size W W' :=
    by have h1 := FnExactPlotText_gc a0_0 w0_0 a0_1 w0_1 a0_2 w0_2 a0_3 w0_3 x0_4 w0_4 m0_4; exact law_calls h1 (RepL2.mk (agg_rep (RepL2.mk (rep_int _) (RepL2.mk (rep_int _) (RepL2.mk (rep_int _) (RepL2.mk (rep_int _) (RepL2.mk (e0_4) RepL2.mk0)))))) RepL2.mk0)
  refine hc.mono fun e W' ⟨he, bel⟩ => ?_
  subst he
  exact ⟨_, rfl, _, _, _, [], _, [], hW', trodAll_mk1 (shut_bool Try.underlying4 _), (trodAll_cons_mk (Below.trod laidOut (by kernel_rfl) (of_decide_eq_true (by kernel_rfl)) k0 bel lt0) trodAll_mk0), rfl, bel.frame _, fun h => by cases h⟩

theorem over : Rows.fnExactPlotTextRow.holds Try.pinned (OpenSpec.ofChange Rows.fnExactPlotTextSpec) :=
  OpenClaim.holds_of_wide 6 Try.f6 rfl rfl rfl rfl rfl rfl rfl ⟨rfl, rfl, rfl, rfl, rfl⟩ rfl rfl rfl rfl rfl (by kernel_rfl) Try.func6 (by kernel_rfl)
    (of_decide_eq_true (by kernel_rfl)) (by unfold Func.isWrapper; first | (rw [if_pos (by decide +kernel)]; kernel_rfl) | (rw [if_neg (by decide +kernel)]; exact ⟨rfl, rfl⟩))
    (fun os started H enc _ => lifted os started H enc)
end fnExactPlotText
/-- THE STATEMENT -/
theorem FnExactPlotText_holds : Rows.FnExactPlotTextSaid := fnExactPlotText.over
end Go.Proofs.Ytgcmahhejblpkaa
