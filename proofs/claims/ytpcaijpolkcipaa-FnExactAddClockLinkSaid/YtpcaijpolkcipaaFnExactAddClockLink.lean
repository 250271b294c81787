/-
The law FnExactAddClockLink returns true for every input that its row allows, and each argument reads afterwards as before: the row's step and the statement.
Conditions: those of the given row, no others.
-/
import Derived.Test.YtpcaijpolkcipaaB13
import Derived.ProofKit
namespace Go.Proofs.Ytpcaijpolkcipaa
namespace fnExactAddClockLink
open Go.ChangeShapes Go.WideShapes Go.ChangeAt Go.RowKit Go.ChangeMaps Eng
set_option linter.unusedVariables false
theorem own : ownKnob Try.prog.godebug = none := by kernel_rfl
theorem laidOut : laidOutB Try.prog = true := by kernel_rfl
set_option maxRecDepth 100000 in
theorem lifted (os : Os) (started : os.Started) (H : Type) (enc : TypeId × Value → H) :
    ReturnsInHanded {} Try.checked os 9 .any (Rows.fnExactAddClockLinkSpec.pre6 enc Try.prog Try.f9 Rows.fnExactAddClockLinkRow.domain false) (Rows.fnExactAddClockLinkSpec.post enc Try.prog Try.f9 false true false false) := by
  refine returnsInHanded_of_change (C := Try.checked) own started (by kernel_rfl) Try.func9
    (ChangeSpec.witness6 (enc := enc) (C := Try.checked) false ⟨#[], #[(.int .i64 0), (.slice none 0 0), .agg #[(.int .i64 0), (.int .i64 0), (.int .i64 0)]], []⟩ 8 (by kernel_rfl) (by kernel_rfl) (by kernel_rfl) (by kernel_rfl)) ?_
  intro W base args ds gs before hval0 hW hcnd _
  have hval : ∀ (j : Nat) t v, Try.f9.params[j]? = some t → args[j]? = some v → Value.okWide Try.prog W .any base t v := hval0
  have hW' := hW
  obtain ⟨p, q, hA0, hV, rfl, hfz, hnd⟩ := hW
  have hA : DataW.TrodAll enc Try.prog W 0 (fun _ => true) true Try.f9.params.toList args.toList ds p := hA0
  rw [Try.params9] at hA hval
  obtain ⟨v0, vs0, d0, ds0, p0, q0, hargs, rfl, rfl, h0, r0⟩ := trodAll_cons hA
  obtain ⟨v1, vs1, d1, ds1, p1, q1, rfl, rfl, rfl, h1, r1⟩ := trodAll_cons r0
  obtain ⟨v2, vs2, d2, ds2, p2, q2, rfl, rfl, rfl, h2, r2⟩ := trodAll_cons r1
  obtain ⟨rfl, rfl, rfl⟩ := trodAll_nil r2
  obtain rfl : args = #[v0, v1, v2] := by cases args; simp_all
  obtain ⟨rfl, rfl⟩ := trodVars_none hV
  have lt0 := arg_lt h0
  have k0 := h0
  obtain ⟨a0, rfl, _, _, w0⟩ := open_int Try.underlying3 (hval 0 3 v0 rfl rfl) h0
  have lt1 := arg_lt h1
  have k1 := h1
  obtain ⟨b1, len1, cap1, rfl⟩ := okWide_slice Try.underlying39 (hval 1 39 v1 rfl rfl)
  obtain ⟨x1, e1, w1, m1⟩ := arg_one (c := .slice .i64 3) h1 (by kernel_rfl) rfl
  have lt2 := arg_lt h2
  have k2 := h2
  obtain ⟨s2, rfl, c2_0⟩ := arg_struct (l := [.int .i64, .int .i64, .int .i64]) h2 (by kernel_rfl) (by kernel_rfl) (hval 2 47 v2 rfl rfl)
  obtain ⟨y2_0, s2_0, rfl, g2_0, c2_1⟩ := c2_0.cons
  obtain ⟨a2_0, rfl, w2_0⟩ := g2_0
  obtain ⟨y2_1, s2_1, rfl, g2_1, c2_2⟩ := c2_1.cons
  obtain ⟨a2_1, rfl, w2_1⟩ := g2_1
  obtain ⟨y2_2, s2_2, rfl, g2_2, c2_3⟩ := c2_2.cons
  obtain ⟨a2_2, rfl, w2_2⟩ := g2_2
  obtain rfl := c2_3.nil
  clear hA0 hval0
  have hc : Calls Try.prog 9 #[.int .i64 a0, .slice b1 len1 cap1, .agg [.int .i64 a2_0, .int .i64 a2_1, .int .i64 a2_2].toArray] W fun e W' => e = .returned (.bool true) ∧ Below W.heap.size W W' :=
    by have h1 := FnExactAddClockLink_gc a0 w0 x1 w1 m1 a2_0 w2_0 a2_1 w2_1 a2_2 w2_2; exact law_calls h1 (RepL2.mk (rep_int _) (RepL2.mk (e1) (RepL2.mk (agg_rep (RepL2.mk (rep_int _) (RepL2.mk (rep_int _) (RepL2.mk (rep_int _) RepL2.mk0)))) RepL2.mk0)))
  refine hc.mono fun e W' ⟨he, bel⟩ => ?_
  subst he
  exact ⟨_, rfl, _, _, _, [], _, [], hW', trodAll_mk1 (shut_bool Try.underlying4 _), (trodAll_cons_mk (Below.trod laidOut (by kernel_rfl) (of_decide_eq_true (by kernel_rfl)) k0 bel lt0) (trodAll_cons_mk (Below.trod laidOut (by kernel_rfl) (of_decide_eq_true (by kernel_rfl)) k1 bel lt1) (trodAll_cons_mk (Below.trod laidOut (by kernel_rfl) (of_decide_eq_true (by kernel_rfl)) k2 bel lt2) trodAll_mk0))), rfl, bel.frame _, fun h => by cases h⟩

theorem over : Rows.fnExactAddClockLinkRow.holds Try.pinned (OpenSpec.ofChange Rows.fnExactAddClockLinkSpec) :=
  OpenClaim.holds_of_wide 9 Try.f9 rfl rfl rfl rfl rfl rfl rfl ⟨rfl, rfl, rfl, rfl, rfl⟩ rfl rfl rfl rfl rfl (by kernel_rfl) Try.func9 (by kernel_rfl)
    (of_decide_eq_true (by kernel_rfl)) (by unfold Func.isWrapper; first | (rw [if_pos (by decide +kernel)]; kernel_rfl) | (rw [if_neg (by decide +kernel)]; exact ⟨rfl, rfl⟩))
    (fun os started H enc _ => lifted os started H enc)
end fnExactAddClockLink
/-- THE STATEMENT -/
theorem FnExactAddClockLink_holds : Rows.FnExactAddClockLinkSaid := fnExactAddClockLink.over
end Go.Proofs.Ytpcaijpolkcipaa
