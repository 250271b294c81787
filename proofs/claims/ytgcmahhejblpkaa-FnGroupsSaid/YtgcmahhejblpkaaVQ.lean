/-
From a law's contract to its row: what the statements of this seat ask, in terms of the interpreter's contracts.
No condition: everything here is stated over any program.
-/
import Derived.Test.YtgcmahhejblpkaaVO
import Derived.OpenShut
import Derived.ChangeOld
import Derived.Below
import Derived.Carry
namespace Go.Proofs.Ytgcmahhejblpkaa
namespace Eng
set_option linter.unusedVariables false
set_option linter.unusedSimpArgs false
open Go.WideShapes Go.RowKit

/-- the integers of the kind int -/
def I64 (n : Int) : Prop := (Lit.int .i64 n).wf = true

theorem I64.bd {n : Int} (h : I64 n) : -9223372036854775808 ≤ n ∧ n ≤ 9223372036854775807 := by
  simpa [I64, Lit.wf, IntKind.min, IntKind.max, IntKind.signed, IntKind.bits] using h

theorem law_calls {P : Program} {k : FuncId} {args : List AV} {vals : List Value} {W : World} (h : GC P k args [] (fun r _ => r = vb true))
    (hv : RepL2 [] W (fun b => b < W.heap.size) args vals) : Calls P k vals.toArray W fun e W' => e = .returned (.bool true) ∧ Below W.heap.size W W' := by
  have hr := hv.get
  have := h.2 [] W (fun b => b < W.heap.size) vals (relH_nil W fun b h => h) hr
  refine this.mono ?_
  rintro e w' ⟨v, r, hp', m', F', rfl, rfl, _, hx, t⟩
  exact ⟨by rw [hx.inv_v], t.os, t.tape, t.output, t.size, fun b hb => t.fix b hb notOwn_nil⟩

theorem RepL2.mk {m : Mp} {w : World} {F : Nat → Prop} {x : AV} {v : Value} {xs : List AV} {vs : List Value} (h : RepA m w F x v) (t : RepL2 m w F xs vs) : RepL2 m w F (x :: xs) (v :: vs) := ⟨h, t⟩
theorem RepL2.mk0 {m : Mp} {w : World} {F : Nat → Prop} : RepL2 m w F [] [] := trivial
theorem rep_int {m : Mp} {w : World} {F : Nat → Prop} (x : Value) : RepA m w F (.v x) x := .v x

theorem agg_rep {m : Mp} {w : World} {F : Nat → Prop} {xs : List AV} {vs : List Value} (h : RepL2 m w F xs vs) : RepA m w F (.agg xs) (.agg vs.toArray) :=
  .agg xs vs h.get.1 h.get.2

section
variable {H : Type} {enc : TypeId × Value → H} {P : Program} {W : World} {d : DataW H} {ps : List MemPlace} {v : Value} {t : TypeId}

theorem arg_lt (h : DataW.Trod enc P W 0 (fun _ => true) true t v d ps) : ∀ x ∈ ps, x.block < W.heap.size := by
  obtain ⟨m, hm⟩ := h; exact DataW.trod_lt m _ _ _ hm

theorem arg_one {c : CS} (h : DataW.Trod enc P W 0 (fun _ => true) true t v d ps) (hs : shp P 8 t = some [c]) (hv : v.oneCell' = true) : CellOK W c v := by
  obtain ⟨m, hm⟩ := h
  have := trod_shp 8 m t _ _ _ hs hm
  obtain ⟨c', r, h1, h2, h3⟩ := this.cons
  have e : v.cells.toList = [v] := by cases v <;> first | rfl | simp [Value.oneCell'] at hv
  rw [e] at h1
  cases h1
  exact h2

theorem arg_struct {l : List CS} {base : Nat} (h : DataW.Trod enc P W 0 (fun _ => true) true t v d ps) (hs : shp P 8 t = some l) (hk : tagg P t = some true)
    (ho : Value.okWide P W .any base t v) : ∃ cs : List Value, v = .agg cs.toArray ∧ CellsOK W l cs := by
  obtain ⟨m, hm⟩ := h
  have := trod_shp 8 m t _ _ _ hs hm
  have : ∃ cs, v = .agg cs := by
    unfold Value.okWide at ho
    unfold tagg at hk
    cases hu : P.underlying t with
    | none => simp [hu] at hk
    | some u =>
      rw [hu] at ho hk
      cases u <;> simp at hk <;> (obtain ⟨cs, rfl, _⟩ := ho; exact ⟨cs, rfl⟩)
  obtain ⟨cs, rfl⟩ := this
  exact ⟨cs.toList, by simp, by simpa [Value.cells] using trod_shp 8 m t _ _ _ hs hm⟩

end

end Eng
end Go.Proofs.Ytgcmahhejblpkaa
