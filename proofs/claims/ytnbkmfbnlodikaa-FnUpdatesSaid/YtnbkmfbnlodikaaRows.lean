/-
  No cell of these rows narrows 'for every input' (looked for: loops, veiled, ifaces, maps, wideKeys, modest, calm, conditions, laid).
  DERIVED. THE GIVEN ROWS OF THIS SEAT. 10 by the template 'for every input the law returns true; each argument reads behind the call as it read before'; 0 by the template 'total and deterministic' (their statements: YtnbkmfbnlodikaaTotals.lean).
  GIVEN WITH THE SEED: the statements are not yours to turn. If you find one false, say at which input.
  Laid BY PROGRAM, IN A SANDBOX (cutbox-rows.mjs): the forced cells as the released guide's own fill.sh prints them over the translation 5edae171adcdda09… (all of the seat's roots in one cut). By AI agents, Wed Nov 11 2026. No macro, syntax, notation, axiom, sorry.
-/
import Derived.Test.YtnbkmfbnlodikaaChecked
import GoSem.Claim
import GoSem.ClaimJoined
import GoSem.ClaimMapViews
import Derived.JoinedTies
import Derived.KernelRfl
namespace Go.Proofs.Ytnbkmfbnlodikaa
/- THE CELL 'sum', in the pinned program and in every row, IS THE sha256 OF THE DUMP (.gsa) THAT YtnbkmfbnlodikaaProg.lean LOADS. Nothing in Lean hashes anything: it is a label: what it is worth is what the hold of that sum in a sandbox is worth. -/
noncomputable def Try.pinned : Pinned := { name := "ytnbkmfbnlodikaa", sum := "5edae171adcdda09f6d360dab468c3d64d95114c6349179baaa7d08c7fb50c0a", checked := Try.checked }
namespace Rows
def none {H : Type} : Left H := { results := [], args := [] }

/-- 'laws.FnExactPlotDistance': WHATEVER THE INPUT: true; the input reads as it did. -/
def fnExactPlotDistanceSpec : ChangeSpec := { name := "fnExactPlotDistance", fn := fun _ => fun
  | [d1, d2] => { results := [.lit (.bool true)], args := [d1, d2] }
  | _ => none }
def fnExactPlotDistanceRow : OpenClaim := { program := "ytnbkmfbnlodikaa", sum := "5edae171adcdda09f6d360dab468c3d64d95114c6349179baaa7d08c7fb50c0a", func := "loop.example/g00875/laws.FnExactPlotDistance", spec := "fnExactPlotDistance", apart := false }
def FnExactPlotDistanceSaid : Prop := fnExactPlotDistanceRow.holds Try.pinned (OpenSpec.ofChange fnExactPlotDistanceSpec)

/-- ITS FALSE NEIGHBOUR: 'it returns false'. Refute it at one input. -/
def fnExactPlotDistanceWrong : ChangeSpec := { name := "fnExactPlotDistance", fn := fun _ => fun
  | [d1, d2] => { results := [.lit (.bool false)], args := [d1, d2] }
  | _ => none }
def FnExactPlotDistanceWrongFalsely : Prop := fnExactPlotDistanceRow.holds Try.pinned (OpenSpec.ofChange fnExactPlotDistanceWrong)

/-- 'laws.FnExactIsAssignment': WHATEVER THE INPUT: true; the input reads as it did. -/
def fnExactIsAssignmentSpec : ChangeSpec := { name := "fnExactIsAssignment", fn := fun _ => fun
  | [d1, d2, d3, d4] => { results := [.lit (.bool true)], args := [d1, d2, d3, d4] }
  | _ => none }
def fnExactIsAssignmentRow : OpenClaim := { program := "ytnbkmfbnlodikaa", sum := "5edae171adcdda09f6d360dab468c3d64d95114c6349179baaa7d08c7fb50c0a", func := "loop.example/g00875/laws.FnExactIsAssignment", spec := "fnExactIsAssignment", apart := false }
def FnExactIsAssignmentSaid : Prop := fnExactIsAssignmentRow.holds Try.pinned (OpenSpec.ofChange fnExactIsAssignmentSpec)

/-- ITS FALSE NEIGHBOUR: 'it returns false'. Refute it at one input. -/
def fnExactIsAssignmentWrong : ChangeSpec := { name := "fnExactIsAssignment", fn := fun _ => fun
  | [d1, d2, d3, d4] => { results := [.lit (.bool false)], args := [d1, d2, d3, d4] }
  | _ => none }
def FnExactIsAssignmentWrongFalsely : Prop := fnExactIsAssignmentRow.holds Try.pinned (OpenSpec.ofChange fnExactIsAssignmentWrong)

/-- 'laws.FnExactAssignmentCost': WHATEVER THE INPUT: true; the input reads as it did. -/
def fnExactAssignmentCostSpec : ChangeSpec := { name := "fnExactAssignmentCost", fn := fun _ => fun
  | [d1, d2, d3, d4] => { results := [.lit (.bool true)], args := [d1, d2, d3, d4] }
  | _ => none }
def fnExactAssignmentCostRow : OpenClaim := { program := "ytnbkmfbnlodikaa", sum := "5edae171adcdda09f6d360dab468c3d64d95114c6349179baaa7d08c7fb50c0a", func := "loop.example/g00875/laws.FnExactAssignmentCost", spec := "fnExactAssignmentCost", apart := false }
def FnExactAssignmentCostSaid : Prop := fnExactAssignmentCostRow.holds Try.pinned (OpenSpec.ofChange fnExactAssignmentCostSpec)

/-- ITS FALSE NEIGHBOUR: 'it returns false'. Refute it at one input. -/
def fnExactAssignmentCostWrong : ChangeSpec := { name := "fnExactAssignmentCost", fn := fun _ => fun
  | [d1, d2, d3, d4] => { results := [.lit (.bool false)], args := [d1, d2, d3, d4] }
  | _ => none }
def FnExactAssignmentCostWrongFalsely : Prop := fnExactAssignmentCostRow.holds Try.pinned (OpenSpec.ofChange fnExactAssignmentCostWrong)

/-- 'laws.FnExactSwappedPairs': WHATEVER THE INPUT: true; the input reads as it did. -/
def fnExactSwappedPairsSpec : ChangeSpec := { name := "fnExactSwappedPairs", fn := fun _ => fun
  | [d1, d2, d3, d4] => { results := [.lit (.bool true)], args := [d1, d2, d3, d4] }
  | _ => none }
def fnExactSwappedPairsRow : OpenClaim := { program := "ytnbkmfbnlodikaa", sum := "5edae171adcdda09f6d360dab468c3d64d95114c6349179baaa7d08c7fb50c0a", func := "loop.example/g00875/laws.FnExactSwappedPairs", spec := "fnExactSwappedPairs", apart := false }
def FnExactSwappedPairsSaid : Prop := fnExactSwappedPairsRow.holds Try.pinned (OpenSpec.ofChange fnExactSwappedPairsSpec)

/-- ITS FALSE NEIGHBOUR: 'it returns false'. Refute it at one input. -/
def fnExactSwappedPairsWrong : ChangeSpec := { name := "fnExactSwappedPairs", fn := fun _ => fun
  | [d1, d2, d3, d4] => { results := [.lit (.bool false)], args := [d1, d2, d3, d4] }
  | _ => none }
def FnExactSwappedPairsWrongFalsely : Prop := fnExactSwappedPairsRow.holds Try.pinned (OpenSpec.ofChange fnExactSwappedPairsWrong)

/-- 'laws.FnExactNearestAssignment': WHATEVER THE INPUT: true; the input reads as it did. -/
def fnExactNearestAssignmentSpec : ChangeSpec := { name := "fnExactNearestAssignment", fn := fun _ => fun
  | [d1, d2, d3] => { results := [.lit (.bool true)], args := [d1, d2, d3] }
  | _ => none }
def fnExactNearestAssignmentRow : OpenClaim := { program := "ytnbkmfbnlodikaa", sum := "5edae171adcdda09f6d360dab468c3d64d95114c6349179baaa7d08c7fb50c0a", func := "loop.example/g00875/laws.FnExactNearestAssignment", spec := "fnExactNearestAssignment", apart := false }
def FnExactNearestAssignmentSaid : Prop := fnExactNearestAssignmentRow.holds Try.pinned (OpenSpec.ofChange fnExactNearestAssignmentSpec)

/-- ITS FALSE NEIGHBOUR: 'it returns false'. Refute it at one input. -/
def fnExactNearestAssignmentWrong : ChangeSpec := { name := "fnExactNearestAssignment", fn := fun _ => fun
  | [d1, d2, d3] => { results := [.lit (.bool false)], args := [d1, d2, d3] }
  | _ => none }
def FnExactNearestAssignmentWrongFalsely : Prop := fnExactNearestAssignmentRow.holds Try.pinned (OpenSpec.ofChange fnExactNearestAssignmentWrong)

/-- 'laws.FnExactFreePlots': WHATEVER THE INPUT: true; the input reads as it did. -/
def fnExactFreePlotsSpec : ChangeSpec := { name := "fnExactFreePlots", fn := fun _ => fun
  | [d1, d2, d3, d4] => { results := [.lit (.bool true)], args := [d1, d2, d3, d4] }
  | _ => none }
def fnExactFreePlotsRow : OpenClaim := { program := "ytnbkmfbnlodikaa", sum := "5edae171adcdda09f6d360dab468c3d64d95114c6349179baaa7d08c7fb50c0a", func := "loop.example/g00875/laws.FnExactFreePlots", spec := "fnExactFreePlots", apart := false }
def FnExactFreePlotsSaid : Prop := fnExactFreePlotsRow.holds Try.pinned (OpenSpec.ofChange fnExactFreePlotsSpec)

/-- ITS FALSE NEIGHBOUR: 'it returns false'. Refute it at one input. -/
def fnExactFreePlotsWrong : ChangeSpec := { name := "fnExactFreePlots", fn := fun _ => fun
  | [d1, d2, d3, d4] => { results := [.lit (.bool false)], args := [d1, d2, d3, d4] }
  | _ => none }
def FnExactFreePlotsWrongFalsely : Prop := fnExactFreePlotsRow.holds Try.pinned (OpenSpec.ofChange fnExactFreePlotsWrong)

/-- 'laws.FnExactBestAssignment': WHATEVER THE INPUT: true; the input reads as it did. -/
def fnExactBestAssignmentSpec : ChangeSpec := { name := "fnExactBestAssignment", fn := fun _ => fun
  | [d1, d2, d3] => { results := [.lit (.bool true)], args := [d1, d2, d3] }
  | _ => none }
def fnExactBestAssignmentRow : OpenClaim := { program := "ytnbkmfbnlodikaa", sum := "5edae171adcdda09f6d360dab468c3d64d95114c6349179baaa7d08c7fb50c0a", func := "loop.example/g00875/laws.FnExactBestAssignment", spec := "fnExactBestAssignment", recurses := true, apart := false }
def FnExactBestAssignmentSaid : Prop := fnExactBestAssignmentRow.holds Try.pinned (OpenSpec.ofChange fnExactBestAssignmentSpec)

/-- ITS FALSE NEIGHBOUR: 'it returns false'. Refute it at one input. -/
def fnExactBestAssignmentWrong : ChangeSpec := { name := "fnExactBestAssignment", fn := fun _ => fun
  | [d1, d2, d3] => { results := [.lit (.bool false)], args := [d1, d2, d3] }
  | _ => none }
def FnExactBestAssignmentWrongFalsely : Prop := fnExactBestAssignmentRow.holds Try.pinned (OpenSpec.ofChange fnExactBestAssignmentWrong)

/-- 'laws.FnExactUpdateTracks': WHATEVER THE INPUT: true; the input reads as it did. -/
def fnExactUpdateTracksSpec : ChangeSpec := { name := "fnExactUpdateTracks", fn := fun _ => fun
  | [d1, d2, d3] => { results := [.lit (.bool true)], args := [d1, d2, d3] }
  | _ => none }
def fnExactUpdateTracksRow : OpenClaim := { program := "ytnbkmfbnlodikaa", sum := "5edae171adcdda09f6d360dab468c3d64d95114c6349179baaa7d08c7fb50c0a", func := "loop.example/g00875/laws.FnExactUpdateTracks", spec := "fnExactUpdateTracks", recurses := true, apart := false }
def FnExactUpdateTracksSaid : Prop := fnExactUpdateTracksRow.holds Try.pinned (OpenSpec.ofChange fnExactUpdateTracksSpec)

/-- ITS FALSE NEIGHBOUR: 'it returns false'. Refute it at one input. -/
def fnExactUpdateTracksWrong : ChangeSpec := { name := "fnExactUpdateTracks", fn := fun _ => fun
  | [d1, d2, d3] => { results := [.lit (.bool false)], args := [d1, d2, d3] }
  | _ => none }
def FnExactUpdateTracksWrongFalsely : Prop := fnExactUpdateTracksRow.holds Try.pinned (OpenSpec.ofChange fnExactUpdateTracksWrong)

/-- 'laws.FnAssignments': WHATEVER THE INPUT: true; the input reads as it did. -/
def fnAssignmentsSpec : ChangeSpec := { name := "fnAssignments", fn := fun _ => fun
  | [d] => { results := [.lit (.bool true)], args := [d] }
  | _ => none }
def fnAssignmentsRow : OpenClaim := { program := "ytnbkmfbnlodikaa", sum := "5edae171adcdda09f6d360dab468c3d64d95114c6349179baaa7d08c7fb50c0a", func := "loop.example/g00875/laws.FnAssignments", spec := "fnAssignments", recurses := true, apart := false }
def FnAssignmentsSaid : Prop := fnAssignmentsRow.holds Try.pinned (OpenSpec.ofChange fnAssignmentsSpec)

/-- ITS FALSE NEIGHBOUR: 'it returns false'. Refute it at one input. -/
def fnAssignmentsWrong : ChangeSpec := { name := "fnAssignments", fn := fun _ => fun
  | [d] => { results := [.lit (.bool false)], args := [d] }
  | _ => none }
def FnAssignmentsWrongFalsely : Prop := fnAssignmentsRow.holds Try.pinned (OpenSpec.ofChange fnAssignmentsWrong)

/-- 'laws.FnUpdates': WHATEVER THE INPUT: true; the input reads as it did. -/
def fnUpdatesSpec : ChangeSpec := { name := "fnUpdates", fn := fun _ => fun
  | [d] => { results := [.lit (.bool true)], args := [d] }
  | _ => none }
def fnUpdatesRow : OpenClaim := { program := "ytnbkmfbnlodikaa", sum := "5edae171adcdda09f6d360dab468c3d64d95114c6349179baaa7d08c7fb50c0a", func := "loop.example/g00875/laws.FnUpdates", spec := "fnUpdates", recurses := true, apart := false }
def FnUpdatesSaid : Prop := fnUpdatesRow.holds Try.pinned (OpenSpec.ofChange fnUpdatesSpec)

/-- ITS FALSE NEIGHBOUR: 'it returns false'. Refute it at one input. -/
def fnUpdatesWrong : ChangeSpec := { name := "fnUpdates", fn := fun _ => fun
  | [d] => { results := [.lit (.bool false)], args := [d] }
  | _ => none }
def FnUpdatesWrongFalsely : Prop := fnUpdatesRow.holds Try.pinned (OpenSpec.ofChange fnUpdatesWrong)

/- THE SECOND FORM. 'bulk': how many values and letters a reading holds, each counted each time it is reached (what is shared counts as often as it is met; a slice's spare places count too). A statement '..UptoSaid' is the law's where the arguments, and the package variables that the reading takes, are together of bulk at most 1048576: NARROWER than '..Said'. Prove '..Said' where nothing that the law and all that it calls make is longer than what came in: it says more and counts as full. Else prove '..UptoSaid'. A law counts once. -/
mutual
def uptoBulk {H : Type} : DataW H → Nat
  | .lit (.string bytes) => bytes.length + 1
  | .lit _ => 1
  | .nil => 1
  | .ptr d => uptoBulk d + 1
  | .slice elems spare => uptoBulkAll elems + uptoBulkAll spare + 1
  | .agg parts => uptoBulkAll parts + 1
  | .iface _ d => uptoBulk d + 1
  | .map entries => uptoBulkEntries entries + 1
  | .held _ => 1
def uptoBulkAll {H : Type} : List (DataW H) → Nat
  | [] => 0
  | d :: r => uptoBulk d + uptoBulkAll r
def uptoBulkEntries {H : Type} : List (Lit × DataW H) → Nat
  | [] => 0
  | x :: r => uptoBulkEntry x + uptoBulkEntries r
def uptoBulkEntry {H : Type} : Lit × DataW H → Nat
  | (.string bytes, d) => bytes.length + uptoBulk d + 1
  | (_, d) => uptoBulk d + 1
 end
def uptoSmall : (H : Type) → List (DataW H) → Bool := fun _ ds => decide (uptoBulkAll ds ≤ 1048576)
def OpenSpec.upto (s : _root_.Go.ChangeSpec) : _root_.Go.OpenSpec := { _root_.Go.OpenSpec.ofChange s with cond := some uptoSmall }

/-- 'laws.FnExactPlotDistance', WHERE WHAT IT READS IS OF BULK AT MOST 1048576: true; the input reads as it did. -/
def fnExactPlotDistanceUptoRow : OpenClaim := { program := "ytnbkmfbnlodikaa", sum := "5edae171adcdda09f6d360dab468c3d64d95114c6349179baaa7d08c7fb50c0a", func := "loop.example/g00875/laws.FnExactPlotDistance", spec := "fnExactPlotDistance", apart := false, narrowed := true }
def FnExactPlotDistanceUptoSaid : Prop := fnExactPlotDistanceUptoRow.holds Try.pinned (OpenSpec.upto fnExactPlotDistanceSpec)

/-- 'laws.FnExactIsAssignment', WHERE WHAT IT READS IS OF BULK AT MOST 1048576: true; the input reads as it did. -/
def fnExactIsAssignmentUptoRow : OpenClaim := { program := "ytnbkmfbnlodikaa", sum := "5edae171adcdda09f6d360dab468c3d64d95114c6349179baaa7d08c7fb50c0a", func := "loop.example/g00875/laws.FnExactIsAssignment", spec := "fnExactIsAssignment", apart := false, narrowed := true }
def FnExactIsAssignmentUptoSaid : Prop := fnExactIsAssignmentUptoRow.holds Try.pinned (OpenSpec.upto fnExactIsAssignmentSpec)

/-- 'laws.FnExactAssignmentCost', WHERE WHAT IT READS IS OF BULK AT MOST 1048576: true; the input reads as it did. -/
def fnExactAssignmentCostUptoRow : OpenClaim := { program := "ytnbkmfbnlodikaa", sum := "5edae171adcdda09f6d360dab468c3d64d95114c6349179baaa7d08c7fb50c0a", func := "loop.example/g00875/laws.FnExactAssignmentCost", spec := "fnExactAssignmentCost", apart := false, narrowed := true }
def FnExactAssignmentCostUptoSaid : Prop := fnExactAssignmentCostUptoRow.holds Try.pinned (OpenSpec.upto fnExactAssignmentCostSpec)

/-- 'laws.FnExactSwappedPairs', WHERE WHAT IT READS IS OF BULK AT MOST 1048576: true; the input reads as it did. -/
def fnExactSwappedPairsUptoRow : OpenClaim := { program := "ytnbkmfbnlodikaa", sum := "5edae171adcdda09f6d360dab468c3d64d95114c6349179baaa7d08c7fb50c0a", func := "loop.example/g00875/laws.FnExactSwappedPairs", spec := "fnExactSwappedPairs", apart := false, narrowed := true }
def FnExactSwappedPairsUptoSaid : Prop := fnExactSwappedPairsUptoRow.holds Try.pinned (OpenSpec.upto fnExactSwappedPairsSpec)

/-- 'laws.FnExactNearestAssignment', WHERE WHAT IT READS IS OF BULK AT MOST 1048576: true; the input reads as it did. -/
def fnExactNearestAssignmentUptoRow : OpenClaim := { program := "ytnbkmfbnlodikaa", sum := "5edae171adcdda09f6d360dab468c3d64d95114c6349179baaa7d08c7fb50c0a", func := "loop.example/g00875/laws.FnExactNearestAssignment", spec := "fnExactNearestAssignment", apart := false, narrowed := true }
def FnExactNearestAssignmentUptoSaid : Prop := fnExactNearestAssignmentUptoRow.holds Try.pinned (OpenSpec.upto fnExactNearestAssignmentSpec)

/-- 'laws.FnExactFreePlots', WHERE WHAT IT READS IS OF BULK AT MOST 1048576: true; the input reads as it did. -/
def fnExactFreePlotsUptoRow : OpenClaim := { program := "ytnbkmfbnlodikaa", sum := "5edae171adcdda09f6d360dab468c3d64d95114c6349179baaa7d08c7fb50c0a", func := "loop.example/g00875/laws.FnExactFreePlots", spec := "fnExactFreePlots", apart := false, narrowed := true }
def FnExactFreePlotsUptoSaid : Prop := fnExactFreePlotsUptoRow.holds Try.pinned (OpenSpec.upto fnExactFreePlotsSpec)

/-- 'laws.FnExactBestAssignment', WHERE WHAT IT READS IS OF BULK AT MOST 1048576: true; the input reads as it did. -/
def fnExactBestAssignmentUptoRow : OpenClaim := { program := "ytnbkmfbnlodikaa", sum := "5edae171adcdda09f6d360dab468c3d64d95114c6349179baaa7d08c7fb50c0a", func := "loop.example/g00875/laws.FnExactBestAssignment", spec := "fnExactBestAssignment", recurses := true, apart := false, narrowed := true }
def FnExactBestAssignmentUptoSaid : Prop := fnExactBestAssignmentUptoRow.holds Try.pinned (OpenSpec.upto fnExactBestAssignmentSpec)

/-- 'laws.FnExactUpdateTracks', WHERE WHAT IT READS IS OF BULK AT MOST 1048576: true; the input reads as it did. -/
def fnExactUpdateTracksUptoRow : OpenClaim := { program := "ytnbkmfbnlodikaa", sum := "5edae171adcdda09f6d360dab468c3d64d95114c6349179baaa7d08c7fb50c0a", func := "loop.example/g00875/laws.FnExactUpdateTracks", spec := "fnExactUpdateTracks", recurses := true, apart := false, narrowed := true }
def FnExactUpdateTracksUptoSaid : Prop := fnExactUpdateTracksUptoRow.holds Try.pinned (OpenSpec.upto fnExactUpdateTracksSpec)

/-- 'laws.FnAssignments', WHERE WHAT IT READS IS OF BULK AT MOST 1048576: true; the input reads as it did. -/
def fnAssignmentsUptoRow : OpenClaim := { program := "ytnbkmfbnlodikaa", sum := "5edae171adcdda09f6d360dab468c3d64d95114c6349179baaa7d08c7fb50c0a", func := "loop.example/g00875/laws.FnAssignments", spec := "fnAssignments", recurses := true, apart := false, narrowed := true }
def FnAssignmentsUptoSaid : Prop := fnAssignmentsUptoRow.holds Try.pinned (OpenSpec.upto fnAssignmentsSpec)

/-- 'laws.FnUpdates', WHERE WHAT IT READS IS OF BULK AT MOST 1048576: true; the input reads as it did. -/
def fnUpdatesUptoRow : OpenClaim := { program := "ytnbkmfbnlodikaa", sum := "5edae171adcdda09f6d360dab468c3d64d95114c6349179baaa7d08c7fb50c0a", func := "loop.example/g00875/laws.FnUpdates", spec := "fnUpdates", recurses := true, apart := false, narrowed := true }
def FnUpdatesUptoSaid : Prop := fnUpdatesUptoRow.holds Try.pinned (OpenSpec.upto fnUpdatesSpec)

end Rows
end Go.Proofs.Ytnbkmfbnlodikaa
