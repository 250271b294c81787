/-
  No cell of these rows narrows 'for every input' (looked for: loops, veiled, ifaces, maps, wideKeys, modest, calm, conditions, laid).
  DERIVED. THE GIVEN ROWS OF THIS SEAT. 11 by the template 'for every input the law returns true; each argument reads behind the call as it read before'; 0 by the template 'total and deterministic' (their statements: YtbfonmedgcemjaaTotals.lean).
  GIVEN WITH THE SEED: the statements are not yours to turn. If you find one false, say at which input.
  Laid BY PROGRAM, IN A SANDBOX (cutbox-rows.mjs): the forced cells as the released guide's own fill.sh prints them over the translation 4a43af702d8927a1… (all of the seat's roots in one cut). By AI agents, Wed Nov 11 2026. No macro, syntax, notation, axiom, sorry.
-/
import Derived.Test.YtbfonmedgcemjaaChecked
import GoSem.Claim
import GoSem.ClaimJoined
import GoSem.ClaimMapViews
import Derived.JoinedTies
import Derived.KernelRfl
namespace Go.Proofs.Ytbfonmedgcemjaa
/- THE CELL 'sum', in the pinned program and in every row, IS THE sha256 OF THE DUMP (.gsa) THAT YtbfonmedgcemjaaProg.lean LOADS. Nothing in Lean hashes anything: it is a label: what it is worth is what the hold of that sum in a sandbox is worth. -/
noncomputable def Try.pinned : Pinned := { name := "ytbfonmedgcemjaa", sum := "4a43af702d8927a144b1b39370d7bb2acf22e2ed8a5cd5410aa60fa0f5f24ba1", checked := Try.checked }
namespace Rows
def none {H : Type} : Left H := { results := [], args := [] }

/-- 'laws.FnExactIsValidMotion': WHATEVER THE INPUT: true; the input reads as it did. -/
def fnExactIsValidMotionSpec : ChangeSpec := { name := "fnExactIsValidMotion", fn := fun _ => fun
  | [d] => { results := [.lit (.bool true)], args := [d] }
  | _ => none }
def fnExactIsValidMotionRow : OpenClaim := { program := "ytbfonmedgcemjaa", sum := "4a43af702d8927a144b1b39370d7bb2acf22e2ed8a5cd5410aa60fa0f5f24ba1", func := "loop.example/g00875/laws.FnExactIsValidMotion", spec := "fnExactIsValidMotion", apart := false }
def FnExactIsValidMotionSaid : Prop := fnExactIsValidMotionRow.holds Try.pinned (OpenSpec.ofChange fnExactIsValidMotionSpec)

/-- ITS FALSE NEIGHBOUR: 'it returns false'. Refute it at one input. -/
def fnExactIsValidMotionWrong : ChangeSpec := { name := "fnExactIsValidMotion", fn := fun _ => fun
  | [d] => { results := [.lit (.bool false)], args := [d] }
  | _ => none }
def FnExactIsValidMotionWrongFalsely : Prop := fnExactIsValidMotionRow.holds Try.pinned (OpenSpec.ofChange fnExactIsValidMotionWrong)

/-- 'laws.FnExactPlaceAt': WHATEVER THE INPUT: true; the input reads as it did. -/
def fnExactPlaceAtSpec : ChangeSpec := { name := "fnExactPlaceAt", fn := fun _ => fun
  | [d1, d2, d3] => { results := [.lit (.bool true)], args := [d1, d2, d3] }
  | _ => none }
def fnExactPlaceAtRow : OpenClaim := { program := "ytbfonmedgcemjaa", sum := "4a43af702d8927a144b1b39370d7bb2acf22e2ed8a5cd5410aa60fa0f5f24ba1", func := "loop.example/g00875/laws.FnExactPlaceAt", spec := "fnExactPlaceAt", apart := false }
def FnExactPlaceAtSaid : Prop := fnExactPlaceAtRow.holds Try.pinned (OpenSpec.ofChange fnExactPlaceAtSpec)

/-- ITS FALSE NEIGHBOUR: 'it returns false'. Refute it at one input. -/
def fnExactPlaceAtWrong : ChangeSpec := { name := "fnExactPlaceAt", fn := fun _ => fun
  | [d1, d2, d3] => { results := [.lit (.bool false)], args := [d1, d2, d3] }
  | _ => none }
def FnExactPlaceAtWrongFalsely : Prop := fnExactPlaceAtRow.holds Try.pinned (OpenSpec.ofChange fnExactPlaceAtWrong)

/-- 'laws.FnExactCourseLine': WHATEVER THE INPUT: true; the input reads as it did. -/
def fnExactCourseLineSpec : ChangeSpec := { name := "fnExactCourseLine", fn := fun _ => fun
  | [d1, d2] => { results := [.lit (.bool true)], args := [d1, d2] }
  | _ => none }
def fnExactCourseLineRow : OpenClaim := { program := "ytbfonmedgcemjaa", sum := "4a43af702d8927a144b1b39370d7bb2acf22e2ed8a5cd5410aa60fa0f5f24ba1", func := "loop.example/g00875/laws.FnExactCourseLine", spec := "fnExactCourseLine", apart := false }
def FnExactCourseLineSaid : Prop := fnExactCourseLineRow.holds Try.pinned (OpenSpec.ofChange fnExactCourseLineSpec)

/-- ITS FALSE NEIGHBOUR: 'it returns false'. Refute it at one input. -/
def fnExactCourseLineWrong : ChangeSpec := { name := "fnExactCourseLine", fn := fun _ => fun
  | [d1, d2] => { results := [.lit (.bool false)], args := [d1, d2] }
  | _ => none }
def FnExactCourseLineWrongFalsely : Prop := fnExactCourseLineRow.holds Try.pinned (OpenSpec.ofChange fnExactCourseLineWrong)

/-- 'laws.FnExactLeavesAt': WHATEVER THE INPUT: true; the input reads as it did. -/
def fnExactLeavesAtSpec : ChangeSpec := { name := "fnExactLeavesAt", fn := fun _ => fun
  | [d] => { results := [.lit (.bool true)], args := [d] }
  | _ => none }
def fnExactLeavesAtRow : OpenClaim := { program := "ytbfonmedgcemjaa", sum := "4a43af702d8927a144b1b39370d7bb2acf22e2ed8a5cd5410aa60fa0f5f24ba1", func := "loop.example/g00875/laws.FnExactLeavesAt", spec := "fnExactLeavesAt", apart := false }
def FnExactLeavesAtSaid : Prop := fnExactLeavesAtRow.holds Try.pinned (OpenSpec.ofChange fnExactLeavesAtSpec)

/-- ITS FALSE NEIGHBOUR: 'it returns false'. Refute it at one input. -/
def fnExactLeavesAtWrong : ChangeSpec := { name := "fnExactLeavesAt", fn := fun _ => fun
  | [d] => { results := [.lit (.bool false)], args := [d] }
  | _ => none }
def FnExactLeavesAtWrongFalsely : Prop := fnExactLeavesAtRow.holds Try.pinned (OpenSpec.ofChange fnExactLeavesAtWrong)

/-- 'laws.FnExactNearestMinute': WHATEVER THE INPUT: true; the input reads as it did. -/
def fnExactNearestMinuteSpec : ChangeSpec := { name := "fnExactNearestMinute", fn := fun _ => fun
  | [d1, d2] => { results := [.lit (.bool true)], args := [d1, d2] }
  | _ => none }
def fnExactNearestMinuteRow : OpenClaim := { program := "ytbfonmedgcemjaa", sum := "4a43af702d8927a144b1b39370d7bb2acf22e2ed8a5cd5410aa60fa0f5f24ba1", func := "loop.example/g00875/laws.FnExactNearestMinute", spec := "fnExactNearestMinute", apart := false }
def FnExactNearestMinuteSaid : Prop := fnExactNearestMinuteRow.holds Try.pinned (OpenSpec.ofChange fnExactNearestMinuteSpec)

/-- ITS FALSE NEIGHBOUR: 'it returns false'. Refute it at one input. -/
def fnExactNearestMinuteWrong : ChangeSpec := { name := "fnExactNearestMinute", fn := fun _ => fun
  | [d1, d2] => { results := [.lit (.bool false)], args := [d1, d2] }
  | _ => none }
def FnExactNearestMinuteWrongFalsely : Prop := fnExactNearestMinuteRow.holds Try.pinned (OpenSpec.ofChange fnExactNearestMinuteWrong)

/-- 'laws.FnExactHeightAt': WHATEVER THE INPUT: true; the input reads as it did. -/
def fnExactHeightAtSpec : ChangeSpec := { name := "fnExactHeightAt", fn := fun _ => fun
  | [d1, d2, d3] => { results := [.lit (.bool true)], args := [d1, d2, d3] }
  | _ => none }
def fnExactHeightAtRow : OpenClaim := { program := "ytbfonmedgcemjaa", sum := "4a43af702d8927a144b1b39370d7bb2acf22e2ed8a5cd5410aa60fa0f5f24ba1", func := "loop.example/g00875/laws.FnExactHeightAt", spec := "fnExactHeightAt", apart := false }
def FnExactHeightAtSaid : Prop := fnExactHeightAtRow.holds Try.pinned (OpenSpec.ofChange fnExactHeightAtSpec)

/-- ITS FALSE NEIGHBOUR: 'it returns false'. Refute it at one input. -/
def fnExactHeightAtWrong : ChangeSpec := { name := "fnExactHeightAt", fn := fun _ => fun
  | [d1, d2, d3] => { results := [.lit (.bool false)], args := [d1, d2, d3] }
  | _ => none }
def FnExactHeightAtWrongFalsely : Prop := fnExactHeightAtRow.holds Try.pinned (OpenSpec.ofChange fnExactHeightAtWrong)

/-- 'laws.FnExactTimeToX': WHATEVER THE INPUT: true; the input reads as it did. -/
def fnExactTimeToXSpec : ChangeSpec := { name := "fnExactTimeToX", fn := fun _ => fun
  | [d1, d2] => { results := [.lit (.bool true)], args := [d1, d2] }
  | _ => none }
def fnExactTimeToXRow : OpenClaim := { program := "ytbfonmedgcemjaa", sum := "4a43af702d8927a144b1b39370d7bb2acf22e2ed8a5cd5410aa60fa0f5f24ba1", func := "loop.example/g00875/laws.FnExactTimeToX", spec := "fnExactTimeToX", apart := false }
def FnExactTimeToXSaid : Prop := fnExactTimeToXRow.holds Try.pinned (OpenSpec.ofChange fnExactTimeToXSpec)

/-- ITS FALSE NEIGHBOUR: 'it returns false'. Refute it at one input. -/
def fnExactTimeToXWrong : ChangeSpec := { name := "fnExactTimeToX", fn := fun _ => fun
  | [d1, d2] => { results := [.lit (.bool false)], args := [d1, d2] }
  | _ => none }
def FnExactTimeToXWrongFalsely : Prop := fnExactTimeToXRow.holds Try.pinned (OpenSpec.ofChange fnExactTimeToXWrong)

/-- 'laws.FnExactTimeToHeight': WHATEVER THE INPUT: true; the input reads as it did. -/
def fnExactTimeToHeightSpec : ChangeSpec := { name := "fnExactTimeToHeight", fn := fun _ => fun
  | [d1, d2] => { results := [.lit (.bool true)], args := [d1, d2] }
  | _ => none }
def fnExactTimeToHeightRow : OpenClaim := { program := "ytbfonmedgcemjaa", sum := "4a43af702d8927a144b1b39370d7bb2acf22e2ed8a5cd5410aa60fa0f5f24ba1", func := "loop.example/g00875/laws.FnExactTimeToHeight", spec := "fnExactTimeToHeight", apart := false }
def FnExactTimeToHeightSaid : Prop := fnExactTimeToHeightRow.holds Try.pinned (OpenSpec.ofChange fnExactTimeToHeightSpec)

/-- ITS FALSE NEIGHBOUR: 'it returns false'. Refute it at one input. -/
def fnExactTimeToHeightWrong : ChangeSpec := { name := "fnExactTimeToHeight", fn := fun _ => fun
  | [d1, d2] => { results := [.lit (.bool false)], args := [d1, d2] }
  | _ => none }
def FnExactTimeToHeightWrongFalsely : Prop := fnExactTimeToHeightRow.holds Try.pinned (OpenSpec.ofChange fnExactTimeToHeightWrong)

/-- 'laws.FnExactPathCells': WHATEVER THE INPUT: true; the input reads as it did. -/
def fnExactPathCellsSpec : ChangeSpec := { name := "fnExactPathCells", fn := fun _ => fun
  | [d1, d2, d3] => { results := [.lit (.bool true)], args := [d1, d2, d3] }
  | _ => none }
def fnExactPathCellsRow : OpenClaim := { program := "ytbfonmedgcemjaa", sum := "4a43af702d8927a144b1b39370d7bb2acf22e2ed8a5cd5410aa60fa0f5f24ba1", func := "loop.example/g00875/laws.FnExactPathCells", spec := "fnExactPathCells", apart := false }
def FnExactPathCellsSaid : Prop := fnExactPathCellsRow.holds Try.pinned (OpenSpec.ofChange fnExactPathCellsSpec)

/-- ITS FALSE NEIGHBOUR: 'it returns false'. Refute it at one input. -/
def fnExactPathCellsWrong : ChangeSpec := { name := "fnExactPathCells", fn := fun _ => fun
  | [d1, d2, d3] => { results := [.lit (.bool false)], args := [d1, d2, d3] }
  | _ => none }
def FnExactPathCellsWrongFalsely : Prop := fnExactPathCellsRow.holds Try.pinned (OpenSpec.ofChange fnExactPathCellsWrong)

/-- 'laws.FnPredictions': WHATEVER THE INPUT: true; the input reads as it did. -/
def fnPredictionsSpec : ChangeSpec := { name := "fnPredictions", fn := fun _ => fun
  | [d] => { results := [.lit (.bool true)], args := [d] }
  | _ => none }
def fnPredictionsRow : OpenClaim := { program := "ytbfonmedgcemjaa", sum := "4a43af702d8927a144b1b39370d7bb2acf22e2ed8a5cd5410aa60fa0f5f24ba1", func := "loop.example/g00875/laws.FnPredictions", spec := "fnPredictions", apart := false }
def FnPredictionsSaid : Prop := fnPredictionsRow.holds Try.pinned (OpenSpec.ofChange fnPredictionsSpec)

/-- ITS FALSE NEIGHBOUR: 'it returns false'. Refute it at one input. -/
def fnPredictionsWrong : ChangeSpec := { name := "fnPredictions", fn := fun _ => fun
  | [d] => { results := [.lit (.bool false)], args := [d] }
  | _ => none }
def FnPredictionsWrongFalsely : Prop := fnPredictionsRow.holds Try.pinned (OpenSpec.ofChange fnPredictionsWrong)

/-- 'laws.FnPaths': WHATEVER THE INPUT: true; the input reads as it did. -/
def fnPathsSpec : ChangeSpec := { name := "fnPaths", fn := fun _ => fun
  | [d] => { results := [.lit (.bool true)], args := [d] }
  | _ => none }
def fnPathsRow : OpenClaim := { program := "ytbfonmedgcemjaa", sum := "4a43af702d8927a144b1b39370d7bb2acf22e2ed8a5cd5410aa60fa0f5f24ba1", func := "loop.example/g00875/laws.FnPaths", spec := "fnPaths", apart := false }
def FnPathsSaid : Prop := fnPathsRow.holds Try.pinned (OpenSpec.ofChange fnPathsSpec)

/-- ITS FALSE NEIGHBOUR: 'it returns false'. Refute it at one input. -/
def fnPathsWrong : ChangeSpec := { name := "fnPaths", fn := fun _ => fun
  | [d] => { results := [.lit (.bool false)], args := [d] }
  | _ => none }
def FnPathsWrongFalsely : Prop := fnPathsRow.holds Try.pinned (OpenSpec.ofChange fnPathsWrong)

/- THE SECOND FORM. 'bulk': how many values and letters a reading holds, each counted each time it is reached (what is shared counts as often as it is met; a slice's spare places count too). A statement '..UptoSaid' is the law's where the arguments, and the package variables that the reading takes, are together of bulk at most 1048576: NARROWER than '..Said'. Prove '..Said' where nothing that the law and all that it calls make is longer than what came in: it says more and counts as full. Else prove '..UptoSaid'. A law counts once. -/
mutual
def uptoBulk {H : Type} : DataW H → Nat
  | .lit (.string bytes) => bytes.length + 1
  | .lit _ => 1
  | .nil => 1
  | .ptr d => uptoBulk d + 1
  | .slice elems spare => uptoBulkAll elems + uptoBulkAll spare + 1
  | .agg parts => uptoBulkAll parts + 1
  | .iface _ d => uptoBulk d + 1
  | .map entries => uptoBulkEntries entries + 1
  | .held _ => 1
def uptoBulkAll {H : Type} : List (DataW H) → Nat
  | [] => 0
  | d :: r => uptoBulk d + uptoBulkAll r
def uptoBulkEntries {H : Type} : List (Lit × DataW H) → Nat
  | [] => 0
  | x :: r => uptoBulkEntry x + uptoBulkEntries r
def uptoBulkEntry {H : Type} : Lit × DataW H → Nat
  | (.string bytes, d) => bytes.length + uptoBulk d + 1
  | (_, d) => uptoBulk d + 1
 end
def uptoSmall : (H : Type) → List (DataW H) → Bool := fun _ ds => decide (uptoBulkAll ds ≤ 1048576)
def OpenSpec.upto (s : _root_.Go.ChangeSpec) : _root_.Go.OpenSpec := { _root_.Go.OpenSpec.ofChange s with cond := some uptoSmall }

/-- 'laws.FnExactIsValidMotion', WHERE WHAT IT READS IS OF BULK AT MOST 1048576: true; the input reads as it did. -/
def fnExactIsValidMotionUptoRow : OpenClaim := { program := "ytbfonmedgcemjaa", sum := "4a43af702d8927a144b1b39370d7bb2acf22e2ed8a5cd5410aa60fa0f5f24ba1", func := "loop.example/g00875/laws.FnExactIsValidMotion", spec := "fnExactIsValidMotion", apart := false, narrowed := true }
def FnExactIsValidMotionUptoSaid : Prop := fnExactIsValidMotionUptoRow.holds Try.pinned (OpenSpec.upto fnExactIsValidMotionSpec)

/-- 'laws.FnExactPlaceAt', WHERE WHAT IT READS IS OF BULK AT MOST 1048576: true; the input reads as it did. -/
def fnExactPlaceAtUptoRow : OpenClaim := { program := "ytbfonmedgcemjaa", sum := "4a43af702d8927a144b1b39370d7bb2acf22e2ed8a5cd5410aa60fa0f5f24ba1", func := "loop.example/g00875/laws.FnExactPlaceAt", spec := "fnExactPlaceAt", apart := false, narrowed := true }
def FnExactPlaceAtUptoSaid : Prop := fnExactPlaceAtUptoRow.holds Try.pinned (OpenSpec.upto fnExactPlaceAtSpec)

/-- 'laws.FnExactCourseLine', WHERE WHAT IT READS IS OF BULK AT MOST 1048576: true; the input reads as it did. -/
def fnExactCourseLineUptoRow : OpenClaim := { program := "ytbfonmedgcemjaa", sum := "4a43af702d8927a144b1b39370d7bb2acf22e2ed8a5cd5410aa60fa0f5f24ba1", func := "loop.example/g00875/laws.FnExactCourseLine", spec := "fnExactCourseLine", apart := false, narrowed := true }
def FnExactCourseLineUptoSaid : Prop := fnExactCourseLineUptoRow.holds Try.pinned (OpenSpec.upto fnExactCourseLineSpec)

/-- 'laws.FnExactLeavesAt', WHERE WHAT IT READS IS OF BULK AT MOST 1048576: true; the input reads as it did. -/
def fnExactLeavesAtUptoRow : OpenClaim := { program := "ytbfonmedgcemjaa", sum := "4a43af702d8927a144b1b39370d7bb2acf22e2ed8a5cd5410aa60fa0f5f24ba1", func := "loop.example/g00875/laws.FnExactLeavesAt", spec := "fnExactLeavesAt", apart := false, narrowed := true }
def FnExactLeavesAtUptoSaid : Prop := fnExactLeavesAtUptoRow.holds Try.pinned (OpenSpec.upto fnExactLeavesAtSpec)

/-- 'laws.FnExactNearestMinute', WHERE WHAT IT READS IS OF BULK AT MOST 1048576: true; the input reads as it did. -/
def fnExactNearestMinuteUptoRow : OpenClaim := { program := "ytbfonmedgcemjaa", sum := "4a43af702d8927a144b1b39370d7bb2acf22e2ed8a5cd5410aa60fa0f5f24ba1", func := "loop.example/g00875/laws.FnExactNearestMinute", spec := "fnExactNearestMinute", apart := false, narrowed := true }
def FnExactNearestMinuteUptoSaid : Prop := fnExactNearestMinuteUptoRow.holds Try.pinned (OpenSpec.upto fnExactNearestMinuteSpec)

/-- 'laws.FnExactHeightAt', WHERE WHAT IT READS IS OF BULK AT MOST 1048576: true; the input reads as it did. -/
def fnExactHeightAtUptoRow : OpenClaim := { program := "ytbfonmedgcemjaa", sum := "4a43af702d8927a144b1b39370d7bb2acf22e2ed8a5cd5410aa60fa0f5f24ba1", func := "loop.example/g00875/laws.FnExactHeightAt", spec := "fnExactHeightAt", apart := false, narrowed := true }
def FnExactHeightAtUptoSaid : Prop := fnExactHeightAtUptoRow.holds Try.pinned (OpenSpec.upto fnExactHeightAtSpec)

/-- 'laws.FnExactTimeToX', WHERE WHAT IT READS IS OF BULK AT MOST 1048576: true; the input reads as it did. -/
def fnExactTimeToXUptoRow : OpenClaim := { program := "ytbfonmedgcemjaa", sum := "4a43af702d8927a144b1b39370d7bb2acf22e2ed8a5cd5410aa60fa0f5f24ba1", func := "loop.example/g00875/laws.FnExactTimeToX", spec := "fnExactTimeToX", apart := false, narrowed := true }
def FnExactTimeToXUptoSaid : Prop := fnExactTimeToXUptoRow.holds Try.pinned (OpenSpec.upto fnExactTimeToXSpec)

/-- 'laws.FnExactTimeToHeight', WHERE WHAT IT READS IS OF BULK AT MOST 1048576: true; the input reads as it did. -/
def fnExactTimeToHeightUptoRow : OpenClaim := { program := "ytbfonmedgcemjaa", sum := "4a43af702d8927a144b1b39370d7bb2acf22e2ed8a5cd5410aa60fa0f5f24ba1", func := "loop.example/g00875/laws.FnExactTimeToHeight", spec := "fnExactTimeToHeight", apart := false, narrowed := true }
def FnExactTimeToHeightUptoSaid : Prop := fnExactTimeToHeightUptoRow.holds Try.pinned (OpenSpec.upto fnExactTimeToHeightSpec)

/-- 'laws.FnExactPathCells', WHERE WHAT IT READS IS OF BULK AT MOST 1048576: true; the input reads as it did. -/
def fnExactPathCellsUptoRow : OpenClaim := { program := "ytbfonmedgcemjaa", sum := "4a43af702d8927a144b1b39370d7bb2acf22e2ed8a5cd5410aa60fa0f5f24ba1", func := "loop.example/g00875/laws.FnExactPathCells", spec := "fnExactPathCells", apart := false, narrowed := true }
def FnExactPathCellsUptoSaid : Prop := fnExactPathCellsUptoRow.holds Try.pinned (OpenSpec.upto fnExactPathCellsSpec)

/-- 'laws.FnPredictions', WHERE WHAT IT READS IS OF BULK AT MOST 1048576: true; the input reads as it did. -/
def fnPredictionsUptoRow : OpenClaim := { program := "ytbfonmedgcemjaa", sum := "4a43af702d8927a144b1b39370d7bb2acf22e2ed8a5cd5410aa60fa0f5f24ba1", func := "loop.example/g00875/laws.FnPredictions", spec := "fnPredictions", apart := false, narrowed := true }
def FnPredictionsUptoSaid : Prop := fnPredictionsUptoRow.holds Try.pinned (OpenSpec.upto fnPredictionsSpec)

/-- 'laws.FnPaths', WHERE WHAT IT READS IS OF BULK AT MOST 1048576: true; the input reads as it did. -/
def fnPathsUptoRow : OpenClaim := { program := "ytbfonmedgcemjaa", sum := "4a43af702d8927a144b1b39370d7bb2acf22e2ed8a5cd5410aa60fa0f5f24ba1", func := "loop.example/g00875/laws.FnPaths", spec := "fnPaths", apart := false, narrowed := true }
def FnPathsUptoSaid : Prop := fnPathsUptoRow.holds Try.pinned (OpenSpec.upto fnPathsSpec)

end Rows
end Go.Proofs.Ytbfonmedgcemjaa
