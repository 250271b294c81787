/-
  No cell of these rows narrows 'for every input' (looked for: loops, veiled, ifaces, maps, wideKeys, modest, calm, conditions, laid).
  DERIVED. THE GIVEN ROWS OF THIS SEAT. 11 by the template 'for every input the law returns true; each argument reads behind the call as it read before'; 0 by the template 'total and deterministic' (their statements: YtgcmahhejblpkaaTotals.lean).
  GIVEN WITH THE SEED: the statements are not yours to turn. If you find one false, say at which input.
  Laid BY PROGRAM, IN A SANDBOX (cutbox-rows.mjs): the forced cells as the released guide's own fill.sh prints them over the translation 4d5414f1e5ad47e3… (all of the seat's roots in one cut). By AI agents, Wed Nov 11 2026. No macro, syntax, notation, axiom, sorry.
-/
import Derived.Test.YtgcmahhejblpkaaChecked
import GoSem.Claim
import GoSem.ClaimJoined
import GoSem.ClaimMapViews
import Derived.JoinedTies
import Derived.KernelRfl
namespace Go.Proofs.Ytgcmahhejblpkaa
/- THE CELL 'sum', in the pinned program and in every row, IS THE sha256 OF THE DUMP (.gsa) THAT YtgcmahhejblpkaaProg.lean LOADS. Nothing in Lean hashes anything: it is a label: what it is worth is what the hold of that sum in a sandbox is worth. -/
noncomputable def Try.pinned : Pinned := { name := "ytgcmahhejblpkaa", sum := "4d5414f1e5ad47e32167de5d8f723d953e3f2667b3f2295e0edbb4c4d1ba2e28", checked := Try.checked }
namespace Rows
def none {H : Type} : Left H := { results := [], args := [] }

/-- 'laws.FnExactIsValidSightings': WHATEVER THE INPUT: true; the input reads as it did. -/
def fnExactIsValidSightingsSpec : ChangeSpec := { name := "fnExactIsValidSightings", fn := fun _ => fun
  | [d] => { results := [.lit (.bool true)], args := [d] }
  | _ => none }
def fnExactIsValidSightingsRow : OpenClaim := { program := "ytgcmahhejblpkaa", sum := "4d5414f1e5ad47e32167de5d8f723d953e3f2667b3f2295e0edbb4c4d1ba2e28", func := "loop.example/g00875/laws.FnExactIsValidSightings", spec := "fnExactIsValidSightings", apart := false }
def FnExactIsValidSightingsSaid : Prop := fnExactIsValidSightingsRow.holds Try.pinned (OpenSpec.ofChange fnExactIsValidSightingsSpec)

/-- ITS FALSE NEIGHBOUR: 'it returns false'. Refute it at one input. -/
def fnExactIsValidSightingsWrong : ChangeSpec := { name := "fnExactIsValidSightings", fn := fun _ => fun
  | [d] => { results := [.lit (.bool false)], args := [d] }
  | _ => none }
def FnExactIsValidSightingsWrongFalsely : Prop := fnExactIsValidSightingsRow.holds Try.pinned (OpenSpec.ofChange fnExactIsValidSightingsWrong)

/-- 'laws.FnExactIsValidPlot': WHATEVER THE INPUT: true; the input reads as it did. -/
def fnExactIsValidPlotSpec : ChangeSpec := { name := "fnExactIsValidPlot", fn := fun _ => fun
  | [d] => { results := [.lit (.bool true)], args := [d] }
  | _ => none }
def fnExactIsValidPlotRow : OpenClaim := { program := "ytgcmahhejblpkaa", sum := "4d5414f1e5ad47e32167de5d8f723d953e3f2667b3f2295e0edbb4c4d1ba2e28", func := "loop.example/g00875/laws.FnExactIsValidPlot", spec := "fnExactIsValidPlot", apart := false }
def FnExactIsValidPlotSaid : Prop := fnExactIsValidPlotRow.holds Try.pinned (OpenSpec.ofChange fnExactIsValidPlotSpec)

/-- ITS FALSE NEIGHBOUR: 'it returns false'. Refute it at one input. -/
def fnExactIsValidPlotWrong : ChangeSpec := { name := "fnExactIsValidPlot", fn := fun _ => fun
  | [d] => { results := [.lit (.bool false)], args := [d] }
  | _ => none }
def FnExactIsValidPlotWrongFalsely : Prop := fnExactIsValidPlotRow.holds Try.pinned (OpenSpec.ofChange fnExactIsValidPlotWrong)

/-- 'laws.FnExactSiteCounts': WHATEVER THE INPUT: true; the input reads as it did. -/
def fnExactSiteCountsSpec : ChangeSpec := { name := "fnExactSiteCounts", fn := fun _ => fun
  | [d] => { results := [.lit (.bool true)], args := [d] }
  | _ => none }
def fnExactSiteCountsRow : OpenClaim := { program := "ytgcmahhejblpkaa", sum := "4d5414f1e5ad47e32167de5d8f723d953e3f2667b3f2295e0edbb4c4d1ba2e28", func := "loop.example/g00875/laws.FnExactSiteCounts", spec := "fnExactSiteCounts", apart := false }
def FnExactSiteCountsSaid : Prop := fnExactSiteCountsRow.holds Try.pinned (OpenSpec.ofChange fnExactSiteCountsSpec)

/-- ITS FALSE NEIGHBOUR: 'it returns false'. Refute it at one input. -/
def fnExactSiteCountsWrong : ChangeSpec := { name := "fnExactSiteCounts", fn := fun _ => fun
  | [d] => { results := [.lit (.bool false)], args := [d] }
  | _ => none }
def FnExactSiteCountsWrongFalsely : Prop := fnExactSiteCountsRow.holds Try.pinned (OpenSpec.ofChange fnExactSiteCountsWrong)

/-- 'laws.FnExactPlotText': WHATEVER THE INPUT: true; the input reads as it did. -/
def fnExactPlotTextSpec : ChangeSpec := { name := "fnExactPlotText", fn := fun _ => fun
  | [d] => { results := [.lit (.bool true)], args := [d] }
  | _ => none }
def fnExactPlotTextRow : OpenClaim := { program := "ytgcmahhejblpkaa", sum := "4d5414f1e5ad47e32167de5d8f723d953e3f2667b3f2295e0edbb4c4d1ba2e28", func := "loop.example/g00875/laws.FnExactPlotText", spec := "fnExactPlotText", recurses := true, apart := false }
def FnExactPlotTextSaid : Prop := fnExactPlotTextRow.holds Try.pinned (OpenSpec.ofChange fnExactPlotTextSpec)

/-- ITS FALSE NEIGHBOUR: 'it returns false'. Refute it at one input. -/
def fnExactPlotTextWrong : ChangeSpec := { name := "fnExactPlotText", fn := fun _ => fun
  | [d] => { results := [.lit (.bool false)], args := [d] }
  | _ => none }
def FnExactPlotTextWrongFalsely : Prop := fnExactPlotTextRow.holds Try.pinned (OpenSpec.ofChange fnExactPlotTextWrong)

/-- 'laws.FnExactSpreadOf': WHATEVER THE INPUT: true; the input reads as it did. -/
def fnExactSpreadOfSpec : ChangeSpec := { name := "fnExactSpreadOf", fn := fun _ => fun
  | [d1, d2, d3, d4] => { results := [.lit (.bool true)], args := [d1, d2, d3, d4] }
  | _ => none }
def fnExactSpreadOfRow : OpenClaim := { program := "ytgcmahhejblpkaa", sum := "4d5414f1e5ad47e32167de5d8f723d953e3f2667b3f2295e0edbb4c4d1ba2e28", func := "loop.example/g00875/laws.FnExactSpreadOf", spec := "fnExactSpreadOf", apart := false }
def FnExactSpreadOfSaid : Prop := fnExactSpreadOfRow.holds Try.pinned (OpenSpec.ofChange fnExactSpreadOfSpec)

/-- ITS FALSE NEIGHBOUR: 'it returns false'. Refute it at one input. -/
def fnExactSpreadOfWrong : ChangeSpec := { name := "fnExactSpreadOf", fn := fun _ => fun
  | [d1, d2, d3, d4] => { results := [.lit (.bool false)], args := [d1, d2, d3, d4] }
  | _ => none }
def FnExactSpreadOfWrongFalsely : Prop := fnExactSpreadOfRow.holds Try.pinned (OpenSpec.ofChange fnExactSpreadOfWrong)

/-- 'laws.FnExactGroupSightings': WHATEVER THE INPUT: true; the input reads as it did. -/
def fnExactGroupSightingsSpec : ChangeSpec := { name := "fnExactGroupSightings", fn := fun _ => fun
  | [d1, d2, d3] => { results := [.lit (.bool true)], args := [d1, d2, d3] }
  | _ => none }
def fnExactGroupSightingsRow : OpenClaim := { program := "ytgcmahhejblpkaa", sum := "4d5414f1e5ad47e32167de5d8f723d953e3f2667b3f2295e0edbb4c4d1ba2e28", func := "loop.example/g00875/laws.FnExactGroupSightings", spec := "fnExactGroupSightings", apart := false }
def FnExactGroupSightingsSaid : Prop := fnExactGroupSightingsRow.holds Try.pinned (OpenSpec.ofChange fnExactGroupSightingsSpec)

/-- ITS FALSE NEIGHBOUR: 'it returns false'. Refute it at one input. -/
def fnExactGroupSightingsWrong : ChangeSpec := { name := "fnExactGroupSightings", fn := fun _ => fun
  | [d1, d2, d3] => { results := [.lit (.bool false)], args := [d1, d2, d3] }
  | _ => none }
def FnExactGroupSightingsWrongFalsely : Prop := fnExactGroupSightingsRow.holds Try.pinned (OpenSpec.ofChange fnExactGroupSightingsWrong)

/-- 'laws.FnExactLonelySightings': WHATEVER THE INPUT: true; the input reads as it did. -/
def fnExactLonelySightingsSpec : ChangeSpec := { name := "fnExactLonelySightings", fn := fun _ => fun
  | [d1, d2, d3] => { results := [.lit (.bool true)], args := [d1, d2, d3] }
  | _ => none }
def fnExactLonelySightingsRow : OpenClaim := { program := "ytgcmahhejblpkaa", sum := "4d5414f1e5ad47e32167de5d8f723d953e3f2667b3f2295e0edbb4c4d1ba2e28", func := "loop.example/g00875/laws.FnExactLonelySightings", spec := "fnExactLonelySightings", apart := false }
def FnExactLonelySightingsSaid : Prop := fnExactLonelySightingsRow.holds Try.pinned (OpenSpec.ofChange fnExactLonelySightingsSpec)

/-- ITS FALSE NEIGHBOUR: 'it returns false'. Refute it at one input. -/
def fnExactLonelySightingsWrong : ChangeSpec := { name := "fnExactLonelySightings", fn := fun _ => fun
  | [d1, d2, d3] => { results := [.lit (.bool false)], args := [d1, d2, d3] }
  | _ => none }
def FnExactLonelySightingsWrongFalsely : Prop := fnExactLonelySightingsRow.holds Try.pinned (OpenSpec.ofChange fnExactLonelySightingsWrong)

/-- 'laws.FnExactParsePlot': WHATEVER THE INPUT: true; the input reads as it did. -/
def fnExactParsePlotSpec : ChangeSpec := { name := "fnExactParsePlot", fn := fun _ => fun
  | [d] => { results := [.lit (.bool true)], args := [d] }
  | _ => none }
def fnExactParsePlotRow : OpenClaim := { program := "ytgcmahhejblpkaa", sum := "4d5414f1e5ad47e32167de5d8f723d953e3f2667b3f2295e0edbb4c4d1ba2e28", func := "loop.example/g00875/laws.FnExactParsePlot", spec := "fnExactParsePlot", recurses := true, apart := false }
def FnExactParsePlotSaid : Prop := fnExactParsePlotRow.holds Try.pinned (OpenSpec.ofChange fnExactParsePlotSpec)

/-- ITS FALSE NEIGHBOUR: 'it returns false'. Refute it at one input. -/
def fnExactParsePlotWrong : ChangeSpec := { name := "fnExactParsePlot", fn := fun _ => fun
  | [d] => { results := [.lit (.bool false)], args := [d] }
  | _ => none }
def FnExactParsePlotWrongFalsely : Prop := fnExactParsePlotRow.holds Try.pinned (OpenSpec.ofChange fnExactParsePlotWrong)

/-- 'laws.FnExactPlotsOf': WHATEVER THE INPUT: true; the input reads as it did. -/
def fnExactPlotsOfSpec : ChangeSpec := { name := "fnExactPlotsOf", fn := fun _ => fun
  | [d1, d2, d3] => { results := [.lit (.bool true)], args := [d1, d2, d3] }
  | _ => none }
def fnExactPlotsOfRow : OpenClaim := { program := "ytgcmahhejblpkaa", sum := "4d5414f1e5ad47e32167de5d8f723d953e3f2667b3f2295e0edbb4c4d1ba2e28", func := "loop.example/g00875/laws.FnExactPlotsOf", spec := "fnExactPlotsOf", apart := false }
def FnExactPlotsOfSaid : Prop := fnExactPlotsOfRow.holds Try.pinned (OpenSpec.ofChange fnExactPlotsOfSpec)

/-- ITS FALSE NEIGHBOUR: 'it returns false'. Refute it at one input. -/
def fnExactPlotsOfWrong : ChangeSpec := { name := "fnExactPlotsOf", fn := fun _ => fun
  | [d1, d2, d3] => { results := [.lit (.bool false)], args := [d1, d2, d3] }
  | _ => none }
def FnExactPlotsOfWrongFalsely : Prop := fnExactPlotsOfRow.holds Try.pinned (OpenSpec.ofChange fnExactPlotsOfWrong)

/-- 'laws.FnGroups': WHATEVER THE INPUT: true; the input reads as it did. -/
def fnGroupsSpec : ChangeSpec := { name := "fnGroups", fn := fun _ => fun
  | [d] => { results := [.lit (.bool true)], args := [d] }
  | _ => none }
def fnGroupsRow : OpenClaim := { program := "ytgcmahhejblpkaa", sum := "4d5414f1e5ad47e32167de5d8f723d953e3f2667b3f2295e0edbb4c4d1ba2e28", func := "loop.example/g00875/laws.FnGroups", spec := "fnGroups", apart := false }
def FnGroupsSaid : Prop := fnGroupsRow.holds Try.pinned (OpenSpec.ofChange fnGroupsSpec)

/-- ITS FALSE NEIGHBOUR: 'it returns false'. Refute it at one input. -/
def fnGroupsWrong : ChangeSpec := { name := "fnGroups", fn := fun _ => fun
  | [d] => { results := [.lit (.bool false)], args := [d] }
  | _ => none }
def FnGroupsWrongFalsely : Prop := fnGroupsRow.holds Try.pinned (OpenSpec.ofChange fnGroupsWrong)

/-- 'laws.FnPlotTexts': WHATEVER THE INPUT: true; the input reads as it did. -/
def fnPlotTextsSpec : ChangeSpec := { name := "fnPlotTexts", fn := fun _ => fun
  | [d] => { results := [.lit (.bool true)], args := [d] }
  | _ => none }
def fnPlotTextsRow : OpenClaim := { program := "ytgcmahhejblpkaa", sum := "4d5414f1e5ad47e32167de5d8f723d953e3f2667b3f2295e0edbb4c4d1ba2e28", func := "loop.example/g00875/laws.FnPlotTexts", spec := "fnPlotTexts", recurses := true, apart := false }
def FnPlotTextsSaid : Prop := fnPlotTextsRow.holds Try.pinned (OpenSpec.ofChange fnPlotTextsSpec)

/-- ITS FALSE NEIGHBOUR: 'it returns false'. Refute it at one input. -/
def fnPlotTextsWrong : ChangeSpec := { name := "fnPlotTexts", fn := fun _ => fun
  | [d] => { results := [.lit (.bool false)], args := [d] }
  | _ => none }
def FnPlotTextsWrongFalsely : Prop := fnPlotTextsRow.holds Try.pinned (OpenSpec.ofChange fnPlotTextsWrong)

/- THE SECOND FORM. 'bulk': how many values and letters a reading holds, each counted each time it is reached (what is shared counts as often as it is met; a slice's spare places count too). A statement '..UptoSaid' is the law's where the arguments, and the package variables that the reading takes, are together of bulk at most 1048576: NARROWER than '..Said'. Prove '..Said' where nothing that the law and all that it calls make is longer than what came in: it says more and counts as full. Else prove '..UptoSaid'. A law counts once. -/
mutual
def uptoBulk {H : Type} : DataW H → Nat
  | .lit (.string bytes) => bytes.length + 1
  | .lit _ => 1
  | .nil => 1
  | .ptr d => uptoBulk d + 1
  | .slice elems spare => uptoBulkAll elems + uptoBulkAll spare + 1
  | .agg parts => uptoBulkAll parts + 1
  | .iface _ d => uptoBulk d + 1
  | .map entries => uptoBulkEntries entries + 1
  | .held _ => 1
def uptoBulkAll {H : Type} : List (DataW H) → Nat
  | [] => 0
  | d :: r => uptoBulk d + uptoBulkAll r
def uptoBulkEntries {H : Type} : List (Lit × DataW H) → Nat
  | [] => 0
  | x :: r => uptoBulkEntry x + uptoBulkEntries r
def uptoBulkEntry {H : Type} : Lit × DataW H → Nat
  | (.string bytes, d) => bytes.length + uptoBulk d + 1
  | (_, d) => uptoBulk d + 1
 end
def uptoSmall : (H : Type) → List (DataW H) → Bool := fun _ ds => decide (uptoBulkAll ds ≤ 1048576)
def OpenSpec.upto (s : _root_.Go.ChangeSpec) : _root_.Go.OpenSpec := { _root_.Go.OpenSpec.ofChange s with cond := some uptoSmall }

/-- 'laws.FnExactIsValidSightings', WHERE WHAT IT READS IS OF BULK AT MOST 1048576: true; the input reads as it did. -/
def fnExactIsValidSightingsUptoRow : OpenClaim := { program := "ytgcmahhejblpkaa", sum := "4d5414f1e5ad47e32167de5d8f723d953e3f2667b3f2295e0edbb4c4d1ba2e28", func := "loop.example/g00875/laws.FnExactIsValidSightings", spec := "fnExactIsValidSightings", apart := false, narrowed := true }
def FnExactIsValidSightingsUptoSaid : Prop := fnExactIsValidSightingsUptoRow.holds Try.pinned (OpenSpec.upto fnExactIsValidSightingsSpec)

/-- 'laws.FnExactIsValidPlot', WHERE WHAT IT READS IS OF BULK AT MOST 1048576: true; the input reads as it did. -/
def fnExactIsValidPlotUptoRow : OpenClaim := { program := "ytgcmahhejblpkaa", sum := "4d5414f1e5ad47e32167de5d8f723d953e3f2667b3f2295e0edbb4c4d1ba2e28", func := "loop.example/g00875/laws.FnExactIsValidPlot", spec := "fnExactIsValidPlot", apart := false, narrowed := true }
def FnExactIsValidPlotUptoSaid : Prop := fnExactIsValidPlotUptoRow.holds Try.pinned (OpenSpec.upto fnExactIsValidPlotSpec)

/-- 'laws.FnExactSiteCounts', WHERE WHAT IT READS IS OF BULK AT MOST 1048576: true; the input reads as it did. -/
def fnExactSiteCountsUptoRow : OpenClaim := { program := "ytgcmahhejblpkaa", sum := "4d5414f1e5ad47e32167de5d8f723d953e3f2667b3f2295e0edbb4c4d1ba2e28", func := "loop.example/g00875/laws.FnExactSiteCounts", spec := "fnExactSiteCounts", apart := false, narrowed := true }
def FnExactSiteCountsUptoSaid : Prop := fnExactSiteCountsUptoRow.holds Try.pinned (OpenSpec.upto fnExactSiteCountsSpec)

/-- 'laws.FnExactPlotText', WHERE WHAT IT READS IS OF BULK AT MOST 1048576: true; the input reads as it did. -/
def fnExactPlotTextUptoRow : OpenClaim := { program := "ytgcmahhejblpkaa", sum := "4d5414f1e5ad47e32167de5d8f723d953e3f2667b3f2295e0edbb4c4d1ba2e28", func := "loop.example/g00875/laws.FnExactPlotText", spec := "fnExactPlotText", recurses := true, apart := false, narrowed := true }
def FnExactPlotTextUptoSaid : Prop := fnExactPlotTextUptoRow.holds Try.pinned (OpenSpec.upto fnExactPlotTextSpec)

/-- 'laws.FnExactSpreadOf', WHERE WHAT IT READS IS OF BULK AT MOST 1048576: true; the input reads as it did. -/
def fnExactSpreadOfUptoRow : OpenClaim := { program := "ytgcmahhejblpkaa", sum := "4d5414f1e5ad47e32167de5d8f723d953e3f2667b3f2295e0edbb4c4d1ba2e28", func := "loop.example/g00875/laws.FnExactSpreadOf", spec := "fnExactSpreadOf", apart := false, narrowed := true }
def FnExactSpreadOfUptoSaid : Prop := fnExactSpreadOfUptoRow.holds Try.pinned (OpenSpec.upto fnExactSpreadOfSpec)

/-- 'laws.FnExactGroupSightings', WHERE WHAT IT READS IS OF BULK AT MOST 1048576: true; the input reads as it did. -/
def fnExactGroupSightingsUptoRow : OpenClaim := { program := "ytgcmahhejblpkaa", sum := "4d5414f1e5ad47e32167de5d8f723d953e3f2667b3f2295e0edbb4c4d1ba2e28", func := "loop.example/g00875/laws.FnExactGroupSightings", spec := "fnExactGroupSightings", apart := false, narrowed := true }
def FnExactGroupSightingsUptoSaid : Prop := fnExactGroupSightingsUptoRow.holds Try.pinned (OpenSpec.upto fnExactGroupSightingsSpec)

/-- 'laws.FnExactLonelySightings', WHERE WHAT IT READS IS OF BULK AT MOST 1048576: true; the input reads as it did. -/
def fnExactLonelySightingsUptoRow : OpenClaim := { program := "ytgcmahhejblpkaa", sum := "4d5414f1e5ad47e32167de5d8f723d953e3f2667b3f2295e0edbb4c4d1ba2e28", func := "loop.example/g00875/laws.FnExactLonelySightings", spec := "fnExactLonelySightings", apart := false, narrowed := true }
def FnExactLonelySightingsUptoSaid : Prop := fnExactLonelySightingsUptoRow.holds Try.pinned (OpenSpec.upto fnExactLonelySightingsSpec)

/-- 'laws.FnExactParsePlot', WHERE WHAT IT READS IS OF BULK AT MOST 1048576: true; the input reads as it did. -/
def fnExactParsePlotUptoRow : OpenClaim := { program := "ytgcmahhejblpkaa", sum := "4d5414f1e5ad47e32167de5d8f723d953e3f2667b3f2295e0edbb4c4d1ba2e28", func := "loop.example/g00875/laws.FnExactParsePlot", spec := "fnExactParsePlot", recurses := true, apart := false, narrowed := true }
def FnExactParsePlotUptoSaid : Prop := fnExactParsePlotUptoRow.holds Try.pinned (OpenSpec.upto fnExactParsePlotSpec)

/-- 'laws.FnExactPlotsOf', WHERE WHAT IT READS IS OF BULK AT MOST 1048576: true; the input reads as it did. -/
def fnExactPlotsOfUptoRow : OpenClaim := { program := "ytgcmahhejblpkaa", sum := "4d5414f1e5ad47e32167de5d8f723d953e3f2667b3f2295e0edbb4c4d1ba2e28", func := "loop.example/g00875/laws.FnExactPlotsOf", spec := "fnExactPlotsOf", apart := false, narrowed := true }
def FnExactPlotsOfUptoSaid : Prop := fnExactPlotsOfUptoRow.holds Try.pinned (OpenSpec.upto fnExactPlotsOfSpec)

/-- 'laws.FnGroups', WHERE WHAT IT READS IS OF BULK AT MOST 1048576: true; the input reads as it did. -/
def fnGroupsUptoRow : OpenClaim := { program := "ytgcmahhejblpkaa", sum := "4d5414f1e5ad47e32167de5d8f723d953e3f2667b3f2295e0edbb4c4d1ba2e28", func := "loop.example/g00875/laws.FnGroups", spec := "fnGroups", apart := false, narrowed := true }
def FnGroupsUptoSaid : Prop := fnGroupsUptoRow.holds Try.pinned (OpenSpec.upto fnGroupsSpec)

/-- 'laws.FnPlotTexts', WHERE WHAT IT READS IS OF BULK AT MOST 1048576: true; the input reads as it did. -/
def fnPlotTextsUptoRow : OpenClaim := { program := "ytgcmahhejblpkaa", sum := "4d5414f1e5ad47e32167de5d8f723d953e3f2667b3f2295e0edbb4c4d1ba2e28", func := "loop.example/g00875/laws.FnPlotTexts", spec := "fnPlotTexts", recurses := true, apart := false, narrowed := true }
def FnPlotTextsUptoSaid : Prop := fnPlotTextsUptoRow.holds Try.pinned (OpenSpec.upto fnPlotTextsSpec)

end Rows
end Go.Proofs.Ytgcmahhejblpkaa
