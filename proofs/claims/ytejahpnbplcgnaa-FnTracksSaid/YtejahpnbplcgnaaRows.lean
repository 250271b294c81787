/-
  No cell of these rows narrows 'for every input' (looked for: loops, veiled, ifaces, maps, wideKeys, modest, calm, conditions, laid).
  DERIVED. THE GIVEN ROWS OF THIS SEAT. 11 by the template 'for every input the law returns true; each argument reads behind the call as it read before'; 0 by the template 'total and deterministic' (their statements: YtejahpnbplcgnaaTotals.lean).
  GIVEN WITH THE SEED: the statements are not yours to turn. If you find one false, say at which input.
  Laid BY PROGRAM, IN A SANDBOX (cutbox-rows.mjs): the forced cells as the released guide's own fill.sh prints them over the translation 3134c341553e58ea… (all of the seat's roots in one cut). By AI agents, Wed Nov 11 2026. No macro, syntax, notation, axiom, sorry.
-/
import Derived.Test.YtejahpnbplcgnaaChecked
import GoSem.Claim
import GoSem.ClaimJoined
import GoSem.ClaimMapViews
import Derived.JoinedTies
import Derived.KernelRfl
namespace Go.Proofs.Ytejahpnbplcgnaa
/- THE CELL 'sum', in the pinned program and in every row, IS THE sha256 OF THE DUMP (.gsa) THAT YtejahpnbplcgnaaProg.lean LOADS. Nothing in Lean hashes anything: it is a label: what it is worth is what the hold of that sum in a sandbox is worth. -/
noncomputable def Try.pinned : Pinned := { name := "ytejahpnbplcgnaa", sum := "3134c341553e58ea71315f19204b2e1810929df760ae649d339fc2616e1016dd", checked := Try.checked }
namespace Rows
def none {H : Type} : Left H := { results := [], args := [] }

/-- 'laws.FnExactIsValidTrack': WHATEVER THE INPUT: true; the input reads as it did. -/
def fnExactIsValidTrackSpec : ChangeSpec := { name := "fnExactIsValidTrack", fn := fun _ => fun
  | [d] => { results := [.lit (.bool true)], args := [d] }
  | _ => none }
def fnExactIsValidTrackRow : OpenClaim := { program := "ytejahpnbplcgnaa", sum := "3134c341553e58ea71315f19204b2e1810929df760ae649d339fc2616e1016dd", func := "loop.example/g00875/laws.FnExactIsValidTrack", spec := "fnExactIsValidTrack", apart := false }
def FnExactIsValidTrackSaid : Prop := fnExactIsValidTrackRow.holds Try.pinned (OpenSpec.ofChange fnExactIsValidTrackSpec)

/-- ITS FALSE NEIGHBOUR: 'it returns false'. Refute it at one input. -/
def fnExactIsValidTrackWrong : ChangeSpec := { name := "fnExactIsValidTrack", fn := fun _ => fun
  | [d] => { results := [.lit (.bool false)], args := [d] }
  | _ => none }
def FnExactIsValidTrackWrongFalsely : Prop := fnExactIsValidTrackRow.holds Try.pinned (OpenSpec.ofChange fnExactIsValidTrackWrong)

/-- 'laws.FnExactIsValidTracks': WHATEVER THE INPUT: true; the input reads as it did. -/
def fnExactIsValidTracksSpec : ChangeSpec := { name := "fnExactIsValidTracks", fn := fun _ => fun
  | [d] => { results := [.lit (.bool true)], args := [d] }
  | _ => none }
def fnExactIsValidTracksRow : OpenClaim := { program := "ytejahpnbplcgnaa", sum := "3134c341553e58ea71315f19204b2e1810929df760ae649d339fc2616e1016dd", func := "loop.example/g00875/laws.FnExactIsValidTracks", spec := "fnExactIsValidTracks", apart := false }
def FnExactIsValidTracksSaid : Prop := fnExactIsValidTracksRow.holds Try.pinned (OpenSpec.ofChange fnExactIsValidTracksSpec)

/-- ITS FALSE NEIGHBOUR: 'it returns false'. Refute it at one input. -/
def fnExactIsValidTracksWrong : ChangeSpec := { name := "fnExactIsValidTracks", fn := fun _ => fun
  | [d] => { results := [.lit (.bool false)], args := [d] }
  | _ => none }
def FnExactIsValidTracksWrongFalsely : Prop := fnExactIsValidTracksRow.holds Try.pinned (OpenSpec.ofChange fnExactIsValidTracksWrong)

/-- 'laws.FnExactTrackLine': WHATEVER THE INPUT: true; the input reads as it did. -/
def fnExactTrackLineSpec : ChangeSpec := { name := "fnExactTrackLine", fn := fun _ => fun
  | [d] => { results := [.lit (.bool true)], args := [d] }
  | _ => none }
def fnExactTrackLineRow : OpenClaim := { program := "ytejahpnbplcgnaa", sum := "3134c341553e58ea71315f19204b2e1810929df760ae649d339fc2616e1016dd", func := "loop.example/g00875/laws.FnExactTrackLine", spec := "fnExactTrackLine", recurses := true, apart := false }
def FnExactTrackLineSaid : Prop := fnExactTrackLineRow.holds Try.pinned (OpenSpec.ofChange fnExactTrackLineSpec)

/-- ITS FALSE NEIGHBOUR: 'it returns false'. Refute it at one input. -/
def fnExactTrackLineWrong : ChangeSpec := { name := "fnExactTrackLine", fn := fun _ => fun
  | [d] => { results := [.lit (.bool false)], args := [d] }
  | _ => none }
def FnExactTrackLineWrongFalsely : Prop := fnExactTrackLineRow.holds Try.pinned (OpenSpec.ofChange fnExactTrackLineWrong)

/-- 'laws.FnExactConfirmedTracks': WHATEVER THE INPUT: true; the input reads as it did. -/
def fnExactConfirmedTracksSpec : ChangeSpec := { name := "fnExactConfirmedTracks", fn := fun _ => fun
  | [d] => { results := [.lit (.bool true)], args := [d] }
  | _ => none }
def fnExactConfirmedTracksRow : OpenClaim := { program := "ytejahpnbplcgnaa", sum := "3134c341553e58ea71315f19204b2e1810929df760ae649d339fc2616e1016dd", func := "loop.example/g00875/laws.FnExactConfirmedTracks", spec := "fnExactConfirmedTracks", apart := false }
def FnExactConfirmedTracksSaid : Prop := fnExactConfirmedTracksRow.holds Try.pinned (OpenSpec.ofChange fnExactConfirmedTracksSpec)

/-- ITS FALSE NEIGHBOUR: 'it returns false'. Refute it at one input. -/
def fnExactConfirmedTracksWrong : ChangeSpec := { name := "fnExactConfirmedTracks", fn := fun _ => fun
  | [d] => { results := [.lit (.bool false)], args := [d] }
  | _ => none }
def FnExactConfirmedTracksWrongFalsely : Prop := fnExactConfirmedTracksRow.holds Try.pinned (OpenSpec.ofChange fnExactConfirmedTracksWrong)

/-- 'laws.FnExactStartTrack': WHATEVER THE INPUT: true; the input reads as it did. -/
def fnExactStartTrackSpec : ChangeSpec := { name := "fnExactStartTrack", fn := fun _ => fun
  | [d1, d2] => { results := [.lit (.bool true)], args := [d1, d2] }
  | _ => none }
def fnExactStartTrackRow : OpenClaim := { program := "ytejahpnbplcgnaa", sum := "3134c341553e58ea71315f19204b2e1810929df760ae649d339fc2616e1016dd", func := "loop.example/g00875/laws.FnExactStartTrack", spec := "fnExactStartTrack", apart := false }
def FnExactStartTrackSaid : Prop := fnExactStartTrackRow.holds Try.pinned (OpenSpec.ofChange fnExactStartTrackSpec)

/-- ITS FALSE NEIGHBOUR: 'it returns false'. Refute it at one input. -/
def fnExactStartTrackWrong : ChangeSpec := { name := "fnExactStartTrack", fn := fun _ => fun
  | [d1, d2] => { results := [.lit (.bool false)], args := [d1, d2] }
  | _ => none }
def FnExactStartTrackWrongFalsely : Prop := fnExactStartTrackRow.holds Try.pinned (OpenSpec.ofChange fnExactStartTrackWrong)

/-- 'laws.FnExactMissTrack': WHATEVER THE INPUT: true; the input reads as it did. -/
def fnExactMissTrackSpec : ChangeSpec := { name := "fnExactMissTrack", fn := fun _ => fun
  | [d1, d2] => { results := [.lit (.bool true)], args := [d1, d2] }
  | _ => none }
def fnExactMissTrackRow : OpenClaim := { program := "ytejahpnbplcgnaa", sum := "3134c341553e58ea71315f19204b2e1810929df760ae649d339fc2616e1016dd", func := "loop.example/g00875/laws.FnExactMissTrack", spec := "fnExactMissTrack", apart := false }
def FnExactMissTrackSaid : Prop := fnExactMissTrackRow.holds Try.pinned (OpenSpec.ofChange fnExactMissTrackSpec)

/-- ITS FALSE NEIGHBOUR: 'it returns false'. Refute it at one input. -/
def fnExactMissTrackWrong : ChangeSpec := { name := "fnExactMissTrack", fn := fun _ => fun
  | [d1, d2] => { results := [.lit (.bool false)], args := [d1, d2] }
  | _ => none }
def FnExactMissTrackWrongFalsely : Prop := fnExactMissTrackRow.holds Try.pinned (OpenSpec.ofChange fnExactMissTrackWrong)

/-- 'laws.FnExactHitTrack': WHATEVER THE INPUT: true; the input reads as it did. -/
def fnExactHitTrackSpec : ChangeSpec := { name := "fnExactHitTrack", fn := fun _ => fun
  | [d1, d2, d3] => { results := [.lit (.bool true)], args := [d1, d2, d3] }
  | _ => none }
def fnExactHitTrackRow : OpenClaim := { program := "ytejahpnbplcgnaa", sum := "3134c341553e58ea71315f19204b2e1810929df760ae649d339fc2616e1016dd", func := "loop.example/g00875/laws.FnExactHitTrack", spec := "fnExactHitTrack", apart := false }
def FnExactHitTrackSaid : Prop := fnExactHitTrackRow.holds Try.pinned (OpenSpec.ofChange fnExactHitTrackSpec)

/-- ITS FALSE NEIGHBOUR: 'it returns false'. Refute it at one input. -/
def fnExactHitTrackWrong : ChangeSpec := { name := "fnExactHitTrack", fn := fun _ => fun
  | [d1, d2, d3] => { results := [.lit (.bool false)], args := [d1, d2, d3] }
  | _ => none }
def FnExactHitTrackWrongFalsely : Prop := fnExactHitTrackRow.holds Try.pinned (OpenSpec.ofChange fnExactHitTrackWrong)

/-- 'laws.FnExactParseTrackLine': WHATEVER THE INPUT: true; the input reads as it did. -/
def fnExactParseTrackLineSpec : ChangeSpec := { name := "fnExactParseTrackLine", fn := fun _ => fun
  | [d] => { results := [.lit (.bool true)], args := [d] }
  | _ => none }
def fnExactParseTrackLineRow : OpenClaim := { program := "ytejahpnbplcgnaa", sum := "3134c341553e58ea71315f19204b2e1810929df760ae649d339fc2616e1016dd", func := "loop.example/g00875/laws.FnExactParseTrackLine", spec := "fnExactParseTrackLine", recurses := true, apart := false }
def FnExactParseTrackLineSaid : Prop := fnExactParseTrackLineRow.holds Try.pinned (OpenSpec.ofChange fnExactParseTrackLineSpec)

/-- ITS FALSE NEIGHBOUR: 'it returns false'. Refute it at one input. -/
def fnExactParseTrackLineWrong : ChangeSpec := { name := "fnExactParseTrackLine", fn := fun _ => fun
  | [d] => { results := [.lit (.bool false)], args := [d] }
  | _ => none }
def FnExactParseTrackLineWrongFalsely : Prop := fnExactParseTrackLineRow.holds Try.pinned (OpenSpec.ofChange fnExactParseTrackLineWrong)

/-- 'laws.FnExactScanTracks': WHATEVER THE INPUT: true; the input reads as it did. -/
def fnExactScanTracksSpec : ChangeSpec := { name := "fnExactScanTracks", fn := fun _ => fun
  | [d1, d2, d3] => { results := [.lit (.bool true)], args := [d1, d2, d3] }
  | _ => none }
def fnExactScanTracksRow : OpenClaim := { program := "ytejahpnbplcgnaa", sum := "3134c341553e58ea71315f19204b2e1810929df760ae649d339fc2616e1016dd", func := "loop.example/g00875/laws.FnExactScanTracks", spec := "fnExactScanTracks", apart := false }
def FnExactScanTracksSaid : Prop := fnExactScanTracksRow.holds Try.pinned (OpenSpec.ofChange fnExactScanTracksSpec)

/-- ITS FALSE NEIGHBOUR: 'it returns false'. Refute it at one input. -/
def fnExactScanTracksWrong : ChangeSpec := { name := "fnExactScanTracks", fn := fun _ => fun
  | [d1, d2, d3] => { results := [.lit (.bool false)], args := [d1, d2, d3] }
  | _ => none }
def FnExactScanTracksWrongFalsely : Prop := fnExactScanTracksRow.holds Try.pinned (OpenSpec.ofChange fnExactScanTracksWrong)

/-- 'laws.FnScans': WHATEVER THE INPUT: true; the input reads as it did. -/
def fnScansSpec : ChangeSpec := { name := "fnScans", fn := fun _ => fun
  | [d] => { results := [.lit (.bool true)], args := [d] }
  | _ => none }
def fnScansRow : OpenClaim := { program := "ytejahpnbplcgnaa", sum := "3134c341553e58ea71315f19204b2e1810929df760ae649d339fc2616e1016dd", func := "loop.example/g00875/laws.FnScans", spec := "fnScans", apart := false }
def FnScansSaid : Prop := fnScansRow.holds Try.pinned (OpenSpec.ofChange fnScansSpec)

/-- ITS FALSE NEIGHBOUR: 'it returns false'. Refute it at one input. -/
def fnScansWrong : ChangeSpec := { name := "fnScans", fn := fun _ => fun
  | [d] => { results := [.lit (.bool false)], args := [d] }
  | _ => none }
def FnScansWrongFalsely : Prop := fnScansRow.holds Try.pinned (OpenSpec.ofChange fnScansWrong)

/-- 'laws.FnTracks': WHATEVER THE INPUT: true; the input reads as it did. -/
def fnTracksSpec : ChangeSpec := { name := "fnTracks", fn := fun _ => fun
  | [d] => { results := [.lit (.bool true)], args := [d] }
  | _ => none }
def fnTracksRow : OpenClaim := { program := "ytejahpnbplcgnaa", sum := "3134c341553e58ea71315f19204b2e1810929df760ae649d339fc2616e1016dd", func := "loop.example/g00875/laws.FnTracks", spec := "fnTracks", recurses := true, apart := false }
def FnTracksSaid : Prop := fnTracksRow.holds Try.pinned (OpenSpec.ofChange fnTracksSpec)

/-- ITS FALSE NEIGHBOUR: 'it returns false'. Refute it at one input. -/
def fnTracksWrong : ChangeSpec := { name := "fnTracks", fn := fun _ => fun
  | [d] => { results := [.lit (.bool false)], args := [d] }
  | _ => none }
def FnTracksWrongFalsely : Prop := fnTracksRow.holds Try.pinned (OpenSpec.ofChange fnTracksWrong)

/- THE SECOND FORM. 'bulk': how many values and letters a reading holds, each counted each time it is reached (what is shared counts as often as it is met; a slice's spare places count too). A statement '..UptoSaid' is the law's where the arguments, and the package variables that the reading takes, are together of bulk at most 1048576: NARROWER than '..Said'. Prove '..Said' where nothing that the law and all that it calls make is longer than what came in: it says more and counts as full. Else prove '..UptoSaid'. A law counts once. -/
mutual
def uptoBulk {H : Type} : DataW H → Nat
  | .lit (.string bytes) => bytes.length + 1
  | .lit _ => 1
  | .nil => 1
  | .ptr d => uptoBulk d + 1
  | .slice elems spare => uptoBulkAll elems + uptoBulkAll spare + 1
  | .agg parts => uptoBulkAll parts + 1
  | .iface _ d => uptoBulk d + 1
  | .map entries => uptoBulkEntries entries + 1
  | .held _ => 1
def uptoBulkAll {H : Type} : List (DataW H) → Nat
  | [] => 0
  | d :: r => uptoBulk d + uptoBulkAll r
def uptoBulkEntries {H : Type} : List (Lit × DataW H) → Nat
  | [] => 0
  | x :: r => uptoBulkEntry x + uptoBulkEntries r
def uptoBulkEntry {H : Type} : Lit × DataW H → Nat
  | (.string bytes, d) => bytes.length + uptoBulk d + 1
  | (_, d) => uptoBulk d + 1
 end
def uptoSmall : (H : Type) → List (DataW H) → Bool := fun _ ds => decide (uptoBulkAll ds ≤ 1048576)
def OpenSpec.upto (s : _root_.Go.ChangeSpec) : _root_.Go.OpenSpec := { _root_.Go.OpenSpec.ofChange s with cond := some uptoSmall }

/-- 'laws.FnExactIsValidTrack', WHERE WHAT IT READS IS OF BULK AT MOST 1048576: true; the input reads as it did. -/
def fnExactIsValidTrackUptoRow : OpenClaim := { program := "ytejahpnbplcgnaa", sum := "3134c341553e58ea71315f19204b2e1810929df760ae649d339fc2616e1016dd", func := "loop.example/g00875/laws.FnExactIsValidTrack", spec := "fnExactIsValidTrack", apart := false, narrowed := true }
def FnExactIsValidTrackUptoSaid : Prop := fnExactIsValidTrackUptoRow.holds Try.pinned (OpenSpec.upto fnExactIsValidTrackSpec)

/-- 'laws.FnExactIsValidTracks', WHERE WHAT IT READS IS OF BULK AT MOST 1048576: true; the input reads as it did. -/
def fnExactIsValidTracksUptoRow : OpenClaim := { program := "ytejahpnbplcgnaa", sum := "3134c341553e58ea71315f19204b2e1810929df760ae649d339fc2616e1016dd", func := "loop.example/g00875/laws.FnExactIsValidTracks", spec := "fnExactIsValidTracks", apart := false, narrowed := true }
def FnExactIsValidTracksUptoSaid : Prop := fnExactIsValidTracksUptoRow.holds Try.pinned (OpenSpec.upto fnExactIsValidTracksSpec)

/-- 'laws.FnExactTrackLine', WHERE WHAT IT READS IS OF BULK AT MOST 1048576: true; the input reads as it did. -/
def fnExactTrackLineUptoRow : OpenClaim := { program := "ytejahpnbplcgnaa", sum := "3134c341553e58ea71315f19204b2e1810929df760ae649d339fc2616e1016dd", func := "loop.example/g00875/laws.FnExactTrackLine", spec := "fnExactTrackLine", recurses := true, apart := false, narrowed := true }
def FnExactTrackLineUptoSaid : Prop := fnExactTrackLineUptoRow.holds Try.pinned (OpenSpec.upto fnExactTrackLineSpec)

/-- 'laws.FnExactConfirmedTracks', WHERE WHAT IT READS IS OF BULK AT MOST 1048576: true; the input reads as it did. -/
def fnExactConfirmedTracksUptoRow : OpenClaim := { program := "ytejahpnbplcgnaa", sum := "3134c341553e58ea71315f19204b2e1810929df760ae649d339fc2616e1016dd", func := "loop.example/g00875/laws.FnExactConfirmedTracks", spec := "fnExactConfirmedTracks", apart := false, narrowed := true }
def FnExactConfirmedTracksUptoSaid : Prop := fnExactConfirmedTracksUptoRow.holds Try.pinned (OpenSpec.upto fnExactConfirmedTracksSpec)

/-- 'laws.FnExactStartTrack', WHERE WHAT IT READS IS OF BULK AT MOST 1048576: true; the input reads as it did. -/
def fnExactStartTrackUptoRow : OpenClaim := { program := "ytejahpnbplcgnaa", sum := "3134c341553e58ea71315f19204b2e1810929df760ae649d339fc2616e1016dd", func := "loop.example/g00875/laws.FnExactStartTrack", spec := "fnExactStartTrack", apart := false, narrowed := true }
def FnExactStartTrackUptoSaid : Prop := fnExactStartTrackUptoRow.holds Try.pinned (OpenSpec.upto fnExactStartTrackSpec)

/-- 'laws.FnExactMissTrack', WHERE WHAT IT READS IS OF BULK AT MOST 1048576: true; the input reads as it did. -/
def fnExactMissTrackUptoRow : OpenClaim := { program := "ytejahpnbplcgnaa", sum := "3134c341553e58ea71315f19204b2e1810929df760ae649d339fc2616e1016dd", func := "loop.example/g00875/laws.FnExactMissTrack", spec := "fnExactMissTrack", apart := false, narrowed := true }
def FnExactMissTrackUptoSaid : Prop := fnExactMissTrackUptoRow.holds Try.pinned (OpenSpec.upto fnExactMissTrackSpec)

/-- 'laws.FnExactHitTrack', WHERE WHAT IT READS IS OF BULK AT MOST 1048576: true; the input reads as it did. -/
def fnExactHitTrackUptoRow : OpenClaim := { program := "ytejahpnbplcgnaa", sum := "3134c341553e58ea71315f19204b2e1810929df760ae649d339fc2616e1016dd", func := "loop.example/g00875/laws.FnExactHitTrack", spec := "fnExactHitTrack", apart := false, narrowed := true }
def FnExactHitTrackUptoSaid : Prop := fnExactHitTrackUptoRow.holds Try.pinned (OpenSpec.upto fnExactHitTrackSpec)

/-- 'laws.FnExactParseTrackLine', WHERE WHAT IT READS IS OF BULK AT MOST 1048576: true; the input reads as it did. -/
def fnExactParseTrackLineUptoRow : OpenClaim := { program := "ytejahpnbplcgnaa", sum := "3134c341553e58ea71315f19204b2e1810929df760ae649d339fc2616e1016dd", func := "loop.example/g00875/laws.FnExactParseTrackLine", spec := "fnExactParseTrackLine", recurses := true, apart := false, narrowed := true }
def FnExactParseTrackLineUptoSaid : Prop := fnExactParseTrackLineUptoRow.holds Try.pinned (OpenSpec.upto fnExactParseTrackLineSpec)

/-- 'laws.FnExactScanTracks', WHERE WHAT IT READS IS OF BULK AT MOST 1048576: true; the input reads as it did. -/
def fnExactScanTracksUptoRow : OpenClaim := { program := "ytejahpnbplcgnaa", sum := "3134c341553e58ea71315f19204b2e1810929df760ae649d339fc2616e1016dd", func := "loop.example/g00875/laws.FnExactScanTracks", spec := "fnExactScanTracks", apart := false, narrowed := true }
def FnExactScanTracksUptoSaid : Prop := fnExactScanTracksUptoRow.holds Try.pinned (OpenSpec.upto fnExactScanTracksSpec)

/-- 'laws.FnScans', WHERE WHAT IT READS IS OF BULK AT MOST 1048576: true; the input reads as it did. -/
def fnScansUptoRow : OpenClaim := { program := "ytejahpnbplcgnaa", sum := "3134c341553e58ea71315f19204b2e1810929df760ae649d339fc2616e1016dd", func := "loop.example/g00875/laws.FnScans", spec := "fnScans", apart := false, narrowed := true }
def FnScansUptoSaid : Prop := fnScansUptoRow.holds Try.pinned (OpenSpec.upto fnScansSpec)

/-- 'laws.FnTracks', WHERE WHAT IT READS IS OF BULK AT MOST 1048576: true; the input reads as it did. -/
def fnTracksUptoRow : OpenClaim := { program := "ytejahpnbplcgnaa", sum := "3134c341553e58ea71315f19204b2e1810929df760ae649d339fc2616e1016dd", func := "loop.example/g00875/laws.FnTracks", spec := "fnTracks", recurses := true, apart := false, narrowed := true }
def FnTracksUptoSaid : Prop := fnTracksUptoRow.holds Try.pinned (OpenSpec.upto fnTracksSpec)

end Rows
end Go.Proofs.Ytejahpnbplcgnaa
