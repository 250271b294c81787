/-
  No cell of these rows narrows 'for every input' (looked for: loops, veiled, ifaces, maps, wideKeys, modest, calm, conditions, laid).
  DERIVED. THE GIVEN ROWS OF THIS SEAT. 10 by the template 'for every input the law returns true; each argument reads behind the call as it read before'; 0 by the template 'total and deterministic' (their statements: YtpcaijpolkcipaaTotals.lean).
  GIVEN WITH THE SEED: the statements are not yours to turn. If you find one false, say at which input.
  Laid BY PROGRAM, IN A SANDBOX (cutbox-rows.mjs): the forced cells as the released guide's own fill.sh prints them over the translation fa03001b1ae99868… (all of the seat's roots in one cut). By AI agents, Wed Nov 11 2026. No macro, syntax, notation, axiom, sorry.
-/
import Derived.Test.YtpcaijpolkcipaaChecked
import GoSem.Claim
import GoSem.ClaimJoined
import GoSem.ClaimMapViews
import Derived.JoinedTies
import Derived.KernelRfl
namespace Go.Proofs.Ytpcaijpolkcipaa
/- THE CELL 'sum', in the pinned program and in every row, IS THE sha256 OF THE DUMP (.gsa) THAT YtpcaijpolkcipaaProg.lean LOADS. Nothing in Lean hashes anything: it is a label: what it is worth is what the hold of that sum in a sandbox is worth. -/
noncomputable def Try.pinned : Pinned := { name := "ytpcaijpolkcipaa", sum := "fa03001b1ae99868c5819bb2a3e017e9fc81d68b411a8454296371ff6fd5235f", checked := Try.checked }
namespace Rows
def none {H : Type} : Left H := { results := [], args := [] }

/-- 'laws.FnExactSharedTime': WHATEVER THE INPUT: true; the input reads as it did. -/
def fnExactSharedTimeSpec : ChangeSpec := { name := "fnExactSharedTime", fn := fun _ => fun
  | [d1, d2] => { results := [.lit (.bool true)], args := [d1, d2] }
  | _ => none }
def fnExactSharedTimeRow : OpenClaim := { program := "ytpcaijpolkcipaa", sum := "fa03001b1ae99868c5819bb2a3e017e9fc81d68b411a8454296371ff6fd5235f", func := "loop.example/g00875/laws.FnExactSharedTime", spec := "fnExactSharedTime", apart := false }
def FnExactSharedTimeSaid : Prop := fnExactSharedTimeRow.holds Try.pinned (OpenSpec.ofChange fnExactSharedTimeSpec)

/-- ITS FALSE NEIGHBOUR: 'it returns false'. Refute it at one input. -/
def fnExactSharedTimeWrong : ChangeSpec := { name := "fnExactSharedTime", fn := fun _ => fun
  | [d1, d2] => { results := [.lit (.bool false)], args := [d1, d2] }
  | _ => none }
def FnExactSharedTimeWrongFalsely : Prop := fnExactSharedTimeRow.holds Try.pinned (OpenSpec.ofChange fnExactSharedTimeWrong)

/-- 'laws.FnExactOffsetOf': WHATEVER THE INPUT: true; the input reads as it did. -/
def fnExactOffsetOfSpec : ChangeSpec := { name := "fnExactOffsetOf", fn := fun _ => fun
  | [d] => { results := [.lit (.bool true)], args := [d] }
  | _ => none }
def fnExactOffsetOfRow : OpenClaim := { program := "ytpcaijpolkcipaa", sum := "fa03001b1ae99868c5819bb2a3e017e9fc81d68b411a8454296371ff6fd5235f", func := "loop.example/g00875/laws.FnExactOffsetOf", spec := "fnExactOffsetOf", apart := false }
def FnExactOffsetOfSaid : Prop := fnExactOffsetOfRow.holds Try.pinned (OpenSpec.ofChange fnExactOffsetOfSpec)

/-- ITS FALSE NEIGHBOUR: 'it returns false'. Refute it at one input. -/
def fnExactOffsetOfWrong : ChangeSpec := { name := "fnExactOffsetOf", fn := fun _ => fun
  | [d] => { results := [.lit (.bool false)], args := [d] }
  | _ => none }
def FnExactOffsetOfWrongFalsely : Prop := fnExactOffsetOfRow.holds Try.pinned (OpenSpec.ofChange fnExactOffsetOfWrong)

/-- 'laws.FnExactDriftOf': WHATEVER THE INPUT: true; the input reads as it did. -/
def fnExactDriftOfSpec : ChangeSpec := { name := "fnExactDriftOf", fn := fun _ => fun
  | [d] => { results := [.lit (.bool true)], args := [d] }
  | _ => none }
def fnExactDriftOfRow : OpenClaim := { program := "ytpcaijpolkcipaa", sum := "fa03001b1ae99868c5819bb2a3e017e9fc81d68b411a8454296371ff6fd5235f", func := "loop.example/g00875/laws.FnExactDriftOf", spec := "fnExactDriftOf", apart := false }
def FnExactDriftOfSaid : Prop := fnExactDriftOfRow.holds Try.pinned (OpenSpec.ofChange fnExactDriftOfSpec)

/-- ITS FALSE NEIGHBOUR: 'it returns false'. Refute it at one input. -/
def fnExactDriftOfWrong : ChangeSpec := { name := "fnExactDriftOf", fn := fun _ => fun
  | [d] => { results := [.lit (.bool false)], args := [d] }
  | _ => none }
def FnExactDriftOfWrongFalsely : Prop := fnExactDriftOfRow.holds Try.pinned (OpenSpec.ofChange fnExactDriftOfWrong)

/-- 'laws.FnExactIsSteadyClock': WHATEVER THE INPUT: true; the input reads as it did. -/
def fnExactIsSteadyClockSpec : ChangeSpec := { name := "fnExactIsSteadyClock", fn := fun _ => fun
  | [d1, d2] => { results := [.lit (.bool true)], args := [d1, d2] }
  | _ => none }
def fnExactIsSteadyClockRow : OpenClaim := { program := "ytpcaijpolkcipaa", sum := "fa03001b1ae99868c5819bb2a3e017e9fc81d68b411a8454296371ff6fd5235f", func := "loop.example/g00875/laws.FnExactIsSteadyClock", spec := "fnExactIsSteadyClock", apart := false }
def FnExactIsSteadyClockSaid : Prop := fnExactIsSteadyClockRow.holds Try.pinned (OpenSpec.ofChange fnExactIsSteadyClockSpec)

/-- ITS FALSE NEIGHBOUR: 'it returns false'. Refute it at one input. -/
def fnExactIsSteadyClockWrong : ChangeSpec := { name := "fnExactIsSteadyClock", fn := fun _ => fun
  | [d1, d2] => { results := [.lit (.bool false)], args := [d1, d2] }
  | _ => none }
def FnExactIsSteadyClockWrongFalsely : Prop := fnExactIsSteadyClockRow.holds Try.pinned (OpenSpec.ofChange fnExactIsSteadyClockWrong)

/-- 'laws.FnExactWorstPair': WHATEVER THE INPUT: true; the input reads as it did. -/
def fnExactWorstPairSpec : ChangeSpec := { name := "fnExactWorstPair", fn := fun _ => fun
  | [d] => { results := [.lit (.bool true)], args := [d] }
  | _ => none }
def fnExactWorstPairRow : OpenClaim := { program := "ytpcaijpolkcipaa", sum := "fa03001b1ae99868c5819bb2a3e017e9fc81d68b411a8454296371ff6fd5235f", func := "loop.example/g00875/laws.FnExactWorstPair", spec := "fnExactWorstPair", apart := false }
def FnExactWorstPairSaid : Prop := fnExactWorstPairRow.holds Try.pinned (OpenSpec.ofChange fnExactWorstPairSpec)

/-- ITS FALSE NEIGHBOUR: 'it returns false'. Refute it at one input. -/
def fnExactWorstPairWrong : ChangeSpec := { name := "fnExactWorstPair", fn := fun _ => fun
  | [d] => { results := [.lit (.bool false)], args := [d] }
  | _ => none }
def FnExactWorstPairWrongFalsely : Prop := fnExactWorstPairRow.holds Try.pinned (OpenSpec.ofChange fnExactWorstPairWrong)

/-- 'laws.FnExactNeedlessLinks': WHATEVER THE INPUT: true; the input reads as it did. -/
def fnExactNeedlessLinksSpec : ChangeSpec := { name := "fnExactNeedlessLinks", fn := fun _ => fun
  | [d1, d2] => { results := [.lit (.bool true)], args := [d1, d2] }
  | _ => none }
def fnExactNeedlessLinksRow : OpenClaim := { program := "ytpcaijpolkcipaa", sum := "fa03001b1ae99868c5819bb2a3e017e9fc81d68b411a8454296371ff6fd5235f", func := "loop.example/g00875/laws.FnExactNeedlessLinks", spec := "fnExactNeedlessLinks", apart := false }
def FnExactNeedlessLinksSaid : Prop := fnExactNeedlessLinksRow.holds Try.pinned (OpenSpec.ofChange fnExactNeedlessLinksSpec)

/-- ITS FALSE NEIGHBOUR: 'it returns false'. Refute it at one input. -/
def fnExactNeedlessLinksWrong : ChangeSpec := { name := "fnExactNeedlessLinks", fn := fun _ => fun
  | [d1, d2] => { results := [.lit (.bool false)], args := [d1, d2] }
  | _ => none }
def FnExactNeedlessLinksWrongFalsely : Prop := fnExactNeedlessLinksRow.holds Try.pinned (OpenSpec.ofChange fnExactNeedlessLinksWrong)

/-- 'laws.FnExactAddClockLink': WHATEVER THE INPUT: true; the input reads as it did. -/
def fnExactAddClockLinkSpec : ChangeSpec := { name := "fnExactAddClockLink", fn := fun _ => fun
  | [d1, d2, d3] => { results := [.lit (.bool true)], args := [d1, d2, d3] }
  | _ => none }
def fnExactAddClockLinkRow : OpenClaim := { program := "ytpcaijpolkcipaa", sum := "fa03001b1ae99868c5819bb2a3e017e9fc81d68b411a8454296371ff6fd5235f", func := "loop.example/g00875/laws.FnExactAddClockLink", spec := "fnExactAddClockLink", apart := false }
def FnExactAddClockLinkSaid : Prop := fnExactAddClockLinkRow.holds Try.pinned (OpenSpec.ofChange fnExactAddClockLinkSpec)

/-- ITS FALSE NEIGHBOUR: 'it returns false'. Refute it at one input. -/
def fnExactAddClockLinkWrong : ChangeSpec := { name := "fnExactAddClockLink", fn := fun _ => fun
  | [d1, d2, d3] => { results := [.lit (.bool false)], args := [d1, d2, d3] }
  | _ => none }
def FnExactAddClockLinkWrongFalsely : Prop := fnExactAddClockLinkRow.holds Try.pinned (OpenSpec.ofChange fnExactAddClockLinkWrong)

/-- 'laws.FnExactClockOffsets': WHATEVER THE INPUT: true; the input reads as it did. -/
def fnExactClockOffsetsSpec : ChangeSpec := { name := "fnExactClockOffsets", fn := fun _ => fun
  | [d1, d2] => { results := [.lit (.bool true)], args := [d1, d2] }
  | _ => none }
def fnExactClockOffsetsRow : OpenClaim := { program := "ytpcaijpolkcipaa", sum := "fa03001b1ae99868c5819bb2a3e017e9fc81d68b411a8454296371ff6fd5235f", func := "loop.example/g00875/laws.FnExactClockOffsets", spec := "fnExactClockOffsets", apart := false }
def FnExactClockOffsetsSaid : Prop := fnExactClockOffsetsRow.holds Try.pinned (OpenSpec.ofChange fnExactClockOffsetsSpec)

/-- ITS FALSE NEIGHBOUR: 'it returns false'. Refute it at one input. -/
def fnExactClockOffsetsWrong : ChangeSpec := { name := "fnExactClockOffsets", fn := fun _ => fun
  | [d1, d2] => { results := [.lit (.bool false)], args := [d1, d2] }
  | _ => none }
def FnExactClockOffsetsWrongFalsely : Prop := fnExactClockOffsetsRow.holds Try.pinned (OpenSpec.ofChange fnExactClockOffsetsWrong)

/-- 'laws.FnClockOffsets': WHATEVER THE INPUT: true; the input reads as it did. -/
def fnClockOffsetsSpec : ChangeSpec := { name := "fnClockOffsets", fn := fun _ => fun
  | [d] => { results := [.lit (.bool true)], args := [d] }
  | _ => none }
def fnClockOffsetsRow : OpenClaim := { program := "ytpcaijpolkcipaa", sum := "fa03001b1ae99868c5819bb2a3e017e9fc81d68b411a8454296371ff6fd5235f", func := "loop.example/g00875/laws.FnClockOffsets", spec := "fnClockOffsets", apart := false }
def FnClockOffsetsSaid : Prop := fnClockOffsetsRow.holds Try.pinned (OpenSpec.ofChange fnClockOffsetsSpec)

/-- ITS FALSE NEIGHBOUR: 'it returns false'. Refute it at one input. -/
def fnClockOffsetsWrong : ChangeSpec := { name := "fnClockOffsets", fn := fun _ => fun
  | [d] => { results := [.lit (.bool false)], args := [d] }
  | _ => none }
def FnClockOffsetsWrongFalsely : Prop := fnClockOffsetsRow.holds Try.pinned (OpenSpec.ofChange fnClockOffsetsWrong)

/-- 'laws.FnClocks': WHATEVER THE INPUT: true; the input reads as it did. -/
def fnClocksSpec : ChangeSpec := { name := "fnClocks", fn := fun _ => fun
  | [d] => { results := [.lit (.bool true)], args := [d] }
  | _ => none }
def fnClocksRow : OpenClaim := { program := "ytpcaijpolkcipaa", sum := "fa03001b1ae99868c5819bb2a3e017e9fc81d68b411a8454296371ff6fd5235f", func := "loop.example/g00875/laws.FnClocks", spec := "fnClocks", apart := false }
def FnClocksSaid : Prop := fnClocksRow.holds Try.pinned (OpenSpec.ofChange fnClocksSpec)

/-- ITS FALSE NEIGHBOUR: 'it returns false'. Refute it at one input. -/
def fnClocksWrong : ChangeSpec := { name := "fnClocks", fn := fun _ => fun
  | [d] => { results := [.lit (.bool false)], args := [d] }
  | _ => none }
def FnClocksWrongFalsely : Prop := fnClocksRow.holds Try.pinned (OpenSpec.ofChange fnClocksWrong)

/- THE SECOND FORM. 'bulk': how many values and letters a reading holds, each counted each time it is reached (what is shared counts as often as it is met; a slice's spare places count too). A statement '..UptoSaid' is the law's where the arguments, and the package variables that the reading takes, are together of bulk at most 1048576: NARROWER than '..Said'. Prove '..Said' where nothing that the law and all that it calls make is longer than what came in: it says more and counts as full. Else prove '..UptoSaid'. A law counts once. -/
mutual
def uptoBulk {H : Type} : DataW H → Nat
  | .lit (.string bytes) => bytes.length + 1
  | .lit _ => 1
  | .nil => 1
  | .ptr d => uptoBulk d + 1
  | .slice elems spare => uptoBulkAll elems + uptoBulkAll spare + 1
  | .agg parts => uptoBulkAll parts + 1
  | .iface _ d => uptoBulk d + 1
  | .map entries => uptoBulkEntries entries + 1
  | .held _ => 1
def uptoBulkAll {H : Type} : List (DataW H) → Nat
  | [] => 0
  | d :: r => uptoBulk d + uptoBulkAll r
def uptoBulkEntries {H : Type} : List (Lit × DataW H) → Nat
  | [] => 0
  | x :: r => uptoBulkEntry x + uptoBulkEntries r
def uptoBulkEntry {H : Type} : Lit × DataW H → Nat
  | (.string bytes, d) => bytes.length + uptoBulk d + 1
  | (_, d) => uptoBulk d + 1
 end
def uptoSmall : (H : Type) → List (DataW H) → Bool := fun _ ds => decide (uptoBulkAll ds ≤ 1048576)
def OpenSpec.upto (s : _root_.Go.ChangeSpec) : _root_.Go.OpenSpec := { _root_.Go.OpenSpec.ofChange s with cond := some uptoSmall }

/-- 'laws.FnExactSharedTime', WHERE WHAT IT READS IS OF BULK AT MOST 1048576: true; the input reads as it did. -/
def fnExactSharedTimeUptoRow : OpenClaim := { program := "ytpcaijpolkcipaa", sum := "fa03001b1ae99868c5819bb2a3e017e9fc81d68b411a8454296371ff6fd5235f", func := "loop.example/g00875/laws.FnExactSharedTime", spec := "fnExactSharedTime", apart := false, narrowed := true }
def FnExactSharedTimeUptoSaid : Prop := fnExactSharedTimeUptoRow.holds Try.pinned (OpenSpec.upto fnExactSharedTimeSpec)

/-- 'laws.FnExactOffsetOf', WHERE WHAT IT READS IS OF BULK AT MOST 1048576: true; the input reads as it did. -/
def fnExactOffsetOfUptoRow : OpenClaim := { program := "ytpcaijpolkcipaa", sum := "fa03001b1ae99868c5819bb2a3e017e9fc81d68b411a8454296371ff6fd5235f", func := "loop.example/g00875/laws.FnExactOffsetOf", spec := "fnExactOffsetOf", apart := false, narrowed := true }
def FnExactOffsetOfUptoSaid : Prop := fnExactOffsetOfUptoRow.holds Try.pinned (OpenSpec.upto fnExactOffsetOfSpec)

/-- 'laws.FnExactDriftOf', WHERE WHAT IT READS IS OF BULK AT MOST 1048576: true; the input reads as it did. -/
def fnExactDriftOfUptoRow : OpenClaim := { program := "ytpcaijpolkcipaa", sum := "fa03001b1ae99868c5819bb2a3e017e9fc81d68b411a8454296371ff6fd5235f", func := "loop.example/g00875/laws.FnExactDriftOf", spec := "fnExactDriftOf", apart := false, narrowed := true }
def FnExactDriftOfUptoSaid : Prop := fnExactDriftOfUptoRow.holds Try.pinned (OpenSpec.upto fnExactDriftOfSpec)

/-- 'laws.FnExactIsSteadyClock', WHERE WHAT IT READS IS OF BULK AT MOST 1048576: true; the input reads as it did. -/
def fnExactIsSteadyClockUptoRow : OpenClaim := { program := "ytpcaijpolkcipaa", sum := "fa03001b1ae99868c5819bb2a3e017e9fc81d68b411a8454296371ff6fd5235f", func := "loop.example/g00875/laws.FnExactIsSteadyClock", spec := "fnExactIsSteadyClock", apart := false, narrowed := true }
def FnExactIsSteadyClockUptoSaid : Prop := fnExactIsSteadyClockUptoRow.holds Try.pinned (OpenSpec.upto fnExactIsSteadyClockSpec)

/-- 'laws.FnExactWorstPair', WHERE WHAT IT READS IS OF BULK AT MOST 1048576: true; the input reads as it did. -/
def fnExactWorstPairUptoRow : OpenClaim := { program := "ytpcaijpolkcipaa", sum := "fa03001b1ae99868c5819bb2a3e017e9fc81d68b411a8454296371ff6fd5235f", func := "loop.example/g00875/laws.FnExactWorstPair", spec := "fnExactWorstPair", apart := false, narrowed := true }
def FnExactWorstPairUptoSaid : Prop := fnExactWorstPairUptoRow.holds Try.pinned (OpenSpec.upto fnExactWorstPairSpec)

/-- 'laws.FnExactNeedlessLinks', WHERE WHAT IT READS IS OF BULK AT MOST 1048576: true; the input reads as it did. -/
def fnExactNeedlessLinksUptoRow : OpenClaim := { program := "ytpcaijpolkcipaa", sum := "fa03001b1ae99868c5819bb2a3e017e9fc81d68b411a8454296371ff6fd5235f", func := "loop.example/g00875/laws.FnExactNeedlessLinks", spec := "fnExactNeedlessLinks", apart := false, narrowed := true }
def FnExactNeedlessLinksUptoSaid : Prop := fnExactNeedlessLinksUptoRow.holds Try.pinned (OpenSpec.upto fnExactNeedlessLinksSpec)

/-- 'laws.FnExactAddClockLink', WHERE WHAT IT READS IS OF BULK AT MOST 1048576: true; the input reads as it did. -/
def fnExactAddClockLinkUptoRow : OpenClaim := { program := "ytpcaijpolkcipaa", sum := "fa03001b1ae99868c5819bb2a3e017e9fc81d68b411a8454296371ff6fd5235f", func := "loop.example/g00875/laws.FnExactAddClockLink", spec := "fnExactAddClockLink", apart := false, narrowed := true }
def FnExactAddClockLinkUptoSaid : Prop := fnExactAddClockLinkUptoRow.holds Try.pinned (OpenSpec.upto fnExactAddClockLinkSpec)

/-- 'laws.FnExactClockOffsets', WHERE WHAT IT READS IS OF BULK AT MOST 1048576: true; the input reads as it did. -/
def fnExactClockOffsetsUptoRow : OpenClaim := { program := "ytpcaijpolkcipaa", sum := "fa03001b1ae99868c5819bb2a3e017e9fc81d68b411a8454296371ff6fd5235f", func := "loop.example/g00875/laws.FnExactClockOffsets", spec := "fnExactClockOffsets", apart := false, narrowed := true }
def FnExactClockOffsetsUptoSaid : Prop := fnExactClockOffsetsUptoRow.holds Try.pinned (OpenSpec.upto fnExactClockOffsetsSpec)

/-- 'laws.FnClockOffsets', WHERE WHAT IT READS IS OF BULK AT MOST 1048576: true; the input reads as it did. -/
def fnClockOffsetsUptoRow : OpenClaim := { program := "ytpcaijpolkcipaa", sum := "fa03001b1ae99868c5819bb2a3e017e9fc81d68b411a8454296371ff6fd5235f", func := "loop.example/g00875/laws.FnClockOffsets", spec := "fnClockOffsets", apart := false, narrowed := true }
def FnClockOffsetsUptoSaid : Prop := fnClockOffsetsUptoRow.holds Try.pinned (OpenSpec.upto fnClockOffsetsSpec)

/-- 'laws.FnClocks', WHERE WHAT IT READS IS OF BULK AT MOST 1048576: true; the input reads as it did. -/
def fnClocksUptoRow : OpenClaim := { program := "ytpcaijpolkcipaa", sum := "fa03001b1ae99868c5819bb2a3e017e9fc81d68b411a8454296371ff6fd5235f", func := "loop.example/g00875/laws.FnClocks", spec := "fnClocks", apart := false, narrowed := true }
def FnClocksUptoSaid : Prop := fnClocksUptoRow.holds Try.pinned (OpenSpec.upto fnClocksSpec)

end Rows
end Go.Proofs.Ytpcaijpolkcipaa
