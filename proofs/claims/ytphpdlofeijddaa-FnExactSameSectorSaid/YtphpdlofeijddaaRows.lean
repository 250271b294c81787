/-
  No cell of these rows narrows 'for every input' (looked for: loops, veiled, ifaces, maps, wideKeys, modest, calm, conditions, laid).
  DERIVED. THE GIVEN ROWS OF THIS SEAT. 8 by the template 'for every input the law returns true; each argument reads behind the call as it read before'; 0 by the template 'total and deterministic' (their statements: YtphpdlofeijddaaTotals.lean).
  GIVEN WITH THE SEED: the statements are not yours to turn. If you find one false, say at which input.
  Laid BY PROGRAM, IN A SANDBOX (cutbox-rows.mjs): the forced cells as the released guide's own fill.sh prints them over the translation 3ce3c177bc90bfed… (all of the seat's roots in one cut). By AI agents, Wed Nov 11 2026. No macro, syntax, notation, axiom, sorry.
-/
import Derived.Test.YtphpdlofeijddaaChecked
import GoSem.Claim
import GoSem.ClaimJoined
import GoSem.ClaimMapViews
import Derived.JoinedTies
import Derived.KernelRfl
namespace Go.Proofs.Ytphpdlofeijddaa
/- THE CELL 'sum', in the pinned program and in every row, IS THE sha256 OF THE DUMP (.gsa) THAT YtphpdlofeijddaaProg.lean LOADS. Nothing in Lean hashes anything: it is a label: what it is worth is what the hold of that sum in a sandbox is worth. -/
noncomputable def Try.pinned : Pinned := { name := "ytphpdlofeijddaa", sum := "3ce3c177bc90bfed027e304eb8a53338004a5c2e4ef0b37f80a742a95c4762be", checked := Try.checked }
namespace Rows
def none {H : Type} : Left H := { results := [], args := [] }

/-- 'laws.FnExactIsValidSector': WHATEVER THE INPUT: true; the input reads as it did. -/
def fnExactIsValidSectorSpec : ChangeSpec := { name := "fnExactIsValidSector", fn := fun _ => fun
  | [d] => { results := [.lit (.bool true)], args := [d] }
  | _ => none }
def fnExactIsValidSectorRow : OpenClaim := { program := "ytphpdlofeijddaa", sum := "3ce3c177bc90bfed027e304eb8a53338004a5c2e4ef0b37f80a742a95c4762be", func := "loop.example/g00875/laws.FnExactIsValidSector", spec := "fnExactIsValidSector", apart := false }
def FnExactIsValidSectorSaid : Prop := fnExactIsValidSectorRow.holds Try.pinned (OpenSpec.ofChange fnExactIsValidSectorSpec)

/-- ITS FALSE NEIGHBOUR: 'it returns false'. Refute it at one input. -/
def fnExactIsValidSectorWrong : ChangeSpec := { name := "fnExactIsValidSector", fn := fun _ => fun
  | [d] => { results := [.lit (.bool false)], args := [d] }
  | _ => none }
def FnExactIsValidSectorWrongFalsely : Prop := fnExactIsValidSectorRow.holds Try.pinned (OpenSpec.ofChange fnExactIsValidSectorWrong)

/-- 'laws.FnExactSectorBox': WHATEVER THE INPUT: true; the input reads as it did. -/
def fnExactSectorBoxSpec : ChangeSpec := { name := "fnExactSectorBox", fn := fun _ => fun
  | [d] => { results := [.lit (.bool true)], args := [d] }
  | _ => none }
def fnExactSectorBoxRow : OpenClaim := { program := "ytphpdlofeijddaa", sum := "3ce3c177bc90bfed027e304eb8a53338004a5c2e4ef0b37f80a742a95c4762be", func := "loop.example/g00875/laws.FnExactSectorBox", spec := "fnExactSectorBox", apart := false }
def FnExactSectorBoxSaid : Prop := fnExactSectorBoxRow.holds Try.pinned (OpenSpec.ofChange fnExactSectorBoxSpec)

/-- ITS FALSE NEIGHBOUR: 'it returns false'. Refute it at one input. -/
def fnExactSectorBoxWrong : ChangeSpec := { name := "fnExactSectorBox", fn := fun _ => fun
  | [d] => { results := [.lit (.bool false)], args := [d] }
  | _ => none }
def FnExactSectorBoxWrongFalsely : Prop := fnExactSectorBoxRow.holds Try.pinned (OpenSpec.ofChange fnExactSectorBoxWrong)

/-- 'laws.FnExactCrossedSides': WHATEVER THE INPUT: true; the input reads as it did. -/
def fnExactCrossedSidesSpec : ChangeSpec := { name := "fnExactCrossedSides", fn := fun _ => fun
  | [d1, d2, d3] => { results := [.lit (.bool true)], args := [d1, d2, d3] }
  | _ => none }
def fnExactCrossedSidesRow : OpenClaim := { program := "ytphpdlofeijddaa", sum := "3ce3c177bc90bfed027e304eb8a53338004a5c2e4ef0b37f80a742a95c4762be", func := "loop.example/g00875/laws.FnExactCrossedSides", spec := "fnExactCrossedSides", apart := false }
def FnExactCrossedSidesSaid : Prop := fnExactCrossedSidesRow.holds Try.pinned (OpenSpec.ofChange fnExactCrossedSidesSpec)

/-- ITS FALSE NEIGHBOUR: 'it returns false'. Refute it at one input. -/
def fnExactCrossedSidesWrong : ChangeSpec := { name := "fnExactCrossedSides", fn := fun _ => fun
  | [d1, d2, d3] => { results := [.lit (.bool false)], args := [d1, d2, d3] }
  | _ => none }
def FnExactCrossedSidesWrongFalsely : Prop := fnExactCrossedSidesRow.holds Try.pinned (OpenSpec.ofChange fnExactCrossedSidesWrong)

/-- 'laws.FnExactIsOnBorder': WHATEVER THE INPUT: true; the input reads as it did. -/
def fnExactIsOnBorderSpec : ChangeSpec := { name := "fnExactIsOnBorder", fn := fun _ => fun
  | [d1, d2] => { results := [.lit (.bool true)], args := [d1, d2] }
  | _ => none }
def fnExactIsOnBorderRow : OpenClaim := { program := "ytphpdlofeijddaa", sum := "3ce3c177bc90bfed027e304eb8a53338004a5c2e4ef0b37f80a742a95c4762be", func := "loop.example/g00875/laws.FnExactIsOnBorder", spec := "fnExactIsOnBorder", apart := false }
def FnExactIsOnBorderSaid : Prop := fnExactIsOnBorderRow.holds Try.pinned (OpenSpec.ofChange fnExactIsOnBorderSpec)

/-- ITS FALSE NEIGHBOUR: 'it returns false'. Refute it at one input. -/
def fnExactIsOnBorderWrong : ChangeSpec := { name := "fnExactIsOnBorder", fn := fun _ => fun
  | [d1, d2] => { results := [.lit (.bool false)], args := [d1, d2] }
  | _ => none }
def FnExactIsOnBorderWrongFalsely : Prop := fnExactIsOnBorderRow.holds Try.pinned (OpenSpec.ofChange fnExactIsOnBorderWrong)

/-- 'laws.FnExactDoubleArea': WHATEVER THE INPUT: true; the input reads as it did. -/
def fnExactDoubleAreaSpec : ChangeSpec := { name := "fnExactDoubleArea", fn := fun _ => fun
  | [d] => { results := [.lit (.bool true)], args := [d] }
  | _ => none }
def fnExactDoubleAreaRow : OpenClaim := { program := "ytphpdlofeijddaa", sum := "3ce3c177bc90bfed027e304eb8a53338004a5c2e4ef0b37f80a742a95c4762be", func := "loop.example/g00875/laws.FnExactDoubleArea", spec := "fnExactDoubleArea", apart := false }
def FnExactDoubleAreaSaid : Prop := fnExactDoubleAreaRow.holds Try.pinned (OpenSpec.ofChange fnExactDoubleAreaSpec)

/-- ITS FALSE NEIGHBOUR: 'it returns false'. Refute it at one input. -/
def fnExactDoubleAreaWrong : ChangeSpec := { name := "fnExactDoubleArea", fn := fun _ => fun
  | [d] => { results := [.lit (.bool false)], args := [d] }
  | _ => none }
def FnExactDoubleAreaWrongFalsely : Prop := fnExactDoubleAreaRow.holds Try.pinned (OpenSpec.ofChange fnExactDoubleAreaWrong)

/-- 'laws.FnExactSameSector': WHATEVER THE INPUT: true; the input reads as it did. -/
def fnExactSameSectorSpec : ChangeSpec := { name := "fnExactSameSector", fn := fun _ => fun
  | [d1, d2] => { results := [.lit (.bool true)], args := [d1, d2] }
  | _ => none }
def fnExactSameSectorRow : OpenClaim := { program := "ytphpdlofeijddaa", sum := "3ce3c177bc90bfed027e304eb8a53338004a5c2e4ef0b37f80a742a95c4762be", func := "loop.example/g00875/laws.FnExactSameSector", spec := "fnExactSameSector", apart := false }
def FnExactSameSectorSaid : Prop := fnExactSameSectorRow.holds Try.pinned (OpenSpec.ofChange fnExactSameSectorSpec)

/-- ITS FALSE NEIGHBOUR: 'it returns false'. Refute it at one input. -/
def fnExactSameSectorWrong : ChangeSpec := { name := "fnExactSameSector", fn := fun _ => fun
  | [d1, d2] => { results := [.lit (.bool false)], args := [d1, d2] }
  | _ => none }
def FnExactSameSectorWrongFalsely : Prop := fnExactSameSectorRow.holds Try.pinned (OpenSpec.ofChange fnExactSameSectorWrong)

/-- 'laws.FnExactTurnedSector': WHATEVER THE INPUT: true; the input reads as it did. -/
def fnExactTurnedSectorSpec : ChangeSpec := { name := "fnExactTurnedSector", fn := fun _ => fun
  | [d] => { results := [.lit (.bool true)], args := [d] }
  | _ => none }
def fnExactTurnedSectorRow : OpenClaim := { program := "ytphpdlofeijddaa", sum := "3ce3c177bc90bfed027e304eb8a53338004a5c2e4ef0b37f80a742a95c4762be", func := "loop.example/g00875/laws.FnExactTurnedSector", spec := "fnExactTurnedSector", apart := false }
def FnExactTurnedSectorSaid : Prop := fnExactTurnedSectorRow.holds Try.pinned (OpenSpec.ofChange fnExactTurnedSectorSpec)

/-- ITS FALSE NEIGHBOUR: 'it returns false'. Refute it at one input. -/
def fnExactTurnedSectorWrong : ChangeSpec := { name := "fnExactTurnedSector", fn := fun _ => fun
  | [d] => { results := [.lit (.bool false)], args := [d] }
  | _ => none }
def FnExactTurnedSectorWrongFalsely : Prop := fnExactTurnedSectorRow.holds Try.pinned (OpenSpec.ofChange fnExactTurnedSectorWrong)

/-- 'laws.FnExactIsIn': WHATEVER THE INPUT: true; the input reads as it did. -/
def fnExactIsInSpec : ChangeSpec := { name := "fnExactIsIn", fn := fun _ => fun
  | [d1, d2] => { results := [.lit (.bool true)], args := [d1, d2] }
  | _ => none }
def fnExactIsInRow : OpenClaim := { program := "ytphpdlofeijddaa", sum := "3ce3c177bc90bfed027e304eb8a53338004a5c2e4ef0b37f80a742a95c4762be", func := "loop.example/g00875/laws.FnExactIsIn", spec := "fnExactIsIn", apart := false }
def FnExactIsInSaid : Prop := fnExactIsInRow.holds Try.pinned (OpenSpec.ofChange fnExactIsInSpec)

/-- ITS FALSE NEIGHBOUR: 'it returns false'. Refute it at one input. -/
def fnExactIsInWrong : ChangeSpec := { name := "fnExactIsIn", fn := fun _ => fun
  | [d1, d2] => { results := [.lit (.bool false)], args := [d1, d2] }
  | _ => none }
def FnExactIsInWrongFalsely : Prop := fnExactIsInRow.holds Try.pinned (OpenSpec.ofChange fnExactIsInWrong)

/- THE SECOND FORM. 'bulk': how many values and letters a reading holds, each counted each time it is reached (what is shared counts as often as it is met; a slice's spare places count too). A statement '..UptoSaid' is the law's where the arguments, and the package variables that the reading takes, are together of bulk at most 1048576: NARROWER than '..Said'. Prove '..Said' where nothing that the law and all that it calls make is longer than what came in: it says more and counts as full. Else prove '..UptoSaid'. A law counts once. -/
mutual
def uptoBulk {H : Type} : DataW H → Nat
  | .lit (.string bytes) => bytes.length + 1
  | .lit _ => 1
  | .nil => 1
  | .ptr d => uptoBulk d + 1
  | .slice elems spare => uptoBulkAll elems + uptoBulkAll spare + 1
  | .agg parts => uptoBulkAll parts + 1
  | .iface _ d => uptoBulk d + 1
  | .map entries => uptoBulkEntries entries + 1
  | .held _ => 1
def uptoBulkAll {H : Type} : List (DataW H) → Nat
  | [] => 0
  | d :: r => uptoBulk d + uptoBulkAll r
def uptoBulkEntries {H : Type} : List (Lit × DataW H) → Nat
  | [] => 0
  | x :: r => uptoBulkEntry x + uptoBulkEntries r
def uptoBulkEntry {H : Type} : Lit × DataW H → Nat
  | (.string bytes, d) => bytes.length + uptoBulk d + 1
  | (_, d) => uptoBulk d + 1
 end
def uptoSmall : (H : Type) → List (DataW H) → Bool := fun _ ds => decide (uptoBulkAll ds ≤ 1048576)
def OpenSpec.upto (s : _root_.Go.ChangeSpec) : _root_.Go.OpenSpec := { _root_.Go.OpenSpec.ofChange s with cond := some uptoSmall }

/-- 'laws.FnExactIsValidSector', WHERE WHAT IT READS IS OF BULK AT MOST 1048576: true; the input reads as it did. -/
def fnExactIsValidSectorUptoRow : OpenClaim := { program := "ytphpdlofeijddaa", sum := "3ce3c177bc90bfed027e304eb8a53338004a5c2e4ef0b37f80a742a95c4762be", func := "loop.example/g00875/laws.FnExactIsValidSector", spec := "fnExactIsValidSector", apart := false, narrowed := true }
def FnExactIsValidSectorUptoSaid : Prop := fnExactIsValidSectorUptoRow.holds Try.pinned (OpenSpec.upto fnExactIsValidSectorSpec)

/-- 'laws.FnExactSectorBox', WHERE WHAT IT READS IS OF BULK AT MOST 1048576: true; the input reads as it did. -/
def fnExactSectorBoxUptoRow : OpenClaim := { program := "ytphpdlofeijddaa", sum := "3ce3c177bc90bfed027e304eb8a53338004a5c2e4ef0b37f80a742a95c4762be", func := "loop.example/g00875/laws.FnExactSectorBox", spec := "fnExactSectorBox", apart := false, narrowed := true }
def FnExactSectorBoxUptoSaid : Prop := fnExactSectorBoxUptoRow.holds Try.pinned (OpenSpec.upto fnExactSectorBoxSpec)

/-- 'laws.FnExactCrossedSides', WHERE WHAT IT READS IS OF BULK AT MOST 1048576: true; the input reads as it did. -/
def fnExactCrossedSidesUptoRow : OpenClaim := { program := "ytphpdlofeijddaa", sum := "3ce3c177bc90bfed027e304eb8a53338004a5c2e4ef0b37f80a742a95c4762be", func := "loop.example/g00875/laws.FnExactCrossedSides", spec := "fnExactCrossedSides", apart := false, narrowed := true }
def FnExactCrossedSidesUptoSaid : Prop := fnExactCrossedSidesUptoRow.holds Try.pinned (OpenSpec.upto fnExactCrossedSidesSpec)

/-- 'laws.FnExactIsOnBorder', WHERE WHAT IT READS IS OF BULK AT MOST 1048576: true; the input reads as it did. -/
def fnExactIsOnBorderUptoRow : OpenClaim := { program := "ytphpdlofeijddaa", sum := "3ce3c177bc90bfed027e304eb8a53338004a5c2e4ef0b37f80a742a95c4762be", func := "loop.example/g00875/laws.FnExactIsOnBorder", spec := "fnExactIsOnBorder", apart := false, narrowed := true }
def FnExactIsOnBorderUptoSaid : Prop := fnExactIsOnBorderUptoRow.holds Try.pinned (OpenSpec.upto fnExactIsOnBorderSpec)

/-- 'laws.FnExactDoubleArea', WHERE WHAT IT READS IS OF BULK AT MOST 1048576: true; the input reads as it did. -/
def fnExactDoubleAreaUptoRow : OpenClaim := { program := "ytphpdlofeijddaa", sum := "3ce3c177bc90bfed027e304eb8a53338004a5c2e4ef0b37f80a742a95c4762be", func := "loop.example/g00875/laws.FnExactDoubleArea", spec := "fnExactDoubleArea", apart := false, narrowed := true }
def FnExactDoubleAreaUptoSaid : Prop := fnExactDoubleAreaUptoRow.holds Try.pinned (OpenSpec.upto fnExactDoubleAreaSpec)

/-- 'laws.FnExactSameSector', WHERE WHAT IT READS IS OF BULK AT MOST 1048576: true; the input reads as it did. -/
def fnExactSameSectorUptoRow : OpenClaim := { program := "ytphpdlofeijddaa", sum := "3ce3c177bc90bfed027e304eb8a53338004a5c2e4ef0b37f80a742a95c4762be", func := "loop.example/g00875/laws.FnExactSameSector", spec := "fnExactSameSector", apart := false, narrowed := true }
def FnExactSameSectorUptoSaid : Prop := fnExactSameSectorUptoRow.holds Try.pinned (OpenSpec.upto fnExactSameSectorSpec)

/-- 'laws.FnExactTurnedSector', WHERE WHAT IT READS IS OF BULK AT MOST 1048576: true; the input reads as it did. -/
def fnExactTurnedSectorUptoRow : OpenClaim := { program := "ytphpdlofeijddaa", sum := "3ce3c177bc90bfed027e304eb8a53338004a5c2e4ef0b37f80a742a95c4762be", func := "loop.example/g00875/laws.FnExactTurnedSector", spec := "fnExactTurnedSector", apart := false, narrowed := true }
def FnExactTurnedSectorUptoSaid : Prop := fnExactTurnedSectorUptoRow.holds Try.pinned (OpenSpec.upto fnExactTurnedSectorSpec)

/-- 'laws.FnExactIsIn', WHERE WHAT IT READS IS OF BULK AT MOST 1048576: true; the input reads as it did. -/
def fnExactIsInUptoRow : OpenClaim := { program := "ytphpdlofeijddaa", sum := "3ce3c177bc90bfed027e304eb8a53338004a5c2e4ef0b37f80a742a95c4762be", func := "loop.example/g00875/laws.FnExactIsIn", spec := "fnExactIsIn", apart := false, narrowed := true }
def FnExactIsInUptoSaid : Prop := fnExactIsInUptoRow.holds Try.pinned (OpenSpec.upto fnExactIsInSpec)

end Rows
end Go.Proofs.Ytphpdlofeijddaa
