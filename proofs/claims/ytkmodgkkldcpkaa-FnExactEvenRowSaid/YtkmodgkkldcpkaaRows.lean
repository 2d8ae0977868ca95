/-
  No cell of these rows narrows 'for every input' (looked for: loops, veiled, ifaces, maps, wideKeys, modest, calm, conditions, laid).
  DERIVED. THE GIVEN ROWS OF THIS SEAT. 12 by the template 'for every input the law returns true; each argument reads behind the call as it read before'; 0 by the template 'total and deterministic' (their statements: YtkmodgkkldcpkaaTotals.lean).
  GIVEN WITH THE SEED: the statements are not yours to turn. If you find one false, say at which input.
  Laid BY PROGRAM, IN A SANDBOX (cutbox-rows.mjs): the forced cells as the released guide's own fill.sh prints them over the translation 210f0b6e49a19f03… (all of the seat's roots in one cut). By AI agents, Wed Nov 11 2026. No macro, syntax, notation, axiom, sorry.
-/
import Derived.Test.YtkmodgkkldcpkaaChecked
import GoSem.Claim
import GoSem.ClaimJoined
import GoSem.ClaimMapViews
import Derived.JoinedTies
import Derived.KernelRfl
namespace Go.Proofs.Ytkmodgkkldcpkaa
/- THE CELL 'sum', in the pinned program and in every row, IS THE sha256 OF THE DUMP (.gsa) THAT YtkmodgkkldcpkaaProg.lean LOADS. Nothing in Lean hashes anything: it is a label: what it is worth is what the hold of that sum in a sandbox is worth. -/
noncomputable def Try.pinned : Pinned := { name := "ytkmodgkkldcpkaa", sum := "210f0b6e49a19f033f0bb592c6116fc186255520f2da9ac9f0c8a61a66e5c985", checked := Try.checked }
namespace Rows
def none {H : Type} : Left H := { results := [], args := [] }

/-- 'laws.FnExactSameTable': WHATEVER THE INPUT: true; the input reads as it did. -/
def fnExactSameTableSpec : ChangeSpec := { name := "fnExactSameTable", fn := fun _ => fun
  | [d1, d2] => { results := [.lit (.bool true)], args := [d1, d2] }
  | _ => none }
def fnExactSameTableRow : OpenClaim := { program := "ytkmodgkkldcpkaa", sum := "210f0b6e49a19f033f0bb592c6116fc186255520f2da9ac9f0c8a61a66e5c985", func := "loop.example/g01364/laws.FnExactSameTable", spec := "fnExactSameTable", inPlace := ["math.Float32bits", "math.Float64bits"], unfollowed := true, recurses := true, apart := false }
def FnExactSameTableSaid : Prop := fnExactSameTableRow.holds Try.pinned (OpenSpec.ofChange fnExactSameTableSpec)

/-- ITS FALSE NEIGHBOUR: 'it returns false'. Refute it at one input. -/
def fnExactSameTableWrong : ChangeSpec := { name := "fnExactSameTable", fn := fun _ => fun
  | [d1, d2] => { results := [.lit (.bool false)], args := [d1, d2] }
  | _ => none }
def FnExactSameTableWrongFalsely : Prop := fnExactSameTableRow.holds Try.pinned (OpenSpec.ofChange fnExactSameTableWrong)

/-- 'laws.FnExactValidTable': WHATEVER THE INPUT: true; the input reads as it did. -/
def fnExactValidTableSpec : ChangeSpec := { name := "fnExactValidTable", fn := fun _ => fun
  | [d] => { results := [.lit (.bool true)], args := [d] }
  | _ => none }
def fnExactValidTableRow : OpenClaim := { program := "ytkmodgkkldcpkaa", sum := "210f0b6e49a19f033f0bb592c6116fc186255520f2da9ac9f0c8a61a66e5c985", func := "loop.example/g01364/laws.FnExactValidTable", spec := "fnExactValidTable", apart := false }
def FnExactValidTableSaid : Prop := fnExactValidTableRow.holds Try.pinned (OpenSpec.ofChange fnExactValidTableSpec)

/-- ITS FALSE NEIGHBOUR: 'it returns false'. Refute it at one input. -/
def fnExactValidTableWrong : ChangeSpec := { name := "fnExactValidTable", fn := fun _ => fun
  | [d] => { results := [.lit (.bool false)], args := [d] }
  | _ => none }
def FnExactValidTableWrongFalsely : Prop := fnExactValidTableRow.holds Try.pinned (OpenSpec.ofChange fnExactValidTableWrong)

/-- 'laws.FnExactMixRows': WHATEVER THE INPUT: true; the input reads as it did. -/
def fnExactMixRowsSpec : ChangeSpec := { name := "fnExactMixRows", fn := fun _ => fun
  | [d1, d2, d3] => { results := [.lit (.bool true)], args := [d1, d2, d3] }
  | _ => none }
def fnExactMixRowsRow : OpenClaim := { program := "ytkmodgkkldcpkaa", sum := "210f0b6e49a19f033f0bb592c6116fc186255520f2da9ac9f0c8a61a66e5c985", func := "loop.example/g01364/laws.FnExactMixRows", spec := "fnExactMixRows", apart := false }
def FnExactMixRowsSaid : Prop := fnExactMixRowsRow.holds Try.pinned (OpenSpec.ofChange fnExactMixRowsSpec)

/-- ITS FALSE NEIGHBOUR: 'it returns false'. Refute it at one input. -/
def fnExactMixRowsWrong : ChangeSpec := { name := "fnExactMixRows", fn := fun _ => fun
  | [d1, d2, d3] => { results := [.lit (.bool false)], args := [d1, d2, d3] }
  | _ => none }
def FnExactMixRowsWrongFalsely : Prop := fnExactMixRowsRow.holds Try.pinned (OpenSpec.ofChange fnExactMixRowsWrong)

/-- 'laws.FnExactJoinRows': WHATEVER THE INPUT: true; the input reads as it did. -/
def fnExactJoinRowsSpec : ChangeSpec := { name := "fnExactJoinRows", fn := fun _ => fun
  | [d1, d2] => { results := [.lit (.bool true)], args := [d1, d2] }
  | _ => none }
def fnExactJoinRowsRow : OpenClaim := { program := "ytkmodgkkldcpkaa", sum := "210f0b6e49a19f033f0bb592c6116fc186255520f2da9ac9f0c8a61a66e5c985", func := "loop.example/g01364/laws.FnExactJoinRows", spec := "fnExactJoinRows", apart := false }
def FnExactJoinRowsSaid : Prop := fnExactJoinRowsRow.holds Try.pinned (OpenSpec.ofChange fnExactJoinRowsSpec)

/-- ITS FALSE NEIGHBOUR: 'it returns false'. Refute it at one input. -/
def fnExactJoinRowsWrong : ChangeSpec := { name := "fnExactJoinRows", fn := fun _ => fun
  | [d1, d2] => { results := [.lit (.bool false)], args := [d1, d2] }
  | _ => none }
def FnExactJoinRowsWrongFalsely : Prop := fnExactJoinRowsRow.holds Try.pinned (OpenSpec.ofChange fnExactJoinRowsWrong)

/-- 'laws.FnExactEvenRow': WHATEVER THE INPUT: true; the input reads as it did. -/
def fnExactEvenRowSpec : ChangeSpec := { name := "fnExactEvenRow", fn := fun _ => fun
  | [d] => { results := [.lit (.bool true)], args := [d] }
  | _ => none }
def fnExactEvenRowRow : OpenClaim := { program := "ytkmodgkkldcpkaa", sum := "210f0b6e49a19f033f0bb592c6116fc186255520f2da9ac9f0c8a61a66e5c985", func := "loop.example/g01364/laws.FnExactEvenRow", spec := "fnExactEvenRow", apart := false }
def FnExactEvenRowSaid : Prop := fnExactEvenRowRow.holds Try.pinned (OpenSpec.ofChange fnExactEvenRowSpec)

/-- ITS FALSE NEIGHBOUR: 'it returns false'. Refute it at one input. -/
def fnExactEvenRowWrong : ChangeSpec := { name := "fnExactEvenRow", fn := fun _ => fun
  | [d] => { results := [.lit (.bool false)], args := [d] }
  | _ => none }
def FnExactEvenRowWrongFalsely : Prop := fnExactEvenRowRow.holds Try.pinned (OpenSpec.ofChange fnExactEvenRowWrong)

/-- 'laws.FnExactDrawLetters': WHATEVER THE INPUT: true; the input reads as it did. -/
def fnExactDrawLettersSpec : ChangeSpec := { name := "fnExactDrawLetters", fn := fun _ => fun
  | [d1, d2, d3] => { results := [.lit (.bool true)], args := [d1, d2, d3] }
  | _ => none }
def fnExactDrawLettersRow : OpenClaim := { program := "ytkmodgkkldcpkaa", sum := "210f0b6e49a19f033f0bb592c6116fc186255520f2da9ac9f0c8a61a66e5c985", func := "loop.example/g01364/laws.FnExactDrawLetters", spec := "fnExactDrawLetters", apart := false }
def FnExactDrawLettersSaid : Prop := fnExactDrawLettersRow.holds Try.pinned (OpenSpec.ofChange fnExactDrawLettersSpec)

/-- ITS FALSE NEIGHBOUR: 'it returns false'. Refute it at one input. -/
def fnExactDrawLettersWrong : ChangeSpec := { name := "fnExactDrawLetters", fn := fun _ => fun
  | [d1, d2, d3] => { results := [.lit (.bool false)], args := [d1, d2, d3] }
  | _ => none }
def FnExactDrawLettersWrongFalsely : Prop := fnExactDrawLettersRow.holds Try.pinned (OpenSpec.ofChange fnExactDrawLettersWrong)

/-- 'laws.FnExactRowOfCounts': WHATEVER THE INPUT: true; the input reads as it did. -/
def fnExactRowOfCountsSpec : ChangeSpec := { name := "fnExactRowOfCounts", fn := fun _ => fun
  | [d] => { results := [.lit (.bool true)], args := [d] }
  | _ => none }
def fnExactRowOfCountsRow : OpenClaim := { program := "ytkmodgkkldcpkaa", sum := "210f0b6e49a19f033f0bb592c6116fc186255520f2da9ac9f0c8a61a66e5c985", func := "loop.example/g01364/laws.FnExactRowOfCounts", spec := "fnExactRowOfCounts", apart := false }
def FnExactRowOfCountsSaid : Prop := fnExactRowOfCountsRow.holds Try.pinned (OpenSpec.ofChange fnExactRowOfCountsSpec)

/-- ITS FALSE NEIGHBOUR: 'it returns false'. Refute it at one input. -/
def fnExactRowOfCountsWrong : ChangeSpec := { name := "fnExactRowOfCounts", fn := fun _ => fun
  | [d] => { results := [.lit (.bool false)], args := [d] }
  | _ => none }
def FnExactRowOfCountsWrongFalsely : Prop := fnExactRowOfCountsRow.holds Try.pinned (OpenSpec.ofChange fnExactRowOfCountsWrong)

/-- 'laws.FnExactSmoothRow': WHATEVER THE INPUT: true; the input reads as it did. -/
def fnExactSmoothRowSpec : ChangeSpec := { name := "fnExactSmoothRow", fn := fun _ => fun
  | [d1, d2] => { results := [.lit (.bool true)], args := [d1, d2] }
  | _ => none }
def fnExactSmoothRowRow : OpenClaim := { program := "ytkmodgkkldcpkaa", sum := "210f0b6e49a19f033f0bb592c6116fc186255520f2da9ac9f0c8a61a66e5c985", func := "loop.example/g01364/laws.FnExactSmoothRow", spec := "fnExactSmoothRow", apart := false }
def FnExactSmoothRowSaid : Prop := fnExactSmoothRowRow.holds Try.pinned (OpenSpec.ofChange fnExactSmoothRowSpec)

/-- ITS FALSE NEIGHBOUR: 'it returns false'. Refute it at one input. -/
def fnExactSmoothRowWrong : ChangeSpec := { name := "fnExactSmoothRow", fn := fun _ => fun
  | [d1, d2] => { results := [.lit (.bool false)], args := [d1, d2] }
  | _ => none }
def FnExactSmoothRowWrongFalsely : Prop := fnExactSmoothRowRow.holds Try.pinned (OpenSpec.ofChange fnExactSmoothRowWrong)

/-- 'laws.FnExactTypeChance': WHATEVER THE INPUT: true; the input reads as it did. -/
def fnExactTypeChanceSpec : ChangeSpec := { name := "fnExactTypeChance", fn := fun _ => fun
  | [d1, d2] => { results := [.lit (.bool true)], args := [d1, d2] }
  | _ => none }
def fnExactTypeChanceRow : OpenClaim := { program := "ytkmodgkkldcpkaa", sum := "210f0b6e49a19f033f0bb592c6116fc186255520f2da9ac9f0c8a61a66e5c985", func := "loop.example/g01364/laws.FnExactTypeChance", spec := "fnExactTypeChance", apart := false }
def FnExactTypeChanceSaid : Prop := fnExactTypeChanceRow.holds Try.pinned (OpenSpec.ofChange fnExactTypeChanceSpec)

/-- ITS FALSE NEIGHBOUR: 'it returns false'. Refute it at one input. -/
def fnExactTypeChanceWrong : ChangeSpec := { name := "fnExactTypeChance", fn := fun _ => fun
  | [d1, d2] => { results := [.lit (.bool false)], args := [d1, d2] }
  | _ => none }
def FnExactTypeChanceWrongFalsely : Prop := fnExactTypeChanceRow.holds Try.pinned (OpenSpec.ofChange fnExactTypeChanceWrong)

/-- 'laws.FnExactEntropyOf': WHATEVER THE INPUT: true; the input reads as it did. -/
def fnExactEntropyOfSpec : ChangeSpec := { name := "fnExactEntropyOf", fn := fun _ => fun
  | [d] => { results := [.lit (.bool true)], args := [d] }
  | _ => none }
def fnExactEntropyOfRow : OpenClaim := { program := "ytkmodgkkldcpkaa", sum := "210f0b6e49a19f033f0bb592c6116fc186255520f2da9ac9f0c8a61a66e5c985", func := "loop.example/g01364/laws.FnExactEntropyOf", spec := "fnExactEntropyOf", inPlace := ["math.Float64frombits", "math.Float64bits"], apart := false }
def FnExactEntropyOfSaid : Prop := fnExactEntropyOfRow.holds Try.pinned (OpenSpec.ofChange fnExactEntropyOfSpec)

/-- ITS FALSE NEIGHBOUR: 'it returns false'. Refute it at one input. -/
def fnExactEntropyOfWrong : ChangeSpec := { name := "fnExactEntropyOf", fn := fun _ => fun
  | [d] => { results := [.lit (.bool false)], args := [d] }
  | _ => none }
def FnExactEntropyOfWrongFalsely : Prop := fnExactEntropyOfRow.holds Try.pinned (OpenSpec.ofChange fnExactEntropyOfWrong)

/-- 'laws.FnExactCrossEntropy': WHATEVER THE INPUT: true; the input reads as it did. -/
def fnExactCrossEntropySpec : ChangeSpec := { name := "fnExactCrossEntropy", fn := fun _ => fun
  | [d1, d2] => { results := [.lit (.bool true)], args := [d1, d2] }
  | _ => none }
def fnExactCrossEntropyRow : OpenClaim := { program := "ytkmodgkkldcpkaa", sum := "210f0b6e49a19f033f0bb592c6116fc186255520f2da9ac9f0c8a61a66e5c985", func := "loop.example/g01364/laws.FnExactCrossEntropy", spec := "fnExactCrossEntropy", inPlace := ["math.Float64frombits", "math.Float64bits"], apart := false }
def FnExactCrossEntropySaid : Prop := fnExactCrossEntropyRow.holds Try.pinned (OpenSpec.ofChange fnExactCrossEntropySpec)

/-- ITS FALSE NEIGHBOUR: 'it returns false'. Refute it at one input. -/
def fnExactCrossEntropyWrong : ChangeSpec := { name := "fnExactCrossEntropy", fn := fun _ => fun
  | [d1, d2] => { results := [.lit (.bool false)], args := [d1, d2] }
  | _ => none }
def FnExactCrossEntropyWrongFalsely : Prop := fnExactCrossEntropyRow.holds Try.pinned (OpenSpec.ofChange fnExactCrossEntropyWrong)

/-- 'laws.FnExactMoreBits': WHATEVER THE INPUT: true; the input reads as it did. -/
def fnExactMoreBitsSpec : ChangeSpec := { name := "fnExactMoreBits", fn := fun _ => fun
  | [d1, d2] => { results := [.lit (.bool true)], args := [d1, d2] }
  | _ => none }
def fnExactMoreBitsRow : OpenClaim := { program := "ytkmodgkkldcpkaa", sum := "210f0b6e49a19f033f0bb592c6116fc186255520f2da9ac9f0c8a61a66e5c985", func := "loop.example/g01364/laws.FnExactMoreBits", spec := "fnExactMoreBits", inPlace := ["math.Float64frombits", "math.Float64bits"], apart := false }
def FnExactMoreBitsSaid : Prop := fnExactMoreBitsRow.holds Try.pinned (OpenSpec.ofChange fnExactMoreBitsSpec)

/-- ITS FALSE NEIGHBOUR: 'it returns false'. Refute it at one input. -/
def fnExactMoreBitsWrong : ChangeSpec := { name := "fnExactMoreBits", fn := fun _ => fun
  | [d1, d2] => { results := [.lit (.bool false)], args := [d1, d2] }
  | _ => none }
def FnExactMoreBitsWrongFalsely : Prop := fnExactMoreBitsRow.holds Try.pinned (OpenSpec.ofChange fnExactMoreBitsWrong)

/- THE SECOND FORM. 'bulk': how many values and letters a reading holds, each counted each time it is reached (what is shared counts as often as it is met; a slice's spare places count too). A statement '..UptoSaid' is the law's where the arguments, and the package variables that the reading takes, are together of bulk at most 1048576: NARROWER than '..Said'. Prove '..Said' where nothing that the law and all that it calls make is longer than what came in: it says more and counts as full. Else prove '..UptoSaid'. A law counts once. -/
mutual
def uptoBulk {H : Type} : DataW H → Nat
  | .lit (.string bytes) => bytes.length + 1
  | .lit _ => 1
  | .nil => 1
  | .ptr d => uptoBulk d + 1
  | .slice elems spare => uptoBulkAll elems + uptoBulkAll spare + 1
  | .agg parts => uptoBulkAll parts + 1
  | .iface _ d => uptoBulk d + 1
  | .map entries => uptoBulkEntries entries + 1
  | .held _ => 1
def uptoBulkAll {H : Type} : List (DataW H) → Nat
  | [] => 0
  | d :: r => uptoBulk d + uptoBulkAll r
def uptoBulkEntries {H : Type} : List (Lit × DataW H) → Nat
  | [] => 0
  | x :: r => uptoBulkEntry x + uptoBulkEntries r
def uptoBulkEntry {H : Type} : Lit × DataW H → Nat
  | (.string bytes, d) => bytes.length + uptoBulk d + 1
  | (_, d) => uptoBulk d + 1
 end
def uptoSmall : (H : Type) → List (DataW H) → Bool := fun _ ds => decide (uptoBulkAll ds ≤ 1048576)
def OpenSpec.upto (s : _root_.Go.ChangeSpec) : _root_.Go.OpenSpec := { _root_.Go.OpenSpec.ofChange s with cond := some uptoSmall }

/-- 'laws.FnExactSameTable', WHERE WHAT IT READS IS OF BULK AT MOST 1048576: true; the input reads as it did. -/
def fnExactSameTableUptoRow : OpenClaim := { program := "ytkmodgkkldcpkaa", sum := "210f0b6e49a19f033f0bb592c6116fc186255520f2da9ac9f0c8a61a66e5c985", func := "loop.example/g01364/laws.FnExactSameTable", spec := "fnExactSameTable", inPlace := ["math.Float32bits", "math.Float64bits"], unfollowed := true, recurses := true, apart := false, narrowed := true }
def FnExactSameTableUptoSaid : Prop := fnExactSameTableUptoRow.holds Try.pinned (OpenSpec.upto fnExactSameTableSpec)

/-- 'laws.FnExactValidTable', WHERE WHAT IT READS IS OF BULK AT MOST 1048576: true; the input reads as it did. -/
def fnExactValidTableUptoRow : OpenClaim := { program := "ytkmodgkkldcpkaa", sum := "210f0b6e49a19f033f0bb592c6116fc186255520f2da9ac9f0c8a61a66e5c985", func := "loop.example/g01364/laws.FnExactValidTable", spec := "fnExactValidTable", apart := false, narrowed := true }
def FnExactValidTableUptoSaid : Prop := fnExactValidTableUptoRow.holds Try.pinned (OpenSpec.upto fnExactValidTableSpec)

/-- 'laws.FnExactMixRows', WHERE WHAT IT READS IS OF BULK AT MOST 1048576: true; the input reads as it did. -/
def fnExactMixRowsUptoRow : OpenClaim := { program := "ytkmodgkkldcpkaa", sum := "210f0b6e49a19f033f0bb592c6116fc186255520f2da9ac9f0c8a61a66e5c985", func := "loop.example/g01364/laws.FnExactMixRows", spec := "fnExactMixRows", apart := false, narrowed := true }
def FnExactMixRowsUptoSaid : Prop := fnExactMixRowsUptoRow.holds Try.pinned (OpenSpec.upto fnExactMixRowsSpec)

/-- 'laws.FnExactJoinRows', WHERE WHAT IT READS IS OF BULK AT MOST 1048576: true; the input reads as it did. -/
def fnExactJoinRowsUptoRow : OpenClaim := { program := "ytkmodgkkldcpkaa", sum := "210f0b6e49a19f033f0bb592c6116fc186255520f2da9ac9f0c8a61a66e5c985", func := "loop.example/g01364/laws.FnExactJoinRows", spec := "fnExactJoinRows", apart := false, narrowed := true }
def FnExactJoinRowsUptoSaid : Prop := fnExactJoinRowsUptoRow.holds Try.pinned (OpenSpec.upto fnExactJoinRowsSpec)

/-- 'laws.FnExactEvenRow', WHERE WHAT IT READS IS OF BULK AT MOST 1048576: true; the input reads as it did. -/
def fnExactEvenRowUptoRow : OpenClaim := { program := "ytkmodgkkldcpkaa", sum := "210f0b6e49a19f033f0bb592c6116fc186255520f2da9ac9f0c8a61a66e5c985", func := "loop.example/g01364/laws.FnExactEvenRow", spec := "fnExactEvenRow", apart := false, narrowed := true }
def FnExactEvenRowUptoSaid : Prop := fnExactEvenRowUptoRow.holds Try.pinned (OpenSpec.upto fnExactEvenRowSpec)

/-- 'laws.FnExactDrawLetters', WHERE WHAT IT READS IS OF BULK AT MOST 1048576: true; the input reads as it did. -/
def fnExactDrawLettersUptoRow : OpenClaim := { program := "ytkmodgkkldcpkaa", sum := "210f0b6e49a19f033f0bb592c6116fc186255520f2da9ac9f0c8a61a66e5c985", func := "loop.example/g01364/laws.FnExactDrawLetters", spec := "fnExactDrawLetters", apart := false, narrowed := true }
def FnExactDrawLettersUptoSaid : Prop := fnExactDrawLettersUptoRow.holds Try.pinned (OpenSpec.upto fnExactDrawLettersSpec)

/-- 'laws.FnExactRowOfCounts', WHERE WHAT IT READS IS OF BULK AT MOST 1048576: true; the input reads as it did. -/
def fnExactRowOfCountsUptoRow : OpenClaim := { program := "ytkmodgkkldcpkaa", sum := "210f0b6e49a19f033f0bb592c6116fc186255520f2da9ac9f0c8a61a66e5c985", func := "loop.example/g01364/laws.FnExactRowOfCounts", spec := "fnExactRowOfCounts", apart := false, narrowed := true }
def FnExactRowOfCountsUptoSaid : Prop := fnExactRowOfCountsUptoRow.holds Try.pinned (OpenSpec.upto fnExactRowOfCountsSpec)

/-- 'laws.FnExactSmoothRow', WHERE WHAT IT READS IS OF BULK AT MOST 1048576: true; the input reads as it did. -/
def fnExactSmoothRowUptoRow : OpenClaim := { program := "ytkmodgkkldcpkaa", sum := "210f0b6e49a19f033f0bb592c6116fc186255520f2da9ac9f0c8a61a66e5c985", func := "loop.example/g01364/laws.FnExactSmoothRow", spec := "fnExactSmoothRow", apart := false, narrowed := true }
def FnExactSmoothRowUptoSaid : Prop := fnExactSmoothRowUptoRow.holds Try.pinned (OpenSpec.upto fnExactSmoothRowSpec)

/-- 'laws.FnExactTypeChance', WHERE WHAT IT READS IS OF BULK AT MOST 1048576: true; the input reads as it did. -/
def fnExactTypeChanceUptoRow : OpenClaim := { program := "ytkmodgkkldcpkaa", sum := "210f0b6e49a19f033f0bb592c6116fc186255520f2da9ac9f0c8a61a66e5c985", func := "loop.example/g01364/laws.FnExactTypeChance", spec := "fnExactTypeChance", apart := false, narrowed := true }
def FnExactTypeChanceUptoSaid : Prop := fnExactTypeChanceUptoRow.holds Try.pinned (OpenSpec.upto fnExactTypeChanceSpec)

/-- 'laws.FnExactEntropyOf', WHERE WHAT IT READS IS OF BULK AT MOST 1048576: true; the input reads as it did. -/
def fnExactEntropyOfUptoRow : OpenClaim := { program := "ytkmodgkkldcpkaa", sum := "210f0b6e49a19f033f0bb592c6116fc186255520f2da9ac9f0c8a61a66e5c985", func := "loop.example/g01364/laws.FnExactEntropyOf", spec := "fnExactEntropyOf", inPlace := ["math.Float64frombits", "math.Float64bits"], apart := false, narrowed := true }
def FnExactEntropyOfUptoSaid : Prop := fnExactEntropyOfUptoRow.holds Try.pinned (OpenSpec.upto fnExactEntropyOfSpec)

/-- 'laws.FnExactCrossEntropy', WHERE WHAT IT READS IS OF BULK AT MOST 1048576: true; the input reads as it did. -/
def fnExactCrossEntropyUptoRow : OpenClaim := { program := "ytkmodgkkldcpkaa", sum := "210f0b6e49a19f033f0bb592c6116fc186255520f2da9ac9f0c8a61a66e5c985", func := "loop.example/g01364/laws.FnExactCrossEntropy", spec := "fnExactCrossEntropy", inPlace := ["math.Float64frombits", "math.Float64bits"], apart := false, narrowed := true }
def FnExactCrossEntropyUptoSaid : Prop := fnExactCrossEntropyUptoRow.holds Try.pinned (OpenSpec.upto fnExactCrossEntropySpec)

/-- 'laws.FnExactMoreBits', WHERE WHAT IT READS IS OF BULK AT MOST 1048576: true; the input reads as it did. -/
def fnExactMoreBitsUptoRow : OpenClaim := { program := "ytkmodgkkldcpkaa", sum := "210f0b6e49a19f033f0bb592c6116fc186255520f2da9ac9f0c8a61a66e5c985", func := "loop.example/g01364/laws.FnExactMoreBits", spec := "fnExactMoreBits", inPlace := ["math.Float64frombits", "math.Float64bits"], apart := false, narrowed := true }
def FnExactMoreBitsUptoSaid : Prop := fnExactMoreBitsUptoRow.holds Try.pinned (OpenSpec.upto fnExactMoreBitsSpec)

end Rows
end Go.Proofs.Ytkmodgkkldcpkaa
