/-
  No cell of these rows narrows 'for every input' (looked for: loops, veiled, ifaces, maps, wideKeys, modest, calm, conditions, laid).
  DERIVED. THE GIVEN ROWS OF THIS SEAT. 12 by the template 'for every input the law returns true; each argument reads behind the call as it read before'; 0 by the template 'total and deterministic' (their statements: YthlocjkmbmniaaaTotals.lean).
  GIVEN WITH THE SEED: the statements are not yours to turn. If you find one false, say at which input.
  Laid BY PROGRAM, IN A SANDBOX (cutbox-rows.mjs): the forced cells as the released guide's own fill.sh prints them over the translation bb503977753d7ede… (all of the seat's roots in one cut). By AI agents, Wed Nov 11 2026. No macro, syntax, notation, axiom, sorry.
-/
import Derived.Test.YthlocjkmbmniaaaChecked
import GoSem.Claim
import GoSem.ClaimJoined
import GoSem.ClaimMapViews
import Derived.JoinedTies
import Derived.KernelRfl
namespace Go.Proofs.Ythlocjkmbmniaaa
/- THE CELL 'sum', in the pinned program and in every row, IS THE sha256 OF THE DUMP (.gsa) THAT YthlocjkmbmniaaaProg.lean LOADS. Nothing in Lean hashes anything: it is a label: what it is worth is what the hold of that sum in a sandbox is worth. -/
noncomputable def Try.pinned : Pinned := { name := "ythlocjkmbmniaaa", sum := "bb503977753d7ede086336c01046fc8384dc1989e44800004deae630c4ed7e55", checked := Try.checked }
namespace Rows
def none {H : Type} : Left H := { results := [], args := [] }

/-- 'laws.FnExactDotNumbers': WHATEVER THE INPUT: true; the input reads as it did. -/
def fnExactDotNumbersSpec : ChangeSpec := { name := "fnExactDotNumbers", fn := fun _ => fun
  | [d1, d2] => { results := [.lit (.bool true)], args := [d1, d2] }
  | _ => none }
def fnExactDotNumbersRow : OpenClaim := { program := "ythlocjkmbmniaaa", sum := "bb503977753d7ede086336c01046fc8384dc1989e44800004deae630c4ed7e55", func := "loop.example/g01364/laws.FnExactDotNumbers", spec := "fnExactDotNumbers", apart := false }
def FnExactDotNumbersSaid : Prop := fnExactDotNumbersRow.holds Try.pinned (OpenSpec.ofChange fnExactDotNumbersSpec)

/-- ITS FALSE NEIGHBOUR: 'it returns false'. Refute it at one input. -/
def fnExactDotNumbersWrong : ChangeSpec := { name := "fnExactDotNumbers", fn := fun _ => fun
  | [d1, d2] => { results := [.lit (.bool false)], args := [d1, d2] }
  | _ => none }
def FnExactDotNumbersWrongFalsely : Prop := fnExactDotNumbersRow.holds Try.pinned (OpenSpec.ofChange fnExactDotNumbersWrong)

/-- 'laws.FnExactSumNumbers': WHATEVER THE INPUT: true; the input reads as it did. -/
def fnExactSumNumbersSpec : ChangeSpec := { name := "fnExactSumNumbers", fn := fun _ => fun
  | [d] => { results := [.lit (.bool true)], args := [d] }
  | _ => none }
def fnExactSumNumbersRow : OpenClaim := { program := "ythlocjkmbmniaaa", sum := "bb503977753d7ede086336c01046fc8384dc1989e44800004deae630c4ed7e55", func := "loop.example/g01364/laws.FnExactSumNumbers", spec := "fnExactSumNumbers", apart := false }
def FnExactSumNumbersSaid : Prop := fnExactSumNumbersRow.holds Try.pinned (OpenSpec.ofChange fnExactSumNumbersSpec)

/-- ITS FALSE NEIGHBOUR: 'it returns false'. Refute it at one input. -/
def fnExactSumNumbersWrong : ChangeSpec := { name := "fnExactSumNumbers", fn := fun _ => fun
  | [d] => { results := [.lit (.bool false)], args := [d] }
  | _ => none }
def FnExactSumNumbersWrongFalsely : Prop := fnExactSumNumbersRow.holds Try.pinned (OpenSpec.ofChange fnExactSumNumbersWrong)

/-- 'laws.FnExactIsRow': WHATEVER THE INPUT: true; the input reads as it did. -/
def fnExactIsRowSpec : ChangeSpec := { name := "fnExactIsRow", fn := fun _ => fun
  | [d] => { results := [.lit (.bool true)], args := [d] }
  | _ => none }
def fnExactIsRowRow : OpenClaim := { program := "ythlocjkmbmniaaa", sum := "bb503977753d7ede086336c01046fc8384dc1989e44800004deae630c4ed7e55", func := "loop.example/g01364/laws.FnExactIsRow", spec := "fnExactIsRow", apart := false }
def FnExactIsRowSaid : Prop := fnExactIsRowRow.holds Try.pinned (OpenSpec.ofChange fnExactIsRowSpec)

/-- ITS FALSE NEIGHBOUR: 'it returns false'. Refute it at one input. -/
def fnExactIsRowWrong : ChangeSpec := { name := "fnExactIsRow", fn := fun _ => fun
  | [d] => { results := [.lit (.bool false)], args := [d] }
  | _ => none }
def FnExactIsRowWrongFalsely : Prop := fnExactIsRowRow.holds Try.pinned (OpenSpec.ofChange fnExactIsRowWrong)

/-- 'laws.FnExactSineTurns': WHATEVER THE INPUT: true; the input reads as it did. -/
def fnExactSineTurnsSpec : ChangeSpec := { name := "fnExactSineTurns", fn := fun _ => fun
  | [d] => { results := [.lit (.bool true)], args := [d] }
  | _ => none }
def fnExactSineTurnsRow : OpenClaim := { program := "ythlocjkmbmniaaa", sum := "bb503977753d7ede086336c01046fc8384dc1989e44800004deae630c4ed7e55", func := "loop.example/g01364/laws.FnExactSineTurns", spec := "fnExactSineTurns", inPlace := ["math.Float64frombits", "math.Float64bits"], apart := false }
def FnExactSineTurnsSaid : Prop := fnExactSineTurnsRow.holds Try.pinned (OpenSpec.ofChange fnExactSineTurnsSpec)

/-- ITS FALSE NEIGHBOUR: 'it returns false'. Refute it at one input. -/
def fnExactSineTurnsWrong : ChangeSpec := { name := "fnExactSineTurns", fn := fun _ => fun
  | [d] => { results := [.lit (.bool false)], args := [d] }
  | _ => none }
def FnExactSineTurnsWrongFalsely : Prop := fnExactSineTurnsRow.holds Try.pinned (OpenSpec.ofChange fnExactSineTurnsWrong)

/-- 'laws.FnExactRootNumber': WHATEVER THE INPUT: true; the input reads as it did. -/
def fnExactRootNumberSpec : ChangeSpec := { name := "fnExactRootNumber", fn := fun _ => fun
  | [d] => { results := [.lit (.bool true)], args := [d] }
  | _ => none }
def fnExactRootNumberRow : OpenClaim := { program := "ythlocjkmbmniaaa", sum := "bb503977753d7ede086336c01046fc8384dc1989e44800004deae630c4ed7e55", func := "loop.example/g01364/laws.FnExactRootNumber", spec := "fnExactRootNumber", inPlace := ["math.sqrt"], apart := false }
def FnExactRootNumberSaid : Prop := fnExactRootNumberRow.holds Try.pinned (OpenSpec.ofChange fnExactRootNumberSpec)

/-- ITS FALSE NEIGHBOUR: 'it returns false'. Refute it at one input. -/
def fnExactRootNumberWrong : ChangeSpec := { name := "fnExactRootNumber", fn := fun _ => fun
  | [d] => { results := [.lit (.bool false)], args := [d] }
  | _ => none }
def FnExactRootNumberWrongFalsely : Prop := fnExactRootNumberRow.holds Try.pinned (OpenSpec.ofChange fnExactRootNumberWrong)

/-- 'laws.FnExactLogNumber': WHATEVER THE INPUT: true; the input reads as it did. -/
def fnExactLogNumberSpec : ChangeSpec := { name := "fnExactLogNumber", fn := fun _ => fun
  | [d] => { results := [.lit (.bool true)], args := [d] }
  | _ => none }
def fnExactLogNumberRow : OpenClaim := { program := "ythlocjkmbmniaaa", sum := "bb503977753d7ede086336c01046fc8384dc1989e44800004deae630c4ed7e55", func := "loop.example/g01364/laws.FnExactLogNumber", spec := "fnExactLogNumber", inPlace := ["math.Float64frombits", "math.Float64bits"], apart := false }
def FnExactLogNumberSaid : Prop := fnExactLogNumberRow.holds Try.pinned (OpenSpec.ofChange fnExactLogNumberSpec)

/-- ITS FALSE NEIGHBOUR: 'it returns false'. Refute it at one input. -/
def fnExactLogNumberWrong : ChangeSpec := { name := "fnExactLogNumber", fn := fun _ => fun
  | [d] => { results := [.lit (.bool false)], args := [d] }
  | _ => none }
def FnExactLogNumberWrongFalsely : Prop := fnExactLogNumberRow.holds Try.pinned (OpenSpec.ofChange fnExactLogNumberWrong)

/-- 'laws.FnExactFarOfRows': WHATEVER THE INPUT: true; the input reads as it did. -/
def fnExactFarOfRowsSpec : ChangeSpec := { name := "fnExactFarOfRows", fn := fun _ => fun
  | [d1, d2] => { results := [.lit (.bool true)], args := [d1, d2] }
  | _ => none }
def fnExactFarOfRowsRow : OpenClaim := { program := "ythlocjkmbmniaaa", sum := "bb503977753d7ede086336c01046fc8384dc1989e44800004deae630c4ed7e55", func := "loop.example/g01364/laws.FnExactFarOfRows", spec := "fnExactFarOfRows", apart := false }
def FnExactFarOfRowsSaid : Prop := fnExactFarOfRowsRow.holds Try.pinned (OpenSpec.ofChange fnExactFarOfRowsSpec)

/-- ITS FALSE NEIGHBOUR: 'it returns false'. Refute it at one input. -/
def fnExactFarOfRowsWrong : ChangeSpec := { name := "fnExactFarOfRows", fn := fun _ => fun
  | [d1, d2] => { results := [.lit (.bool false)], args := [d1, d2] }
  | _ => none }
def FnExactFarOfRowsWrongFalsely : Prop := fnExactFarOfRowsRow.holds Try.pinned (OpenSpec.ofChange fnExactFarOfRowsWrong)

/-- 'laws.FnExactSurpriseOf': WHATEVER THE INPUT: true; the input reads as it did. -/
def fnExactSurpriseOfSpec : ChangeSpec := { name := "fnExactSurpriseOf", fn := fun _ => fun
  | [d] => { results := [.lit (.bool true)], args := [d] }
  | _ => none }
def fnExactSurpriseOfRow : OpenClaim := { program := "ythlocjkmbmniaaa", sum := "bb503977753d7ede086336c01046fc8384dc1989e44800004deae630c4ed7e55", func := "loop.example/g01364/laws.FnExactSurpriseOf", spec := "fnExactSurpriseOf", inPlace := ["math.Float64frombits", "math.Float64bits"], apart := false }
def FnExactSurpriseOfSaid : Prop := fnExactSurpriseOfRow.holds Try.pinned (OpenSpec.ofChange fnExactSurpriseOfSpec)

/-- ITS FALSE NEIGHBOUR: 'it returns false'. Refute it at one input. -/
def fnExactSurpriseOfWrong : ChangeSpec := { name := "fnExactSurpriseOf", fn := fun _ => fun
  | [d] => { results := [.lit (.bool false)], args := [d] }
  | _ => none }
def FnExactSurpriseOfWrongFalsely : Prop := fnExactSurpriseOfRow.holds Try.pinned (OpenSpec.ofChange fnExactSurpriseOfWrong)

/-- 'laws.FnExactPhasorOf': WHATEVER THE INPUT: true; the input reads as it did. -/
def fnExactPhasorOfSpec : ChangeSpec := { name := "fnExactPhasorOf", fn := fun _ => fun
  | [d] => { results := [.lit (.bool true)], args := [d] }
  | _ => none }
def fnExactPhasorOfRow : OpenClaim := { program := "ythlocjkmbmniaaa", sum := "bb503977753d7ede086336c01046fc8384dc1989e44800004deae630c4ed7e55", func := "loop.example/g01364/laws.FnExactPhasorOf", spec := "fnExactPhasorOf", inPlace := ["math.Float32frombits", "math.Float64frombits", "math.Float64bits"], apart := false }
def FnExactPhasorOfSaid : Prop := fnExactPhasorOfRow.holds Try.pinned (OpenSpec.ofChange fnExactPhasorOfSpec)

/-- ITS FALSE NEIGHBOUR: 'it returns false'. Refute it at one input. -/
def fnExactPhasorOfWrong : ChangeSpec := { name := "fnExactPhasorOf", fn := fun _ => fun
  | [d] => { results := [.lit (.bool false)], args := [d] }
  | _ => none }
def FnExactPhasorOfWrongFalsely : Prop := fnExactPhasorOfRow.holds Try.pinned (OpenSpec.ofChange fnExactPhasorOfWrong)

/-- 'laws.FnExactTenthsOf': WHATEVER THE INPUT: true; the input reads as it did. -/
def fnExactTenthsOfSpec : ChangeSpec := { name := "fnExactTenthsOf", fn := fun _ => fun
  | [d] => { results := [.lit (.bool true)], args := [d] }
  | _ => none }
def fnExactTenthsOfRow : OpenClaim := { program := "ythlocjkmbmniaaa", sum := "bb503977753d7ede086336c01046fc8384dc1989e44800004deae630c4ed7e55", func := "loop.example/g01364/laws.FnExactTenthsOf", spec := "fnExactTenthsOf", inPlace := ["math.Float64frombits", "math.Float64bits", "math.archFloor", "math.archTrunc"], apart := false }
def FnExactTenthsOfSaid : Prop := fnExactTenthsOfRow.holds Try.pinned (OpenSpec.ofChange fnExactTenthsOfSpec)

/-- ITS FALSE NEIGHBOUR: 'it returns false'. Refute it at one input. -/
def fnExactTenthsOfWrong : ChangeSpec := { name := "fnExactTenthsOf", fn := fun _ => fun
  | [d] => { results := [.lit (.bool false)], args := [d] }
  | _ => none }
def FnExactTenthsOfWrongFalsely : Prop := fnExactTenthsOfRow.holds Try.pinned (OpenSpec.ofChange fnExactTenthsOfWrong)

/-- 'laws.FnExactAngleTurns': WHATEVER THE INPUT: true; the input reads as it did. -/
def fnExactAngleTurnsSpec : ChangeSpec := { name := "fnExactAngleTurns", fn := fun _ => fun
  | [d1, d2] => { results := [.lit (.bool true)], args := [d1, d2] }
  | _ => none }
def fnExactAngleTurnsRow : OpenClaim := { program := "ythlocjkmbmniaaa", sum := "bb503977753d7ede086336c01046fc8384dc1989e44800004deae630c4ed7e55", func := "loop.example/g01364/laws.FnExactAngleTurns", spec := "fnExactAngleTurns", inPlace := ["math.Float64frombits", "math.Float64bits", "math.sqrt"], apart := false }
def FnExactAngleTurnsSaid : Prop := fnExactAngleTurnsRow.holds Try.pinned (OpenSpec.ofChange fnExactAngleTurnsSpec)

/-- ITS FALSE NEIGHBOUR: 'it returns false'. Refute it at one input. -/
def fnExactAngleTurnsWrong : ChangeSpec := { name := "fnExactAngleTurns", fn := fun _ => fun
  | [d1, d2] => { results := [.lit (.bool false)], args := [d1, d2] }
  | _ => none }
def FnExactAngleTurnsWrongFalsely : Prop := fnExactAngleTurnsRow.holds Try.pinned (OpenSpec.ofChange fnExactAngleTurnsWrong)

/-- 'laws.FnExactRootFar': WHATEVER THE INPUT: true; the input reads as it did. -/
def fnExactRootFarSpec : ChangeSpec := { name := "fnExactRootFar", fn := fun _ => fun
  | [d1, d2] => { results := [.lit (.bool true)], args := [d1, d2] }
  | _ => none }
def fnExactRootFarRow : OpenClaim := { program := "ythlocjkmbmniaaa", sum := "bb503977753d7ede086336c01046fc8384dc1989e44800004deae630c4ed7e55", func := "loop.example/g01364/laws.FnExactRootFar", spec := "fnExactRootFar", inPlace := ["math.sqrt"], apart := false }
def FnExactRootFarSaid : Prop := fnExactRootFarRow.holds Try.pinned (OpenSpec.ofChange fnExactRootFarSpec)

/-- ITS FALSE NEIGHBOUR: 'it returns false'. Refute it at one input. -/
def fnExactRootFarWrong : ChangeSpec := { name := "fnExactRootFar", fn := fun _ => fun
  | [d1, d2] => { results := [.lit (.bool false)], args := [d1, d2] }
  | _ => none }
def FnExactRootFarWrongFalsely : Prop := fnExactRootFarRow.holds Try.pinned (OpenSpec.ofChange fnExactRootFarWrong)

/- THE SECOND FORM. 'bulk': how many values and letters a reading holds, each counted each time it is reached (what is shared counts as often as it is met; a slice's spare places count too). A statement '..UptoSaid' is the law's where the arguments, and the package variables that the reading takes, are together of bulk at most 1048576: NARROWER than '..Said'. Prove '..Said' where nothing that the law and all that it calls make is longer than what came in: it says more and counts as full. Else prove '..UptoSaid'. A law counts once. -/
mutual
def uptoBulk {H : Type} : DataW H → Nat
  | .lit (.string bytes) => bytes.length + 1
  | .lit _ => 1
  | .nil => 1
  | .ptr d => uptoBulk d + 1
  | .slice elems spare => uptoBulkAll elems + uptoBulkAll spare + 1
  | .agg parts => uptoBulkAll parts + 1
  | .iface _ d => uptoBulk d + 1
  | .map entries => uptoBulkEntries entries + 1
  | .held _ => 1
def uptoBulkAll {H : Type} : List (DataW H) → Nat
  | [] => 0
  | d :: r => uptoBulk d + uptoBulkAll r
def uptoBulkEntries {H : Type} : List (Lit × DataW H) → Nat
  | [] => 0
  | x :: r => uptoBulkEntry x + uptoBulkEntries r
def uptoBulkEntry {H : Type} : Lit × DataW H → Nat
  | (.string bytes, d) => bytes.length + uptoBulk d + 1
  | (_, d) => uptoBulk d + 1
 end
def uptoSmall : (H : Type) → List (DataW H) → Bool := fun _ ds => decide (uptoBulkAll ds ≤ 1048576)
def OpenSpec.upto (s : _root_.Go.ChangeSpec) : _root_.Go.OpenSpec := { _root_.Go.OpenSpec.ofChange s with cond := some uptoSmall }

/-- 'laws.FnExactDotNumbers', WHERE WHAT IT READS IS OF BULK AT MOST 1048576: true; the input reads as it did. -/
def fnExactDotNumbersUptoRow : OpenClaim := { program := "ythlocjkmbmniaaa", sum := "bb503977753d7ede086336c01046fc8384dc1989e44800004deae630c4ed7e55", func := "loop.example/g01364/laws.FnExactDotNumbers", spec := "fnExactDotNumbers", apart := false, narrowed := true }
def FnExactDotNumbersUptoSaid : Prop := fnExactDotNumbersUptoRow.holds Try.pinned (OpenSpec.upto fnExactDotNumbersSpec)

/-- 'laws.FnExactSumNumbers', WHERE WHAT IT READS IS OF BULK AT MOST 1048576: true; the input reads as it did. -/
def fnExactSumNumbersUptoRow : OpenClaim := { program := "ythlocjkmbmniaaa", sum := "bb503977753d7ede086336c01046fc8384dc1989e44800004deae630c4ed7e55", func := "loop.example/g01364/laws.FnExactSumNumbers", spec := "fnExactSumNumbers", apart := false, narrowed := true }
def FnExactSumNumbersUptoSaid : Prop := fnExactSumNumbersUptoRow.holds Try.pinned (OpenSpec.upto fnExactSumNumbersSpec)

/-- 'laws.FnExactIsRow', WHERE WHAT IT READS IS OF BULK AT MOST 1048576: true; the input reads as it did. -/
def fnExactIsRowUptoRow : OpenClaim := { program := "ythlocjkmbmniaaa", sum := "bb503977753d7ede086336c01046fc8384dc1989e44800004deae630c4ed7e55", func := "loop.example/g01364/laws.FnExactIsRow", spec := "fnExactIsRow", apart := false, narrowed := true }
def FnExactIsRowUptoSaid : Prop := fnExactIsRowUptoRow.holds Try.pinned (OpenSpec.upto fnExactIsRowSpec)

/-- 'laws.FnExactSineTurns', WHERE WHAT IT READS IS OF BULK AT MOST 1048576: true; the input reads as it did. -/
def fnExactSineTurnsUptoRow : OpenClaim := { program := "ythlocjkmbmniaaa", sum := "bb503977753d7ede086336c01046fc8384dc1989e44800004deae630c4ed7e55", func := "loop.example/g01364/laws.FnExactSineTurns", spec := "fnExactSineTurns", inPlace := ["math.Float64frombits", "math.Float64bits"], apart := false, narrowed := true }
def FnExactSineTurnsUptoSaid : Prop := fnExactSineTurnsUptoRow.holds Try.pinned (OpenSpec.upto fnExactSineTurnsSpec)

/-- 'laws.FnExactRootNumber', WHERE WHAT IT READS IS OF BULK AT MOST 1048576: true; the input reads as it did. -/
def fnExactRootNumberUptoRow : OpenClaim := { program := "ythlocjkmbmniaaa", sum := "bb503977753d7ede086336c01046fc8384dc1989e44800004deae630c4ed7e55", func := "loop.example/g01364/laws.FnExactRootNumber", spec := "fnExactRootNumber", inPlace := ["math.sqrt"], apart := false, narrowed := true }
def FnExactRootNumberUptoSaid : Prop := fnExactRootNumberUptoRow.holds Try.pinned (OpenSpec.upto fnExactRootNumberSpec)

/-- 'laws.FnExactLogNumber', WHERE WHAT IT READS IS OF BULK AT MOST 1048576: true; the input reads as it did. -/
def fnExactLogNumberUptoRow : OpenClaim := { program := "ythlocjkmbmniaaa", sum := "bb503977753d7ede086336c01046fc8384dc1989e44800004deae630c4ed7e55", func := "loop.example/g01364/laws.FnExactLogNumber", spec := "fnExactLogNumber", inPlace := ["math.Float64frombits", "math.Float64bits"], apart := false, narrowed := true }
def FnExactLogNumberUptoSaid : Prop := fnExactLogNumberUptoRow.holds Try.pinned (OpenSpec.upto fnExactLogNumberSpec)

/-- 'laws.FnExactFarOfRows', WHERE WHAT IT READS IS OF BULK AT MOST 1048576: true; the input reads as it did. -/
def fnExactFarOfRowsUptoRow : OpenClaim := { program := "ythlocjkmbmniaaa", sum := "bb503977753d7ede086336c01046fc8384dc1989e44800004deae630c4ed7e55", func := "loop.example/g01364/laws.FnExactFarOfRows", spec := "fnExactFarOfRows", apart := false, narrowed := true }
def FnExactFarOfRowsUptoSaid : Prop := fnExactFarOfRowsUptoRow.holds Try.pinned (OpenSpec.upto fnExactFarOfRowsSpec)

/-- 'laws.FnExactSurpriseOf', WHERE WHAT IT READS IS OF BULK AT MOST 1048576: true; the input reads as it did. -/
def fnExactSurpriseOfUptoRow : OpenClaim := { program := "ythlocjkmbmniaaa", sum := "bb503977753d7ede086336c01046fc8384dc1989e44800004deae630c4ed7e55", func := "loop.example/g01364/laws.FnExactSurpriseOf", spec := "fnExactSurpriseOf", inPlace := ["math.Float64frombits", "math.Float64bits"], apart := false, narrowed := true }
def FnExactSurpriseOfUptoSaid : Prop := fnExactSurpriseOfUptoRow.holds Try.pinned (OpenSpec.upto fnExactSurpriseOfSpec)

/-- 'laws.FnExactPhasorOf', WHERE WHAT IT READS IS OF BULK AT MOST 1048576: true; the input reads as it did. -/
def fnExactPhasorOfUptoRow : OpenClaim := { program := "ythlocjkmbmniaaa", sum := "bb503977753d7ede086336c01046fc8384dc1989e44800004deae630c4ed7e55", func := "loop.example/g01364/laws.FnExactPhasorOf", spec := "fnExactPhasorOf", inPlace := ["math.Float32frombits", "math.Float64frombits", "math.Float64bits"], apart := false, narrowed := true }
def FnExactPhasorOfUptoSaid : Prop := fnExactPhasorOfUptoRow.holds Try.pinned (OpenSpec.upto fnExactPhasorOfSpec)

/-- 'laws.FnExactTenthsOf', WHERE WHAT IT READS IS OF BULK AT MOST 1048576: true; the input reads as it did. -/
def fnExactTenthsOfUptoRow : OpenClaim := { program := "ythlocjkmbmniaaa", sum := "bb503977753d7ede086336c01046fc8384dc1989e44800004deae630c4ed7e55", func := "loop.example/g01364/laws.FnExactTenthsOf", spec := "fnExactTenthsOf", inPlace := ["math.Float64frombits", "math.Float64bits", "math.archFloor", "math.archTrunc"], apart := false, narrowed := true }
def FnExactTenthsOfUptoSaid : Prop := fnExactTenthsOfUptoRow.holds Try.pinned (OpenSpec.upto fnExactTenthsOfSpec)

/-- 'laws.FnExactAngleTurns', WHERE WHAT IT READS IS OF BULK AT MOST 1048576: true; the input reads as it did. -/
def fnExactAngleTurnsUptoRow : OpenClaim := { program := "ythlocjkmbmniaaa", sum := "bb503977753d7ede086336c01046fc8384dc1989e44800004deae630c4ed7e55", func := "loop.example/g01364/laws.FnExactAngleTurns", spec := "fnExactAngleTurns", inPlace := ["math.Float64frombits", "math.Float64bits", "math.sqrt"], apart := false, narrowed := true }
def FnExactAngleTurnsUptoSaid : Prop := fnExactAngleTurnsUptoRow.holds Try.pinned (OpenSpec.upto fnExactAngleTurnsSpec)

/-- 'laws.FnExactRootFar', WHERE WHAT IT READS IS OF BULK AT MOST 1048576: true; the input reads as it did. -/
def fnExactRootFarUptoRow : OpenClaim := { program := "ythlocjkmbmniaaa", sum := "bb503977753d7ede086336c01046fc8384dc1989e44800004deae630c4ed7e55", func := "loop.example/g01364/laws.FnExactRootFar", spec := "fnExactRootFar", inPlace := ["math.sqrt"], apart := false, narrowed := true }
def FnExactRootFarUptoSaid : Prop := fnExactRootFarUptoRow.holds Try.pinned (OpenSpec.upto fnExactRootFarSpec)

end Rows
end Go.Proofs.Ythlocjkmbmniaaa
