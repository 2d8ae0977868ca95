/-
  No cell of these rows narrows 'for every input' (looked for: loops, veiled, ifaces, maps, wideKeys, modest, calm, conditions, laid).
  DERIVED. THE GIVEN ROWS OF THIS SEAT. 11 by the template 'for every input the law returns true; each argument reads behind the call as it read before'; 0 by the template 'total and deterministic' (their statements: YtfmgpgbcdpjfkaaTotals.lean).
  GIVEN WITH THE SEED: the statements are not yours to turn. If you find one false, say at which input.
  Laid BY PROGRAM, IN A SANDBOX (cutbox-rows.mjs): the forced cells as the released guide's own fill.sh prints them over the translation 3e7f97bd1d72a90e… (all of the seat's roots in one cut). By AI agents, Wed Nov 11 2026. No macro, syntax, notation, axiom, sorry.
-/
import Derived.Test.YtfmgpgbcdpjfkaaChecked
import GoSem.Claim
import GoSem.ClaimJoined
import GoSem.ClaimMapViews
import Derived.JoinedTies
import Derived.KernelRfl
namespace Go.Proofs.Ytfmgpgbcdpjfkaa
/- THE CELL 'sum', in the pinned program and in every row, IS THE sha256 OF THE DUMP (.gsa) THAT YtfmgpgbcdpjfkaaProg.lean LOADS. Nothing in Lean hashes anything: it is a label: what it is worth is what the hold of that sum in a sandbox is worth. -/
noncomputable def Try.pinned : Pinned := { name := "ytfmgpgbcdpjfkaa", sum := "3e7f97bd1d72a90ecd1694c57f565587b0c6596cb6b70cfa13aa460533be5a4d", checked := Try.checked }
namespace Rows
def none {H : Type} : Left H := { results := [], args := [] }

/-- 'laws.FnExactConstants': WHATEVER THE INPUT: true; the input reads as it did. -/
def fnExactConstantsSpec : ChangeSpec := { name := "fnExactConstants", fn := fun _ => fun
  | [] => { results := [.lit (.bool true)], args := [] }
  | _ => none }
def fnExactConstantsRow : OpenClaim := { program := "ytfmgpgbcdpjfkaa", sum := "3e7f97bd1d72a90ecd1694c57f565587b0c6596cb6b70cfa13aa460533be5a4d", func := "loop.example/g01364/laws.FnExactConstants", spec := "fnExactConstants", apart := false }
def FnExactConstantsSaid : Prop := fnExactConstantsRow.holds Try.pinned (OpenSpec.ofChange fnExactConstantsSpec)

/-- ITS FALSE NEIGHBOUR: 'it returns false'. Refute it at one input. -/
def fnExactConstantsWrong : ChangeSpec := { name := "fnExactConstants", fn := fun _ => fun
  | [] => { results := [.lit (.bool false)], args := [] }
  | _ => none }
def FnExactConstantsWrongFalsely : Prop := fnExactConstantsRow.holds Try.pinned (OpenSpec.ofChange fnExactConstantsWrong)

/-- 'laws.FnExactIsFinite': WHATEVER THE INPUT: true; the input reads as it did. -/
def fnExactIsFiniteSpec : ChangeSpec := { name := "fnExactIsFinite", fn := fun _ => fun
  | [d] => { results := [.lit (.bool true)], args := [d] }
  | _ => none }
def fnExactIsFiniteRow : OpenClaim := { program := "ytfmgpgbcdpjfkaa", sum := "3e7f97bd1d72a90ecd1694c57f565587b0c6596cb6b70cfa13aa460533be5a4d", func := "loop.example/g01364/laws.FnExactIsFinite", spec := "fnExactIsFinite", apart := false }
def FnExactIsFiniteSaid : Prop := fnExactIsFiniteRow.holds Try.pinned (OpenSpec.ofChange fnExactIsFiniteSpec)

/-- ITS FALSE NEIGHBOUR: 'it returns false'. Refute it at one input. -/
def fnExactIsFiniteWrong : ChangeSpec := { name := "fnExactIsFinite", fn := fun _ => fun
  | [d] => { results := [.lit (.bool false)], args := [d] }
  | _ => none }
def FnExactIsFiniteWrongFalsely : Prop := fnExactIsFiniteRow.holds Try.pinned (OpenSpec.ofChange fnExactIsFiniteWrong)

/-- 'laws.FnExactBitsOf': WHATEVER THE INPUT: true; the input reads as it did. -/
def fnExactBitsOfSpec : ChangeSpec := { name := "fnExactBitsOf", fn := fun _ => fun
  | [d] => { results := [.lit (.bool true)], args := [d] }
  | _ => none }
def fnExactBitsOfRow : OpenClaim := { program := "ytfmgpgbcdpjfkaa", sum := "3e7f97bd1d72a90ecd1694c57f565587b0c6596cb6b70cfa13aa460533be5a4d", func := "loop.example/g01364/laws.FnExactBitsOf", spec := "fnExactBitsOf", inPlace := ["math.Float32bits"], apart := false }
def FnExactBitsOfSaid : Prop := fnExactBitsOfRow.holds Try.pinned (OpenSpec.ofChange fnExactBitsOfSpec)

/-- ITS FALSE NEIGHBOUR: 'it returns false'. Refute it at one input. -/
def fnExactBitsOfWrong : ChangeSpec := { name := "fnExactBitsOf", fn := fun _ => fun
  | [d] => { results := [.lit (.bool false)], args := [d] }
  | _ => none }
def FnExactBitsOfWrongFalsely : Prop := fnExactBitsOfRow.holds Try.pinned (OpenSpec.ofChange fnExactBitsOfWrong)

/-- 'laws.FnExactIsName': WHATEVER THE INPUT: true; the input reads as it did. -/
def fnExactIsNameSpec : ChangeSpec := { name := "fnExactIsName", fn := fun _ => fun
  | [d] => { results := [.lit (.bool true)], args := [d] }
  | _ => none }
def fnExactIsNameRow : OpenClaim := { program := "ytfmgpgbcdpjfkaa", sum := "3e7f97bd1d72a90ecd1694c57f565587b0c6596cb6b70cfa13aa460533be5a4d", func := "loop.example/g01364/laws.FnExactIsName", spec := "fnExactIsName", apart := false }
def FnExactIsNameSaid : Prop := fnExactIsNameRow.holds Try.pinned (OpenSpec.ofChange fnExactIsNameSpec)

/-- ITS FALSE NEIGHBOUR: 'it returns false'. Refute it at one input. -/
def fnExactIsNameWrong : ChangeSpec := { name := "fnExactIsName", fn := fun _ => fun
  | [d] => { results := [.lit (.bool false)], args := [d] }
  | _ => none }
def FnExactIsNameWrongFalsely : Prop := fnExactIsNameRow.holds Try.pinned (OpenSpec.ofChange fnExactIsNameWrong)

/-- 'laws.FnExactIsSubnormal': WHATEVER THE INPUT: true; the input reads as it did. -/
def fnExactIsSubnormalSpec : ChangeSpec := { name := "fnExactIsSubnormal", fn := fun _ => fun
  | [d] => { results := [.lit (.bool true)], args := [d] }
  | _ => none }
def fnExactIsSubnormalRow : OpenClaim := { program := "ytfmgpgbcdpjfkaa", sum := "3e7f97bd1d72a90ecd1694c57f565587b0c6596cb6b70cfa13aa460533be5a4d", func := "loop.example/g01364/laws.FnExactIsSubnormal", spec := "fnExactIsSubnormal", inPlace := ["math.Float32bits", "math.Float64bits", "math.Float64frombits"], apart := false }
def FnExactIsSubnormalSaid : Prop := fnExactIsSubnormalRow.holds Try.pinned (OpenSpec.ofChange fnExactIsSubnormalSpec)

/-- ITS FALSE NEIGHBOUR: 'it returns false'. Refute it at one input. -/
def fnExactIsSubnormalWrong : ChangeSpec := { name := "fnExactIsSubnormal", fn := fun _ => fun
  | [d] => { results := [.lit (.bool false)], args := [d] }
  | _ => none }
def FnExactIsSubnormalWrongFalsely : Prop := fnExactIsSubnormalRow.holds Try.pinned (OpenSpec.ofChange fnExactIsSubnormalWrong)

/-- 'laws.FnExactSameNumber': WHATEVER THE INPUT: true; the input reads as it did. -/
def fnExactSameNumberSpec : ChangeSpec := { name := "fnExactSameNumber", fn := fun _ => fun
  | [d1, d2] => { results := [.lit (.bool true)], args := [d1, d2] }
  | _ => none }
def fnExactSameNumberRow : OpenClaim := { program := "ytfmgpgbcdpjfkaa", sum := "3e7f97bd1d72a90ecd1694c57f565587b0c6596cb6b70cfa13aa460533be5a4d", func := "loop.example/g01364/laws.FnExactSameNumber", spec := "fnExactSameNumber", inPlace := ["math.Float32bits", "math.Float64bits"], apart := false }
def FnExactSameNumberSaid : Prop := fnExactSameNumberRow.holds Try.pinned (OpenSpec.ofChange fnExactSameNumberSpec)

/-- ITS FALSE NEIGHBOUR: 'it returns false'. Refute it at one input. -/
def fnExactSameNumberWrong : ChangeSpec := { name := "fnExactSameNumber", fn := fun _ => fun
  | [d1, d2] => { results := [.lit (.bool false)], args := [d1, d2] }
  | _ => none }
def FnExactSameNumberWrongFalsely : Prop := fnExactSameNumberRow.holds Try.pinned (OpenSpec.ofChange fnExactSameNumberWrong)

/-- 'laws.FnExactCheckOf': WHATEVER THE INPUT: true; the input reads as it did. -/
def fnExactCheckOfSpec : ChangeSpec := { name := "fnExactCheckOf", fn := fun _ => fun
  | [d1, d2] => { results := [.lit (.bool true)], args := [d1, d2] }
  | _ => none }
def fnExactCheckOfRow : OpenClaim := { program := "ytfmgpgbcdpjfkaa", sum := "3e7f97bd1d72a90ecd1694c57f565587b0c6596cb6b70cfa13aa460533be5a4d", func := "loop.example/g01364/laws.FnExactCheckOf", spec := "fnExactCheckOf", apart := false }
def FnExactCheckOfSaid : Prop := fnExactCheckOfRow.holds Try.pinned (OpenSpec.ofChange fnExactCheckOfSpec)

/-- ITS FALSE NEIGHBOUR: 'it returns false'. Refute it at one input. -/
def fnExactCheckOfWrong : ChangeSpec := { name := "fnExactCheckOf", fn := fun _ => fun
  | [d1, d2] => { results := [.lit (.bool false)], args := [d1, d2] }
  | _ => none }
def FnExactCheckOfWrongFalsely : Prop := fnExactCheckOfRow.holds Try.pinned (OpenSpec.ofChange fnExactCheckOfWrong)

/-- 'laws.FnExactFromBits': WHATEVER THE INPUT: true; the input reads as it did. -/
def fnExactFromBitsSpec : ChangeSpec := { name := "fnExactFromBits", fn := fun _ => fun
  | [d] => { results := [.lit (.bool true)], args := [d] }
  | _ => none }
def fnExactFromBitsRow : OpenClaim := { program := "ytfmgpgbcdpjfkaa", sum := "3e7f97bd1d72a90ecd1694c57f565587b0c6596cb6b70cfa13aa460533be5a4d", func := "loop.example/g01364/laws.FnExactFromBits", spec := "fnExactFromBits", inPlace := ["math.Float32frombits"], apart := false }
def FnExactFromBitsSaid : Prop := fnExactFromBitsRow.holds Try.pinned (OpenSpec.ofChange fnExactFromBitsSpec)

/-- ITS FALSE NEIGHBOUR: 'it returns false'. Refute it at one input. -/
def fnExactFromBitsWrong : ChangeSpec := { name := "fnExactFromBits", fn := fun _ => fun
  | [d] => { results := [.lit (.bool false)], args := [d] }
  | _ => none }
def FnExactFromBitsWrongFalsely : Prop := fnExactFromBitsRow.holds Try.pinned (OpenSpec.ofChange fnExactFromBitsWrong)

/-- 'laws.FnExactCountTypes': WHATEVER THE INPUT: true; the input reads as it did. -/
def fnExactCountTypesSpec : ChangeSpec := { name := "fnExactCountTypes", fn := fun _ => fun
  | [d1, d2] => { results := [.lit (.bool true)], args := [d1, d2] }
  | _ => none }
def fnExactCountTypesRow : OpenClaim := { program := "ytfmgpgbcdpjfkaa", sum := "3e7f97bd1d72a90ecd1694c57f565587b0c6596cb6b70cfa13aa460533be5a4d", func := "loop.example/g01364/laws.FnExactCountTypes", spec := "fnExactCountTypes", apart := false }
def FnExactCountTypesSaid : Prop := fnExactCountTypesRow.holds Try.pinned (OpenSpec.ofChange fnExactCountTypesSpec)

/-- ITS FALSE NEIGHBOUR: 'it returns false'. Refute it at one input. -/
def fnExactCountTypesWrong : ChangeSpec := { name := "fnExactCountTypes", fn := fun _ => fun
  | [d1, d2] => { results := [.lit (.bool false)], args := [d1, d2] }
  | _ => none }
def FnExactCountTypesWrongFalsely : Prop := fnExactCountTypesRow.holds Try.pinned (OpenSpec.ofChange fnExactCountTypesWrong)

/-- 'laws.FnExactFlushNumber': WHATEVER THE INPUT: true; the input reads as it did. -/
def fnExactFlushNumberSpec : ChangeSpec := { name := "fnExactFlushNumber", fn := fun _ => fun
  | [d] => { results := [.lit (.bool true)], args := [d] }
  | _ => none }
def fnExactFlushNumberRow : OpenClaim := { program := "ytfmgpgbcdpjfkaa", sum := "3e7f97bd1d72a90ecd1694c57f565587b0c6596cb6b70cfa13aa460533be5a4d", func := "loop.example/g01364/laws.FnExactFlushNumber", spec := "fnExactFlushNumber", inPlace := ["math.Float32bits", "math.Float32frombits", "math.Float64bits", "math.Float64frombits"], apart := false }
def FnExactFlushNumberSaid : Prop := fnExactFlushNumberRow.holds Try.pinned (OpenSpec.ofChange fnExactFlushNumberSpec)

/-- ITS FALSE NEIGHBOUR: 'it returns false'. Refute it at one input. -/
def fnExactFlushNumberWrong : ChangeSpec := { name := "fnExactFlushNumber", fn := fun _ => fun
  | [d] => { results := [.lit (.bool false)], args := [d] }
  | _ => none }
def FnExactFlushNumberWrongFalsely : Prop := fnExactFlushNumberRow.holds Try.pinned (OpenSpec.ofChange fnExactFlushNumberWrong)

/-- 'laws.FnExactWordsOfType': WHATEVER THE INPUT: true; the input reads as it did. -/
def fnExactWordsOfTypeSpec : ChangeSpec := { name := "fnExactWordsOfType", fn := fun _ => fun
  | [d] => { results := [.lit (.bool true)], args := [d] }
  | _ => none }
def fnExactWordsOfTypeRow : OpenClaim := { program := "ytfmgpgbcdpjfkaa", sum := "3e7f97bd1d72a90ecd1694c57f565587b0c6596cb6b70cfa13aa460533be5a4d", func := "loop.example/g01364/laws.FnExactWordsOfType", spec := "fnExactWordsOfType", apart := false }
def FnExactWordsOfTypeSaid : Prop := fnExactWordsOfTypeRow.holds Try.pinned (OpenSpec.ofChange fnExactWordsOfTypeSpec)

/-- ITS FALSE NEIGHBOUR: 'it returns false'. Refute it at one input. -/
def fnExactWordsOfTypeWrong : ChangeSpec := { name := "fnExactWordsOfType", fn := fun _ => fun
  | [d] => { results := [.lit (.bool false)], args := [d] }
  | _ => none }
def FnExactWordsOfTypeWrongFalsely : Prop := fnExactWordsOfTypeRow.holds Try.pinned (OpenSpec.ofChange fnExactWordsOfTypeWrong)

/- THE SECOND FORM. 'bulk': how many values and letters a reading holds, each counted each time it is reached (what is shared counts as often as it is met; a slice's spare places count too). A statement '..UptoSaid' is the law's where the arguments, and the package variables that the reading takes, are together of bulk at most 1048576: NARROWER than '..Said'. Prove '..Said' where nothing that the law and all that it calls make is longer than what came in: it says more and counts as full. Else prove '..UptoSaid'. A law counts once. -/
mutual
def uptoBulk {H : Type} : DataW H → Nat
  | .lit (.string bytes) => bytes.length + 1
  | .lit _ => 1
  | .nil => 1
  | .ptr d => uptoBulk d + 1
  | .slice elems spare => uptoBulkAll elems + uptoBulkAll spare + 1
  | .agg parts => uptoBulkAll parts + 1
  | .iface _ d => uptoBulk d + 1
  | .map entries => uptoBulkEntries entries + 1
  | .held _ => 1
def uptoBulkAll {H : Type} : List (DataW H) → Nat
  | [] => 0
  | d :: r => uptoBulk d + uptoBulkAll r
def uptoBulkEntries {H : Type} : List (Lit × DataW H) → Nat
  | [] => 0
  | x :: r => uptoBulkEntry x + uptoBulkEntries r
def uptoBulkEntry {H : Type} : Lit × DataW H → Nat
  | (.string bytes, d) => bytes.length + uptoBulk d + 1
  | (_, d) => uptoBulk d + 1
 end
def uptoSmall : (H : Type) → List (DataW H) → Bool := fun _ ds => decide (uptoBulkAll ds ≤ 1048576)
def OpenSpec.upto (s : _root_.Go.ChangeSpec) : _root_.Go.OpenSpec := { _root_.Go.OpenSpec.ofChange s with cond := some uptoSmall }

/-- 'laws.FnExactConstants', WHERE WHAT IT READS IS OF BULK AT MOST 1048576: true; the input reads as it did. -/
def fnExactConstantsUptoRow : OpenClaim := { program := "ytfmgpgbcdpjfkaa", sum := "3e7f97bd1d72a90ecd1694c57f565587b0c6596cb6b70cfa13aa460533be5a4d", func := "loop.example/g01364/laws.FnExactConstants", spec := "fnExactConstants", apart := false, narrowed := true }
def FnExactConstantsUptoSaid : Prop := fnExactConstantsUptoRow.holds Try.pinned (OpenSpec.upto fnExactConstantsSpec)

/-- 'laws.FnExactIsFinite', WHERE WHAT IT READS IS OF BULK AT MOST 1048576: true; the input reads as it did. -/
def fnExactIsFiniteUptoRow : OpenClaim := { program := "ytfmgpgbcdpjfkaa", sum := "3e7f97bd1d72a90ecd1694c57f565587b0c6596cb6b70cfa13aa460533be5a4d", func := "loop.example/g01364/laws.FnExactIsFinite", spec := "fnExactIsFinite", apart := false, narrowed := true }
def FnExactIsFiniteUptoSaid : Prop := fnExactIsFiniteUptoRow.holds Try.pinned (OpenSpec.upto fnExactIsFiniteSpec)

/-- 'laws.FnExactBitsOf', WHERE WHAT IT READS IS OF BULK AT MOST 1048576: true; the input reads as it did. -/
def fnExactBitsOfUptoRow : OpenClaim := { program := "ytfmgpgbcdpjfkaa", sum := "3e7f97bd1d72a90ecd1694c57f565587b0c6596cb6b70cfa13aa460533be5a4d", func := "loop.example/g01364/laws.FnExactBitsOf", spec := "fnExactBitsOf", inPlace := ["math.Float32bits"], apart := false, narrowed := true }
def FnExactBitsOfUptoSaid : Prop := fnExactBitsOfUptoRow.holds Try.pinned (OpenSpec.upto fnExactBitsOfSpec)

/-- 'laws.FnExactIsName', WHERE WHAT IT READS IS OF BULK AT MOST 1048576: true; the input reads as it did. -/
def fnExactIsNameUptoRow : OpenClaim := { program := "ytfmgpgbcdpjfkaa", sum := "3e7f97bd1d72a90ecd1694c57f565587b0c6596cb6b70cfa13aa460533be5a4d", func := "loop.example/g01364/laws.FnExactIsName", spec := "fnExactIsName", apart := false, narrowed := true }
def FnExactIsNameUptoSaid : Prop := fnExactIsNameUptoRow.holds Try.pinned (OpenSpec.upto fnExactIsNameSpec)

/-- 'laws.FnExactIsSubnormal', WHERE WHAT IT READS IS OF BULK AT MOST 1048576: true; the input reads as it did. -/
def fnExactIsSubnormalUptoRow : OpenClaim := { program := "ytfmgpgbcdpjfkaa", sum := "3e7f97bd1d72a90ecd1694c57f565587b0c6596cb6b70cfa13aa460533be5a4d", func := "loop.example/g01364/laws.FnExactIsSubnormal", spec := "fnExactIsSubnormal", inPlace := ["math.Float32bits", "math.Float64bits", "math.Float64frombits"], apart := false, narrowed := true }
def FnExactIsSubnormalUptoSaid : Prop := fnExactIsSubnormalUptoRow.holds Try.pinned (OpenSpec.upto fnExactIsSubnormalSpec)

/-- 'laws.FnExactSameNumber', WHERE WHAT IT READS IS OF BULK AT MOST 1048576: true; the input reads as it did. -/
def fnExactSameNumberUptoRow : OpenClaim := { program := "ytfmgpgbcdpjfkaa", sum := "3e7f97bd1d72a90ecd1694c57f565587b0c6596cb6b70cfa13aa460533be5a4d", func := "loop.example/g01364/laws.FnExactSameNumber", spec := "fnExactSameNumber", inPlace := ["math.Float32bits", "math.Float64bits"], apart := false, narrowed := true }
def FnExactSameNumberUptoSaid : Prop := fnExactSameNumberUptoRow.holds Try.pinned (OpenSpec.upto fnExactSameNumberSpec)

/-- 'laws.FnExactCheckOf', WHERE WHAT IT READS IS OF BULK AT MOST 1048576: true; the input reads as it did. -/
def fnExactCheckOfUptoRow : OpenClaim := { program := "ytfmgpgbcdpjfkaa", sum := "3e7f97bd1d72a90ecd1694c57f565587b0c6596cb6b70cfa13aa460533be5a4d", func := "loop.example/g01364/laws.FnExactCheckOf", spec := "fnExactCheckOf", apart := false, narrowed := true }
def FnExactCheckOfUptoSaid : Prop := fnExactCheckOfUptoRow.holds Try.pinned (OpenSpec.upto fnExactCheckOfSpec)

/-- 'laws.FnExactFromBits', WHERE WHAT IT READS IS OF BULK AT MOST 1048576: true; the input reads as it did. -/
def fnExactFromBitsUptoRow : OpenClaim := { program := "ytfmgpgbcdpjfkaa", sum := "3e7f97bd1d72a90ecd1694c57f565587b0c6596cb6b70cfa13aa460533be5a4d", func := "loop.example/g01364/laws.FnExactFromBits", spec := "fnExactFromBits", inPlace := ["math.Float32frombits"], apart := false, narrowed := true }
def FnExactFromBitsUptoSaid : Prop := fnExactFromBitsUptoRow.holds Try.pinned (OpenSpec.upto fnExactFromBitsSpec)

/-- 'laws.FnExactCountTypes', WHERE WHAT IT READS IS OF BULK AT MOST 1048576: true; the input reads as it did. -/
def fnExactCountTypesUptoRow : OpenClaim := { program := "ytfmgpgbcdpjfkaa", sum := "3e7f97bd1d72a90ecd1694c57f565587b0c6596cb6b70cfa13aa460533be5a4d", func := "loop.example/g01364/laws.FnExactCountTypes", spec := "fnExactCountTypes", apart := false, narrowed := true }
def FnExactCountTypesUptoSaid : Prop := fnExactCountTypesUptoRow.holds Try.pinned (OpenSpec.upto fnExactCountTypesSpec)

/-- 'laws.FnExactFlushNumber', WHERE WHAT IT READS IS OF BULK AT MOST 1048576: true; the input reads as it did. -/
def fnExactFlushNumberUptoRow : OpenClaim := { program := "ytfmgpgbcdpjfkaa", sum := "3e7f97bd1d72a90ecd1694c57f565587b0c6596cb6b70cfa13aa460533be5a4d", func := "loop.example/g01364/laws.FnExactFlushNumber", spec := "fnExactFlushNumber", inPlace := ["math.Float32bits", "math.Float32frombits", "math.Float64bits", "math.Float64frombits"], apart := false, narrowed := true }
def FnExactFlushNumberUptoSaid : Prop := fnExactFlushNumberUptoRow.holds Try.pinned (OpenSpec.upto fnExactFlushNumberSpec)

/-- 'laws.FnExactWordsOfType', WHERE WHAT IT READS IS OF BULK AT MOST 1048576: true; the input reads as it did. -/
def fnExactWordsOfTypeUptoRow : OpenClaim := { program := "ytfmgpgbcdpjfkaa", sum := "3e7f97bd1d72a90ecd1694c57f565587b0c6596cb6b70cfa13aa460533be5a4d", func := "loop.example/g01364/laws.FnExactWordsOfType", spec := "fnExactWordsOfType", apart := false, narrowed := true }
def FnExactWordsOfTypeUptoSaid : Prop := fnExactWordsOfTypeUptoRow.holds Try.pinned (OpenSpec.upto fnExactWordsOfTypeSpec)

end Rows
end Go.Proofs.Ytfmgpgbcdpjfkaa
