/-
  No cell of these rows narrows 'for every input' (looked for: loops, veiled, ifaces, maps, wideKeys, modest, calm, conditions, laid).
  DERIVED. THE GIVEN ROWS OF THIS SEAT. 12 by the template 'for every input the law returns true; each argument reads behind the call as it read before'; 0 by the template 'total and deterministic' (their statements: YthkmahnmhjlnmaaTotals.lean).
  GIVEN WITH THE SEED: the statements are not yours to turn. If you find one false, say at which input.
  Laid BY PROGRAM, IN A SANDBOX (cutbox-rows.mjs): the forced cells as the released guide's own fill.sh prints them over the translation 477c04bc84e65824… (all of the seat's roots in one cut). By AI agents, Wed Nov 11 2026. No macro, syntax, notation, axiom, sorry.
-/
import Derived.Test.YthkmahnmhjlnmaaChecked
import GoSem.Claim
import GoSem.ClaimJoined
import GoSem.ClaimMapViews
import Derived.JoinedTies
import Derived.KernelRfl
namespace Go.Proofs.Ythkmahnmhjlnmaa
/- THE CELL 'sum', in the pinned program and in every row, IS THE sha256 OF THE DUMP (.gsa) THAT YthkmahnmhjlnmaaProg.lean LOADS. Nothing in Lean hashes anything: it is a label: what it is worth is what the hold of that sum in a sandbox is worth. -/
noncomputable def Try.pinned : Pinned := { name := "ythkmahnmhjlnmaa", sum := "477c04bc84e65824f81ba09bc5ea7d478e15ac0efe3ceccf23811a2730effba2", checked := Try.checked }
namespace Rows
def none {H : Type} : Left H := { results := [], args := [] }

/-- 'laws.FnExactConstants': WHATEVER THE INPUT: true; the input reads as it did. -/
def fnExactConstantsSpec : ChangeSpec := { name := "fnExactConstants", fn := fun _ => fun
  | [] => { results := [.lit (.bool true)], args := [] }
  | _ => none }
def fnExactConstantsRow : OpenClaim := { program := "ythkmahnmhjlnmaa", sum := "477c04bc84e65824f81ba09bc5ea7d478e15ac0efe3ceccf23811a2730effba2", func := "loop.example/g03106/laws.FnExactConstants", spec := "fnExactConstants", apart := false }
def FnExactConstantsSaid : Prop := fnExactConstantsRow.holds Try.pinned (OpenSpec.ofChange fnExactConstantsSpec)

/-- ITS FALSE NEIGHBOUR: 'it returns false'. Refute it at one input. -/
def fnExactConstantsWrong : ChangeSpec := { name := "fnExactConstants", fn := fun _ => fun
  | [] => { results := [.lit (.bool false)], args := [] }
  | _ => none }
def FnExactConstantsWrongFalsely : Prop := fnExactConstantsRow.holds Try.pinned (OpenSpec.ofChange fnExactConstantsWrong)

/-- 'laws.FnExactConcatTexts': WHATEVER THE INPUT: true; the input reads as it did. -/
def fnExactConcatTextsSpec : ChangeSpec := { name := "fnExactConcatTexts", fn := fun _ => fun
  | [d1, d2] => { results := [.lit (.bool true)], args := [d1, d2] }
  | _ => none }
def fnExactConcatTextsRow : OpenClaim := { program := "ythkmahnmhjlnmaa", sum := "477c04bc84e65824f81ba09bc5ea7d478e15ac0efe3ceccf23811a2730effba2", func := "loop.example/g03106/laws.FnExactConcatTexts", spec := "fnExactConcatTexts", apart := false }
def FnExactConcatTextsSaid : Prop := fnExactConcatTextsRow.holds Try.pinned (OpenSpec.ofChange fnExactConcatTextsSpec)

/-- ITS FALSE NEIGHBOUR: 'it returns false'. Refute it at one input. -/
def fnExactConcatTextsWrong : ChangeSpec := { name := "fnExactConcatTexts", fn := fun _ => fun
  | [d1, d2] => { results := [.lit (.bool false)], args := [d1, d2] }
  | _ => none }
def FnExactConcatTextsWrongFalsely : Prop := fnExactConcatTextsRow.holds Try.pinned (OpenSpec.ofChange fnExactConcatTextsWrong)

/-- 'laws.FnExactReverseText': WHATEVER THE INPUT: true; the input reads as it did. -/
def fnExactReverseTextSpec : ChangeSpec := { name := "fnExactReverseText", fn := fun _ => fun
  | [d] => { results := [.lit (.bool true)], args := [d] }
  | _ => none }
def fnExactReverseTextRow : OpenClaim := { program := "ythkmahnmhjlnmaa", sum := "477c04bc84e65824f81ba09bc5ea7d478e15ac0efe3ceccf23811a2730effba2", func := "loop.example/g03106/laws.FnExactReverseText", spec := "fnExactReverseText", apart := false }
def FnExactReverseTextSaid : Prop := fnExactReverseTextRow.holds Try.pinned (OpenSpec.ofChange fnExactReverseTextSpec)

/-- ITS FALSE NEIGHBOUR: 'it returns false'. Refute it at one input. -/
def fnExactReverseTextWrong : ChangeSpec := { name := "fnExactReverseText", fn := fun _ => fun
  | [d] => { results := [.lit (.bool false)], args := [d] }
  | _ => none }
def FnExactReverseTextWrongFalsely : Prop := fnExactReverseTextRow.holds Try.pinned (OpenSpec.ofChange fnExactReverseTextWrong)

/-- 'laws.FnExactComplementCset': WHATEVER THE INPUT: true; the input reads as it did. -/
def fnExactComplementCsetSpec : ChangeSpec := { name := "fnExactComplementCset", fn := fun _ => fun
  | [d] => { results := [.lit (.bool true)], args := [d] }
  | _ => none }
def fnExactComplementCsetRow : OpenClaim := { program := "ythkmahnmhjlnmaa", sum := "477c04bc84e65824f81ba09bc5ea7d478e15ac0efe3ceccf23811a2730effba2", func := "loop.example/g03106/laws.FnExactComplementCset", spec := "fnExactComplementCset", apart := false }
def FnExactComplementCsetSaid : Prop := fnExactComplementCsetRow.holds Try.pinned (OpenSpec.ofChange fnExactComplementCsetSpec)

/-- ITS FALSE NEIGHBOUR: 'it returns false'. Refute it at one input. -/
def fnExactComplementCsetWrong : ChangeSpec := { name := "fnExactComplementCset", fn := fun _ => fun
  | [d] => { results := [.lit (.bool false)], args := [d] }
  | _ => none }
def FnExactComplementCsetWrongFalsely : Prop := fnExactComplementCsetRow.holds Try.pinned (OpenSpec.ofChange fnExactComplementCsetWrong)

/-- 'laws.FnExactIntersectCsets': WHATEVER THE INPUT: true; the input reads as it did. -/
def fnExactIntersectCsetsSpec : ChangeSpec := { name := "fnExactIntersectCsets", fn := fun _ => fun
  | [d1, d2] => { results := [.lit (.bool true)], args := [d1, d2] }
  | _ => none }
def fnExactIntersectCsetsRow : OpenClaim := { program := "ythkmahnmhjlnmaa", sum := "477c04bc84e65824f81ba09bc5ea7d478e15ac0efe3ceccf23811a2730effba2", func := "loop.example/g03106/laws.FnExactIntersectCsets", spec := "fnExactIntersectCsets", apart := false }
def FnExactIntersectCsetsSaid : Prop := fnExactIntersectCsetsRow.holds Try.pinned (OpenSpec.ofChange fnExactIntersectCsetsSpec)

/-- ITS FALSE NEIGHBOUR: 'it returns false'. Refute it at one input. -/
def fnExactIntersectCsetsWrong : ChangeSpec := { name := "fnExactIntersectCsets", fn := fun _ => fun
  | [d1, d2] => { results := [.lit (.bool false)], args := [d1, d2] }
  | _ => none }
def FnExactIntersectCsetsWrongFalsely : Prop := fnExactIntersectCsetsRow.holds Try.pinned (OpenSpec.ofChange fnExactIntersectCsetsWrong)

/-- 'laws.FnExactSubtractCsets': WHATEVER THE INPUT: true; the input reads as it did. -/
def fnExactSubtractCsetsSpec : ChangeSpec := { name := "fnExactSubtractCsets", fn := fun _ => fun
  | [d1, d2] => { results := [.lit (.bool true)], args := [d1, d2] }
  | _ => none }
def fnExactSubtractCsetsRow : OpenClaim := { program := "ythkmahnmhjlnmaa", sum := "477c04bc84e65824f81ba09bc5ea7d478e15ac0efe3ceccf23811a2730effba2", func := "loop.example/g03106/laws.FnExactSubtractCsets", spec := "fnExactSubtractCsets", apart := false }
def FnExactSubtractCsetsSaid : Prop := fnExactSubtractCsetsRow.holds Try.pinned (OpenSpec.ofChange fnExactSubtractCsetsSpec)

/-- ITS FALSE NEIGHBOUR: 'it returns false'. Refute it at one input. -/
def fnExactSubtractCsetsWrong : ChangeSpec := { name := "fnExactSubtractCsets", fn := fun _ => fun
  | [d1, d2] => { results := [.lit (.bool false)], args := [d1, d2] }
  | _ => none }
def FnExactSubtractCsetsWrongFalsely : Prop := fnExactSubtractCsetsRow.holds Try.pinned (OpenSpec.ofChange fnExactSubtractCsetsWrong)

/-- 'laws.FnExactUnionCsets': WHATEVER THE INPUT: true; the input reads as it did. -/
def fnExactUnionCsetsSpec : ChangeSpec := { name := "fnExactUnionCsets", fn := fun _ => fun
  | [d1, d2] => { results := [.lit (.bool true)], args := [d1, d2] }
  | _ => none }
def fnExactUnionCsetsRow : OpenClaim := { program := "ythkmahnmhjlnmaa", sum := "477c04bc84e65824f81ba09bc5ea7d478e15ac0efe3ceccf23811a2730effba2", func := "loop.example/g03106/laws.FnExactUnionCsets", spec := "fnExactUnionCsets", apart := false }
def FnExactUnionCsetsSaid : Prop := fnExactUnionCsetsRow.holds Try.pinned (OpenSpec.ofChange fnExactUnionCsetsSpec)

/-- ITS FALSE NEIGHBOUR: 'it returns false'. Refute it at one input. -/
def fnExactUnionCsetsWrong : ChangeSpec := { name := "fnExactUnionCsets", fn := fun _ => fun
  | [d1, d2] => { results := [.lit (.bool false)], args := [d1, d2] }
  | _ => none }
def FnExactUnionCsetsWrongFalsely : Prop := fnExactUnionCsetsRow.holds Try.pinned (OpenSpec.ofChange fnExactUnionCsetsWrong)

/-- 'laws.FnExactNormalizePosition': WHATEVER THE INPUT: true; the input reads as it did. -/
def fnExactNormalizePositionSpec : ChangeSpec := { name := "fnExactNormalizePosition", fn := fun _ => fun
  | [d1, d2] => { results := [.lit (.bool true)], args := [d1, d2] }
  | _ => none }
def fnExactNormalizePositionRow : OpenClaim := { program := "ythkmahnmhjlnmaa", sum := "477c04bc84e65824f81ba09bc5ea7d478e15ac0efe3ceccf23811a2730effba2", func := "loop.example/g03106/laws.FnExactNormalizePosition", spec := "fnExactNormalizePosition", apart := false }
def FnExactNormalizePositionSaid : Prop := fnExactNormalizePositionRow.holds Try.pinned (OpenSpec.ofChange fnExactNormalizePositionSpec)

/-- ITS FALSE NEIGHBOUR: 'it returns false'. Refute it at one input. -/
def fnExactNormalizePositionWrong : ChangeSpec := { name := "fnExactNormalizePosition", fn := fun _ => fun
  | [d1, d2] => { results := [.lit (.bool false)], args := [d1, d2] }
  | _ => none }
def FnExactNormalizePositionWrongFalsely : Prop := fnExactNormalizePositionRow.holds Try.pinned (OpenSpec.ofChange fnExactNormalizePositionWrong)

/-- 'laws.FnExactHasByte': WHATEVER THE INPUT: true; the input reads as it did. -/
def fnExactHasByteSpec : ChangeSpec := { name := "fnExactHasByte", fn := fun _ => fun
  | [d1, d2] => { results := [.lit (.bool true)], args := [d1, d2] }
  | _ => none }
def fnExactHasByteRow : OpenClaim := { program := "ythkmahnmhjlnmaa", sum := "477c04bc84e65824f81ba09bc5ea7d478e15ac0efe3ceccf23811a2730effba2", func := "loop.example/g03106/laws.FnExactHasByte", spec := "fnExactHasByte", apart := false }
def FnExactHasByteSaid : Prop := fnExactHasByteRow.holds Try.pinned (OpenSpec.ofChange fnExactHasByteSpec)

/-- ITS FALSE NEIGHBOUR: 'it returns false'. Refute it at one input. -/
def fnExactHasByteWrong : ChangeSpec := { name := "fnExactHasByte", fn := fun _ => fun
  | [d1, d2] => { results := [.lit (.bool false)], args := [d1, d2] }
  | _ => none }
def FnExactHasByteWrongFalsely : Prop := fnExactHasByteRow.holds Try.pinned (OpenSpec.ofChange fnExactHasByteWrong)

/-- 'laws.FnExactCompareTexts': WHATEVER THE INPUT: true; the input reads as it did. -/
def fnExactCompareTextsSpec : ChangeSpec := { name := "fnExactCompareTexts", fn := fun _ => fun
  | [d1, d2] => { results := [.lit (.bool true)], args := [d1, d2] }
  | _ => none }
def fnExactCompareTextsRow : OpenClaim := { program := "ythkmahnmhjlnmaa", sum := "477c04bc84e65824f81ba09bc5ea7d478e15ac0efe3ceccf23811a2730effba2", func := "loop.example/g03106/laws.FnExactCompareTexts", spec := "fnExactCompareTexts", inPlace := ["internal/bytealg.abigen_runtime_cmpstring"], apart := false }
def FnExactCompareTextsSaid : Prop := fnExactCompareTextsRow.holds Try.pinned (OpenSpec.ofChange fnExactCompareTextsSpec)

/-- ITS FALSE NEIGHBOUR: 'it returns false'. Refute it at one input. -/
def fnExactCompareTextsWrong : ChangeSpec := { name := "fnExactCompareTexts", fn := fun _ => fun
  | [d1, d2] => { results := [.lit (.bool false)], args := [d1, d2] }
  | _ => none }
def FnExactCompareTextsWrongFalsely : Prop := fnExactCompareTextsRow.holds Try.pinned (OpenSpec.ofChange fnExactCompareTextsWrong)

/-- 'laws.FnExactLeftText': WHATEVER THE INPUT: true; the input reads as it did. -/
def fnExactLeftTextSpec : ChangeSpec := { name := "fnExactLeftText", fn := fun _ => fun
  | [d1, d2, d3] => { results := [.lit (.bool true)], args := [d1, d2, d3] }
  | _ => none }
def fnExactLeftTextRow : OpenClaim := { program := "ythkmahnmhjlnmaa", sum := "477c04bc84e65824f81ba09bc5ea7d478e15ac0efe3ceccf23811a2730effba2", func := "loop.example/g03106/laws.FnExactLeftText", spec := "fnExactLeftText", apart := false }
def FnExactLeftTextSaid : Prop := fnExactLeftTextRow.holds Try.pinned (OpenSpec.ofChange fnExactLeftTextSpec)

/-- ITS FALSE NEIGHBOUR: 'it returns false'. Refute it at one input. -/
def fnExactLeftTextWrong : ChangeSpec := { name := "fnExactLeftText", fn := fun _ => fun
  | [d1, d2, d3] => { results := [.lit (.bool false)], args := [d1, d2, d3] }
  | _ => none }
def FnExactLeftTextWrongFalsely : Prop := fnExactLeftTextRow.holds Try.pinned (OpenSpec.ofChange fnExactLeftTextWrong)

/-- 'laws.FnExactRightText': WHATEVER THE INPUT: true; the input reads as it did. -/
def fnExactRightTextSpec : ChangeSpec := { name := "fnExactRightText", fn := fun _ => fun
  | [d1, d2, d3] => { results := [.lit (.bool true)], args := [d1, d2, d3] }
  | _ => none }
def fnExactRightTextRow : OpenClaim := { program := "ythkmahnmhjlnmaa", sum := "477c04bc84e65824f81ba09bc5ea7d478e15ac0efe3ceccf23811a2730effba2", func := "loop.example/g03106/laws.FnExactRightText", spec := "fnExactRightText", apart := false }
def FnExactRightTextSaid : Prop := fnExactRightTextRow.holds Try.pinned (OpenSpec.ofChange fnExactRightTextSpec)

/-- ITS FALSE NEIGHBOUR: 'it returns false'. Refute it at one input. -/
def fnExactRightTextWrong : ChangeSpec := { name := "fnExactRightText", fn := fun _ => fun
  | [d1, d2, d3] => { results := [.lit (.bool false)], args := [d1, d2, d3] }
  | _ => none }
def FnExactRightTextWrongFalsely : Prop := fnExactRightTextRow.holds Try.pinned (OpenSpec.ofChange fnExactRightTextWrong)

/- THE SECOND FORM. 'bulk': how many values and letters a reading holds, each counted each time it is reached (what is shared counts as often as it is met; a slice's spare places count too). A statement '..UptoSaid' is the law's where the arguments, and the package variables that the reading takes, are together of bulk at most 1048576: NARROWER than '..Said'. Prove '..Said' where nothing that the law and all that it calls make is longer than what came in: it says more and counts as full. Else prove '..UptoSaid'. A law counts once. -/
mutual
def uptoBulk {H : Type} : DataW H → Nat
  | .lit (.string bytes) => bytes.length + 1
  | .lit _ => 1
  | .nil => 1
  | .ptr d => uptoBulk d + 1
  | .slice elems spare => uptoBulkAll elems + uptoBulkAll spare + 1
  | .agg parts => uptoBulkAll parts + 1
  | .iface _ d => uptoBulk d + 1
  | .map entries => uptoBulkEntries entries + 1
  | .held _ => 1
def uptoBulkAll {H : Type} : List (DataW H) → Nat
  | [] => 0
  | d :: r => uptoBulk d + uptoBulkAll r
def uptoBulkEntries {H : Type} : List (Lit × DataW H) → Nat
  | [] => 0
  | x :: r => uptoBulkEntry x + uptoBulkEntries r
def uptoBulkEntry {H : Type} : Lit × DataW H → Nat
  | (.string bytes, d) => bytes.length + uptoBulk d + 1
  | (_, d) => uptoBulk d + 1
 end
def uptoSmall : (H : Type) → List (DataW H) → Bool := fun _ ds => decide (uptoBulkAll ds ≤ 1048576)
def OpenSpec.upto (s : _root_.Go.ChangeSpec) : _root_.Go.OpenSpec := { _root_.Go.OpenSpec.ofChange s with cond := some uptoSmall }

/-- 'laws.FnExactConstants', WHERE WHAT IT READS IS OF BULK AT MOST 1048576: true; the input reads as it did. -/
def fnExactConstantsUptoRow : OpenClaim := { program := "ythkmahnmhjlnmaa", sum := "477c04bc84e65824f81ba09bc5ea7d478e15ac0efe3ceccf23811a2730effba2", func := "loop.example/g03106/laws.FnExactConstants", spec := "fnExactConstants", apart := false, narrowed := true }
def FnExactConstantsUptoSaid : Prop := fnExactConstantsUptoRow.holds Try.pinned (OpenSpec.upto fnExactConstantsSpec)

/-- 'laws.FnExactConcatTexts', WHERE WHAT IT READS IS OF BULK AT MOST 1048576: true; the input reads as it did. -/
def fnExactConcatTextsUptoRow : OpenClaim := { program := "ythkmahnmhjlnmaa", sum := "477c04bc84e65824f81ba09bc5ea7d478e15ac0efe3ceccf23811a2730effba2", func := "loop.example/g03106/laws.FnExactConcatTexts", spec := "fnExactConcatTexts", apart := false, narrowed := true }
def FnExactConcatTextsUptoSaid : Prop := fnExactConcatTextsUptoRow.holds Try.pinned (OpenSpec.upto fnExactConcatTextsSpec)

/-- 'laws.FnExactReverseText', WHERE WHAT IT READS IS OF BULK AT MOST 1048576: true; the input reads as it did. -/
def fnExactReverseTextUptoRow : OpenClaim := { program := "ythkmahnmhjlnmaa", sum := "477c04bc84e65824f81ba09bc5ea7d478e15ac0efe3ceccf23811a2730effba2", func := "loop.example/g03106/laws.FnExactReverseText", spec := "fnExactReverseText", apart := false, narrowed := true }
def FnExactReverseTextUptoSaid : Prop := fnExactReverseTextUptoRow.holds Try.pinned (OpenSpec.upto fnExactReverseTextSpec)

/-- 'laws.FnExactComplementCset', WHERE WHAT IT READS IS OF BULK AT MOST 1048576: true; the input reads as it did. -/
def fnExactComplementCsetUptoRow : OpenClaim := { program := "ythkmahnmhjlnmaa", sum := "477c04bc84e65824f81ba09bc5ea7d478e15ac0efe3ceccf23811a2730effba2", func := "loop.example/g03106/laws.FnExactComplementCset", spec := "fnExactComplementCset", apart := false, narrowed := true }
def FnExactComplementCsetUptoSaid : Prop := fnExactComplementCsetUptoRow.holds Try.pinned (OpenSpec.upto fnExactComplementCsetSpec)

/-- 'laws.FnExactIntersectCsets', WHERE WHAT IT READS IS OF BULK AT MOST 1048576: true; the input reads as it did. -/
def fnExactIntersectCsetsUptoRow : OpenClaim := { program := "ythkmahnmhjlnmaa", sum := "477c04bc84e65824f81ba09bc5ea7d478e15ac0efe3ceccf23811a2730effba2", func := "loop.example/g03106/laws.FnExactIntersectCsets", spec := "fnExactIntersectCsets", apart := false, narrowed := true }
def FnExactIntersectCsetsUptoSaid : Prop := fnExactIntersectCsetsUptoRow.holds Try.pinned (OpenSpec.upto fnExactIntersectCsetsSpec)

/-- 'laws.FnExactSubtractCsets', WHERE WHAT IT READS IS OF BULK AT MOST 1048576: true; the input reads as it did. -/
def fnExactSubtractCsetsUptoRow : OpenClaim := { program := "ythkmahnmhjlnmaa", sum := "477c04bc84e65824f81ba09bc5ea7d478e15ac0efe3ceccf23811a2730effba2", func := "loop.example/g03106/laws.FnExactSubtractCsets", spec := "fnExactSubtractCsets", apart := false, narrowed := true }
def FnExactSubtractCsetsUptoSaid : Prop := fnExactSubtractCsetsUptoRow.holds Try.pinned (OpenSpec.upto fnExactSubtractCsetsSpec)

/-- 'laws.FnExactUnionCsets', WHERE WHAT IT READS IS OF BULK AT MOST 1048576: true; the input reads as it did. -/
def fnExactUnionCsetsUptoRow : OpenClaim := { program := "ythkmahnmhjlnmaa", sum := "477c04bc84e65824f81ba09bc5ea7d478e15ac0efe3ceccf23811a2730effba2", func := "loop.example/g03106/laws.FnExactUnionCsets", spec := "fnExactUnionCsets", apart := false, narrowed := true }
def FnExactUnionCsetsUptoSaid : Prop := fnExactUnionCsetsUptoRow.holds Try.pinned (OpenSpec.upto fnExactUnionCsetsSpec)

/-- 'laws.FnExactNormalizePosition', WHERE WHAT IT READS IS OF BULK AT MOST 1048576: true; the input reads as it did. -/
def fnExactNormalizePositionUptoRow : OpenClaim := { program := "ythkmahnmhjlnmaa", sum := "477c04bc84e65824f81ba09bc5ea7d478e15ac0efe3ceccf23811a2730effba2", func := "loop.example/g03106/laws.FnExactNormalizePosition", spec := "fnExactNormalizePosition", apart := false, narrowed := true }
def FnExactNormalizePositionUptoSaid : Prop := fnExactNormalizePositionUptoRow.holds Try.pinned (OpenSpec.upto fnExactNormalizePositionSpec)

/-- 'laws.FnExactHasByte', WHERE WHAT IT READS IS OF BULK AT MOST 1048576: true; the input reads as it did. -/
def fnExactHasByteUptoRow : OpenClaim := { program := "ythkmahnmhjlnmaa", sum := "477c04bc84e65824f81ba09bc5ea7d478e15ac0efe3ceccf23811a2730effba2", func := "loop.example/g03106/laws.FnExactHasByte", spec := "fnExactHasByte", apart := false, narrowed := true }
def FnExactHasByteUptoSaid : Prop := fnExactHasByteUptoRow.holds Try.pinned (OpenSpec.upto fnExactHasByteSpec)

/-- 'laws.FnExactCompareTexts', WHERE WHAT IT READS IS OF BULK AT MOST 1048576: true; the input reads as it did. -/
def fnExactCompareTextsUptoRow : OpenClaim := { program := "ythkmahnmhjlnmaa", sum := "477c04bc84e65824f81ba09bc5ea7d478e15ac0efe3ceccf23811a2730effba2", func := "loop.example/g03106/laws.FnExactCompareTexts", spec := "fnExactCompareTexts", inPlace := ["internal/bytealg.abigen_runtime_cmpstring"], apart := false, narrowed := true }
def FnExactCompareTextsUptoSaid : Prop := fnExactCompareTextsUptoRow.holds Try.pinned (OpenSpec.upto fnExactCompareTextsSpec)

/-- 'laws.FnExactLeftText', WHERE WHAT IT READS IS OF BULK AT MOST 1048576: true; the input reads as it did. -/
def fnExactLeftTextUptoRow : OpenClaim := { program := "ythkmahnmhjlnmaa", sum := "477c04bc84e65824f81ba09bc5ea7d478e15ac0efe3ceccf23811a2730effba2", func := "loop.example/g03106/laws.FnExactLeftText", spec := "fnExactLeftText", apart := false, narrowed := true }
def FnExactLeftTextUptoSaid : Prop := fnExactLeftTextUptoRow.holds Try.pinned (OpenSpec.upto fnExactLeftTextSpec)

/-- 'laws.FnExactRightText', WHERE WHAT IT READS IS OF BULK AT MOST 1048576: true; the input reads as it did. -/
def fnExactRightTextUptoRow : OpenClaim := { program := "ythkmahnmhjlnmaa", sum := "477c04bc84e65824f81ba09bc5ea7d478e15ac0efe3ceccf23811a2730effba2", func := "loop.example/g03106/laws.FnExactRightText", spec := "fnExactRightText", apart := false, narrowed := true }
def FnExactRightTextUptoSaid : Prop := fnExactRightTextUptoRow.holds Try.pinned (OpenSpec.upto fnExactRightTextSpec)

end Rows
end Go.Proofs.Ythkmahnmhjlnmaa
