/-
  NARROWER THAN 'FOR EVERY INPUT', by the rows' own cells (each row's printed sentence says how): FnExactCountNodes: loops · FnExactDepthOf: loops · FnExactEqualExpr: loops · FnExactEraseLines: loops.
  DERIVED. THE GIVEN ROWS OF THIS SEAT. 12 by the template 'for every input the law returns true; each argument reads behind the call as it read before'; 0 by the template 'total and deterministic' (their statements: YtnmieocbpdoicaaTotals.lean).
  GIVEN WITH THE SEED: the statements are not yours to turn. If you find one false, say at which input.
  Laid BY PROGRAM, IN A SANDBOX (cutbox-rows.mjs): the forced cells as the released guide's own fill.sh prints them over the translation a7edc05ecef785d8… (all of the seat's roots in one cut). By AI agents, Wed Nov 11 2026. No macro, syntax, notation, axiom, sorry.
-/
import Derived.Test.YtnmieocbpdoicaaChecked
import GoSem.Claim
import GoSem.ClaimJoined
import GoSem.ClaimMapViews
import Derived.JoinedTies
import Derived.KernelRfl
namespace Go.Proofs.Ytnmieocbpdoicaa
/- THE CELL 'sum', in the pinned program and in every row, IS THE sha256 OF THE DUMP (.gsa) THAT YtnmieocbpdoicaaProg.lean LOADS. Nothing in Lean hashes anything: it is a label: what it is worth is what the hold of that sum in a sandbox is worth. -/
noncomputable def Try.pinned : Pinned := { name := "ytnmieocbpdoicaa", sum := "a7edc05ecef785d85481794d3030253c477a4cedae7b0021b79343b9d2be5145", checked := Try.checked }
namespace Rows
def none {H : Type} : Left H := { results := [], args := [] }

/-- 'laws.FnExactParseNumber': WHATEVER THE INPUT: true; the input reads as it did. -/
def fnExactParseNumberSpec : ChangeSpec := { name := "fnExactParseNumber", fn := fun _ => fun
  | [d] => { results := [.lit (.bool true)], args := [d] }
  | _ => none }
def fnExactParseNumberRow : OpenClaim := { program := "ytnmieocbpdoicaa", sum := "a7edc05ecef785d85481794d3030253c477a4cedae7b0021b79343b9d2be5145", func := "loop.example/g03106/laws.FnExactParseNumber", spec := "fnExactParseNumber", apart := false }
def FnExactParseNumberSaid : Prop := fnExactParseNumberRow.holds Try.pinned (OpenSpec.ofChange fnExactParseNumberSpec)

/-- ITS FALSE NEIGHBOUR: 'it returns false'. Refute it at one input. -/
def fnExactParseNumberWrong : ChangeSpec := { name := "fnExactParseNumber", fn := fun _ => fun
  | [d] => { results := [.lit (.bool false)], args := [d] }
  | _ => none }
def FnExactParseNumberWrongFalsely : Prop := fnExactParseNumberRow.holds Try.pinned (OpenSpec.ofChange fnExactParseNumberWrong)

/-- 'laws.FnExactCountNodes': WHATEVER THE INPUT: true; the input reads as it did. -/
def fnExactCountNodesSpec : ChangeSpec := { name := "fnExactCountNodes", fn := fun _ => fun
  | [d] => { results := [.lit (.bool true)], args := [d] }
  | _ => none }
def fnExactCountNodesRow : OpenClaim := { program := "ytnmieocbpdoicaa", sum := "a7edc05ecef785d85481794d3030253c477a4cedae7b0021b79343b9d2be5145", func := "loop.example/g03106/laws.FnExactCountNodes", spec := "fnExactCountNodes", recurses := true, loops := true, apart := false }
def FnExactCountNodesSaid : Prop := fnExactCountNodesRow.holds Try.pinned (OpenSpec.ofChange fnExactCountNodesSpec)

/-- ITS FALSE NEIGHBOUR: 'it returns false'. Refute it at one input. -/
def fnExactCountNodesWrong : ChangeSpec := { name := "fnExactCountNodes", fn := fun _ => fun
  | [d] => { results := [.lit (.bool false)], args := [d] }
  | _ => none }
def FnExactCountNodesWrongFalsely : Prop := fnExactCountNodesRow.holds Try.pinned (OpenSpec.ofChange fnExactCountNodesWrong)

/-- 'laws.FnExactQuoteCset': WHATEVER THE INPUT: true; the input reads as it did. -/
def fnExactQuoteCsetSpec : ChangeSpec := { name := "fnExactQuoteCset", fn := fun _ => fun
  | [d] => { results := [.lit (.bool true)], args := [d] }
  | _ => none }
def fnExactQuoteCsetRow : OpenClaim := { program := "ytnmieocbpdoicaa", sum := "a7edc05ecef785d85481794d3030253c477a4cedae7b0021b79343b9d2be5145", func := "loop.example/g03106/laws.FnExactQuoteCset", spec := "fnExactQuoteCset", apart := false }
def FnExactQuoteCsetSaid : Prop := fnExactQuoteCsetRow.holds Try.pinned (OpenSpec.ofChange fnExactQuoteCsetSpec)

/-- ITS FALSE NEIGHBOUR: 'it returns false'. Refute it at one input. -/
def fnExactQuoteCsetWrong : ChangeSpec := { name := "fnExactQuoteCset", fn := fun _ => fun
  | [d] => { results := [.lit (.bool false)], args := [d] }
  | _ => none }
def FnExactQuoteCsetWrongFalsely : Prop := fnExactQuoteCsetRow.holds Try.pinned (OpenSpec.ofChange fnExactQuoteCsetWrong)

/-- 'laws.FnExactDepthOf': WHATEVER THE INPUT: true; the input reads as it did. -/
def fnExactDepthOfSpec : ChangeSpec := { name := "fnExactDepthOf", fn := fun _ => fun
  | [d] => { results := [.lit (.bool true)], args := [d] }
  | _ => none }
def fnExactDepthOfRow : OpenClaim := { program := "ytnmieocbpdoicaa", sum := "a7edc05ecef785d85481794d3030253c477a4cedae7b0021b79343b9d2be5145", func := "loop.example/g03106/laws.FnExactDepthOf", spec := "fnExactDepthOf", recurses := true, loops := true, apart := false }
def FnExactDepthOfSaid : Prop := fnExactDepthOfRow.holds Try.pinned (OpenSpec.ofChange fnExactDepthOfSpec)

/-- ITS FALSE NEIGHBOUR: 'it returns false'. Refute it at one input. -/
def fnExactDepthOfWrong : ChangeSpec := { name := "fnExactDepthOf", fn := fun _ => fun
  | [d] => { results := [.lit (.bool false)], args := [d] }
  | _ => none }
def FnExactDepthOfWrongFalsely : Prop := fnExactDepthOfRow.holds Try.pinned (OpenSpec.ofChange fnExactDepthOfWrong)

/-- 'laws.FnExactEqualExpr': WHATEVER THE INPUT: true; the input reads as it did. -/
def fnExactEqualExprSpec : ChangeSpec := { name := "fnExactEqualExpr", fn := fun _ => fun
  | [d1, d2] => { results := [.lit (.bool true)], args := [d1, d2] }
  | _ => none }
def fnExactEqualExprRow : OpenClaim := { program := "ytnmieocbpdoicaa", sum := "a7edc05ecef785d85481794d3030253c477a4cedae7b0021b79343b9d2be5145", func := "loop.example/g03106/laws.FnExactEqualExpr", spec := "fnExactEqualExpr", recurses := true, loops := true, apart := false }
def FnExactEqualExprSaid : Prop := fnExactEqualExprRow.holds Try.pinned (OpenSpec.ofChange fnExactEqualExprSpec)

/-- ITS FALSE NEIGHBOUR: 'it returns false'. Refute it at one input. -/
def fnExactEqualExprWrong : ChangeSpec := { name := "fnExactEqualExpr", fn := fun _ => fun
  | [d1, d2] => { results := [.lit (.bool false)], args := [d1, d2] }
  | _ => none }
def FnExactEqualExprWrongFalsely : Prop := fnExactEqualExprRow.holds Try.pinned (OpenSpec.ofChange fnExactEqualExprWrong)

/-- 'laws.FnPositions': WHATEVER THE INPUT: true; the input reads as it did. -/
def fnPositionsSpec : ChangeSpec := { name := "fnPositions", fn := fun _ => fun
  | [d] => { results := [.lit (.bool true)], args := [d] }
  | _ => none }
def fnPositionsRow : OpenClaim := { program := "ytnmieocbpdoicaa", sum := "a7edc05ecef785d85481794d3030253c477a4cedae7b0021b79343b9d2be5145", func := "loop.example/g03106/laws.FnPositions", spec := "fnPositions", apart := false }
def FnPositionsSaid : Prop := fnPositionsRow.holds Try.pinned (OpenSpec.ofChange fnPositionsSpec)

/-- ITS FALSE NEIGHBOUR: 'it returns false'. Refute it at one input. -/
def fnPositionsWrong : ChangeSpec := { name := "fnPositions", fn := fun _ => fun
  | [d] => { results := [.lit (.bool false)], args := [d] }
  | _ => none }
def FnPositionsWrongFalsely : Prop := fnPositionsRow.holds Try.pinned (OpenSpec.ofChange fnPositionsWrong)

/-- 'laws.FnExactUnquoteText': WHATEVER THE INPUT: true; the input reads as it did. -/
def fnExactUnquoteTextSpec : ChangeSpec := { name := "fnExactUnquoteText", fn := fun _ => fun
  | [d] => { results := [.lit (.bool true)], args := [d] }
  | _ => none }
def fnExactUnquoteTextRow : OpenClaim := { program := "ytnmieocbpdoicaa", sum := "a7edc05ecef785d85481794d3030253c477a4cedae7b0021b79343b9d2be5145", func := "loop.example/g03106/laws.FnExactUnquoteText", spec := "fnExactUnquoteText", apart := false }
def FnExactUnquoteTextSaid : Prop := fnExactUnquoteTextRow.holds Try.pinned (OpenSpec.ofChange fnExactUnquoteTextSpec)

/-- ITS FALSE NEIGHBOUR: 'it returns false'. Refute it at one input. -/
def fnExactUnquoteTextWrong : ChangeSpec := { name := "fnExactUnquoteText", fn := fun _ => fun
  | [d] => { results := [.lit (.bool false)], args := [d] }
  | _ => none }
def FnExactUnquoteTextWrongFalsely : Prop := fnExactUnquoteTextRow.holds Try.pinned (OpenSpec.ofChange fnExactUnquoteTextWrong)

/-- 'laws.FnPadded': WHATEVER THE INPUT: true; the input reads as it did. -/
def fnPaddedSpec : ChangeSpec := { name := "fnPadded", fn := fun _ => fun
  | [d] => { results := [.lit (.bool true)], args := [d] }
  | _ => none }
def fnPaddedRow : OpenClaim := { program := "ytnmieocbpdoicaa", sum := "a7edc05ecef785d85481794d3030253c477a4cedae7b0021b79343b9d2be5145", func := "loop.example/g03106/laws.FnPadded", spec := "fnPadded", inPlace := ["internal/bytealg.abigen_runtime_cmpstring"], apart := false }
def FnPaddedSaid : Prop := fnPaddedRow.holds Try.pinned (OpenSpec.ofChange fnPaddedSpec)

/-- ITS FALSE NEIGHBOUR: 'it returns false'. Refute it at one input. -/
def fnPaddedWrong : ChangeSpec := { name := "fnPadded", fn := fun _ => fun
  | [d] => { results := [.lit (.bool false)], args := [d] }
  | _ => none }
def FnPaddedWrongFalsely : Prop := fnPaddedRow.holds Try.pinned (OpenSpec.ofChange fnPaddedWrong)

/-- 'laws.FnExactJoin': WHATEVER THE INPUT: true; the input reads as it did. -/
def fnExactJoinSpec : ChangeSpec := { name := "fnExactJoin", fn := fun _ => fun
  | [d1, d2] => { results := [.lit (.bool true)], args := [d1, d2] }
  | _ => none }
def fnExactJoinRow : OpenClaim := { program := "ytnmieocbpdoicaa", sum := "a7edc05ecef785d85481794d3030253c477a4cedae7b0021b79343b9d2be5145", func := "loop.example/g03106/laws.FnExactJoin", spec := "fnExactJoin", inPlace := ["internal/abi.NoEscape", "internal/bytealg.MakeNoZero"], apart := false }
def FnExactJoinSaid : Prop := fnExactJoinRow.holds Try.pinned (OpenSpec.ofChange fnExactJoinSpec)

/-- ITS FALSE NEIGHBOUR: 'it returns false'. Refute it at one input. -/
def fnExactJoinWrong : ChangeSpec := { name := "fnExactJoin", fn := fun _ => fun
  | [d1, d2] => { results := [.lit (.bool false)], args := [d1, d2] }
  | _ => none }
def FnExactJoinWrongFalsely : Prop := fnExactJoinRow.holds Try.pinned (OpenSpec.ofChange fnExactJoinWrong)

/-- 'laws.FnDeMorgan': WHATEVER THE INPUT: true; the input reads as it did. -/
def fnDeMorganSpec : ChangeSpec := { name := "fnDeMorgan", fn := fun _ => fun
  | [d] => { results := [.lit (.bool true)], args := [d] }
  | _ => none }
def fnDeMorganRow : OpenClaim := { program := "ytnmieocbpdoicaa", sum := "a7edc05ecef785d85481794d3030253c477a4cedae7b0021b79343b9d2be5145", func := "loop.example/g03106/laws.FnDeMorgan", spec := "fnDeMorgan", apart := false }
def FnDeMorganSaid : Prop := fnDeMorganRow.holds Try.pinned (OpenSpec.ofChange fnDeMorganSpec)

/-- ITS FALSE NEIGHBOUR: 'it returns false'. Refute it at one input. -/
def fnDeMorganWrong : ChangeSpec := { name := "fnDeMorgan", fn := fun _ => fun
  | [d] => { results := [.lit (.bool false)], args := [d] }
  | _ => none }
def FnDeMorganWrongFalsely : Prop := fnDeMorganRow.holds Try.pinned (OpenSpec.ofChange fnDeMorganWrong)

/-- 'laws.FnExactEraseLines': WHATEVER THE INPUT: true; the input reads as it did. -/
def fnExactEraseLinesSpec : ChangeSpec := { name := "fnExactEraseLines", fn := fun _ => fun
  | [d] => { results := [.lit (.bool true)], args := [d] }
  | _ => none }
def fnExactEraseLinesRow : OpenClaim := { program := "ytnmieocbpdoicaa", sum := "a7edc05ecef785d85481794d3030253c477a4cedae7b0021b79343b9d2be5145", func := "loop.example/g03106/laws.FnExactEraseLines", spec := "fnExactEraseLines", recurses := true, loops := true, apart := false }
def FnExactEraseLinesSaid : Prop := fnExactEraseLinesRow.holds Try.pinned (OpenSpec.ofChange fnExactEraseLinesSpec)

/-- ITS FALSE NEIGHBOUR: 'it returns false'. Refute it at one input. -/
def fnExactEraseLinesWrong : ChangeSpec := { name := "fnExactEraseLines", fn := fun _ => fun
  | [d] => { results := [.lit (.bool false)], args := [d] }
  | _ => none }
def FnExactEraseLinesWrongFalsely : Prop := fnExactEraseLinesRow.holds Try.pinned (OpenSpec.ofChange fnExactEraseLinesWrong)

/-- 'laws.FnExactTokenText': WHATEVER THE INPUT: true; the input reads as it did. -/
def fnExactTokenTextSpec : ChangeSpec := { name := "fnExactTokenText", fn := fun _ => fun
  | [d] => { results := [.lit (.bool true)], args := [d] }
  | _ => none }
def fnExactTokenTextRow : OpenClaim := { program := "ytnmieocbpdoicaa", sum := "a7edc05ecef785d85481794d3030253c477a4cedae7b0021b79343b9d2be5145", func := "loop.example/g03106/laws.FnExactTokenText", spec := "fnExactTokenText", apart := false }
def FnExactTokenTextSaid : Prop := fnExactTokenTextRow.holds Try.pinned (OpenSpec.ofChange fnExactTokenTextSpec)

/-- ITS FALSE NEIGHBOUR: 'it returns false'. Refute it at one input. -/
def fnExactTokenTextWrong : ChangeSpec := { name := "fnExactTokenText", fn := fun _ => fun
  | [d] => { results := [.lit (.bool false)], args := [d] }
  | _ => none }
def FnExactTokenTextWrongFalsely : Prop := fnExactTokenTextRow.holds Try.pinned (OpenSpec.ofChange fnExactTokenTextWrong)

/- THE SECOND FORM. 'bulk': how many values and letters a reading holds, each counted each time it is reached (what is shared counts as often as it is met; a slice's spare places count too). A statement '..UptoSaid' is the law's where the arguments, and the package variables that the reading takes, are together of bulk at most 1048576: NARROWER than '..Said'. Prove '..Said' where nothing that the law and all that it calls make is longer than what came in: it says more and counts as full. Else prove '..UptoSaid'. A law counts once. -/
mutual
def uptoBulk {H : Type} : DataW H → Nat
  | .lit (.string bytes) => bytes.length + 1
  | .lit _ => 1
  | .nil => 1
  | .ptr d => uptoBulk d + 1
  | .slice elems spare => uptoBulkAll elems + uptoBulkAll spare + 1
  | .agg parts => uptoBulkAll parts + 1
  | .iface _ d => uptoBulk d + 1
  | .map entries => uptoBulkEntries entries + 1
  | .held _ => 1
def uptoBulkAll {H : Type} : List (DataW H) → Nat
  | [] => 0
  | d :: r => uptoBulk d + uptoBulkAll r
def uptoBulkEntries {H : Type} : List (Lit × DataW H) → Nat
  | [] => 0
  | x :: r => uptoBulkEntry x + uptoBulkEntries r
def uptoBulkEntry {H : Type} : Lit × DataW H → Nat
  | (.string bytes, d) => bytes.length + uptoBulk d + 1
  | (_, d) => uptoBulk d + 1
 end
def uptoSmall : (H : Type) → List (DataW H) → Bool := fun _ ds => decide (uptoBulkAll ds ≤ 1048576)
def OpenSpec.upto (s : _root_.Go.ChangeSpec) : _root_.Go.OpenSpec := { _root_.Go.OpenSpec.ofChange s with cond := some uptoSmall }

/-- 'laws.FnExactParseNumber', WHERE WHAT IT READS IS OF BULK AT MOST 1048576: true; the input reads as it did. -/
def fnExactParseNumberUptoRow : OpenClaim := { program := "ytnmieocbpdoicaa", sum := "a7edc05ecef785d85481794d3030253c477a4cedae7b0021b79343b9d2be5145", func := "loop.example/g03106/laws.FnExactParseNumber", spec := "fnExactParseNumber", apart := false, narrowed := true }
def FnExactParseNumberUptoSaid : Prop := fnExactParseNumberUptoRow.holds Try.pinned (OpenSpec.upto fnExactParseNumberSpec)

/-- 'laws.FnExactCountNodes', WHERE WHAT IT READS IS OF BULK AT MOST 1048576: true; the input reads as it did. -/
def fnExactCountNodesUptoRow : OpenClaim := { program := "ytnmieocbpdoicaa", sum := "a7edc05ecef785d85481794d3030253c477a4cedae7b0021b79343b9d2be5145", func := "loop.example/g03106/laws.FnExactCountNodes", spec := "fnExactCountNodes", recurses := true, loops := true, apart := false, narrowed := true }
def FnExactCountNodesUptoSaid : Prop := fnExactCountNodesUptoRow.holds Try.pinned (OpenSpec.upto fnExactCountNodesSpec)

/-- 'laws.FnExactQuoteCset', WHERE WHAT IT READS IS OF BULK AT MOST 1048576: true; the input reads as it did. -/
def fnExactQuoteCsetUptoRow : OpenClaim := { program := "ytnmieocbpdoicaa", sum := "a7edc05ecef785d85481794d3030253c477a4cedae7b0021b79343b9d2be5145", func := "loop.example/g03106/laws.FnExactQuoteCset", spec := "fnExactQuoteCset", apart := false, narrowed := true }
def FnExactQuoteCsetUptoSaid : Prop := fnExactQuoteCsetUptoRow.holds Try.pinned (OpenSpec.upto fnExactQuoteCsetSpec)

/-- 'laws.FnExactDepthOf', WHERE WHAT IT READS IS OF BULK AT MOST 1048576: true; the input reads as it did. -/
def fnExactDepthOfUptoRow : OpenClaim := { program := "ytnmieocbpdoicaa", sum := "a7edc05ecef785d85481794d3030253c477a4cedae7b0021b79343b9d2be5145", func := "loop.example/g03106/laws.FnExactDepthOf", spec := "fnExactDepthOf", recurses := true, loops := true, apart := false, narrowed := true }
def FnExactDepthOfUptoSaid : Prop := fnExactDepthOfUptoRow.holds Try.pinned (OpenSpec.upto fnExactDepthOfSpec)

/-- 'laws.FnExactEqualExpr', WHERE WHAT IT READS IS OF BULK AT MOST 1048576: true; the input reads as it did. -/
def fnExactEqualExprUptoRow : OpenClaim := { program := "ytnmieocbpdoicaa", sum := "a7edc05ecef785d85481794d3030253c477a4cedae7b0021b79343b9d2be5145", func := "loop.example/g03106/laws.FnExactEqualExpr", spec := "fnExactEqualExpr", recurses := true, loops := true, apart := false, narrowed := true }
def FnExactEqualExprUptoSaid : Prop := fnExactEqualExprUptoRow.holds Try.pinned (OpenSpec.upto fnExactEqualExprSpec)

/-- 'laws.FnPositions', WHERE WHAT IT READS IS OF BULK AT MOST 1048576: true; the input reads as it did. -/
def fnPositionsUptoRow : OpenClaim := { program := "ytnmieocbpdoicaa", sum := "a7edc05ecef785d85481794d3030253c477a4cedae7b0021b79343b9d2be5145", func := "loop.example/g03106/laws.FnPositions", spec := "fnPositions", apart := false, narrowed := true }
def FnPositionsUptoSaid : Prop := fnPositionsUptoRow.holds Try.pinned (OpenSpec.upto fnPositionsSpec)

/-- 'laws.FnExactUnquoteText', WHERE WHAT IT READS IS OF BULK AT MOST 1048576: true; the input reads as it did. -/
def fnExactUnquoteTextUptoRow : OpenClaim := { program := "ytnmieocbpdoicaa", sum := "a7edc05ecef785d85481794d3030253c477a4cedae7b0021b79343b9d2be5145", func := "loop.example/g03106/laws.FnExactUnquoteText", spec := "fnExactUnquoteText", apart := false, narrowed := true }
def FnExactUnquoteTextUptoSaid : Prop := fnExactUnquoteTextUptoRow.holds Try.pinned (OpenSpec.upto fnExactUnquoteTextSpec)

/-- 'laws.FnPadded', WHERE WHAT IT READS IS OF BULK AT MOST 1048576: true; the input reads as it did. -/
def fnPaddedUptoRow : OpenClaim := { program := "ytnmieocbpdoicaa", sum := "a7edc05ecef785d85481794d3030253c477a4cedae7b0021b79343b9d2be5145", func := "loop.example/g03106/laws.FnPadded", spec := "fnPadded", inPlace := ["internal/bytealg.abigen_runtime_cmpstring"], apart := false, narrowed := true }
def FnPaddedUptoSaid : Prop := fnPaddedUptoRow.holds Try.pinned (OpenSpec.upto fnPaddedSpec)

/-- 'laws.FnExactJoin', WHERE WHAT IT READS IS OF BULK AT MOST 1048576: true; the input reads as it did. -/
def fnExactJoinUptoRow : OpenClaim := { program := "ytnmieocbpdoicaa", sum := "a7edc05ecef785d85481794d3030253c477a4cedae7b0021b79343b9d2be5145", func := "loop.example/g03106/laws.FnExactJoin", spec := "fnExactJoin", inPlace := ["internal/abi.NoEscape", "internal/bytealg.MakeNoZero"], apart := false, narrowed := true }
def FnExactJoinUptoSaid : Prop := fnExactJoinUptoRow.holds Try.pinned (OpenSpec.upto fnExactJoinSpec)

/-- 'laws.FnDeMorgan', WHERE WHAT IT READS IS OF BULK AT MOST 1048576: true; the input reads as it did. -/
def fnDeMorganUptoRow : OpenClaim := { program := "ytnmieocbpdoicaa", sum := "a7edc05ecef785d85481794d3030253c477a4cedae7b0021b79343b9d2be5145", func := "loop.example/g03106/laws.FnDeMorgan", spec := "fnDeMorgan", apart := false, narrowed := true }
def FnDeMorganUptoSaid : Prop := fnDeMorganUptoRow.holds Try.pinned (OpenSpec.upto fnDeMorganSpec)

/-- 'laws.FnExactEraseLines', WHERE WHAT IT READS IS OF BULK AT MOST 1048576: true; the input reads as it did. -/
def fnExactEraseLinesUptoRow : OpenClaim := { program := "ytnmieocbpdoicaa", sum := "a7edc05ecef785d85481794d3030253c477a4cedae7b0021b79343b9d2be5145", func := "loop.example/g03106/laws.FnExactEraseLines", spec := "fnExactEraseLines", recurses := true, loops := true, apart := false, narrowed := true }
def FnExactEraseLinesUptoSaid : Prop := fnExactEraseLinesUptoRow.holds Try.pinned (OpenSpec.upto fnExactEraseLinesSpec)

/-- 'laws.FnExactTokenText', WHERE WHAT IT READS IS OF BULK AT MOST 1048576: true; the input reads as it did. -/
def fnExactTokenTextUptoRow : OpenClaim := { program := "ytnmieocbpdoicaa", sum := "a7edc05ecef785d85481794d3030253c477a4cedae7b0021b79343b9d2be5145", func := "loop.example/g03106/laws.FnExactTokenText", spec := "fnExactTokenText", apart := false, narrowed := true }
def FnExactTokenTextUptoSaid : Prop := fnExactTokenTextUptoRow.holds Try.pinned (OpenSpec.upto fnExactTokenTextSpec)

end Rows
end Go.Proofs.Ytnmieocbpdoicaa
