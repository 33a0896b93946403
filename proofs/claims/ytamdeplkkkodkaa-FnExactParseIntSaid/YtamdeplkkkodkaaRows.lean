/-
  No cell of these rows narrows 'for every input' (looked for: loops, veiled, ifaces, maps, wideKeys, modest, calm, conditions, laid).
  DERIVED. THE GIVEN ROWS OF THIS SEAT. 12 by the template 'for every input the law returns true; each argument reads behind the call as it read before'; 0 by the template 'total and deterministic' (their statements: YtamdeplkkkodkaaTotals.lean).
  GIVEN WITH THE SEED: the statements are not yours to turn. If you find one false, say at which input.
  Laid BY PROGRAM, IN A SANDBOX (cutbox-rows.mjs): the forced cells as the released guide's own fill.sh prints them over the translation 93f4f36f2dd08f5f… (all of the seat's roots in one cut). By AI agents, Wed Nov 11 2026. No macro, syntax, notation, axiom, sorry.
-/
import Derived.Test.YtamdeplkkkodkaaChecked
import GoSem.Claim
import GoSem.ClaimJoined
import GoSem.ClaimMapViews
import Derived.JoinedTies
import Derived.KernelRfl
namespace Go.Proofs.Ytamdeplkkkodkaa
/- THE CELL 'sum', in the pinned program and in every row, IS THE sha256 OF THE DUMP (.gsa) THAT YtamdeplkkkodkaaProg.lean LOADS. Nothing in Lean hashes anything: it is a label: what it is worth is what the hold of that sum in a sandbox is worth. -/
noncomputable def Try.pinned : Pinned := { name := "ytamdeplkkkodkaa", sum := "93f4f36f2dd08f5f1f61bc9e84f1326842e7bfdc10928f88e02e29a879b87248", checked := Try.checked }
namespace Rows
def none {H : Type} : Left H := { results := [], args := [] }

/-- 'laws.FnExactCenterText': WHATEVER THE INPUT: true; the input reads as it did. -/
def fnExactCenterTextSpec : ChangeSpec := { name := "fnExactCenterText", fn := fun _ => fun
  | [d1, d2, d3] => { results := [.lit (.bool true)], args := [d1, d2, d3] }
  | _ => none }
def fnExactCenterTextRow : OpenClaim := { program := "ytamdeplkkkodkaa", sum := "93f4f36f2dd08f5f1f61bc9e84f1326842e7bfdc10928f88e02e29a879b87248", func := "loop.example/g03106/laws.FnExactCenterText", spec := "fnExactCenterText", apart := false }
def FnExactCenterTextSaid : Prop := fnExactCenterTextRow.holds Try.pinned (OpenSpec.ofChange fnExactCenterTextSpec)

/-- ITS FALSE NEIGHBOUR: 'it returns false'. Refute it at one input. -/
def fnExactCenterTextWrong : ChangeSpec := { name := "fnExactCenterText", fn := fun _ => fun
  | [d1, d2, d3] => { results := [.lit (.bool false)], args := [d1, d2, d3] }
  | _ => none }
def FnExactCenterTextWrongFalsely : Prop := fnExactCenterTextRow.holds Try.pinned (OpenSpec.ofChange fnExactCenterTextWrong)

/-- 'laws.FnExactTrimText': WHATEVER THE INPUT: true; the input reads as it did. -/
def fnExactTrimTextSpec : ChangeSpec := { name := "fnExactTrimText", fn := fun _ => fun
  | [d1, d2] => { results := [.lit (.bool true)], args := [d1, d2] }
  | _ => none }
def fnExactTrimTextRow : OpenClaim := { program := "ytamdeplkkkodkaa", sum := "93f4f36f2dd08f5f1f61bc9e84f1326842e7bfdc10928f88e02e29a879b87248", func := "loop.example/g03106/laws.FnExactTrimText", spec := "fnExactTrimText", apart := false }
def FnExactTrimTextSaid : Prop := fnExactTrimTextRow.holds Try.pinned (OpenSpec.ofChange fnExactTrimTextSpec)

/-- ITS FALSE NEIGHBOUR: 'it returns false'. Refute it at one input. -/
def fnExactTrimTextWrong : ChangeSpec := { name := "fnExactTrimText", fn := fun _ => fun
  | [d1, d2] => { results := [.lit (.bool false)], args := [d1, d2] }
  | _ => none }
def FnExactTrimTextWrongFalsely : Prop := fnExactTrimTextRow.holds Try.pinned (OpenSpec.ofChange fnExactTrimTextWrong)

/-- 'laws.FnExactMapText': WHATEVER THE INPUT: true; the input reads as it did. -/
def fnExactMapTextSpec : ChangeSpec := { name := "fnExactMapText", fn := fun _ => fun
  | [d1, d2, d3] => { results := [.lit (.bool true)], args := [d1, d2, d3] }
  | _ => none }
def fnExactMapTextRow : OpenClaim := { program := "ytamdeplkkkodkaa", sum := "93f4f36f2dd08f5f1f61bc9e84f1326842e7bfdc10928f88e02e29a879b87248", func := "loop.example/g03106/laws.FnExactMapText", spec := "fnExactMapText", apart := false }
def FnExactMapTextSaid : Prop := fnExactMapTextRow.holds Try.pinned (OpenSpec.ofChange fnExactMapTextSpec)

/-- ITS FALSE NEIGHBOUR: 'it returns false'. Refute it at one input. -/
def fnExactMapTextWrong : ChangeSpec := { name := "fnExactMapText", fn := fun _ => fun
  | [d1, d2, d3] => { results := [.lit (.bool false)], args := [d1, d2, d3] }
  | _ => none }
def FnExactMapTextWrongFalsely : Prop := fnExactMapTextRow.holds Try.pinned (OpenSpec.ofChange fnExactMapTextWrong)

/-- 'laws.FnExactSectionOf': WHATEVER THE INPUT: true; the input reads as it did. -/
def fnExactSectionOfSpec : ChangeSpec := { name := "fnExactSectionOf", fn := fun _ => fun
  | [d1, d2, d3] => { results := [.lit (.bool true)], args := [d1, d2, d3] }
  | _ => none }
def fnExactSectionOfRow : OpenClaim := { program := "ytamdeplkkkodkaa", sum := "93f4f36f2dd08f5f1f61bc9e84f1326842e7bfdc10928f88e02e29a879b87248", func := "loop.example/g03106/laws.FnExactSectionOf", spec := "fnExactSectionOf", apart := false }
def FnExactSectionOfSaid : Prop := fnExactSectionOfRow.holds Try.pinned (OpenSpec.ofChange fnExactSectionOfSpec)

/-- ITS FALSE NEIGHBOUR: 'it returns false'. Refute it at one input. -/
def fnExactSectionOfWrong : ChangeSpec := { name := "fnExactSectionOf", fn := fun _ => fun
  | [d1, d2, d3] => { results := [.lit (.bool false)], args := [d1, d2, d3] }
  | _ => none }
def FnExactSectionOfWrongFalsely : Prop := fnExactSectionOfRow.holds Try.pinned (OpenSpec.ofChange fnExactSectionOfWrong)

/-- 'laws.FnExactCsetText': WHATEVER THE INPUT: true; the input reads as it did. -/
def fnExactCsetTextSpec : ChangeSpec := { name := "fnExactCsetText", fn := fun _ => fun
  | [d] => { results := [.lit (.bool true)], args := [d] }
  | _ => none }
def fnExactCsetTextRow : OpenClaim := { program := "ytamdeplkkkodkaa", sum := "93f4f36f2dd08f5f1f61bc9e84f1326842e7bfdc10928f88e02e29a879b87248", func := "loop.example/g03106/laws.FnExactCsetText", spec := "fnExactCsetText", apart := false }
def FnExactCsetTextSaid : Prop := fnExactCsetTextRow.holds Try.pinned (OpenSpec.ofChange fnExactCsetTextSpec)

/-- ITS FALSE NEIGHBOUR: 'it returns false'. Refute it at one input. -/
def fnExactCsetTextWrong : ChangeSpec := { name := "fnExactCsetText", fn := fun _ => fun
  | [d] => { results := [.lit (.bool false)], args := [d] }
  | _ => none }
def FnExactCsetTextWrongFalsely : Prop := fnExactCsetTextRow.holds Try.pinned (OpenSpec.ofChange fnExactCsetTextWrong)

/-- 'laws.FnExactNewCset': WHATEVER THE INPUT: true; the input reads as it did. -/
def fnExactNewCsetSpec : ChangeSpec := { name := "fnExactNewCset", fn := fun _ => fun
  | [d] => { results := [.lit (.bool true)], args := [d] }
  | _ => none }
def fnExactNewCsetRow : OpenClaim := { program := "ytamdeplkkkodkaa", sum := "93f4f36f2dd08f5f1f61bc9e84f1326842e7bfdc10928f88e02e29a879b87248", func := "loop.example/g03106/laws.FnExactNewCset", spec := "fnExactNewCset", apart := false }
def FnExactNewCsetSaid : Prop := fnExactNewCsetRow.holds Try.pinned (OpenSpec.ofChange fnExactNewCsetSpec)

/-- ITS FALSE NEIGHBOUR: 'it returns false'. Refute it at one input. -/
def fnExactNewCsetWrong : ChangeSpec := { name := "fnExactNewCset", fn := fun _ => fun
  | [d] => { results := [.lit (.bool false)], args := [d] }
  | _ => none }
def FnExactNewCsetWrongFalsely : Prop := fnExactNewCsetRow.holds Try.pinned (OpenSpec.ofChange fnExactNewCsetWrong)

/-- 'laws.FnExactRangeCset': WHATEVER THE INPUT: true; the input reads as it did. -/
def fnExactRangeCsetSpec : ChangeSpec := { name := "fnExactRangeCset", fn := fun _ => fun
  | [d1, d2] => { results := [.lit (.bool true)], args := [d1, d2] }
  | _ => none }
def fnExactRangeCsetRow : OpenClaim := { program := "ytamdeplkkkodkaa", sum := "93f4f36f2dd08f5f1f61bc9e84f1326842e7bfdc10928f88e02e29a879b87248", func := "loop.example/g03106/laws.FnExactRangeCset", spec := "fnExactRangeCset", apart := false }
def FnExactRangeCsetSaid : Prop := fnExactRangeCsetRow.holds Try.pinned (OpenSpec.ofChange fnExactRangeCsetSpec)

/-- ITS FALSE NEIGHBOUR: 'it returns false'. Refute it at one input. -/
def fnExactRangeCsetWrong : ChangeSpec := { name := "fnExactRangeCset", fn := fun _ => fun
  | [d1, d2] => { results := [.lit (.bool false)], args := [d1, d2] }
  | _ => none }
def FnExactRangeCsetWrongFalsely : Prop := fnExactRangeCsetRow.holds Try.pinned (OpenSpec.ofChange fnExactRangeCsetWrong)

/-- 'laws.FnExactCsetSize': WHATEVER THE INPUT: true; the input reads as it did. -/
def fnExactCsetSizeSpec : ChangeSpec := { name := "fnExactCsetSize", fn := fun _ => fun
  | [d] => { results := [.lit (.bool true)], args := [d] }
  | _ => none }
def fnExactCsetSizeRow : OpenClaim := { program := "ytamdeplkkkodkaa", sum := "93f4f36f2dd08f5f1f61bc9e84f1326842e7bfdc10928f88e02e29a879b87248", func := "loop.example/g03106/laws.FnExactCsetSize", spec := "fnExactCsetSize", apart := false }
def FnExactCsetSizeSaid : Prop := fnExactCsetSizeRow.holds Try.pinned (OpenSpec.ofChange fnExactCsetSizeSpec)

/-- ITS FALSE NEIGHBOUR: 'it returns false'. Refute it at one input. -/
def fnExactCsetSizeWrong : ChangeSpec := { name := "fnExactCsetSize", fn := fun _ => fun
  | [d] => { results := [.lit (.bool false)], args := [d] }
  | _ => none }
def FnExactCsetSizeWrongFalsely : Prop := fnExactCsetSizeRow.holds Try.pinned (OpenSpec.ofChange fnExactCsetSizeWrong)

/-- 'laws.FnExactQuoteText': WHATEVER THE INPUT: true; the input reads as it did. -/
def fnExactQuoteTextSpec : ChangeSpec := { name := "fnExactQuoteText", fn := fun _ => fun
  | [d] => { results := [.lit (.bool true)], args := [d] }
  | _ => none }
def fnExactQuoteTextRow : OpenClaim := { program := "ytamdeplkkkodkaa", sum := "93f4f36f2dd08f5f1f61bc9e84f1326842e7bfdc10928f88e02e29a879b87248", func := "loop.example/g03106/laws.FnExactQuoteText", spec := "fnExactQuoteText", apart := false }
def FnExactQuoteTextSaid : Prop := fnExactQuoteTextRow.holds Try.pinned (OpenSpec.ofChange fnExactQuoteTextSpec)

/-- ITS FALSE NEIGHBOUR: 'it returns false'. Refute it at one input. -/
def fnExactQuoteTextWrong : ChangeSpec := { name := "fnExactQuoteText", fn := fun _ => fun
  | [d] => { results := [.lit (.bool false)], args := [d] }
  | _ => none }
def FnExactQuoteTextWrongFalsely : Prop := fnExactQuoteTextRow.holds Try.pinned (OpenSpec.ofChange fnExactQuoteTextWrong)

/-- 'laws.FnExactIntegerOfText': WHATEVER THE INPUT: true; the input reads as it did. -/
def fnExactIntegerOfTextSpec : ChangeSpec := { name := "fnExactIntegerOfText", fn := fun _ => fun
  | [d] => { results := [.lit (.bool true)], args := [d] }
  | _ => none }
def fnExactIntegerOfTextRow : OpenClaim := { program := "ytamdeplkkkodkaa", sum := "93f4f36f2dd08f5f1f61bc9e84f1326842e7bfdc10928f88e02e29a879b87248", func := "loop.example/g03106/laws.FnExactIntegerOfText", spec := "fnExactIntegerOfText", apart := false }
def FnExactIntegerOfTextSaid : Prop := fnExactIntegerOfTextRow.holds Try.pinned (OpenSpec.ofChange fnExactIntegerOfTextSpec)

/-- ITS FALSE NEIGHBOUR: 'it returns false'. Refute it at one input. -/
def fnExactIntegerOfTextWrong : ChangeSpec := { name := "fnExactIntegerOfText", fn := fun _ => fun
  | [d] => { results := [.lit (.bool false)], args := [d] }
  | _ => none }
def FnExactIntegerOfTextWrongFalsely : Prop := fnExactIntegerOfTextRow.holds Try.pinned (OpenSpec.ofChange fnExactIntegerOfTextWrong)

/-- 'laws.FnExactSplitByte': WHATEVER THE INPUT: true; the input reads as it did. -/
def fnExactSplitByteSpec : ChangeSpec := { name := "fnExactSplitByte", fn := fun _ => fun
  | [d1, d2] => { results := [.lit (.bool true)], args := [d1, d2] }
  | _ => none }
def fnExactSplitByteRow : OpenClaim := { program := "ytamdeplkkkodkaa", sum := "93f4f36f2dd08f5f1f61bc9e84f1326842e7bfdc10928f88e02e29a879b87248", func := "loop.example/g03106/laws.FnExactSplitByte", spec := "fnExactSplitByte", apart := false }
def FnExactSplitByteSaid : Prop := fnExactSplitByteRow.holds Try.pinned (OpenSpec.ofChange fnExactSplitByteSpec)

/-- ITS FALSE NEIGHBOUR: 'it returns false'. Refute it at one input. -/
def fnExactSplitByteWrong : ChangeSpec := { name := "fnExactSplitByte", fn := fun _ => fun
  | [d1, d2] => { results := [.lit (.bool false)], args := [d1, d2] }
  | _ => none }
def FnExactSplitByteWrongFalsely : Prop := fnExactSplitByteRow.holds Try.pinned (OpenSpec.ofChange fnExactSplitByteWrong)

/-- 'laws.FnExactParseInt': WHATEVER THE INPUT: true; the input reads as it did. -/
def fnExactParseIntSpec : ChangeSpec := { name := "fnExactParseInt", fn := fun _ => fun
  | [d] => { results := [.lit (.bool true)], args := [d] }
  | _ => none }
def fnExactParseIntRow : OpenClaim := { program := "ytamdeplkkkodkaa", sum := "93f4f36f2dd08f5f1f61bc9e84f1326842e7bfdc10928f88e02e29a879b87248", func := "loop.example/g03106/laws.FnExactParseInt", spec := "fnExactParseInt", apart := false }
def FnExactParseIntSaid : Prop := fnExactParseIntRow.holds Try.pinned (OpenSpec.ofChange fnExactParseIntSpec)

/-- ITS FALSE NEIGHBOUR: 'it returns false'. Refute it at one input. -/
def fnExactParseIntWrong : ChangeSpec := { name := "fnExactParseInt", fn := fun _ => fun
  | [d] => { results := [.lit (.bool false)], args := [d] }
  | _ => none }
def FnExactParseIntWrongFalsely : Prop := fnExactParseIntRow.holds Try.pinned (OpenSpec.ofChange fnExactParseIntWrong)

/- THE SECOND FORM. 'bulk': how many values and letters a reading holds, each counted each time it is reached (what is shared counts as often as it is met; a slice's spare places count too). A statement '..UptoSaid' is the law's where the arguments, and the package variables that the reading takes, are together of bulk at most 1048576: NARROWER than '..Said'. Prove '..Said' where nothing that the law and all that it calls make is longer than what came in: it says more and counts as full. Else prove '..UptoSaid'. A law counts once. -/
mutual
def uptoBulk {H : Type} : DataW H → Nat
  | .lit (.string bytes) => bytes.length + 1
  | .lit _ => 1
  | .nil => 1
  | .ptr d => uptoBulk d + 1
  | .slice elems spare => uptoBulkAll elems + uptoBulkAll spare + 1
  | .agg parts => uptoBulkAll parts + 1
  | .iface _ d => uptoBulk d + 1
  | .map entries => uptoBulkEntries entries + 1
  | .held _ => 1
def uptoBulkAll {H : Type} : List (DataW H) → Nat
  | [] => 0
  | d :: r => uptoBulk d + uptoBulkAll r
def uptoBulkEntries {H : Type} : List (Lit × DataW H) → Nat
  | [] => 0
  | x :: r => uptoBulkEntry x + uptoBulkEntries r
def uptoBulkEntry {H : Type} : Lit × DataW H → Nat
  | (.string bytes, d) => bytes.length + uptoBulk d + 1
  | (_, d) => uptoBulk d + 1
 end
def uptoSmall : (H : Type) → List (DataW H) → Bool := fun _ ds => decide (uptoBulkAll ds ≤ 1048576)
def OpenSpec.upto (s : _root_.Go.ChangeSpec) : _root_.Go.OpenSpec := { _root_.Go.OpenSpec.ofChange s with cond := some uptoSmall }

/-- 'laws.FnExactCenterText', WHERE WHAT IT READS IS OF BULK AT MOST 1048576: true; the input reads as it did. -/
def fnExactCenterTextUptoRow : OpenClaim := { program := "ytamdeplkkkodkaa", sum := "93f4f36f2dd08f5f1f61bc9e84f1326842e7bfdc10928f88e02e29a879b87248", func := "loop.example/g03106/laws.FnExactCenterText", spec := "fnExactCenterText", apart := false, narrowed := true }
def FnExactCenterTextUptoSaid : Prop := fnExactCenterTextUptoRow.holds Try.pinned (OpenSpec.upto fnExactCenterTextSpec)

/-- 'laws.FnExactTrimText', WHERE WHAT IT READS IS OF BULK AT MOST 1048576: true; the input reads as it did. -/
def fnExactTrimTextUptoRow : OpenClaim := { program := "ytamdeplkkkodkaa", sum := "93f4f36f2dd08f5f1f61bc9e84f1326842e7bfdc10928f88e02e29a879b87248", func := "loop.example/g03106/laws.FnExactTrimText", spec := "fnExactTrimText", apart := false, narrowed := true }
def FnExactTrimTextUptoSaid : Prop := fnExactTrimTextUptoRow.holds Try.pinned (OpenSpec.upto fnExactTrimTextSpec)

/-- 'laws.FnExactMapText', WHERE WHAT IT READS IS OF BULK AT MOST 1048576: true; the input reads as it did. -/
def fnExactMapTextUptoRow : OpenClaim := { program := "ytamdeplkkkodkaa", sum := "93f4f36f2dd08f5f1f61bc9e84f1326842e7bfdc10928f88e02e29a879b87248", func := "loop.example/g03106/laws.FnExactMapText", spec := "fnExactMapText", apart := false, narrowed := true }
def FnExactMapTextUptoSaid : Prop := fnExactMapTextUptoRow.holds Try.pinned (OpenSpec.upto fnExactMapTextSpec)

/-- 'laws.FnExactSectionOf', WHERE WHAT IT READS IS OF BULK AT MOST 1048576: true; the input reads as it did. -/
def fnExactSectionOfUptoRow : OpenClaim := { program := "ytamdeplkkkodkaa", sum := "93f4f36f2dd08f5f1f61bc9e84f1326842e7bfdc10928f88e02e29a879b87248", func := "loop.example/g03106/laws.FnExactSectionOf", spec := "fnExactSectionOf", apart := false, narrowed := true }
def FnExactSectionOfUptoSaid : Prop := fnExactSectionOfUptoRow.holds Try.pinned (OpenSpec.upto fnExactSectionOfSpec)

/-- 'laws.FnExactCsetText', WHERE WHAT IT READS IS OF BULK AT MOST 1048576: true; the input reads as it did. -/
def fnExactCsetTextUptoRow : OpenClaim := { program := "ytamdeplkkkodkaa", sum := "93f4f36f2dd08f5f1f61bc9e84f1326842e7bfdc10928f88e02e29a879b87248", func := "loop.example/g03106/laws.FnExactCsetText", spec := "fnExactCsetText", apart := false, narrowed := true }
def FnExactCsetTextUptoSaid : Prop := fnExactCsetTextUptoRow.holds Try.pinned (OpenSpec.upto fnExactCsetTextSpec)

/-- 'laws.FnExactNewCset', WHERE WHAT IT READS IS OF BULK AT MOST 1048576: true; the input reads as it did. -/
def fnExactNewCsetUptoRow : OpenClaim := { program := "ytamdeplkkkodkaa", sum := "93f4f36f2dd08f5f1f61bc9e84f1326842e7bfdc10928f88e02e29a879b87248", func := "loop.example/g03106/laws.FnExactNewCset", spec := "fnExactNewCset", apart := false, narrowed := true }
def FnExactNewCsetUptoSaid : Prop := fnExactNewCsetUptoRow.holds Try.pinned (OpenSpec.upto fnExactNewCsetSpec)

/-- 'laws.FnExactRangeCset', WHERE WHAT IT READS IS OF BULK AT MOST 1048576: true; the input reads as it did. -/
def fnExactRangeCsetUptoRow : OpenClaim := { program := "ytamdeplkkkodkaa", sum := "93f4f36f2dd08f5f1f61bc9e84f1326842e7bfdc10928f88e02e29a879b87248", func := "loop.example/g03106/laws.FnExactRangeCset", spec := "fnExactRangeCset", apart := false, narrowed := true }
def FnExactRangeCsetUptoSaid : Prop := fnExactRangeCsetUptoRow.holds Try.pinned (OpenSpec.upto fnExactRangeCsetSpec)

/-- 'laws.FnExactCsetSize', WHERE WHAT IT READS IS OF BULK AT MOST 1048576: true; the input reads as it did. -/
def fnExactCsetSizeUptoRow : OpenClaim := { program := "ytamdeplkkkodkaa", sum := "93f4f36f2dd08f5f1f61bc9e84f1326842e7bfdc10928f88e02e29a879b87248", func := "loop.example/g03106/laws.FnExactCsetSize", spec := "fnExactCsetSize", apart := false, narrowed := true }
def FnExactCsetSizeUptoSaid : Prop := fnExactCsetSizeUptoRow.holds Try.pinned (OpenSpec.upto fnExactCsetSizeSpec)

/-- 'laws.FnExactQuoteText', WHERE WHAT IT READS IS OF BULK AT MOST 1048576: true; the input reads as it did. -/
def fnExactQuoteTextUptoRow : OpenClaim := { program := "ytamdeplkkkodkaa", sum := "93f4f36f2dd08f5f1f61bc9e84f1326842e7bfdc10928f88e02e29a879b87248", func := "loop.example/g03106/laws.FnExactQuoteText", spec := "fnExactQuoteText", apart := false, narrowed := true }
def FnExactQuoteTextUptoSaid : Prop := fnExactQuoteTextUptoRow.holds Try.pinned (OpenSpec.upto fnExactQuoteTextSpec)

/-- 'laws.FnExactIntegerOfText', WHERE WHAT IT READS IS OF BULK AT MOST 1048576: true; the input reads as it did. -/
def fnExactIntegerOfTextUptoRow : OpenClaim := { program := "ytamdeplkkkodkaa", sum := "93f4f36f2dd08f5f1f61bc9e84f1326842e7bfdc10928f88e02e29a879b87248", func := "loop.example/g03106/laws.FnExactIntegerOfText", spec := "fnExactIntegerOfText", apart := false, narrowed := true }
def FnExactIntegerOfTextUptoSaid : Prop := fnExactIntegerOfTextUptoRow.holds Try.pinned (OpenSpec.upto fnExactIntegerOfTextSpec)

/-- 'laws.FnExactSplitByte', WHERE WHAT IT READS IS OF BULK AT MOST 1048576: true; the input reads as it did. -/
def fnExactSplitByteUptoRow : OpenClaim := { program := "ytamdeplkkkodkaa", sum := "93f4f36f2dd08f5f1f61bc9e84f1326842e7bfdc10928f88e02e29a879b87248", func := "loop.example/g03106/laws.FnExactSplitByte", spec := "fnExactSplitByte", apart := false, narrowed := true }
def FnExactSplitByteUptoSaid : Prop := fnExactSplitByteUptoRow.holds Try.pinned (OpenSpec.upto fnExactSplitByteSpec)

/-- 'laws.FnExactParseInt', WHERE WHAT IT READS IS OF BULK AT MOST 1048576: true; the input reads as it did. -/
def fnExactParseIntUptoRow : OpenClaim := { program := "ytamdeplkkkodkaa", sum := "93f4f36f2dd08f5f1f61bc9e84f1326842e7bfdc10928f88e02e29a879b87248", func := "loop.example/g03106/laws.FnExactParseInt", spec := "fnExactParseInt", apart := false, narrowed := true }
def FnExactParseIntUptoSaid : Prop := fnExactParseIntUptoRow.holds Try.pinned (OpenSpec.upto fnExactParseIntSpec)

end Rows
end Go.Proofs.Ytamdeplkkkodkaa
