/-
  No cell of these rows narrows 'for every input' (looked for: loops, veiled, ifaces, maps, wideKeys, modest, calm, conditions, laid).
  DERIVED. THE GIVEN ROWS OF THIS SEAT. 3 by the template 'for every input the law returns true; each argument reads behind the call as it read before'; 0 by the template 'total and deterministic' (their statements: YtddhgepnoijpoaaTotals.lean).
  GIVEN WITH THE SEED: the statements are not yours to turn. If you find one false, say at which input.
  Laid BY PROGRAM, IN A SANDBOX (cutbox-rows.mjs): the forced cells as the released guide's own fill.sh prints them over the translation 823f86ca5f9f982f… (all of the seat's roots in one cut). By AI agents, Wed Nov 11 2026. No macro, syntax, notation, axiom, sorry.
-/
import Derived.Test.YtddhgepnoijpoaaChecked
import GoSem.Claim
import GoSem.ClaimJoined
import GoSem.ClaimMapViews
import Derived.JoinedTies
import Derived.KernelRfl
namespace Go.Proofs.Ytddhgepnoijpoaa
/- THE CELL 'sum', in the pinned program and in every row, IS THE sha256 OF THE DUMP (.gsa) THAT YtddhgepnoijpoaaProg.lean LOADS. Nothing in Lean hashes anything: it is a label: what it is worth is what the hold of that sum in a sandbox is worth. -/
noncomputable def Try.pinned : Pinned := { name := "ytddhgepnoijpoaa", sum := "823f86ca5f9f982f6c57364c607c2eb468242cedbdcc2d5bedca31feb8694f33", checked := Try.checked }
namespace Rows
def none {H : Type} : Left H := { results := [], args := [] }

/-- 'laws.FnExactUnquoteCset': WHATEVER THE INPUT: true; the input reads as it did. -/
def fnExactUnquoteCsetSpec : ChangeSpec := { name := "fnExactUnquoteCset", fn := fun _ => fun
  | [d] => { results := [.lit (.bool true)], args := [d] }
  | _ => none }
def fnExactUnquoteCsetRow : OpenClaim := { program := "ytddhgepnoijpoaa", sum := "823f86ca5f9f982f6c57364c607c2eb468242cedbdcc2d5bedca31feb8694f33", func := "loop.example/g03106/laws.FnExactUnquoteCset", spec := "fnExactUnquoteCset", apart := false }
def FnExactUnquoteCsetSaid : Prop := fnExactUnquoteCsetRow.holds Try.pinned (OpenSpec.ofChange fnExactUnquoteCsetSpec)

/-- ITS FALSE NEIGHBOUR: 'it returns false'. Refute it at one input. -/
def fnExactUnquoteCsetWrong : ChangeSpec := { name := "fnExactUnquoteCset", fn := fun _ => fun
  | [d] => { results := [.lit (.bool false)], args := [d] }
  | _ => none }
def FnExactUnquoteCsetWrongFalsely : Prop := fnExactUnquoteCsetRow.holds Try.pinned (OpenSpec.ofChange fnExactUnquoteCsetWrong)

/-- 'laws.FnExactReplicateText': WHATEVER THE INPUT: true; the input reads as it did. -/
def fnExactReplicateTextSpec : ChangeSpec := { name := "fnExactReplicateText", fn := fun _ => fun
  | [d1, d2] => { results := [.lit (.bool true)], args := [d1, d2] }
  | _ => none }
def fnExactReplicateTextRow : OpenClaim := { program := "ytddhgepnoijpoaa", sum := "823f86ca5f9f982f6c57364c607c2eb468242cedbdcc2d5bedca31feb8694f33", func := "loop.example/g03106/laws.FnExactReplicateText", spec := "fnExactReplicateText", inPlace := ["internal/abi.NoEscape", "internal/bytealg.MakeNoZero"], apart := false }
def FnExactReplicateTextSaid : Prop := fnExactReplicateTextRow.holds Try.pinned (OpenSpec.ofChange fnExactReplicateTextSpec)

/-- ITS FALSE NEIGHBOUR: 'it returns false'. Refute it at one input. -/
def fnExactReplicateTextWrong : ChangeSpec := { name := "fnExactReplicateText", fn := fun _ => fun
  | [d1, d2] => { results := [.lit (.bool false)], args := [d1, d2] }
  | _ => none }
def FnExactReplicateTextWrongFalsely : Prop := fnExactReplicateTextRow.holds Try.pinned (OpenSpec.ofChange fnExactReplicateTextWrong)

/-- 'laws.FnLiterals': WHATEVER THE INPUT: true; the input reads as it did. -/
def fnLiteralsSpec : ChangeSpec := { name := "fnLiterals", fn := fun _ => fun
  | [d] => { results := [.lit (.bool true)], args := [d] }
  | _ => none }
def fnLiteralsRow : OpenClaim := { program := "ytddhgepnoijpoaa", sum := "823f86ca5f9f982f6c57364c607c2eb468242cedbdcc2d5bedca31feb8694f33", func := "loop.example/g03106/laws.FnLiterals", spec := "fnLiterals", apart := false }
def FnLiteralsSaid : Prop := fnLiteralsRow.holds Try.pinned (OpenSpec.ofChange fnLiteralsSpec)

/-- ITS FALSE NEIGHBOUR: 'it returns false'. Refute it at one input. -/
def fnLiteralsWrong : ChangeSpec := { name := "fnLiterals", fn := fun _ => fun
  | [d] => { results := [.lit (.bool false)], args := [d] }
  | _ => none }
def FnLiteralsWrongFalsely : Prop := fnLiteralsRow.holds Try.pinned (OpenSpec.ofChange fnLiteralsWrong)

/- THE SECOND FORM. 'bulk': how many values and letters a reading holds, each counted each time it is reached (what is shared counts as often as it is met; a slice's spare places count too). A statement '..UptoSaid' is the law's where the arguments, and the package variables that the reading takes, are together of bulk at most 1048576: NARROWER than '..Said'. Prove '..Said' where nothing that the law and all that it calls make is longer than what came in: it says more and counts as full. Else prove '..UptoSaid'. A law counts once. -/
mutual
def uptoBulk {H : Type} : DataW H → Nat
  | .lit (.string bytes) => bytes.length + 1
  | .lit _ => 1
  | .nil => 1
  | .ptr d => uptoBulk d + 1
  | .slice elems spare => uptoBulkAll elems + uptoBulkAll spare + 1
  | .agg parts => uptoBulkAll parts + 1
  | .iface _ d => uptoBulk d + 1
  | .map entries => uptoBulkEntries entries + 1
  | .held _ => 1
def uptoBulkAll {H : Type} : List (DataW H) → Nat
  | [] => 0
  | d :: r => uptoBulk d + uptoBulkAll r
def uptoBulkEntries {H : Type} : List (Lit × DataW H) → Nat
  | [] => 0
  | x :: r => uptoBulkEntry x + uptoBulkEntries r
def uptoBulkEntry {H : Type} : Lit × DataW H → Nat
  | (.string bytes, d) => bytes.length + uptoBulk d + 1
  | (_, d) => uptoBulk d + 1
 end
def uptoSmall : (H : Type) → List (DataW H) → Bool := fun _ ds => decide (uptoBulkAll ds ≤ 1048576)
def OpenSpec.upto (s : _root_.Go.ChangeSpec) : _root_.Go.OpenSpec := { _root_.Go.OpenSpec.ofChange s with cond := some uptoSmall }

/-- 'laws.FnExactUnquoteCset', WHERE WHAT IT READS IS OF BULK AT MOST 1048576: true; the input reads as it did. -/
def fnExactUnquoteCsetUptoRow : OpenClaim := { program := "ytddhgepnoijpoaa", sum := "823f86ca5f9f982f6c57364c607c2eb468242cedbdcc2d5bedca31feb8694f33", func := "loop.example/g03106/laws.FnExactUnquoteCset", spec := "fnExactUnquoteCset", apart := false, narrowed := true }
def FnExactUnquoteCsetUptoSaid : Prop := fnExactUnquoteCsetUptoRow.holds Try.pinned (OpenSpec.upto fnExactUnquoteCsetSpec)

/-- 'laws.FnExactReplicateText', WHERE WHAT IT READS IS OF BULK AT MOST 1048576: true; the input reads as it did. -/
def fnExactReplicateTextUptoRow : OpenClaim := { program := "ytddhgepnoijpoaa", sum := "823f86ca5f9f982f6c57364c607c2eb468242cedbdcc2d5bedca31feb8694f33", func := "loop.example/g03106/laws.FnExactReplicateText", spec := "fnExactReplicateText", inPlace := ["internal/abi.NoEscape", "internal/bytealg.MakeNoZero"], apart := false, narrowed := true }
def FnExactReplicateTextUptoSaid : Prop := fnExactReplicateTextUptoRow.holds Try.pinned (OpenSpec.upto fnExactReplicateTextSpec)

/-- 'laws.FnLiterals', WHERE WHAT IT READS IS OF BULK AT MOST 1048576: true; the input reads as it did. -/
def fnLiteralsUptoRow : OpenClaim := { program := "ytddhgepnoijpoaa", sum := "823f86ca5f9f982f6c57364c607c2eb468242cedbdcc2d5bedca31feb8694f33", func := "loop.example/g03106/laws.FnLiterals", spec := "fnLiterals", apart := false, narrowed := true }
def FnLiteralsUptoSaid : Prop := fnLiteralsUptoRow.holds Try.pinned (OpenSpec.upto fnLiteralsSpec)

end Rows
end Go.Proofs.Ytddhgepnoijpoaa
