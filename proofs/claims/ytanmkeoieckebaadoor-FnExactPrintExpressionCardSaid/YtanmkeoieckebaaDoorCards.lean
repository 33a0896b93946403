/-
  DERIVED. GIVEN WITH THE SEED: THE CARDS: each row of YtanmkeoieckebaaDoorRows.lean that lists a variable, with what it lists TIED to the program's text (the seventh form; the later family's looks); each row that meets fmt, with fmt's text TOLD by the authors' own Lean function (tested against real Go, not proved from fmt's source: count such statements apart). THE CARD IS WHAT COUNTS. Prove the row's statement (the work); the ties are given (YtanmkeoieckebaaDoorTie.lean); close each card by the builder's one call (the guide's Derived/Test/ToyasCard.lean, 'card_holds'). Laid BY PROGRAM, IN A SANDBOX (cutbox-door.mjs). By AI agents, Wed Nov 11 2026. No macro, syntax, notation, axiom, sorry.
-/
import Derived.Test.YtanmkeoieckebaaDoorRows
import GoSem.ClaimSeven
namespace Go.Proofs.YtanmkeoieckebaaDoor
namespace Rows

/-- THE TIED CARD OF 'laws.FnExactIsValidExpr'. -/
def fnExactIsValidExprCard : Claim7 := { stood := { row := fnExactIsValidExprRow, standIns := [], harness := (true, "09ac7387fd6d309ff9986cdf234402a002cf6d150f45c669473e650a89f43fa7"), looks := false }, kinds := [], alts := [], laidByText := true, laidKinds := [.listed, .data], laidTests := true, laidLooks := .later }
def FnExactIsValidExprCardSaid : Prop := Claim7.holds Tryd.pinned (.plain (OpenSpec.ofChange fnExactIsValidExprSpec)) fnExactIsValidExprCard

/-- THE TIED CARD OF 'laws.FnErased'. -/
def fnErasedCard : Claim7 := { stood := { row := fnErasedRow, standIns := [], harness := (true, "09ac7387fd6d309ff9986cdf234402a002cf6d150f45c669473e650a89f43fa7"), looks := false }, kinds := [], alts := [], laidByText := true, laidKinds := [.listed, .data], laidTests := true, laidLooks := .later }
def FnErasedCardSaid : Prop := Claim7.holds Tryd.pinned (.plain (OpenSpec.ofChange fnErasedSpec)) fnErasedCard

/-- THE TIED CARD OF 'laws.FnExactIsValidUnit'. -/
def fnExactIsValidUnitCard : Claim7 := { stood := { row := fnExactIsValidUnitRow, standIns := [], harness := (true, "09ac7387fd6d309ff9986cdf234402a002cf6d150f45c669473e650a89f43fa7"), looks := false }, kinds := [], alts := [], laidByText := true, laidKinds := [.listed, .data], laidTests := true, laidLooks := .later }
def FnExactIsValidUnitCardSaid : Prop := Claim7.holds Tryd.pinned (.plain (OpenSpec.ofChange fnExactIsValidUnitSpec)) fnExactIsValidUnitCard

/-- THE TIED CARD OF 'laws.FnExactLex'. -/
def fnExactLexCard : Claim7 := { stood := { row := fnExactLexRow, standIns := [], harness := (true, "09ac7387fd6d309ff9986cdf234402a002cf6d150f45c669473e650a89f43fa7"), looks := false }, kinds := [], alts := [], laidByText := true, laidKinds := [.data, .data, .data, .listed, .data], laidTests := true, laidLooks := .later }
def FnExactLexCardSaid : Prop := Claim7.holds Tryd.pinned (.plain (OpenSpec.ofChange fnExactLexSpec)) fnExactLexCard

/-- THE TIED CARD OF 'laws.FnTokensAgain'. -/
def fnTokensAgainCard : Claim7 := { stood := { row := fnTokensAgainRow, standIns := [], harness := (true, "09ac7387fd6d309ff9986cdf234402a002cf6d150f45c669473e650a89f43fa7"), looks := false }, kinds := [], alts := [], laidByText := true, laidKinds := [.data, .data, .data, .listed, .data], laidTests := true, laidLooks := .later }
def FnTokensAgainCardSaid : Prop := Claim7.holds Tryd.pinned (.plain (OpenSpec.ofChange fnTokensAgainSpec)) fnTokensAgainCard

/-- THE TIED CARD OF 'laws.FnExactPrintExpression'. -/
def fnExactPrintExpressionCard : Claim7 := { stood := { row := fnExactPrintExpressionRow, standIns := [], harness := (true, "09ac7387fd6d309ff9986cdf234402a002cf6d150f45c669473e650a89f43fa7"), looks := false }, kinds := [], alts := [], laidByText := true, laidKinds := [.data, .data, .data, .listed, .data], laidTests := true, laidLooks := .later }
def FnExactPrintExpressionCardSaid : Prop := Claim7.holds Tryd.pinned (.plain (OpenSpec.ofChange fnExactPrintExpressionSpec)) fnExactPrintExpressionCard

/-- THE SECOND FORM's CARD OF 'laws.FnExactIsValidExpr'. -/
def fnExactIsValidExprUptoCard : Claim7 := { stood := { row := fnExactIsValidExprUptoRow, standIns := [], harness := (true, "09ac7387fd6d309ff9986cdf234402a002cf6d150f45c669473e650a89f43fa7"), looks := false }, kinds := [], alts := [], laidByText := true, laidKinds := [.listed, .data], laidTests := true, laidLooks := .later }
def FnExactIsValidExprUptoCardSaid : Prop := Claim7.holds Tryd.pinned (.plain (OpenSpec.upto fnExactIsValidExprSpec)) fnExactIsValidExprUptoCard

/-- THE SECOND FORM's CARD OF 'laws.FnErased'. -/
def fnErasedUptoCard : Claim7 := { stood := { row := fnErasedUptoRow, standIns := [], harness := (true, "09ac7387fd6d309ff9986cdf234402a002cf6d150f45c669473e650a89f43fa7"), looks := false }, kinds := [], alts := [], laidByText := true, laidKinds := [.listed, .data], laidTests := true, laidLooks := .later }
def FnErasedUptoCardSaid : Prop := Claim7.holds Tryd.pinned (.plain (OpenSpec.upto fnErasedSpec)) fnErasedUptoCard

/-- THE SECOND FORM's CARD OF 'laws.FnExactIsValidUnit'. -/
def fnExactIsValidUnitUptoCard : Claim7 := { stood := { row := fnExactIsValidUnitUptoRow, standIns := [], harness := (true, "09ac7387fd6d309ff9986cdf234402a002cf6d150f45c669473e650a89f43fa7"), looks := false }, kinds := [], alts := [], laidByText := true, laidKinds := [.listed, .data], laidTests := true, laidLooks := .later }
def FnExactIsValidUnitUptoCardSaid : Prop := Claim7.holds Tryd.pinned (.plain (OpenSpec.upto fnExactIsValidUnitSpec)) fnExactIsValidUnitUptoCard

/-- THE SECOND FORM's CARD OF 'laws.FnExactLex'. -/
def fnExactLexUptoCard : Claim7 := { stood := { row := fnExactLexUptoRow, standIns := [], harness := (true, "09ac7387fd6d309ff9986cdf234402a002cf6d150f45c669473e650a89f43fa7"), looks := false }, kinds := [], alts := [], laidByText := true, laidKinds := [.data, .data, .data, .listed, .data], laidTests := true, laidLooks := .later }
def FnExactLexUptoCardSaid : Prop := Claim7.holds Tryd.pinned (.plain (OpenSpec.upto fnExactLexSpec)) fnExactLexUptoCard

/-- THE SECOND FORM's CARD OF 'laws.FnTokensAgain'. -/
def fnTokensAgainUptoCard : Claim7 := { stood := { row := fnTokensAgainUptoRow, standIns := [], harness := (true, "09ac7387fd6d309ff9986cdf234402a002cf6d150f45c669473e650a89f43fa7"), looks := false }, kinds := [], alts := [], laidByText := true, laidKinds := [.data, .data, .data, .listed, .data], laidTests := true, laidLooks := .later }
def FnTokensAgainUptoCardSaid : Prop := Claim7.holds Tryd.pinned (.plain (OpenSpec.upto fnTokensAgainSpec)) fnTokensAgainUptoCard

/-- THE SECOND FORM's CARD OF 'laws.FnExactPrintExpression'. -/
def fnExactPrintExpressionUptoCard : Claim7 := { stood := { row := fnExactPrintExpressionUptoRow, standIns := [], harness := (true, "09ac7387fd6d309ff9986cdf234402a002cf6d150f45c669473e650a89f43fa7"), looks := false }, kinds := [], alts := [], laidByText := true, laidKinds := [.data, .data, .data, .listed, .data], laidTests := true, laidLooks := .later }
def FnExactPrintExpressionUptoCardSaid : Prop := Claim7.holds Tryd.pinned (.plain (OpenSpec.upto fnExactPrintExpressionSpec)) fnExactPrintExpressionUptoCard
end Rows
end Go.Proofs.YtanmkeoieckebaaDoor
