/-
  DERIVED. GIVEN WITH THE SEED: THE CARDS: each row of YtddhgepnoijpoaaDoorRows.lean that lists a variable, with what it lists TIED to the program's text (the seventh form; the later family's looks); each row that meets fmt, with fmt's text TOLD by the authors' own Lean function (tested against real Go, not proved from fmt's source: count such statements apart). THE CARD IS WHAT COUNTS. Prove the row's statement (the work); the ties are given (YtddhgepnoijpoaaDoorTie.lean); close each card by the builder's one call (the guide's Derived/Test/ToyasCard.lean, 'card_holds'). Laid BY PROGRAM, IN A SANDBOX (cutbox-door.mjs). By AI agents, Wed Nov 11 2026. No macro, syntax, notation, axiom, sorry.
-/
import Derived.Test.YtddhgepnoijpoaaDoorRows
import GoSem.ClaimSeven
namespace Go.Proofs.YtddhgepnoijpoaaDoor
namespace Rows

/-- THE TIED CARD OF 'laws.FnExactIsKeyword'. -/
def fnExactIsKeywordCard : Claim7 := { stood := { row := fnExactIsKeywordRow, standIns := [], harness := (true, "2cec6f3f9db7242cb73ef772dcbb34682f9923ce45c2faebec3ed808b4768594"), looks := false }, kinds := [], alts := [], laidByText := true, laidKinds := [.listed, .data], laidTests := true, laidLooks := .later }
def FnExactIsKeywordCardSaid : Prop := Claim7.holds Tryd.pinned (.plain (OpenSpec.ofChange fnExactIsKeywordSpec)) fnExactIsKeywordCard

/-- THE TIED CARD OF 'laws.FnExactIsUnaryOperator'. -/
def fnExactIsUnaryOperatorCard : Claim7 := { stood := { row := fnExactIsUnaryOperatorRow, standIns := [], harness := (true, "2cec6f3f9db7242cb73ef772dcbb34682f9923ce45c2faebec3ed808b4768594"), looks := false }, kinds := [], alts := [], laidByText := true, laidKinds := [.listed, .data], laidTests := true, laidLooks := .later }
def FnExactIsUnaryOperatorCardSaid : Prop := Claim7.holds Tryd.pinned (.plain (OpenSpec.ofChange fnExactIsUnaryOperatorSpec)) fnExactIsUnaryOperatorCard

/-- THE TIED CARD OF 'laws.FnExactIsReserved'. -/
def fnExactIsReservedCard : Claim7 := { stood := { row := fnExactIsReservedRow, standIns := [], harness := (true, "2cec6f3f9db7242cb73ef772dcbb34682f9923ce45c2faebec3ed808b4768594"), looks := false }, kinds := [], alts := [], laidByText := true, laidKinds := [.listed, .data], laidTests := true, laidLooks := .later }
def FnExactIsReservedCardSaid : Prop := Claim7.holds Tryd.pinned (.plain (OpenSpec.ofChange fnExactIsReservedSpec)) fnExactIsReservedCard

/-- THE TIED CARD OF 'laws.FnExactFormatInt'. -/
def fnExactFormatIntCard : Claim7 := { stood := { row := fnExactFormatIntRow, standIns := [], harness := (true, "2cec6f3f9db7242cb73ef772dcbb34682f9923ce45c2faebec3ed808b4768594"), looks := false }, kinds := [], alts := [], laidByText := true, laidKinds := [.data, .data, .data], laidTests := true, laidLooks := .later }
def FnExactFormatIntCardSaid : Prop := Claim7.holds Tryd.pinned (.plain (OpenSpec.ofChange fnExactFormatIntSpec)) fnExactFormatIntCard

/-- THE TIED CARD OF 'laws.FnExactBinaryLevel'. -/
def fnExactBinaryLevelCard : Claim7 := { stood := { row := fnExactBinaryLevelRow, standIns := [], harness := (true, "2cec6f3f9db7242cb73ef772dcbb34682f9923ce45c2faebec3ed808b4768594"), looks := false }, kinds := [], alts := [], laidByText := true, laidKinds := [.listed, .data], laidTests := true, laidLooks := .later }
def FnExactBinaryLevelCardSaid : Prop := Claim7.holds Tryd.pinned (.plain (OpenSpec.ofChange fnExactBinaryLevelSpec)) fnExactBinaryLevelCard

/-- THE TIED CARD OF 'laws.FnExactBeginsExpression'. -/
def fnExactBeginsExpressionCard : Claim7 := { stood := { row := fnExactBeginsExpressionRow, standIns := [], harness := (true, "2cec6f3f9db7242cb73ef772dcbb34682f9923ce45c2faebec3ed808b4768594"), looks := false }, kinds := [], alts := [], laidByText := true, laidKinds := [.listed, .data], laidTests := true, laidLooks := .later }
def FnExactBeginsExpressionCardSaid : Prop := Claim7.holds Tryd.pinned (.plain (OpenSpec.ofChange fnExactBeginsExpressionSpec)) fnExactBeginsExpressionCard

/-- THE TIED CARD OF 'laws.FnExactEndsExpression'. -/
def fnExactEndsExpressionCard : Claim7 := { stood := { row := fnExactEndsExpressionRow, standIns := [], harness := (true, "2cec6f3f9db7242cb73ef772dcbb34682f9923ce45c2faebec3ed808b4768594"), looks := false }, kinds := [], alts := [], laidByText := true, laidKinds := [.listed, .data], laidTests := true, laidLooks := .later }
def FnExactEndsExpressionCardSaid : Prop := Claim7.holds Tryd.pinned (.plain (OpenSpec.ofChange fnExactEndsExpressionSpec)) fnExactEndsExpressionCard

/-- THE TIED CARD OF 'laws.FnExactIsName'. -/
def fnExactIsNameCard : Claim7 := { stood := { row := fnExactIsNameRow, standIns := [], harness := (true, "2cec6f3f9db7242cb73ef772dcbb34682f9923ce45c2faebec3ed808b4768594"), looks := false }, kinds := [], alts := [], laidByText := true, laidKinds := [.listed, .data], laidTests := true, laidLooks := .later }
def FnExactIsNameCardSaid : Prop := Claim7.holds Tryd.pinned (.plain (OpenSpec.ofChange fnExactIsNameSpec)) fnExactIsNameCard

/-- THE TIED CARD OF 'laws.FnDecimals'. -/
def fnDecimalsCard : Claim7 := { stood := { row := fnDecimalsRow, standIns := [], harness := (true, "2cec6f3f9db7242cb73ef772dcbb34682f9923ce45c2faebec3ed808b4768594"), looks := false }, kinds := [], alts := [], laidByText := true, laidKinds := [.data, .data, .data], laidTests := true, laidLooks := .later }
def FnDecimalsCardSaid : Prop := Claim7.holds Tryd.pinned (.plain (OpenSpec.ofChange fnDecimalsSpec)) fnDecimalsCard

/-- THE SECOND FORM's CARD OF 'laws.FnExactIsKeyword'. -/
def fnExactIsKeywordUptoCard : Claim7 := { stood := { row := fnExactIsKeywordUptoRow, standIns := [], harness := (true, "2cec6f3f9db7242cb73ef772dcbb34682f9923ce45c2faebec3ed808b4768594"), looks := false }, kinds := [], alts := [], laidByText := true, laidKinds := [.listed, .data], laidTests := true, laidLooks := .later }
def FnExactIsKeywordUptoCardSaid : Prop := Claim7.holds Tryd.pinned (.plain (OpenSpec.upto fnExactIsKeywordSpec)) fnExactIsKeywordUptoCard

/-- THE SECOND FORM's CARD OF 'laws.FnExactIsUnaryOperator'. -/
def fnExactIsUnaryOperatorUptoCard : Claim7 := { stood := { row := fnExactIsUnaryOperatorUptoRow, standIns := [], harness := (true, "2cec6f3f9db7242cb73ef772dcbb34682f9923ce45c2faebec3ed808b4768594"), looks := false }, kinds := [], alts := [], laidByText := true, laidKinds := [.listed, .data], laidTests := true, laidLooks := .later }
def FnExactIsUnaryOperatorUptoCardSaid : Prop := Claim7.holds Tryd.pinned (.plain (OpenSpec.upto fnExactIsUnaryOperatorSpec)) fnExactIsUnaryOperatorUptoCard

/-- THE SECOND FORM's CARD OF 'laws.FnExactIsReserved'. -/
def fnExactIsReservedUptoCard : Claim7 := { stood := { row := fnExactIsReservedUptoRow, standIns := [], harness := (true, "2cec6f3f9db7242cb73ef772dcbb34682f9923ce45c2faebec3ed808b4768594"), looks := false }, kinds := [], alts := [], laidByText := true, laidKinds := [.listed, .data], laidTests := true, laidLooks := .later }
def FnExactIsReservedUptoCardSaid : Prop := Claim7.holds Tryd.pinned (.plain (OpenSpec.upto fnExactIsReservedSpec)) fnExactIsReservedUptoCard

/-- THE SECOND FORM's CARD OF 'laws.FnExactFormatInt'. -/
def fnExactFormatIntUptoCard : Claim7 := { stood := { row := fnExactFormatIntUptoRow, standIns := [], harness := (true, "2cec6f3f9db7242cb73ef772dcbb34682f9923ce45c2faebec3ed808b4768594"), looks := false }, kinds := [], alts := [], laidByText := true, laidKinds := [.data, .data, .data], laidTests := true, laidLooks := .later }
def FnExactFormatIntUptoCardSaid : Prop := Claim7.holds Tryd.pinned (.plain (OpenSpec.upto fnExactFormatIntSpec)) fnExactFormatIntUptoCard

/-- THE SECOND FORM's CARD OF 'laws.FnExactBinaryLevel'. -/
def fnExactBinaryLevelUptoCard : Claim7 := { stood := { row := fnExactBinaryLevelUptoRow, standIns := [], harness := (true, "2cec6f3f9db7242cb73ef772dcbb34682f9923ce45c2faebec3ed808b4768594"), looks := false }, kinds := [], alts := [], laidByText := true, laidKinds := [.listed, .data], laidTests := true, laidLooks := .later }
def FnExactBinaryLevelUptoCardSaid : Prop := Claim7.holds Tryd.pinned (.plain (OpenSpec.upto fnExactBinaryLevelSpec)) fnExactBinaryLevelUptoCard

/-- THE SECOND FORM's CARD OF 'laws.FnExactBeginsExpression'. -/
def fnExactBeginsExpressionUptoCard : Claim7 := { stood := { row := fnExactBeginsExpressionUptoRow, standIns := [], harness := (true, "2cec6f3f9db7242cb73ef772dcbb34682f9923ce45c2faebec3ed808b4768594"), looks := false }, kinds := [], alts := [], laidByText := true, laidKinds := [.listed, .data], laidTests := true, laidLooks := .later }
def FnExactBeginsExpressionUptoCardSaid : Prop := Claim7.holds Tryd.pinned (.plain (OpenSpec.upto fnExactBeginsExpressionSpec)) fnExactBeginsExpressionUptoCard

/-- THE SECOND FORM's CARD OF 'laws.FnExactEndsExpression'. -/
def fnExactEndsExpressionUptoCard : Claim7 := { stood := { row := fnExactEndsExpressionUptoRow, standIns := [], harness := (true, "2cec6f3f9db7242cb73ef772dcbb34682f9923ce45c2faebec3ed808b4768594"), looks := false }, kinds := [], alts := [], laidByText := true, laidKinds := [.listed, .data], laidTests := true, laidLooks := .later }
def FnExactEndsExpressionUptoCardSaid : Prop := Claim7.holds Tryd.pinned (.plain (OpenSpec.upto fnExactEndsExpressionSpec)) fnExactEndsExpressionUptoCard

/-- THE SECOND FORM's CARD OF 'laws.FnExactIsName'. -/
def fnExactIsNameUptoCard : Claim7 := { stood := { row := fnExactIsNameUptoRow, standIns := [], harness := (true, "2cec6f3f9db7242cb73ef772dcbb34682f9923ce45c2faebec3ed808b4768594"), looks := false }, kinds := [], alts := [], laidByText := true, laidKinds := [.listed, .data], laidTests := true, laidLooks := .later }
def FnExactIsNameUptoCardSaid : Prop := Claim7.holds Tryd.pinned (.plain (OpenSpec.upto fnExactIsNameSpec)) fnExactIsNameUptoCard

/-- THE SECOND FORM's CARD OF 'laws.FnDecimals'. -/
def fnDecimalsUptoCard : Claim7 := { stood := { row := fnDecimalsUptoRow, standIns := [], harness := (true, "2cec6f3f9db7242cb73ef772dcbb34682f9923ce45c2faebec3ed808b4768594"), looks := false }, kinds := [], alts := [], laidByText := true, laidKinds := [.data, .data, .data], laidTests := true, laidLooks := .later }
def FnDecimalsUptoCardSaid : Prop := Claim7.holds Tryd.pinned (.plain (OpenSpec.upto fnDecimalsSpec)) fnDecimalsUptoCard
end Rows
end Go.Proofs.YtddhgepnoijpoaaDoor
