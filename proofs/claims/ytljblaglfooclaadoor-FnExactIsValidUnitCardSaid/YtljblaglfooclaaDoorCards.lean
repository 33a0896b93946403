/-
  DERIVED. GIVEN WITH THE SEED: THE CARDS: each row of YtljblaglfooclaaDoorRows.lean that lists a variable, with what it lists TIED to the program's text (the seventh form; the later family's looks); each row that meets fmt, with fmt's text TOLD by the authors' own Lean function (tested against real Go, not proved from fmt's source: count such statements apart). THE CARD IS WHAT COUNTS. Prove the row's statement (the work); the ties are given (YtljblaglfooclaaDoorTie.lean); close each card by the builder's one call (the guide's Derived/Test/ToyasCard.lean, 'card_holds'). Laid BY PROGRAM, IN A SANDBOX (cutbox-door.mjs). By AI agents, Wed Nov 11 2026. No macro, syntax, notation, axiom, sorry.
-/
import Derived.Test.YtljblaglfooclaaDoorRows
import GoSem.ClaimSeven
namespace Go.Proofs.YtljblaglfooclaaDoor
namespace Rows

/-- THE TIED CARD OF 'laws.FnExactIsValidUnit'. -/
def fnExactIsValidUnitCard : Claim7 := { stood := { row := fnExactIsValidUnitRow, standIns := [], harness := (true, "58533328a9f9771236e7e9867b13f136a0bfe9d03bc54f1996070e5603805da6"), looks := false }, kinds := [], alts := [], laidByText := true, laidKinds := [.listed, .data], laidTests := true, laidLooks := .later }
def FnExactIsValidUnitCardSaid : Prop := Claim7.holds Tryd.pinned (.plain (OpenSpec.ofChange fnExactIsValidUnitSpec)) fnExactIsValidUnitCard

/-- THE SECOND FORM's CARD OF 'laws.FnExactIsValidUnit'. -/
def fnExactIsValidUnitUptoCard : Claim7 := { stood := { row := fnExactIsValidUnitUptoRow, standIns := [], harness := (true, "58533328a9f9771236e7e9867b13f136a0bfe9d03bc54f1996070e5603805da6"), looks := false }, kinds := [], alts := [], laidByText := true, laidKinds := [.listed, .data], laidTests := true, laidLooks := .later }
def FnExactIsValidUnitUptoCardSaid : Prop := Claim7.holds Tryd.pinned (.plain (OpenSpec.upto fnExactIsValidUnitSpec)) fnExactIsValidUnitUptoCard
end Rows
end Go.Proofs.YtljblaglfooclaaDoor
