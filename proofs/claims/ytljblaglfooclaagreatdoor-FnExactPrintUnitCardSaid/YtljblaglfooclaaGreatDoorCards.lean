/-
  DERIVED. GIVEN WITH THE SEED: THE CARDS: each row of YtljblaglfooclaaGreatDoorRows.lean that lists a variable, with what it lists TIED to the program's text (the seventh form; the later family's looks); each row that meets fmt, with fmt's text TOLD by the authors' own Lean function (tested against real Go, not proved from fmt's source: count such statements apart). THE CARD IS WHAT COUNTS. Prove the row's statement (the work); the ties are given (YtljblaglfooclaaGreatDoorTie.lean); close each card by the builder's one call (the guide's Derived/Test/ToyasCard.lean, 'card_holds'). Laid BY PROGRAM, IN A SANDBOX (cutbox-door.mjs). By AI agents, Wed Nov 11 2026. No macro, syntax, notation, axiom, sorry.
-/
import Derived.Test.YtljblaglfooclaaGreatDoorRows
import GoSem.ClaimSeven
namespace Go.Proofs.YtljblaglfooclaaGreatDoor
namespace Rows

/-- THE TIED CARD OF 'laws.FnExactPrintUnit'. -/
def fnExactPrintUnitCard : Claim7 := { stood := { row := fnExactPrintUnitRow, standIns := [], harness := (true, "254b31e0e25dc06eae27de3e4672dd289544aa41ae4a27210fb36800b929e0b2"), looks := false }, kinds := [], alts := [], laidByText := true, laidKinds := [.data, .data, .data, .listed, .data], laidTests := true, laidLooks := .later }
def FnExactPrintUnitCardSaid : Prop := Claim7.holds Tryz.pinned (.plain (OpenSpec.ofChange fnExactPrintUnitSpec)) fnExactPrintUnitCard

/-- THE SECOND FORM's CARD OF 'laws.FnExactPrintUnit'. -/
def fnExactPrintUnitUptoCard : Claim7 := { stood := { row := fnExactPrintUnitUptoRow, standIns := [], harness := (true, "254b31e0e25dc06eae27de3e4672dd289544aa41ae4a27210fb36800b929e0b2"), looks := false }, kinds := [], alts := [], laidByText := true, laidKinds := [.data, .data, .data, .listed, .data], laidTests := true, laidLooks := .later }
def FnExactPrintUnitUptoCardSaid : Prop := Claim7.holds Tryz.pinned (.plain (OpenSpec.upto fnExactPrintUnitSpec)) fnExactPrintUnitUptoCard
end Rows
end Go.Proofs.YtljblaglfooclaaGreatDoor
