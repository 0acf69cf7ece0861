/-
  DERIVED. GIVEN WITH THE SEED: THE CARDS: each row of YtanekmfifmkbmaaGreatDoorRows.lean that lists a variable, with what it lists TIED to the program's text (the seventh form; the later family's looks); each row that meets fmt, with fmt's text TOLD by the authors' own Lean function (tested against real Go, not proved from fmt's source: count such statements apart). THE CARD IS WHAT COUNTS. Prove the row's statement (the work); the ties are given (YtanekmfifmkbmaaGreatDoorTie.lean); close each card by the builder's one call (the guide's Derived/Test/ToyasCard.lean, 'card_holds'). Laid BY PROGRAM, IN A SANDBOX (cutbox-door.mjs). By AI agents, Wed Nov 11 2026. No macro, syntax, notation, axiom, sorry.
-/
import Derived.Test.YtanekmfifmkbmaaGreatDoorRows
import GoSem.ClaimSeven
namespace Go.Proofs.YtanekmfifmkbmaaGreatDoor
namespace Rows

/-- THE TIED CARD OF 'laws.FnPartsCompose'. -/
def fnPartsComposeCard : Claim7 := { stood := { row := fnPartsComposeRow, standIns := [], harness := (true, "4eebb0b7a719ba0187281dad2b633843f1f3ebff0e700f2ff86888e380be12cb"), looks := false }, kinds := [], alts := [], laidByText := true, laidKinds := [.data, .data], laidTests := true, laidLooks := .later }
def FnPartsComposeCardSaid : Prop := Claim7.holds Tryz.pinned (.plain (OpenSpec.ofChange fnPartsComposeSpec)) fnPartsComposeCard

/-- THE TIED CARD OF 'laws.FnExactNewTable'. -/
def fnExactNewTableCard : Claim7 := { stood := { row := fnExactNewTableRow, standIns := [], harness := (true, "4eebb0b7a719ba0187281dad2b633843f1f3ebff0e700f2ff86888e380be12cb"), looks := false }, kinds := [], alts := [], laidByText := true, laidKinds := [.data, .data], laidTests := true, laidLooks := .later }
def FnExactNewTableCardSaid : Prop := Claim7.holds Tryz.pinned (.plain (OpenSpec.ofChange fnExactNewTableSpec)) fnExactNewTableCard

/-- THE SECOND FORM's CARD OF 'laws.FnPartsCompose'. -/
def fnPartsComposeUptoCard : Claim7 := { stood := { row := fnPartsComposeUptoRow, standIns := [], harness := (true, "4eebb0b7a719ba0187281dad2b633843f1f3ebff0e700f2ff86888e380be12cb"), looks := false }, kinds := [], alts := [], laidByText := true, laidKinds := [.data, .data], laidTests := true, laidLooks := .later }
def FnPartsComposeUptoCardSaid : Prop := Claim7.holds Tryz.pinned (.plain (OpenSpec.upto fnPartsComposeSpec)) fnPartsComposeUptoCard

/-- THE SECOND FORM's CARD OF 'laws.FnExactNewTable'. -/
def fnExactNewTableUptoCard : Claim7 := { stood := { row := fnExactNewTableUptoRow, standIns := [], harness := (true, "4eebb0b7a719ba0187281dad2b633843f1f3ebff0e700f2ff86888e380be12cb"), looks := false }, kinds := [], alts := [], laidByText := true, laidKinds := [.data, .data], laidTests := true, laidLooks := .later }
def FnExactNewTableUptoCardSaid : Prop := Claim7.holds Tryz.pinned (.plain (OpenSpec.upto fnExactNewTableSpec)) fnExactNewTableUptoCard
end Rows
end Go.Proofs.YtanekmfifmkbmaaGreatDoor
