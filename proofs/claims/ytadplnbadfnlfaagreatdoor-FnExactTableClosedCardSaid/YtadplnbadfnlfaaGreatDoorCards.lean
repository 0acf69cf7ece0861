/-
  DERIVED. GIVEN WITH THE SEED: THE CARDS: each row of YtadplnbadfnlfaaGreatDoorRows.lean that lists a variable, with what it lists TIED to the program's text (the seventh form; the later family's looks); each row that meets fmt, with fmt's text TOLD by the authors' own Lean function (tested against real Go, not proved from fmt's source: count such statements apart). THE CARD IS WHAT COUNTS. Prove the row's statement (the work); the ties are given (YtadplnbadfnlfaaGreatDoorTie.lean); close each card by the builder's one call (the guide's Derived/Test/ToyasCard.lean, 'card_holds'). Laid BY PROGRAM, IN A SANDBOX (cutbox-door.mjs). By AI agents, Wed Nov 11 2026. No macro, syntax, notation, axiom, sorry.
-/
import Derived.Test.YtadplnbadfnlfaaGreatDoorRows
import GoSem.ClaimSeven
namespace Go.Proofs.YtadplnbadfnlfaaGreatDoor
namespace Rows

/-- THE TIED CARD OF 'laws.FnPartsCompose'. -/
def fnPartsComposeCard : Claim7 := { stood := { row := fnPartsComposeRow, standIns := [], harness := (true, "2e10b2ad8c6623009b954be16a52cc4f03c0a0714d652f8c54bee51900942d4e"), looks := false }, kinds := [], alts := [], laidByText := true, laidKinds := [.data, .data], laidTests := true, laidLooks := .later }
def FnPartsComposeCardSaid : Prop := Claim7.holds Tryz.pinned (.plain (OpenSpec.ofChange fnPartsComposeSpec)) fnPartsComposeCard

/-- THE TIED CARD OF 'laws.FnExactRowOf'. -/
def fnExactRowOfCard : Claim7 := { stood := { row := fnExactRowOfRow, standIns := [], harness := (true, "2e10b2ad8c6623009b954be16a52cc4f03c0a0714d652f8c54bee51900942d4e"), looks := false }, kinds := [], alts := [], laidByText := true, laidKinds := [.data, .data], laidTests := true, laidLooks := .later }
def FnExactRowOfCardSaid : Prop := Claim7.holds Tryz.pinned (.plain (OpenSpec.ofChange fnExactRowOfSpec)) fnExactRowOfCard

/-- THE TIED CARD OF 'laws.FnExactFirstOpen'. -/
def fnExactFirstOpenCard : Claim7 := { stood := { row := fnExactFirstOpenRow, standIns := [], harness := (true, "2e10b2ad8c6623009b954be16a52cc4f03c0a0714d652f8c54bee51900942d4e"), looks := false }, kinds := [], alts := [], laidByText := true, laidKinds := [.data, .data], laidTests := true, laidLooks := .later }
def FnExactFirstOpenCardSaid : Prop := Claim7.holds Tryz.pinned (.plain (OpenSpec.ofChange fnExactFirstOpenSpec)) fnExactFirstOpenCard

/-- THE TIED CARD OF 'laws.FnExactTableClosed'. -/
def fnExactTableClosedCard : Claim7 := { stood := { row := fnExactTableClosedRow, standIns := [], harness := (true, "2e10b2ad8c6623009b954be16a52cc4f03c0a0714d652f8c54bee51900942d4e"), looks := false }, kinds := [], alts := [], laidByText := true, laidKinds := [.data, .data], laidTests := true, laidLooks := .later }
def FnExactTableClosedCardSaid : Prop := Claim7.holds Tryz.pinned (.plain (OpenSpec.ofChange fnExactTableClosedSpec)) fnExactTableClosedCard

/-- THE TIED CARD OF 'laws.FnExactNewTable'. -/
def fnExactNewTableCard : Claim7 := { stood := { row := fnExactNewTableRow, standIns := [], harness := (true, "2e10b2ad8c6623009b954be16a52cc4f03c0a0714d652f8c54bee51900942d4e"), looks := false }, kinds := [], alts := [], laidByText := true, laidKinds := [.data, .data], laidTests := true, laidLooks := .later }
def FnExactNewTableCardSaid : Prop := Claim7.holds Tryz.pinned (.plain (OpenSpec.ofChange fnExactNewTableSpec)) fnExactNewTableCard

/-- THE TIED CARD OF 'laws.FnWeakestFewer'. -/
def fnWeakestFewerCard : Claim7 := { stood := { row := fnWeakestFewerRow, standIns := [], harness := (true, "2e10b2ad8c6623009b954be16a52cc4f03c0a0714d652f8c54bee51900942d4e"), looks := false }, kinds := [], alts := [], laidByText := true, laidKinds := [.data, .data, .data], laidTests := true, laidLooks := .later }
def FnWeakestFewerCardSaid : Prop := Claim7.holds Tryz.pinned (.plain (OpenSpec.ofChange fnWeakestFewerSpec)) fnWeakestFewerCard

/-- THE TIED CARD OF 'laws.FnKeepsMinimal'. -/
def fnKeepsMinimalCard : Claim7 := { stood := { row := fnKeepsMinimalRow, standIns := [], harness := (true, "2e10b2ad8c6623009b954be16a52cc4f03c0a0714d652f8c54bee51900942d4e"), looks := false }, kinds := [], alts := [], laidByText := true, laidKinds := [.data, .data, .data], laidTests := true, laidLooks := .later }
def FnKeepsMinimalCardSaid : Prop := Claim7.holds Tryz.pinned (.plain (OpenSpec.ofChange fnKeepsMinimalSpec)) fnKeepsMinimalCard

/-- THE TIED CARD OF 'laws.FnWeakestKeeps'. -/
def fnWeakestKeepsCard : Claim7 := { stood := { row := fnWeakestKeepsRow, standIns := [], harness := (true, "2e10b2ad8c6623009b954be16a52cc4f03c0a0714d652f8c54bee51900942d4e"), looks := false }, kinds := [], alts := [], laidByText := true, laidKinds := [.data, .data, .data], laidTests := true, laidLooks := .later }
def FnWeakestKeepsCardSaid : Prop := Claim7.holds Tryz.pinned (.plain (OpenSpec.ofChange fnWeakestKeepsSpec)) fnWeakestKeepsCard

/-- THE SECOND FORM's CARD OF 'laws.FnPartsCompose'. -/
def fnPartsComposeUptoCard : Claim7 := { stood := { row := fnPartsComposeUptoRow, standIns := [], harness := (true, "2e10b2ad8c6623009b954be16a52cc4f03c0a0714d652f8c54bee51900942d4e"), looks := false }, kinds := [], alts := [], laidByText := true, laidKinds := [.data, .data], laidTests := true, laidLooks := .later }
def FnPartsComposeUptoCardSaid : Prop := Claim7.holds Tryz.pinned (.plain (OpenSpec.upto fnPartsComposeSpec)) fnPartsComposeUptoCard

/-- THE SECOND FORM's CARD OF 'laws.FnExactRowOf'. -/
def fnExactRowOfUptoCard : Claim7 := { stood := { row := fnExactRowOfUptoRow, standIns := [], harness := (true, "2e10b2ad8c6623009b954be16a52cc4f03c0a0714d652f8c54bee51900942d4e"), looks := false }, kinds := [], alts := [], laidByText := true, laidKinds := [.data, .data], laidTests := true, laidLooks := .later }
def FnExactRowOfUptoCardSaid : Prop := Claim7.holds Tryz.pinned (.plain (OpenSpec.upto fnExactRowOfSpec)) fnExactRowOfUptoCard

/-- THE SECOND FORM's CARD OF 'laws.FnExactFirstOpen'. -/
def fnExactFirstOpenUptoCard : Claim7 := { stood := { row := fnExactFirstOpenUptoRow, standIns := [], harness := (true, "2e10b2ad8c6623009b954be16a52cc4f03c0a0714d652f8c54bee51900942d4e"), looks := false }, kinds := [], alts := [], laidByText := true, laidKinds := [.data, .data], laidTests := true, laidLooks := .later }
def FnExactFirstOpenUptoCardSaid : Prop := Claim7.holds Tryz.pinned (.plain (OpenSpec.upto fnExactFirstOpenSpec)) fnExactFirstOpenUptoCard

/-- THE SECOND FORM's CARD OF 'laws.FnExactTableClosed'. -/
def fnExactTableClosedUptoCard : Claim7 := { stood := { row := fnExactTableClosedUptoRow, standIns := [], harness := (true, "2e10b2ad8c6623009b954be16a52cc4f03c0a0714d652f8c54bee51900942d4e"), looks := false }, kinds := [], alts := [], laidByText := true, laidKinds := [.data, .data], laidTests := true, laidLooks := .later }
def FnExactTableClosedUptoCardSaid : Prop := Claim7.holds Tryz.pinned (.plain (OpenSpec.upto fnExactTableClosedSpec)) fnExactTableClosedUptoCard

/-- THE SECOND FORM's CARD OF 'laws.FnExactNewTable'. -/
def fnExactNewTableUptoCard : Claim7 := { stood := { row := fnExactNewTableUptoRow, standIns := [], harness := (true, "2e10b2ad8c6623009b954be16a52cc4f03c0a0714d652f8c54bee51900942d4e"), looks := false }, kinds := [], alts := [], laidByText := true, laidKinds := [.data, .data], laidTests := true, laidLooks := .later }
def FnExactNewTableUptoCardSaid : Prop := Claim7.holds Tryz.pinned (.plain (OpenSpec.upto fnExactNewTableSpec)) fnExactNewTableUptoCard

/-- THE SECOND FORM's CARD OF 'laws.FnWeakestFewer'. -/
def fnWeakestFewerUptoCard : Claim7 := { stood := { row := fnWeakestFewerUptoRow, standIns := [], harness := (true, "2e10b2ad8c6623009b954be16a52cc4f03c0a0714d652f8c54bee51900942d4e"), looks := false }, kinds := [], alts := [], laidByText := true, laidKinds := [.data, .data, .data], laidTests := true, laidLooks := .later }
def FnWeakestFewerUptoCardSaid : Prop := Claim7.holds Tryz.pinned (.plain (OpenSpec.upto fnWeakestFewerSpec)) fnWeakestFewerUptoCard

/-- THE SECOND FORM's CARD OF 'laws.FnKeepsMinimal'. -/
def fnKeepsMinimalUptoCard : Claim7 := { stood := { row := fnKeepsMinimalUptoRow, standIns := [], harness := (true, "2e10b2ad8c6623009b954be16a52cc4f03c0a0714d652f8c54bee51900942d4e"), looks := false }, kinds := [], alts := [], laidByText := true, laidKinds := [.data, .data, .data], laidTests := true, laidLooks := .later }
def FnKeepsMinimalUptoCardSaid : Prop := Claim7.holds Tryz.pinned (.plain (OpenSpec.upto fnKeepsMinimalSpec)) fnKeepsMinimalUptoCard

/-- THE SECOND FORM's CARD OF 'laws.FnWeakestKeeps'. -/
def fnWeakestKeepsUptoCard : Claim7 := { stood := { row := fnWeakestKeepsUptoRow, standIns := [], harness := (true, "2e10b2ad8c6623009b954be16a52cc4f03c0a0714d652f8c54bee51900942d4e"), looks := false }, kinds := [], alts := [], laidByText := true, laidKinds := [.data, .data, .data], laidTests := true, laidLooks := .later }
def FnWeakestKeepsUptoCardSaid : Prop := Claim7.holds Tryz.pinned (.plain (OpenSpec.upto fnWeakestKeepsSpec)) fnWeakestKeepsUptoCard
end Rows
end Go.Proofs.YtadplnbadfnlfaaGreatDoor
