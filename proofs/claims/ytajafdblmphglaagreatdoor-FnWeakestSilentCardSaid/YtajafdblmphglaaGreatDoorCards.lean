/-
  DERIVED. GIVEN WITH THE SEED: THE CARDS: each row of YtajafdblmphglaaGreatDoorRows.lean that lists a variable, with what it lists TIED to the program's text (the seventh form; the later family's looks); each row that meets fmt, with fmt's text TOLD by the authors' own Lean function (tested against real Go, not proved from fmt's source: count such statements apart). THE CARD IS WHAT COUNTS. Prove the row's statement (the work); the ties are given (YtajafdblmphglaaGreatDoorTie.lean); close each card by the builder's one call (the guide's Derived/Test/ToyasCard.lean, 'card_holds'). Laid BY PROGRAM, IN A SANDBOX (cutbox-door.mjs). By AI agents, Wed Nov 11 2026. No macro, syntax, notation, axiom, sorry.
-/
import Derived.Test.YtajafdblmphglaaGreatDoorRows
import GoSem.ClaimSeven
namespace Go.Proofs.YtajafdblmphglaaGreatDoor
namespace Rows

/-- THE TIED CARD OF 'laws.FnKeepsMinimal'. -/
def fnKeepsMinimalCard : Claim7 := { stood := { row := fnKeepsMinimalRow, standIns := [], harness := (true, "759ed9ed427a65926f609644bfca1e9fd0208e3668d99b30177495680333b71c"), looks := true }, kinds := [], alts := [], laidByText := true, laidKinds := [.data, .data, .data], laidTests := true, laidLooks := .later }
def FnKeepsMinimalCardSaid : Prop := Claim7.holds Tryz.pinned (.plain (OpenSpec.ofChange fnKeepsMinimalSpec)) fnKeepsMinimalCard

/-- THE TIED CARD OF 'laws.FnWeakestVerdict'. -/
def fnWeakestVerdictCard : Claim7 := { stood := { row := fnWeakestVerdictRow, standIns := [], harness := (true, "759ed9ed427a65926f609644bfca1e9fd0208e3668d99b30177495680333b71c"), looks := true }, kinds := [], alts := [], laidByText := true, laidKinds := [.data, .data, .data], laidTests := true, laidLooks := .later }
def FnWeakestVerdictCardSaid : Prop := Claim7.holds Tryz.pinned (.plain (OpenSpec.ofChange fnWeakestVerdictSpec)) fnWeakestVerdictCard

/-- THE TIED CARD OF 'laws.FnWeakest'. -/
def fnWeakestCard : Claim7 := { stood := { row := fnWeakestRow, standIns := [], harness := (true, "759ed9ed427a65926f609644bfca1e9fd0208e3668d99b30177495680333b71c"), looks := true }, kinds := [], alts := [], laidByText := true, laidKinds := [.data, .data, .data], laidTests := true, laidLooks := .later }
def FnWeakestCardSaid : Prop := Claim7.holds Tryz.pinned (.plain (OpenSpec.ofChange fnWeakestSpec)) fnWeakestCard

/-- THE TIED CARD OF 'laws.FnWeakestMinimal'. -/
def fnWeakestMinimalCard : Claim7 := { stood := { row := fnWeakestMinimalRow, standIns := [], harness := (true, "759ed9ed427a65926f609644bfca1e9fd0208e3668d99b30177495680333b71c"), looks := true }, kinds := [], alts := [], laidByText := true, laidKinds := [.data, .data, .data], laidTests := true, laidLooks := .later }
def FnWeakestMinimalCardSaid : Prop := Claim7.holds Tryz.pinned (.plain (OpenSpec.ofChange fnWeakestMinimalSpec)) fnWeakestMinimalCard

/-- THE TIED CARD OF 'laws.FnWeakestKeeps'. -/
def fnWeakestKeepsCard : Claim7 := { stood := { row := fnWeakestKeepsRow, standIns := [], harness := (true, "759ed9ed427a65926f609644bfca1e9fd0208e3668d99b30177495680333b71c"), looks := true }, kinds := [], alts := [], laidByText := true, laidKinds := [.data, .data, .data], laidTests := true, laidLooks := .later }
def FnWeakestKeepsCardSaid : Prop := Claim7.holds Tryz.pinned (.plain (OpenSpec.ofChange fnWeakestKeepsSpec)) fnWeakestKeepsCard

/-- THE TIED CARD OF 'laws.FnWeakestAll'. -/
def fnWeakestAllCard : Claim7 := { stood := { row := fnWeakestAllRow, standIns := [], harness := (true, "759ed9ed427a65926f609644bfca1e9fd0208e3668d99b30177495680333b71c"), looks := true }, kinds := [], alts := [], laidByText := true, laidKinds := [.data, .data, .data, .data, .sentinel, .sentinel, .pinned], laidTests := true, laidLooks := .later }
def FnWeakestAllCardSaid : Prop := Claim7.holds Tryz.pinned (.plain (OpenSpec.ofChange fnWeakestAllSpec)) fnWeakestAllCard

/-- THE TIED CARD OF 'laws.FnWeakestSilent'. -/
def fnWeakestSilentCard : Claim7 := { stood := { row := fnWeakestSilentRow, standIns := [], harness := (true, "759ed9ed427a65926f609644bfca1e9fd0208e3668d99b30177495680333b71c"), looks := true }, kinds := [], alts := [], laidByText := true, laidKinds := [.data, .data, .data], laidTests := true, laidLooks := .later }
def FnWeakestSilentCardSaid : Prop := Claim7.holds Tryz.pinned (.plain (OpenSpec.ofChange fnWeakestSilentSpec)) fnWeakestSilentCard

/-- THE TIED CARD OF 'laws.FnExactWeakestAssumption'. -/
def fnExactWeakestAssumptionCard : Claim7 := { stood := { row := fnExactWeakestAssumptionRow, standIns := [], harness := (true, "759ed9ed427a65926f609644bfca1e9fd0208e3668d99b30177495680333b71c"), looks := true }, kinds := [], alts := [], laidByText := true, laidKinds := [.data, .data, .data], laidTests := true, laidLooks := .later }
def FnExactWeakestAssumptionCardSaid : Prop := Claim7.holds Tryz.pinned (.plain (OpenSpec.ofChange fnExactWeakestAssumptionSpec)) fnExactWeakestAssumptionCard

/-- THE SECOND FORM's CARD OF 'laws.FnKeepsMinimal'. -/
def fnKeepsMinimalUptoCard : Claim7 := { stood := { row := fnKeepsMinimalUptoRow, standIns := [], harness := (true, "759ed9ed427a65926f609644bfca1e9fd0208e3668d99b30177495680333b71c"), looks := true }, kinds := [], alts := [], laidByText := true, laidKinds := [.data, .data, .data], laidTests := true, laidLooks := .later }
def FnKeepsMinimalUptoCardSaid : Prop := Claim7.holds Tryz.pinned (.plain (OpenSpec.upto fnKeepsMinimalSpec)) fnKeepsMinimalUptoCard

/-- THE SECOND FORM's CARD OF 'laws.FnWeakestVerdict'. -/
def fnWeakestVerdictUptoCard : Claim7 := { stood := { row := fnWeakestVerdictUptoRow, standIns := [], harness := (true, "759ed9ed427a65926f609644bfca1e9fd0208e3668d99b30177495680333b71c"), looks := true }, kinds := [], alts := [], laidByText := true, laidKinds := [.data, .data, .data], laidTests := true, laidLooks := .later }
def FnWeakestVerdictUptoCardSaid : Prop := Claim7.holds Tryz.pinned (.plain (OpenSpec.upto fnWeakestVerdictSpec)) fnWeakestVerdictUptoCard

/-- THE SECOND FORM's CARD OF 'laws.FnWeakest'. -/
def fnWeakestUptoCard : Claim7 := { stood := { row := fnWeakestUptoRow, standIns := [], harness := (true, "759ed9ed427a65926f609644bfca1e9fd0208e3668d99b30177495680333b71c"), looks := true }, kinds := [], alts := [], laidByText := true, laidKinds := [.data, .data, .data], laidTests := true, laidLooks := .later }
def FnWeakestUptoCardSaid : Prop := Claim7.holds Tryz.pinned (.plain (OpenSpec.upto fnWeakestSpec)) fnWeakestUptoCard

/-- THE SECOND FORM's CARD OF 'laws.FnWeakestMinimal'. -/
def fnWeakestMinimalUptoCard : Claim7 := { stood := { row := fnWeakestMinimalUptoRow, standIns := [], harness := (true, "759ed9ed427a65926f609644bfca1e9fd0208e3668d99b30177495680333b71c"), looks := true }, kinds := [], alts := [], laidByText := true, laidKinds := [.data, .data, .data], laidTests := true, laidLooks := .later }
def FnWeakestMinimalUptoCardSaid : Prop := Claim7.holds Tryz.pinned (.plain (OpenSpec.upto fnWeakestMinimalSpec)) fnWeakestMinimalUptoCard

/-- THE SECOND FORM's CARD OF 'laws.FnWeakestKeeps'. -/
def fnWeakestKeepsUptoCard : Claim7 := { stood := { row := fnWeakestKeepsUptoRow, standIns := [], harness := (true, "759ed9ed427a65926f609644bfca1e9fd0208e3668d99b30177495680333b71c"), looks := true }, kinds := [], alts := [], laidByText := true, laidKinds := [.data, .data, .data], laidTests := true, laidLooks := .later }
def FnWeakestKeepsUptoCardSaid : Prop := Claim7.holds Tryz.pinned (.plain (OpenSpec.upto fnWeakestKeepsSpec)) fnWeakestKeepsUptoCard

/-- THE SECOND FORM's CARD OF 'laws.FnWeakestAll'. -/
def fnWeakestAllUptoCard : Claim7 := { stood := { row := fnWeakestAllUptoRow, standIns := [], harness := (true, "759ed9ed427a65926f609644bfca1e9fd0208e3668d99b30177495680333b71c"), looks := true }, kinds := [], alts := [], laidByText := true, laidKinds := [.data, .data, .data, .data, .sentinel, .sentinel, .pinned], laidTests := true, laidLooks := .later }
def FnWeakestAllUptoCardSaid : Prop := Claim7.holds Tryz.pinned (.plain (OpenSpec.upto fnWeakestAllSpec)) fnWeakestAllUptoCard

/-- THE SECOND FORM's CARD OF 'laws.FnWeakestSilent'. -/
def fnWeakestSilentUptoCard : Claim7 := { stood := { row := fnWeakestSilentUptoRow, standIns := [], harness := (true, "759ed9ed427a65926f609644bfca1e9fd0208e3668d99b30177495680333b71c"), looks := true }, kinds := [], alts := [], laidByText := true, laidKinds := [.data, .data, .data], laidTests := true, laidLooks := .later }
def FnWeakestSilentUptoCardSaid : Prop := Claim7.holds Tryz.pinned (.plain (OpenSpec.upto fnWeakestSilentSpec)) fnWeakestSilentUptoCard

/-- THE SECOND FORM's CARD OF 'laws.FnExactWeakestAssumption'. -/
def fnExactWeakestAssumptionUptoCard : Claim7 := { stood := { row := fnExactWeakestAssumptionUptoRow, standIns := [], harness := (true, "759ed9ed427a65926f609644bfca1e9fd0208e3668d99b30177495680333b71c"), looks := true }, kinds := [], alts := [], laidByText := true, laidKinds := [.data, .data, .data], laidTests := true, laidLooks := .later }
def FnExactWeakestAssumptionUptoCardSaid : Prop := Claim7.holds Tryz.pinned (.plain (OpenSpec.upto fnExactWeakestAssumptionSpec)) fnExactWeakestAssumptionUptoCard
end Rows
end Go.Proofs.YtajafdblmphglaaGreatDoor
