/-
  DERIVED. GIVEN WITH THE SEED: THE CARDS: each row of YtanekmfifmkbmaaDoorRows.lean that lists a variable, with what it lists TIED to the program's text (the seventh form; the later family's looks); each row that meets fmt, with fmt's text TOLD by the authors' own Lean function (tested against real Go, not proved from fmt's source: count such statements apart). THE CARD IS WHAT COUNTS. Prove the row's statement (the work); the ties are given (YtanekmfifmkbmaaDoorTie.lean); close each card by the builder's one call (the guide's Derived/Test/ToyasCard.lean, 'card_holds'). Laid BY PROGRAM, IN A SANDBOX (cutbox-door.mjs). By AI agents, Wed Nov 11 2026. No macro, syntax, notation, axiom, sorry.
-/
import Derived.Test.YtanekmfifmkbmaaDoorRows
import GoSem.ClaimSeven
namespace Go.Proofs.YtanekmfifmkbmaaDoor
namespace Rows

/-- THE TIED CARD OF 'laws.FnKeepsTraces'. -/
def fnKeepsTracesCard : Claim7 := { stood := { row := fnKeepsTracesRow, standIns := [], harness := (true, "7ee6f76870ac52b8bb70f130ccde62bdfc10f5228ee82124191354daaa87b774"), looks := false }, kinds := [], alts := [], laidByText := true, laidKinds := [.data, .data], laidTests := true, laidLooks := .later }
def FnKeepsTracesCardSaid : Prop := Claim7.holds Tryd.pinned (.plain (OpenSpec.ofChange fnKeepsTracesSpec)) fnKeepsTracesCard

/-- THE TIED CARD OF 'laws.FnKeepsProjection'. -/
def fnKeepsProjectionCard : Claim7 := { stood := { row := fnKeepsProjectionRow, standIns := [], harness := (true, "7ee6f76870ac52b8bb70f130ccde62bdfc10f5228ee82124191354daaa87b774"), looks := false }, kinds := [], alts := [], laidByText := true, laidKinds := [.data, .data], laidTests := true, laidLooks := .later }
def FnKeepsProjectionCardSaid : Prop := Claim7.holds Tryd.pinned (.plain (OpenSpec.ofChange fnKeepsProjectionSpec)) fnKeepsProjectionCard

/-- THE SECOND FORM's CARD OF 'laws.FnKeepsTraces'. -/
def fnKeepsTracesUptoCard : Claim7 := { stood := { row := fnKeepsTracesUptoRow, standIns := [], harness := (true, "7ee6f76870ac52b8bb70f130ccde62bdfc10f5228ee82124191354daaa87b774"), looks := false }, kinds := [], alts := [], laidByText := true, laidKinds := [.data, .data], laidTests := true, laidLooks := .later }
def FnKeepsTracesUptoCardSaid : Prop := Claim7.holds Tryd.pinned (.plain (OpenSpec.upto fnKeepsTracesSpec)) fnKeepsTracesUptoCard

/-- THE SECOND FORM's CARD OF 'laws.FnKeepsProjection'. -/
def fnKeepsProjectionUptoCard : Claim7 := { stood := { row := fnKeepsProjectionUptoRow, standIns := [], harness := (true, "7ee6f76870ac52b8bb70f130ccde62bdfc10f5228ee82124191354daaa87b774"), looks := false }, kinds := [], alts := [], laidByText := true, laidKinds := [.data, .data], laidTests := true, laidLooks := .later }
def FnKeepsProjectionUptoCardSaid : Prop := Claim7.holds Tryd.pinned (.plain (OpenSpec.upto fnKeepsProjectionSpec)) fnKeepsProjectionUptoCard
end Rows
end Go.Proofs.YtanekmfifmkbmaaDoor
