/-
  DERIVED. GIVEN WITH THE SEED: THE CARDS: each row of YtadplnbadfnlfaaDoorRows.lean that lists a variable, with what it lists TIED to the program's text (the seventh form; the later family's looks); each row that meets fmt, with fmt's text TOLD by the authors' own Lean function (tested against real Go, not proved from fmt's source: count such statements apart). THE CARD IS WHAT COUNTS. Prove the row's statement (the work); the ties are given (YtadplnbadfnlfaaDoorTie.lean); close each card by the builder's one call (the guide's Derived/Test/ToyasCard.lean, 'card_holds'). Laid BY PROGRAM, IN A SANDBOX (cutbox-door.mjs). By AI agents, Wed Nov 11 2026. No macro, syntax, notation, axiom, sorry.
-/
import Derived.Test.YtadplnbadfnlfaaDoorRows
import GoSem.ClaimSeven
namespace Go.Proofs.YtadplnbadfnlfaaDoor
namespace Rows

/-- THE TIED CARD OF 'laws.FnKeepsTraces'. -/
def fnKeepsTracesCard : Claim7 := { stood := { row := fnKeepsTracesRow, standIns := [], harness := (true, "b64306d48803d9b59d87482dcafee01cc503525204e1c96e72d039197433480e"), looks := false }, kinds := [], alts := [], laidByText := true, laidKinds := [.data, .data], laidTests := true, laidLooks := .later }
def FnKeepsTracesCardSaid : Prop := Claim7.holds Tryd.pinned (.plain (OpenSpec.ofChange fnKeepsTracesSpec)) fnKeepsTracesCard

/-- THE TIED CARD OF 'laws.FnKeepsProjection'. -/
def fnKeepsProjectionCard : Claim7 := { stood := { row := fnKeepsProjectionRow, standIns := [], harness := (true, "b64306d48803d9b59d87482dcafee01cc503525204e1c96e72d039197433480e"), looks := false }, kinds := [], alts := [], laidByText := true, laidKinds := [.data, .data], laidTests := true, laidLooks := .later }
def FnKeepsProjectionCardSaid : Prop := Claim7.holds Tryd.pinned (.plain (OpenSpec.ofChange fnKeepsProjectionSpec)) fnKeepsProjectionCard

/-- THE TIED CARD OF 'laws.FnKeepsFewer'. -/
def fnKeepsFewerCard : Claim7 := { stood := { row := fnKeepsFewerRow, standIns := [], harness := (true, "b64306d48803d9b59d87482dcafee01cc503525204e1c96e72d039197433480e"), looks := false }, kinds := [], alts := [], laidByText := true, laidKinds := [.data, .data], laidTests := true, laidLooks := .later }
def FnKeepsFewerCardSaid : Prop := Claim7.holds Tryd.pinned (.plain (OpenSpec.ofChange fnKeepsFewerSpec)) fnKeepsFewerCard

/-- THE TIED CARD OF 'laws.FnExactTableValid'. -/
def fnExactTableValidCard : Claim7 := { stood := { row := fnExactTableValidRow, standIns := [], harness := (true, "b64306d48803d9b59d87482dcafee01cc503525204e1c96e72d039197433480e"), looks := false }, kinds := [], alts := [], laidByText := true, laidKinds := [.data, .data], laidTests := true, laidLooks := .later }
def FnExactTableValidCardSaid : Prop := Claim7.holds Tryd.pinned (.plain (OpenSpec.ofChange fnExactTableValidSpec)) fnExactTableValidCard

/-- THE SECOND FORM's CARD OF 'laws.FnKeepsTraces'. -/
def fnKeepsTracesUptoCard : Claim7 := { stood := { row := fnKeepsTracesUptoRow, standIns := [], harness := (true, "b64306d48803d9b59d87482dcafee01cc503525204e1c96e72d039197433480e"), looks := false }, kinds := [], alts := [], laidByText := true, laidKinds := [.data, .data], laidTests := true, laidLooks := .later }
def FnKeepsTracesUptoCardSaid : Prop := Claim7.holds Tryd.pinned (.plain (OpenSpec.upto fnKeepsTracesSpec)) fnKeepsTracesUptoCard

/-- THE SECOND FORM's CARD OF 'laws.FnKeepsProjection'. -/
def fnKeepsProjectionUptoCard : Claim7 := { stood := { row := fnKeepsProjectionUptoRow, standIns := [], harness := (true, "b64306d48803d9b59d87482dcafee01cc503525204e1c96e72d039197433480e"), looks := false }, kinds := [], alts := [], laidByText := true, laidKinds := [.data, .data], laidTests := true, laidLooks := .later }
def FnKeepsProjectionUptoCardSaid : Prop := Claim7.holds Tryd.pinned (.plain (OpenSpec.upto fnKeepsProjectionSpec)) fnKeepsProjectionUptoCard

/-- THE SECOND FORM's CARD OF 'laws.FnKeepsFewer'. -/
def fnKeepsFewerUptoCard : Claim7 := { stood := { row := fnKeepsFewerUptoRow, standIns := [], harness := (true, "b64306d48803d9b59d87482dcafee01cc503525204e1c96e72d039197433480e"), looks := false }, kinds := [], alts := [], laidByText := true, laidKinds := [.data, .data], laidTests := true, laidLooks := .later }
def FnKeepsFewerUptoCardSaid : Prop := Claim7.holds Tryd.pinned (.plain (OpenSpec.upto fnKeepsFewerSpec)) fnKeepsFewerUptoCard

/-- THE SECOND FORM's CARD OF 'laws.FnExactTableValid'. -/
def fnExactTableValidUptoCard : Claim7 := { stood := { row := fnExactTableValidUptoRow, standIns := [], harness := (true, "b64306d48803d9b59d87482dcafee01cc503525204e1c96e72d039197433480e"), looks := false }, kinds := [], alts := [], laidByText := true, laidKinds := [.data, .data], laidTests := true, laidLooks := .later }
def FnExactTableValidUptoCardSaid : Prop := Claim7.holds Tryd.pinned (.plain (OpenSpec.upto fnExactTableValidSpec)) fnExactTableValidUptoCard
end Rows
end Go.Proofs.YtadplnbadfnlfaaDoor
