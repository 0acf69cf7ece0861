/-
  DERIVED. GIVEN WITH THE SEED: THE CARDS: each row of YteodlkkghnfkdaaGreatDoorRows.lean that lists a variable, with what it lists TIED to the program's text (the seventh form; the later family's looks); each row that meets fmt, with fmt's text TOLD by the authors' own Lean function (tested against real Go, not proved from fmt's source: count such statements apart). THE CARD IS WHAT COUNTS. Prove the row's statement (the work); the ties are given (YteodlkkghnfkdaaGreatDoorTie.lean); close each card by the builder's one call (the guide's Derived/Test/ToyasCard.lean, 'card_holds'). Laid BY PROGRAM, IN A SANDBOX (cutbox-door.mjs). By AI agents, Wed Nov 11 2026. No macro, syntax, notation, axiom, sorry.
-/
import Derived.Test.YteodlkkghnfkdaaGreatDoorRows
import GoSem.ClaimSeven
namespace Go.Proofs.YteodlkkghnfkdaaGreatDoor
namespace Rows

/-- THE TIED CARD OF 'laws.FnFirstViolation'. -/
def fnFirstViolationCard : Claim7 := { stood := { row := fnFirstViolationRow, standIns := [], harness := (true, "0f70196c989befa3bdbd5d7bf29985d9f429865033e550ebe8dd4ee6653ce6cd"), looks := false }, kinds := [], alts := [], laidByText := true, laidKinds := [.data, .data], laidTests := true, laidLooks := .later }
def FnFirstViolationCardSaid : Prop := Claim7.holds Tryz.pinned (.plain (OpenSpec.ofChange fnFirstViolationSpec)) fnFirstViolationCard

/-- THE TIED CARD OF 'laws.FnPartsViolation'. -/
def fnPartsViolationCard : Claim7 := { stood := { row := fnPartsViolationRow, standIns := [], harness := (true, "0f70196c989befa3bdbd5d7bf29985d9f429865033e550ebe8dd4ee6653ce6cd"), looks := false }, kinds := [], alts := [], laidByText := true, laidKinds := [.data, .data], laidTests := true, laidLooks := .later }
def FnPartsViolationCardSaid : Prop := Claim7.holds Tryz.pinned (.plain (OpenSpec.ofChange fnPartsViolationSpec)) fnPartsViolationCard

/-- THE TIED CARD OF 'laws.FnViolationUnder'. -/
def fnViolationUnderCard : Claim7 := { stood := { row := fnViolationUnderRow, standIns := [], harness := (true, "0f70196c989befa3bdbd5d7bf29985d9f429865033e550ebe8dd4ee6653ce6cd"), looks := false }, kinds := [], alts := [], laidByText := true, laidKinds := [.data, .data], laidTests := true, laidLooks := .later }
def FnViolationUnderCardSaid : Prop := Claim7.holds Tryz.pinned (.plain (OpenSpec.ofChange fnViolationUnderSpec)) fnViolationUnderCard

/-- THE TIED CARD OF 'laws.FnViolationPrefix'. -/
def fnViolationPrefixCard : Claim7 := { stood := { row := fnViolationPrefixRow, standIns := [], harness := (true, "0f70196c989befa3bdbd5d7bf29985d9f429865033e550ebe8dd4ee6653ce6cd"), looks := false }, kinds := [], alts := [], laidByText := true, laidKinds := [.data, .data], laidTests := true, laidLooks := .later }
def FnViolationPrefixCardSaid : Prop := Claim7.holds Tryz.pinned (.plain (OpenSpec.ofChange fnViolationPrefixSpec)) fnViolationPrefixCard

/-- THE TIED CARD OF 'laws.FnUnderLeast'. -/
def fnUnderLeastCard : Claim7 := { stood := { row := fnUnderLeastRow, standIns := [], harness := (true, "0f70196c989befa3bdbd5d7bf29985d9f429865033e550ebe8dd4ee6653ce6cd"), looks := false }, kinds := [], alts := [], laidByText := true, laidKinds := [.data, .data], laidTests := true, laidLooks := .later }
def FnUnderLeastCardSaid : Prop := Claim7.holds Tryz.pinned (.plain (OpenSpec.ofChange fnUnderLeastSpec)) fnUnderLeastCard

/-- THE TIED CARD OF 'laws.FnViolationLeast'. -/
def fnViolationLeastCard : Claim7 := { stood := { row := fnViolationLeastRow, standIns := [], harness := (true, "0f70196c989befa3bdbd5d7bf29985d9f429865033e550ebe8dd4ee6653ce6cd"), looks := false }, kinds := [], alts := [], laidByText := true, laidKinds := [.data, .data], laidTests := true, laidLooks := .later }
def FnViolationLeastCardSaid : Prop := Claim7.holds Tryz.pinned (.plain (OpenSpec.ofChange fnViolationLeastSpec)) fnViolationLeastCard

/-- THE SECOND FORM's CARD OF 'laws.FnFirstViolation'. -/
def fnFirstViolationUptoCard : Claim7 := { stood := { row := fnFirstViolationUptoRow, standIns := [], harness := (true, "0f70196c989befa3bdbd5d7bf29985d9f429865033e550ebe8dd4ee6653ce6cd"), looks := false }, kinds := [], alts := [], laidByText := true, laidKinds := [.data, .data], laidTests := true, laidLooks := .later }
def FnFirstViolationUptoCardSaid : Prop := Claim7.holds Tryz.pinned (.plain (OpenSpec.upto fnFirstViolationSpec)) fnFirstViolationUptoCard

/-- THE SECOND FORM's CARD OF 'laws.FnPartsViolation'. -/
def fnPartsViolationUptoCard : Claim7 := { stood := { row := fnPartsViolationUptoRow, standIns := [], harness := (true, "0f70196c989befa3bdbd5d7bf29985d9f429865033e550ebe8dd4ee6653ce6cd"), looks := false }, kinds := [], alts := [], laidByText := true, laidKinds := [.data, .data], laidTests := true, laidLooks := .later }
def FnPartsViolationUptoCardSaid : Prop := Claim7.holds Tryz.pinned (.plain (OpenSpec.upto fnPartsViolationSpec)) fnPartsViolationUptoCard

/-- THE SECOND FORM's CARD OF 'laws.FnViolationUnder'. -/
def fnViolationUnderUptoCard : Claim7 := { stood := { row := fnViolationUnderUptoRow, standIns := [], harness := (true, "0f70196c989befa3bdbd5d7bf29985d9f429865033e550ebe8dd4ee6653ce6cd"), looks := false }, kinds := [], alts := [], laidByText := true, laidKinds := [.data, .data], laidTests := true, laidLooks := .later }
def FnViolationUnderUptoCardSaid : Prop := Claim7.holds Tryz.pinned (.plain (OpenSpec.upto fnViolationUnderSpec)) fnViolationUnderUptoCard

/-- THE SECOND FORM's CARD OF 'laws.FnViolationPrefix'. -/
def fnViolationPrefixUptoCard : Claim7 := { stood := { row := fnViolationPrefixUptoRow, standIns := [], harness := (true, "0f70196c989befa3bdbd5d7bf29985d9f429865033e550ebe8dd4ee6653ce6cd"), looks := false }, kinds := [], alts := [], laidByText := true, laidKinds := [.data, .data], laidTests := true, laidLooks := .later }
def FnViolationPrefixUptoCardSaid : Prop := Claim7.holds Tryz.pinned (.plain (OpenSpec.upto fnViolationPrefixSpec)) fnViolationPrefixUptoCard

/-- THE SECOND FORM's CARD OF 'laws.FnUnderLeast'. -/
def fnUnderLeastUptoCard : Claim7 := { stood := { row := fnUnderLeastUptoRow, standIns := [], harness := (true, "0f70196c989befa3bdbd5d7bf29985d9f429865033e550ebe8dd4ee6653ce6cd"), looks := false }, kinds := [], alts := [], laidByText := true, laidKinds := [.data, .data], laidTests := true, laidLooks := .later }
def FnUnderLeastUptoCardSaid : Prop := Claim7.holds Tryz.pinned (.plain (OpenSpec.upto fnUnderLeastSpec)) fnUnderLeastUptoCard

/-- THE SECOND FORM's CARD OF 'laws.FnViolationLeast'. -/
def fnViolationLeastUptoCard : Claim7 := { stood := { row := fnViolationLeastUptoRow, standIns := [], harness := (true, "0f70196c989befa3bdbd5d7bf29985d9f429865033e550ebe8dd4ee6653ce6cd"), looks := false }, kinds := [], alts := [], laidByText := true, laidKinds := [.data, .data], laidTests := true, laidLooks := .later }
def FnViolationLeastUptoCardSaid : Prop := Claim7.holds Tryz.pinned (.plain (OpenSpec.upto fnViolationLeastSpec)) fnViolationLeastUptoCard
end Rows
end Go.Proofs.YteodlkkghnfkdaaGreatDoor
