/-
  DERIVED. GIVEN WITH THE SEED: THE CARDS: each row of YtkkligbobkmomaaDoorRows.lean that lists a variable, with what it lists TIED to the program's text (the seventh form; the later family's looks); each row that meets fmt, with fmt's text TOLD by the authors' own Lean function (tested against real Go, not proved from fmt's source: count such statements apart). THE CARD IS WHAT COUNTS. Prove the row's statement (the work); the ties are given (YtkkligbobkmomaaDoorTie.lean); close each card by the builder's one call (the guide's Derived/Test/ToyasCard.lean, 'card_holds'). Laid BY PROGRAM, IN A SANDBOX (cutbox-door.mjs). By AI agents, Wed Nov 11 2026. No macro, syntax, notation, axiom, sorry.
-/
import Derived.Test.YtkkligbobkmomaaDoorRows
import GoSem.ClaimSeven
namespace Go.Proofs.YtkkligbobkmomaaDoor
namespace Rows

/-- THE TIED CARD OF 'laws.FnExactSafeWord'. -/
def fnExactSafeWordCard : Claim7 := { stood := { row := fnExactSafeWordRow, standIns := [], harness := (true, "09b0ac7573a475bbb3029f40232a3b5094a4ea8b30fcc7e3c3263b5c36eec647"), looks := false }, kinds := [], alts := [], laidByText := true, laidKinds := [.data, .data], laidTests := true, laidLooks := .later }
def FnExactSafeWordCardSaid : Prop := Claim7.holds Tryd.pinned (.plain (OpenSpec.ofChange fnExactSafeWordSpec)) fnExactSafeWordCard

/-- THE TIED CARD OF 'laws.FnExactAskTeacher'. -/
def fnExactAskTeacherCard : Claim7 := { stood := { row := fnExactAskTeacherRow, standIns := [], harness := (true, "09b0ac7573a475bbb3029f40232a3b5094a4ea8b30fcc7e3c3263b5c36eec647"), looks := false }, kinds := [], alts := [], laidByText := true, laidKinds := [.data, .data], laidTests := true, laidLooks := .later }
def FnExactAskTeacherCardSaid : Prop := Claim7.holds Tryd.pinned (.plain (OpenSpec.ofChange fnExactAskTeacherSpec)) fnExactAskTeacherCard

/-- THE TIED CARD OF 'laws.FnExactViolationUnder'. -/
def fnExactViolationUnderCard : Claim7 := { stood := { row := fnExactViolationUnderRow, standIns := [], harness := (true, "09b0ac7573a475bbb3029f40232a3b5094a4ea8b30fcc7e3c3263b5c36eec647"), looks := false }, kinds := [], alts := [], laidByText := true, laidKinds := [.data, .data], laidTests := true, laidLooks := .later }
def FnExactViolationUnderCardSaid : Prop := Claim7.holds Tryd.pinned (.plain (OpenSpec.ofChange fnExactViolationUnderSpec)) fnExactViolationUnderCard

/-- THE TIED CARD OF 'laws.FnExactKeepsUnder'. -/
def fnExactKeepsUnderCard : Claim7 := { stood := { row := fnExactKeepsUnderRow, standIns := [], harness := (true, "09b0ac7573a475bbb3029f40232a3b5094a4ea8b30fcc7e3c3263b5c36eec647"), looks := false }, kinds := [], alts := [], laidByText := true, laidKinds := [.data, .data], laidTests := true, laidLooks := .later }
def FnExactKeepsUnderCardSaid : Prop := Claim7.holds Tryd.pinned (.plain (OpenSpec.ofChange fnExactKeepsUnderSpec)) fnExactKeepsUnderCard

/-- THE TIED CARD OF 'laws.FnExactFirstViolation'. -/
def fnExactFirstViolationCard : Claim7 := { stood := { row := fnExactFirstViolationRow, standIns := [], harness := (true, "09b0ac7573a475bbb3029f40232a3b5094a4ea8b30fcc7e3c3263b5c36eec647"), looks := false }, kinds := [], alts := [], laidByText := true, laidKinds := [.data, .data], laidTests := true, laidLooks := .later }
def FnExactFirstViolationCardSaid : Prop := Claim7.holds Tryd.pinned (.plain (OpenSpec.ofChange fnExactFirstViolationSpec)) fnExactFirstViolationCard

/-- THE TIED CARD OF 'laws.FnExactKeepsProperty'. -/
def fnExactKeepsPropertyCard : Claim7 := { stood := { row := fnExactKeepsPropertyRow, standIns := [], harness := (true, "09b0ac7573a475bbb3029f40232a3b5094a4ea8b30fcc7e3c3263b5c36eec647"), looks := false }, kinds := [], alts := [], laidByText := true, laidKinds := [.data, .data], laidTests := true, laidLooks := .later }
def FnExactKeepsPropertyCardSaid : Prop := Claim7.holds Tryd.pinned (.plain (OpenSpec.ofChange fnExactKeepsPropertySpec)) fnExactKeepsPropertyCard

/-- THE TIED CARD OF 'laws.FnExactPartsViolation'. -/
def fnExactPartsViolationCard : Claim7 := { stood := { row := fnExactPartsViolationRow, standIns := [], harness := (true, "09b0ac7573a475bbb3029f40232a3b5094a4ea8b30fcc7e3c3263b5c36eec647"), looks := false }, kinds := [], alts := [], laidByText := true, laidKinds := [.data, .data], laidTests := true, laidLooks := .later }
def FnExactPartsViolationCardSaid : Prop := Claim7.holds Tryd.pinned (.plain (OpenSpec.ofChange fnExactPartsViolationSpec)) fnExactPartsViolationCard

/-- THE TIED CARD OF 'laws.FnExactPartsKeep'. -/
def fnExactPartsKeepCard : Claim7 := { stood := { row := fnExactPartsKeepRow, standIns := [], harness := (true, "09b0ac7573a475bbb3029f40232a3b5094a4ea8b30fcc7e3c3263b5c36eec647"), looks := false }, kinds := [], alts := [], laidByText := true, laidKinds := [.data, .data], laidTests := true, laidLooks := .later }
def FnExactPartsKeepCardSaid : Prop := Claim7.holds Tryd.pinned (.plain (OpenSpec.ofChange fnExactPartsKeepSpec)) fnExactPartsKeepCard

/-- THE TIED CARD OF 'laws.FnExactUnsafeWitness'. -/
def fnExactUnsafeWitnessCard : Claim7 := { stood := { row := fnExactUnsafeWitnessRow, standIns := [], harness := (true, "09b0ac7573a475bbb3029f40232a3b5094a4ea8b30fcc7e3c3263b5c36eec647"), looks := false }, kinds := [], alts := [], laidByText := true, laidKinds := [.data, .data], laidTests := true, laidLooks := .later }
def FnExactUnsafeWitnessCardSaid : Prop := Claim7.holds Tryd.pinned (.plain (OpenSpec.ofChange fnExactUnsafeWitnessSpec)) fnExactUnsafeWitnessCard

/-- THE SECOND FORM's CARD OF 'laws.FnExactSafeWord'. -/
def fnExactSafeWordUptoCard : Claim7 := { stood := { row := fnExactSafeWordUptoRow, standIns := [], harness := (true, "09b0ac7573a475bbb3029f40232a3b5094a4ea8b30fcc7e3c3263b5c36eec647"), looks := false }, kinds := [], alts := [], laidByText := true, laidKinds := [.data, .data], laidTests := true, laidLooks := .later }
def FnExactSafeWordUptoCardSaid : Prop := Claim7.holds Tryd.pinned (.plain (OpenSpec.upto fnExactSafeWordSpec)) fnExactSafeWordUptoCard

/-- THE SECOND FORM's CARD OF 'laws.FnExactAskTeacher'. -/
def fnExactAskTeacherUptoCard : Claim7 := { stood := { row := fnExactAskTeacherUptoRow, standIns := [], harness := (true, "09b0ac7573a475bbb3029f40232a3b5094a4ea8b30fcc7e3c3263b5c36eec647"), looks := false }, kinds := [], alts := [], laidByText := true, laidKinds := [.data, .data], laidTests := true, laidLooks := .later }
def FnExactAskTeacherUptoCardSaid : Prop := Claim7.holds Tryd.pinned (.plain (OpenSpec.upto fnExactAskTeacherSpec)) fnExactAskTeacherUptoCard

/-- THE SECOND FORM's CARD OF 'laws.FnExactViolationUnder'. -/
def fnExactViolationUnderUptoCard : Claim7 := { stood := { row := fnExactViolationUnderUptoRow, standIns := [], harness := (true, "09b0ac7573a475bbb3029f40232a3b5094a4ea8b30fcc7e3c3263b5c36eec647"), looks := false }, kinds := [], alts := [], laidByText := true, laidKinds := [.data, .data], laidTests := true, laidLooks := .later }
def FnExactViolationUnderUptoCardSaid : Prop := Claim7.holds Tryd.pinned (.plain (OpenSpec.upto fnExactViolationUnderSpec)) fnExactViolationUnderUptoCard

/-- THE SECOND FORM's CARD OF 'laws.FnExactKeepsUnder'. -/
def fnExactKeepsUnderUptoCard : Claim7 := { stood := { row := fnExactKeepsUnderUptoRow, standIns := [], harness := (true, "09b0ac7573a475bbb3029f40232a3b5094a4ea8b30fcc7e3c3263b5c36eec647"), looks := false }, kinds := [], alts := [], laidByText := true, laidKinds := [.data, .data], laidTests := true, laidLooks := .later }
def FnExactKeepsUnderUptoCardSaid : Prop := Claim7.holds Tryd.pinned (.plain (OpenSpec.upto fnExactKeepsUnderSpec)) fnExactKeepsUnderUptoCard

/-- THE SECOND FORM's CARD OF 'laws.FnExactFirstViolation'. -/
def fnExactFirstViolationUptoCard : Claim7 := { stood := { row := fnExactFirstViolationUptoRow, standIns := [], harness := (true, "09b0ac7573a475bbb3029f40232a3b5094a4ea8b30fcc7e3c3263b5c36eec647"), looks := false }, kinds := [], alts := [], laidByText := true, laidKinds := [.data, .data], laidTests := true, laidLooks := .later }
def FnExactFirstViolationUptoCardSaid : Prop := Claim7.holds Tryd.pinned (.plain (OpenSpec.upto fnExactFirstViolationSpec)) fnExactFirstViolationUptoCard

/-- THE SECOND FORM's CARD OF 'laws.FnExactKeepsProperty'. -/
def fnExactKeepsPropertyUptoCard : Claim7 := { stood := { row := fnExactKeepsPropertyUptoRow, standIns := [], harness := (true, "09b0ac7573a475bbb3029f40232a3b5094a4ea8b30fcc7e3c3263b5c36eec647"), looks := false }, kinds := [], alts := [], laidByText := true, laidKinds := [.data, .data], laidTests := true, laidLooks := .later }
def FnExactKeepsPropertyUptoCardSaid : Prop := Claim7.holds Tryd.pinned (.plain (OpenSpec.upto fnExactKeepsPropertySpec)) fnExactKeepsPropertyUptoCard

/-- THE SECOND FORM's CARD OF 'laws.FnExactPartsViolation'. -/
def fnExactPartsViolationUptoCard : Claim7 := { stood := { row := fnExactPartsViolationUptoRow, standIns := [], harness := (true, "09b0ac7573a475bbb3029f40232a3b5094a4ea8b30fcc7e3c3263b5c36eec647"), looks := false }, kinds := [], alts := [], laidByText := true, laidKinds := [.data, .data], laidTests := true, laidLooks := .later }
def FnExactPartsViolationUptoCardSaid : Prop := Claim7.holds Tryd.pinned (.plain (OpenSpec.upto fnExactPartsViolationSpec)) fnExactPartsViolationUptoCard

/-- THE SECOND FORM's CARD OF 'laws.FnExactPartsKeep'. -/
def fnExactPartsKeepUptoCard : Claim7 := { stood := { row := fnExactPartsKeepUptoRow, standIns := [], harness := (true, "09b0ac7573a475bbb3029f40232a3b5094a4ea8b30fcc7e3c3263b5c36eec647"), looks := false }, kinds := [], alts := [], laidByText := true, laidKinds := [.data, .data], laidTests := true, laidLooks := .later }
def FnExactPartsKeepUptoCardSaid : Prop := Claim7.holds Tryd.pinned (.plain (OpenSpec.upto fnExactPartsKeepSpec)) fnExactPartsKeepUptoCard

/-- THE SECOND FORM's CARD OF 'laws.FnExactUnsafeWitness'. -/
def fnExactUnsafeWitnessUptoCard : Claim7 := { stood := { row := fnExactUnsafeWitnessUptoRow, standIns := [], harness := (true, "09b0ac7573a475bbb3029f40232a3b5094a4ea8b30fcc7e3c3263b5c36eec647"), looks := false }, kinds := [], alts := [], laidByText := true, laidKinds := [.data, .data], laidTests := true, laidLooks := .later }
def FnExactUnsafeWitnessUptoCardSaid : Prop := Claim7.holds Tryd.pinned (.plain (OpenSpec.upto fnExactUnsafeWitnessSpec)) fnExactUnsafeWitnessUptoCard
end Rows
end Go.Proofs.YtkkligbobkmomaaDoor
