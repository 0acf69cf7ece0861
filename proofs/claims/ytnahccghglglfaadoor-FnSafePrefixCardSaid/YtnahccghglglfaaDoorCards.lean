/-
  DERIVED. GIVEN WITH THE SEED: THE CARDS: each row of YtnahccghglglfaaDoorRows.lean that lists a variable, with what it lists TIED to the program's text (the seventh form; the later family's looks); each row that meets fmt, with fmt's text TOLD by the authors' own Lean function (tested against real Go, not proved from fmt's source: count such statements apart). THE CARD IS WHAT COUNTS. Prove the row's statement (the work); the ties are given (YtnahccghglglfaaDoorTie.lean); close each card by the builder's one call (the guide's Derived/Test/ToyasCard.lean, 'card_holds'). Laid BY PROGRAM, IN A SANDBOX (cutbox-door.mjs). By AI agents, Wed Nov 11 2026. No macro, syntax, notation, axiom, sorry.
-/
import Derived.Test.YtnahccghglglfaaDoorRows
import GoSem.ClaimSeven
namespace Go.Proofs.YtnahccghglglfaaDoor
namespace Rows

/-- THE TIED CARD OF 'laws.FnExactSafeWord'. -/
def fnExactSafeWordCard : Claim7 := { stood := { row := fnExactSafeWordRow, standIns := [], harness := (true, "87c70ed4aa2c4c8968b53219ec6ddbdcb2d459823d28e42732f577bc1f6c5f70"), looks := false }, kinds := [], alts := [], laidByText := true, laidKinds := [.data, .data], laidTests := true, laidLooks := .later }
def FnExactSafeWordCardSaid : Prop := Claim7.holds Tryd.pinned (.plain (OpenSpec.ofChange fnExactSafeWordSpec)) fnExactSafeWordCard

/-- THE TIED CARD OF 'laws.FnSafePrefix'. -/
def fnSafePrefixCard : Claim7 := { stood := { row := fnSafePrefixRow, standIns := [], harness := (true, "87c70ed4aa2c4c8968b53219ec6ddbdcb2d459823d28e42732f577bc1f6c5f70"), looks := false }, kinds := [], alts := [], laidByText := true, laidKinds := [.data, .data], laidTests := true, laidLooks := .later }
def FnSafePrefixCardSaid : Prop := Claim7.holds Tryd.pinned (.plain (OpenSpec.ofChange fnSafePrefixSpec)) fnSafePrefixCard

/-- THE TIED CARD OF 'laws.FnExactAskTeacher'. -/
def fnExactAskTeacherCard : Claim7 := { stood := { row := fnExactAskTeacherRow, standIns := [], harness := (true, "87c70ed4aa2c4c8968b53219ec6ddbdcb2d459823d28e42732f577bc1f6c5f70"), looks := false }, kinds := [], alts := [], laidByText := true, laidKinds := [.data, .data], laidTests := true, laidLooks := .later }
def FnExactAskTeacherCardSaid : Prop := Claim7.holds Tryd.pinned (.plain (OpenSpec.ofChange fnExactAskTeacherSpec)) fnExactAskTeacherCard

/-- THE TIED CARD OF 'laws.FnExactUnsafeWitness'. -/
def fnExactUnsafeWitnessCard : Claim7 := { stood := { row := fnExactUnsafeWitnessRow, standIns := [], harness := (true, "87c70ed4aa2c4c8968b53219ec6ddbdcb2d459823d28e42732f577bc1f6c5f70"), looks := false }, kinds := [], alts := [], laidByText := true, laidKinds := [.data, .data], laidTests := true, laidLooks := .later }
def FnExactUnsafeWitnessCardSaid : Prop := Claim7.holds Tryd.pinned (.plain (OpenSpec.ofChange fnExactUnsafeWitnessSpec)) fnExactUnsafeWitnessCard

/-- THE SECOND FORM's CARD OF 'laws.FnExactSafeWord'. -/
def fnExactSafeWordUptoCard : Claim7 := { stood := { row := fnExactSafeWordUptoRow, standIns := [], harness := (true, "87c70ed4aa2c4c8968b53219ec6ddbdcb2d459823d28e42732f577bc1f6c5f70"), looks := false }, kinds := [], alts := [], laidByText := true, laidKinds := [.data, .data], laidTests := true, laidLooks := .later }
def FnExactSafeWordUptoCardSaid : Prop := Claim7.holds Tryd.pinned (.plain (OpenSpec.upto fnExactSafeWordSpec)) fnExactSafeWordUptoCard

/-- THE SECOND FORM's CARD OF 'laws.FnSafePrefix'. -/
def fnSafePrefixUptoCard : Claim7 := { stood := { row := fnSafePrefixUptoRow, standIns := [], harness := (true, "87c70ed4aa2c4c8968b53219ec6ddbdcb2d459823d28e42732f577bc1f6c5f70"), looks := false }, kinds := [], alts := [], laidByText := true, laidKinds := [.data, .data], laidTests := true, laidLooks := .later }
def FnSafePrefixUptoCardSaid : Prop := Claim7.holds Tryd.pinned (.plain (OpenSpec.upto fnSafePrefixSpec)) fnSafePrefixUptoCard

/-- THE SECOND FORM's CARD OF 'laws.FnExactAskTeacher'. -/
def fnExactAskTeacherUptoCard : Claim7 := { stood := { row := fnExactAskTeacherUptoRow, standIns := [], harness := (true, "87c70ed4aa2c4c8968b53219ec6ddbdcb2d459823d28e42732f577bc1f6c5f70"), looks := false }, kinds := [], alts := [], laidByText := true, laidKinds := [.data, .data], laidTests := true, laidLooks := .later }
def FnExactAskTeacherUptoCardSaid : Prop := Claim7.holds Tryd.pinned (.plain (OpenSpec.upto fnExactAskTeacherSpec)) fnExactAskTeacherUptoCard

/-- THE SECOND FORM's CARD OF 'laws.FnExactUnsafeWitness'. -/
def fnExactUnsafeWitnessUptoCard : Claim7 := { stood := { row := fnExactUnsafeWitnessUptoRow, standIns := [], harness := (true, "87c70ed4aa2c4c8968b53219ec6ddbdcb2d459823d28e42732f577bc1f6c5f70"), looks := false }, kinds := [], alts := [], laidByText := true, laidKinds := [.data, .data], laidTests := true, laidLooks := .later }
def FnExactUnsafeWitnessUptoCardSaid : Prop := Claim7.holds Tryd.pinned (.plain (OpenSpec.upto fnExactUnsafeWitnessSpec)) fnExactUnsafeWitnessUptoCard
end Rows
end Go.Proofs.YtnahccghglglfaaDoor
