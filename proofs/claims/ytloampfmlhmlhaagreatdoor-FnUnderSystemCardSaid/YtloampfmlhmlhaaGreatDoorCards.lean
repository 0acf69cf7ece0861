/-
  DERIVED. GIVEN WITH THE SEED: THE CARDS: each row of YtloampfmlhmlhaaGreatDoorRows.lean that lists a variable, with what it lists TIED to the program's text (the seventh form; the later family's looks); each row that meets fmt, with fmt's text TOLD by the authors' own Lean function (tested against real Go, not proved from fmt's source: count such statements apart). THE CARD IS WHAT COUNTS. Prove the row's statement (the work); the ties are given (YtloampfmlhmlhaaGreatDoorTie.lean); close each card by the builder's one call (the guide's Derived/Test/ToyasCard.lean, 'card_holds'). Laid BY PROGRAM, IN A SANDBOX (cutbox-door.mjs). By AI agents, Wed Nov 11 2026. No macro, syntax, notation, axiom, sorry.
-/
import Derived.Test.YtloampfmlhmlhaaGreatDoorRows
import GoSem.ClaimSeven
namespace Go.Proofs.YtloampfmlhmlhaaGreatDoor
namespace Rows

/-- THE TIED CARD OF 'laws.FnTeacherAlphabet'. -/
def fnTeacherAlphabetCard : Claim7 := { stood := { row := fnTeacherAlphabetRow, standIns := [], harness := (true, "0ab29cc52e882a9be936818e916824ac7edd2fe4bc3f3bb71145c71ac336b87b"), looks := false }, kinds := [], alts := [], laidByText := true, laidKinds := [.data, .data], laidTests := true, laidLooks := .later }
def FnTeacherAlphabetCardSaid : Prop := Claim7.holds Tryz.pinned (.plain (OpenSpec.ofChange fnTeacherAlphabetSpec)) fnTeacherAlphabetCard

/-- THE TIED CARD OF 'laws.FnUnderSystem'. -/
def fnUnderSystemCard : Claim7 := { stood := { row := fnUnderSystemRow, standIns := [], harness := (true, "0ab29cc52e882a9be936818e916824ac7edd2fe4bc3f3bb71145c71ac336b87b"), looks := false }, kinds := [], alts := [], laidByText := true, laidKinds := [.data, .data], laidTests := true, laidLooks := .later }
def FnUnderSystemCardSaid : Prop := Claim7.holds Tryz.pinned (.plain (OpenSpec.ofChange fnUnderSystemSpec)) fnUnderSystemCard

/-- THE TIED CARD OF 'laws.FnWitnessLonger'. -/
def fnWitnessLongerCard : Claim7 := { stood := { row := fnWitnessLongerRow, standIns := [], harness := (true, "0ab29cc52e882a9be936818e916824ac7edd2fe4bc3f3bb71145c71ac336b87b"), looks := false }, kinds := [], alts := [], laidByText := true, laidKinds := [.data, .data], laidTests := true, laidLooks := .later }
def FnWitnessLongerCardSaid : Prop := Claim7.holds Tryz.pinned (.plain (OpenSpec.ofChange fnWitnessLongerSpec)) fnWitnessLongerCard

/-- THE TIED CARD OF 'laws.FnSafeWitness'. -/
def fnSafeWitnessCard : Claim7 := { stood := { row := fnSafeWitnessRow, standIns := [], harness := (true, "0ab29cc52e882a9be936818e916824ac7edd2fe4bc3f3bb71145c71ac336b87b"), looks := false }, kinds := [], alts := [], laidByText := true, laidKinds := [.data, .data], laidTests := true, laidLooks := .later }
def FnSafeWitnessCardSaid : Prop := Claim7.holds Tryz.pinned (.plain (OpenSpec.ofChange fnSafeWitnessSpec)) fnSafeWitnessCard

/-- THE TIED CARD OF 'laws.FnWitnessLeast'. -/
def fnWitnessLeastCard : Claim7 := { stood := { row := fnWitnessLeastRow, standIns := [], harness := (true, "0ab29cc52e882a9be936818e916824ac7edd2fe4bc3f3bb71145c71ac336b87b"), looks := false }, kinds := [], alts := [], laidByText := true, laidKinds := [.data, .data], laidTests := true, laidLooks := .later }
def FnWitnessLeastCardSaid : Prop := Claim7.holds Tryz.pinned (.plain (OpenSpec.ofChange fnWitnessLeastSpec)) fnWitnessLeastCard

/-- THE TIED CARD OF 'laws.FnExactRowOf'. -/
def fnExactRowOfCard : Claim7 := { stood := { row := fnExactRowOfRow, standIns := [], harness := (true, "0ab29cc52e882a9be936818e916824ac7edd2fe4bc3f3bb71145c71ac336b87b"), looks := false }, kinds := [], alts := [], laidByText := true, laidKinds := [.data, .data], laidTests := true, laidLooks := .later }
def FnExactRowOfCardSaid : Prop := Claim7.holds Tryz.pinned (.plain (OpenSpec.ofChange fnExactRowOfSpec)) fnExactRowOfCard

/-- THE TIED CARD OF 'laws.FnExactFirstOpen'. -/
def fnExactFirstOpenCard : Claim7 := { stood := { row := fnExactFirstOpenRow, standIns := [], harness := (true, "0ab29cc52e882a9be936818e916824ac7edd2fe4bc3f3bb71145c71ac336b87b"), looks := false }, kinds := [], alts := [], laidByText := true, laidKinds := [.data, .data], laidTests := true, laidLooks := .later }
def FnExactFirstOpenCardSaid : Prop := Claim7.holds Tryz.pinned (.plain (OpenSpec.ofChange fnExactFirstOpenSpec)) fnExactFirstOpenCard

/-- THE TIED CARD OF 'laws.FnExactTableClosed'. -/
def fnExactTableClosedCard : Claim7 := { stood := { row := fnExactTableClosedRow, standIns := [], harness := (true, "0ab29cc52e882a9be936818e916824ac7edd2fe4bc3f3bb71145c71ac336b87b"), looks := false }, kinds := [], alts := [], laidByText := true, laidKinds := [.data, .data], laidTests := true, laidLooks := .later }
def FnExactTableClosedCardSaid : Prop := Claim7.holds Tryz.pinned (.plain (OpenSpec.ofChange fnExactTableClosedSpec)) fnExactTableClosedCard

/-- THE SECOND FORM's CARD OF 'laws.FnTeacherAlphabet'. -/
def fnTeacherAlphabetUptoCard : Claim7 := { stood := { row := fnTeacherAlphabetUptoRow, standIns := [], harness := (true, "0ab29cc52e882a9be936818e916824ac7edd2fe4bc3f3bb71145c71ac336b87b"), looks := false }, kinds := [], alts := [], laidByText := true, laidKinds := [.data, .data], laidTests := true, laidLooks := .later }
def FnTeacherAlphabetUptoCardSaid : Prop := Claim7.holds Tryz.pinned (.plain (OpenSpec.upto fnTeacherAlphabetSpec)) fnTeacherAlphabetUptoCard

/-- THE SECOND FORM's CARD OF 'laws.FnUnderSystem'. -/
def fnUnderSystemUptoCard : Claim7 := { stood := { row := fnUnderSystemUptoRow, standIns := [], harness := (true, "0ab29cc52e882a9be936818e916824ac7edd2fe4bc3f3bb71145c71ac336b87b"), looks := false }, kinds := [], alts := [], laidByText := true, laidKinds := [.data, .data], laidTests := true, laidLooks := .later }
def FnUnderSystemUptoCardSaid : Prop := Claim7.holds Tryz.pinned (.plain (OpenSpec.upto fnUnderSystemSpec)) fnUnderSystemUptoCard

/-- THE SECOND FORM's CARD OF 'laws.FnWitnessLonger'. -/
def fnWitnessLongerUptoCard : Claim7 := { stood := { row := fnWitnessLongerUptoRow, standIns := [], harness := (true, "0ab29cc52e882a9be936818e916824ac7edd2fe4bc3f3bb71145c71ac336b87b"), looks := false }, kinds := [], alts := [], laidByText := true, laidKinds := [.data, .data], laidTests := true, laidLooks := .later }
def FnWitnessLongerUptoCardSaid : Prop := Claim7.holds Tryz.pinned (.plain (OpenSpec.upto fnWitnessLongerSpec)) fnWitnessLongerUptoCard

/-- THE SECOND FORM's CARD OF 'laws.FnSafeWitness'. -/
def fnSafeWitnessUptoCard : Claim7 := { stood := { row := fnSafeWitnessUptoRow, standIns := [], harness := (true, "0ab29cc52e882a9be936818e916824ac7edd2fe4bc3f3bb71145c71ac336b87b"), looks := false }, kinds := [], alts := [], laidByText := true, laidKinds := [.data, .data], laidTests := true, laidLooks := .later }
def FnSafeWitnessUptoCardSaid : Prop := Claim7.holds Tryz.pinned (.plain (OpenSpec.upto fnSafeWitnessSpec)) fnSafeWitnessUptoCard

/-- THE SECOND FORM's CARD OF 'laws.FnWitnessLeast'. -/
def fnWitnessLeastUptoCard : Claim7 := { stood := { row := fnWitnessLeastUptoRow, standIns := [], harness := (true, "0ab29cc52e882a9be936818e916824ac7edd2fe4bc3f3bb71145c71ac336b87b"), looks := false }, kinds := [], alts := [], laidByText := true, laidKinds := [.data, .data], laidTests := true, laidLooks := .later }
def FnWitnessLeastUptoCardSaid : Prop := Claim7.holds Tryz.pinned (.plain (OpenSpec.upto fnWitnessLeastSpec)) fnWitnessLeastUptoCard

/-- THE SECOND FORM's CARD OF 'laws.FnExactRowOf'. -/
def fnExactRowOfUptoCard : Claim7 := { stood := { row := fnExactRowOfUptoRow, standIns := [], harness := (true, "0ab29cc52e882a9be936818e916824ac7edd2fe4bc3f3bb71145c71ac336b87b"), looks := false }, kinds := [], alts := [], laidByText := true, laidKinds := [.data, .data], laidTests := true, laidLooks := .later }
def FnExactRowOfUptoCardSaid : Prop := Claim7.holds Tryz.pinned (.plain (OpenSpec.upto fnExactRowOfSpec)) fnExactRowOfUptoCard

/-- THE SECOND FORM's CARD OF 'laws.FnExactFirstOpen'. -/
def fnExactFirstOpenUptoCard : Claim7 := { stood := { row := fnExactFirstOpenUptoRow, standIns := [], harness := (true, "0ab29cc52e882a9be936818e916824ac7edd2fe4bc3f3bb71145c71ac336b87b"), looks := false }, kinds := [], alts := [], laidByText := true, laidKinds := [.data, .data], laidTests := true, laidLooks := .later }
def FnExactFirstOpenUptoCardSaid : Prop := Claim7.holds Tryz.pinned (.plain (OpenSpec.upto fnExactFirstOpenSpec)) fnExactFirstOpenUptoCard

/-- THE SECOND FORM's CARD OF 'laws.FnExactTableClosed'. -/
def fnExactTableClosedUptoCard : Claim7 := { stood := { row := fnExactTableClosedUptoRow, standIns := [], harness := (true, "0ab29cc52e882a9be936818e916824ac7edd2fe4bc3f3bb71145c71ac336b87b"), looks := false }, kinds := [], alts := [], laidByText := true, laidKinds := [.data, .data], laidTests := true, laidLooks := .later }
def FnExactTableClosedUptoCardSaid : Prop := Claim7.holds Tryz.pinned (.plain (OpenSpec.upto fnExactTableClosedSpec)) fnExactTableClosedUptoCard
end Rows
end Go.Proofs.YtloampfmlhmlhaaGreatDoor
