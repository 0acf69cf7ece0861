/-
  DERIVED. GIVEN WITH THE SEED: THE CARDS: each row of YtnahccghglglfaaGreatDoorRows.lean that lists a variable, with what it lists TIED to the program's text (the seventh form; the later family's looks); each row that meets fmt, with fmt's text TOLD by the authors' own Lean function (tested against real Go, not proved from fmt's source: count such statements apart). THE CARD IS WHAT COUNTS. Prove the row's statement (the work); the ties are given (YtnahccghglglfaaGreatDoorTie.lean); close each card by the builder's one call (the guide's Derived/Test/ToyasCard.lean, 'card_holds'). Laid BY PROGRAM, IN A SANDBOX (cutbox-door.mjs). By AI agents, Wed Nov 11 2026. No macro, syntax, notation, axiom, sorry.
-/
import Derived.Test.YtnahccghglglfaaGreatDoorRows
import GoSem.ClaimSeven
namespace Go.Proofs.YtnahccghglglfaaGreatDoor
namespace Rows

/-- THE TIED CARD OF 'laws.FnSafeEmpty'. -/
def fnSafeEmptyCard : Claim7 := { stood := { row := fnSafeEmptyRow, standIns := [], harness := (true, "741764b550b8ab83034003a71969cfa28334938bba6d608f5e98862d6258d41e"), looks := false }, kinds := [], alts := [], laidByText := true, laidKinds := [.data, .data], laidTests := true, laidLooks := .later }
def FnSafeEmptyCardSaid : Prop := Claim7.holds Tryz.pinned (.plain (OpenSpec.ofChange fnSafeEmptySpec)) fnSafeEmptyCard

/-- THE TIED CARD OF 'laws.FnViolationUnsafe'. -/
def fnViolationUnsafeCard : Claim7 := { stood := { row := fnViolationUnsafeRow, standIns := [], harness := (true, "741764b550b8ab83034003a71969cfa28334938bba6d608f5e98862d6258d41e"), looks := false }, kinds := [], alts := [], laidByText := true, laidKinds := [.data, .data], laidTests := true, laidLooks := .later }
def FnViolationUnsafeCardSaid : Prop := Claim7.holds Tryz.pinned (.plain (OpenSpec.ofChange fnViolationUnsafeSpec)) fnViolationUnsafeCard

/-- THE TIED CARD OF 'laws.FnSafeUnder'. -/
def fnSafeUnderCard : Claim7 := { stood := { row := fnSafeUnderRow, standIns := [], harness := (true, "741764b550b8ab83034003a71969cfa28334938bba6d608f5e98862d6258d41e"), looks := false }, kinds := [], alts := [], laidByText := true, laidKinds := [.data, .data], laidTests := true, laidLooks := .later }
def FnSafeUnderCardSaid : Prop := Claim7.holds Tryz.pinned (.plain (OpenSpec.ofChange fnSafeUnderSpec)) fnSafeUnderCard

/-- THE TIED CARD OF 'laws.FnSafeTrace'. -/
def fnSafeTraceCard : Claim7 := { stood := { row := fnSafeTraceRow, standIns := [], harness := (true, "741764b550b8ab83034003a71969cfa28334938bba6d608f5e98862d6258d41e"), looks := false }, kinds := [], alts := [], laidByText := true, laidKinds := [.data, .data], laidTests := true, laidLooks := .later }
def FnSafeTraceCardSaid : Prop := Claim7.holds Tryz.pinned (.plain (OpenSpec.ofChange fnSafeTraceSpec)) fnSafeTraceCard

/-- THE TIED CARD OF 'laws.FnTeacherAlphabet'. -/
def fnTeacherAlphabetCard : Claim7 := { stood := { row := fnTeacherAlphabetRow, standIns := [], harness := (true, "741764b550b8ab83034003a71969cfa28334938bba6d608f5e98862d6258d41e"), looks := false }, kinds := [], alts := [], laidByText := true, laidKinds := [.data, .data], laidTests := true, laidLooks := .later }
def FnTeacherAlphabetCardSaid : Prop := Claim7.holds Tryz.pinned (.plain (OpenSpec.ofChange fnTeacherAlphabetSpec)) fnTeacherAlphabetCard

/-- THE TIED CARD OF 'laws.FnUnderSystem'. -/
def fnUnderSystemCard : Claim7 := { stood := { row := fnUnderSystemRow, standIns := [], harness := (true, "741764b550b8ab83034003a71969cfa28334938bba6d608f5e98862d6258d41e"), looks := false }, kinds := [], alts := [], laidByText := true, laidKinds := [.data, .data], laidTests := true, laidLooks := .later }
def FnUnderSystemCardSaid : Prop := Claim7.holds Tryz.pinned (.plain (OpenSpec.ofChange fnUnderSystemSpec)) fnUnderSystemCard

/-- THE SECOND FORM's CARD OF 'laws.FnSafeEmpty'. -/
def fnSafeEmptyUptoCard : Claim7 := { stood := { row := fnSafeEmptyUptoRow, standIns := [], harness := (true, "741764b550b8ab83034003a71969cfa28334938bba6d608f5e98862d6258d41e"), looks := false }, kinds := [], alts := [], laidByText := true, laidKinds := [.data, .data], laidTests := true, laidLooks := .later }
def FnSafeEmptyUptoCardSaid : Prop := Claim7.holds Tryz.pinned (.plain (OpenSpec.upto fnSafeEmptySpec)) fnSafeEmptyUptoCard

/-- THE SECOND FORM's CARD OF 'laws.FnViolationUnsafe'. -/
def fnViolationUnsafeUptoCard : Claim7 := { stood := { row := fnViolationUnsafeUptoRow, standIns := [], harness := (true, "741764b550b8ab83034003a71969cfa28334938bba6d608f5e98862d6258d41e"), looks := false }, kinds := [], alts := [], laidByText := true, laidKinds := [.data, .data], laidTests := true, laidLooks := .later }
def FnViolationUnsafeUptoCardSaid : Prop := Claim7.holds Tryz.pinned (.plain (OpenSpec.upto fnViolationUnsafeSpec)) fnViolationUnsafeUptoCard

/-- THE SECOND FORM's CARD OF 'laws.FnSafeUnder'. -/
def fnSafeUnderUptoCard : Claim7 := { stood := { row := fnSafeUnderUptoRow, standIns := [], harness := (true, "741764b550b8ab83034003a71969cfa28334938bba6d608f5e98862d6258d41e"), looks := false }, kinds := [], alts := [], laidByText := true, laidKinds := [.data, .data], laidTests := true, laidLooks := .later }
def FnSafeUnderUptoCardSaid : Prop := Claim7.holds Tryz.pinned (.plain (OpenSpec.upto fnSafeUnderSpec)) fnSafeUnderUptoCard

/-- THE SECOND FORM's CARD OF 'laws.FnSafeTrace'. -/
def fnSafeTraceUptoCard : Claim7 := { stood := { row := fnSafeTraceUptoRow, standIns := [], harness := (true, "741764b550b8ab83034003a71969cfa28334938bba6d608f5e98862d6258d41e"), looks := false }, kinds := [], alts := [], laidByText := true, laidKinds := [.data, .data], laidTests := true, laidLooks := .later }
def FnSafeTraceUptoCardSaid : Prop := Claim7.holds Tryz.pinned (.plain (OpenSpec.upto fnSafeTraceSpec)) fnSafeTraceUptoCard

/-- THE SECOND FORM's CARD OF 'laws.FnTeacherAlphabet'. -/
def fnTeacherAlphabetUptoCard : Claim7 := { stood := { row := fnTeacherAlphabetUptoRow, standIns := [], harness := (true, "741764b550b8ab83034003a71969cfa28334938bba6d608f5e98862d6258d41e"), looks := false }, kinds := [], alts := [], laidByText := true, laidKinds := [.data, .data], laidTests := true, laidLooks := .later }
def FnTeacherAlphabetUptoCardSaid : Prop := Claim7.holds Tryz.pinned (.plain (OpenSpec.upto fnTeacherAlphabetSpec)) fnTeacherAlphabetUptoCard

/-- THE SECOND FORM's CARD OF 'laws.FnUnderSystem'. -/
def fnUnderSystemUptoCard : Claim7 := { stood := { row := fnUnderSystemUptoRow, standIns := [], harness := (true, "741764b550b8ab83034003a71969cfa28334938bba6d608f5e98862d6258d41e"), looks := false }, kinds := [], alts := [], laidByText := true, laidKinds := [.data, .data], laidTests := true, laidLooks := .later }
def FnUnderSystemUptoCardSaid : Prop := Claim7.holds Tryz.pinned (.plain (OpenSpec.upto fnUnderSystemSpec)) fnUnderSystemUptoCard
end Rows
end Go.Proofs.YtnahccghglglfaaGreatDoor
