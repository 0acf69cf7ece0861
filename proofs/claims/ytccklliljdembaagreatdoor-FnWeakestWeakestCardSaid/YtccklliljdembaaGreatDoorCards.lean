/-
  DERIVED. GIVEN WITH THE SEED: THE CARDS: each row of YtccklliljdembaaGreatDoorRows.lean that lists a variable, with what it lists TIED to the program's text (the seventh form; the later family's looks); each row that meets fmt, with fmt's text TOLD by the authors' own Lean function (tested against real Go, not proved from fmt's source: count such statements apart). THE CARD IS WHAT COUNTS. Prove the row's statement (the work); the ties are given (YtccklliljdembaaGreatDoorTie.lean); close each card by the builder's one call (the guide's Derived/Test/ToyasCard.lean, 'card_holds'). Laid BY PROGRAM, IN A SANDBOX (cutbox-door.mjs). By AI agents, Wed Nov 11 2026. No macro, syntax, notation, axiom, sorry.
-/
import Derived.Test.YtccklliljdembaaGreatDoorRows
import GoSem.ClaimSeven
namespace Go.Proofs.YtccklliljdembaaGreatDoor
namespace Rows

/-- THE TIED CARD OF 'laws.FnKeepsWithin'. -/
def fnKeepsWithinCard : Claim7 := { stood := { row := fnKeepsWithinRow, standIns := [], harness := (true, "d8b9e90798eb382428c42dc7a9d8619d866e965799fc052b0adf8ffb183a41af"), looks := false }, kinds := [], alts := [], laidByText := true, laidKinds := [.data, .data], laidTests := true, laidLooks := .later }
def FnKeepsWithinCardSaid : Prop := Claim7.holds Tryz.pinned (.plain (OpenSpec.ofChange fnKeepsWithinSpec)) fnKeepsWithinCard

/-- THE TIED CARD OF 'laws.FnUnderWithin'. -/
def fnUnderWithinCard : Claim7 := { stood := { row := fnUnderWithinRow, standIns := [], harness := (true, "d8b9e90798eb382428c42dc7a9d8619d866e965799fc052b0adf8ffb183a41af"), looks := false }, kinds := [], alts := [], laidByText := true, laidKinds := [.data, .data], laidTests := true, laidLooks := .later }
def FnUnderWithinCardSaid : Prop := Claim7.holds Tryz.pinned (.plain (OpenSpec.ofChange fnUnderWithinSpec)) fnUnderWithinCard

/-- THE TIED CARD OF 'laws.FnWeakestProperty'. -/
def fnWeakestPropertyCard : Claim7 := { stood := { row := fnWeakestPropertyRow, standIns := [], harness := (true, "d8b9e90798eb382428c42dc7a9d8619d866e965799fc052b0adf8ffb183a41af"), looks := false }, kinds := [], alts := [], laidByText := true, laidKinds := [.data, .data, .data], laidTests := true, laidLooks := .later }
def FnWeakestPropertyCardSaid : Prop := Claim7.holds Tryz.pinned (.plain (OpenSpec.ofChange fnWeakestPropertySpec)) fnWeakestPropertyCard

/-- THE TIED CARD OF 'laws.FnWeakestWeakest'. -/
def fnWeakestWeakestCard : Claim7 := { stood := { row := fnWeakestWeakestRow, standIns := [], harness := (true, "d8b9e90798eb382428c42dc7a9d8619d866e965799fc052b0adf8ffb183a41af"), looks := false }, kinds := [], alts := [], laidByText := true, laidKinds := [.data, .data, .data], laidTests := true, laidLooks := .later }
def FnWeakestWeakestCardSaid : Prop := Claim7.holds Tryz.pinned (.plain (OpenSpec.ofChange fnWeakestWeakestSpec)) fnWeakestWeakestCard

/-- THE TIED CARD OF 'laws.FnTeacherAlphabet'. -/
def fnTeacherAlphabetCard : Claim7 := { stood := { row := fnTeacherAlphabetRow, standIns := [], harness := (true, "d8b9e90798eb382428c42dc7a9d8619d866e965799fc052b0adf8ffb183a41af"), looks := false }, kinds := [], alts := [], laidByText := true, laidKinds := [.data, .data], laidTests := true, laidLooks := .later }
def FnTeacherAlphabetCardSaid : Prop := Claim7.holds Tryz.pinned (.plain (OpenSpec.ofChange fnTeacherAlphabetSpec)) fnTeacherAlphabetCard

/-- THE TIED CARD OF 'laws.FnTeacherTask'. -/
def fnTeacherTaskCard : Claim7 := { stood := { row := fnTeacherTaskRow, standIns := [], harness := (true, "d8b9e90798eb382428c42dc7a9d8619d866e965799fc052b0adf8ffb183a41af"), looks := false }, kinds := [], alts := [], laidByText := true, laidKinds := [.data, .data, .data], laidTests := true, laidLooks := .later }
def FnTeacherTaskCardSaid : Prop := Claim7.holds Tryz.pinned (.plain (OpenSpec.ofChange fnTeacherTaskSpec)) fnTeacherTaskCard

/-- THE TIED CARD OF 'laws.FnWeakestFewer'. -/
def fnWeakestFewerCard : Claim7 := { stood := { row := fnWeakestFewerRow, standIns := [], harness := (true, "d8b9e90798eb382428c42dc7a9d8619d866e965799fc052b0adf8ffb183a41af"), looks := false }, kinds := [], alts := [], laidByText := true, laidKinds := [.data, .data, .data], laidTests := true, laidLooks := .later }
def FnWeakestFewerCardSaid : Prop := Claim7.holds Tryz.pinned (.plain (OpenSpec.ofChange fnWeakestFewerSpec)) fnWeakestFewerCard

/-- THE SECOND FORM's CARD OF 'laws.FnKeepsWithin'. -/
def fnKeepsWithinUptoCard : Claim7 := { stood := { row := fnKeepsWithinUptoRow, standIns := [], harness := (true, "d8b9e90798eb382428c42dc7a9d8619d866e965799fc052b0adf8ffb183a41af"), looks := false }, kinds := [], alts := [], laidByText := true, laidKinds := [.data, .data], laidTests := true, laidLooks := .later }
def FnKeepsWithinUptoCardSaid : Prop := Claim7.holds Tryz.pinned (.plain (OpenSpec.upto fnKeepsWithinSpec)) fnKeepsWithinUptoCard

/-- THE SECOND FORM's CARD OF 'laws.FnUnderWithin'. -/
def fnUnderWithinUptoCard : Claim7 := { stood := { row := fnUnderWithinUptoRow, standIns := [], harness := (true, "d8b9e90798eb382428c42dc7a9d8619d866e965799fc052b0adf8ffb183a41af"), looks := false }, kinds := [], alts := [], laidByText := true, laidKinds := [.data, .data], laidTests := true, laidLooks := .later }
def FnUnderWithinUptoCardSaid : Prop := Claim7.holds Tryz.pinned (.plain (OpenSpec.upto fnUnderWithinSpec)) fnUnderWithinUptoCard

/-- THE SECOND FORM's CARD OF 'laws.FnWeakestProperty'. -/
def fnWeakestPropertyUptoCard : Claim7 := { stood := { row := fnWeakestPropertyUptoRow, standIns := [], harness := (true, "d8b9e90798eb382428c42dc7a9d8619d866e965799fc052b0adf8ffb183a41af"), looks := false }, kinds := [], alts := [], laidByText := true, laidKinds := [.data, .data, .data], laidTests := true, laidLooks := .later }
def FnWeakestPropertyUptoCardSaid : Prop := Claim7.holds Tryz.pinned (.plain (OpenSpec.upto fnWeakestPropertySpec)) fnWeakestPropertyUptoCard

/-- THE SECOND FORM's CARD OF 'laws.FnWeakestWeakest'. -/
def fnWeakestWeakestUptoCard : Claim7 := { stood := { row := fnWeakestWeakestUptoRow, standIns := [], harness := (true, "d8b9e90798eb382428c42dc7a9d8619d866e965799fc052b0adf8ffb183a41af"), looks := false }, kinds := [], alts := [], laidByText := true, laidKinds := [.data, .data, .data], laidTests := true, laidLooks := .later }
def FnWeakestWeakestUptoCardSaid : Prop := Claim7.holds Tryz.pinned (.plain (OpenSpec.upto fnWeakestWeakestSpec)) fnWeakestWeakestUptoCard

/-- THE SECOND FORM's CARD OF 'laws.FnTeacherAlphabet'. -/
def fnTeacherAlphabetUptoCard : Claim7 := { stood := { row := fnTeacherAlphabetUptoRow, standIns := [], harness := (true, "d8b9e90798eb382428c42dc7a9d8619d866e965799fc052b0adf8ffb183a41af"), looks := false }, kinds := [], alts := [], laidByText := true, laidKinds := [.data, .data], laidTests := true, laidLooks := .later }
def FnTeacherAlphabetUptoCardSaid : Prop := Claim7.holds Tryz.pinned (.plain (OpenSpec.upto fnTeacherAlphabetSpec)) fnTeacherAlphabetUptoCard

/-- THE SECOND FORM's CARD OF 'laws.FnTeacherTask'. -/
def fnTeacherTaskUptoCard : Claim7 := { stood := { row := fnTeacherTaskUptoRow, standIns := [], harness := (true, "d8b9e90798eb382428c42dc7a9d8619d866e965799fc052b0adf8ffb183a41af"), looks := false }, kinds := [], alts := [], laidByText := true, laidKinds := [.data, .data, .data], laidTests := true, laidLooks := .later }
def FnTeacherTaskUptoCardSaid : Prop := Claim7.holds Tryz.pinned (.plain (OpenSpec.upto fnTeacherTaskSpec)) fnTeacherTaskUptoCard

/-- THE SECOND FORM's CARD OF 'laws.FnWeakestFewer'. -/
def fnWeakestFewerUptoCard : Claim7 := { stood := { row := fnWeakestFewerUptoRow, standIns := [], harness := (true, "d8b9e90798eb382428c42dc7a9d8619d866e965799fc052b0adf8ffb183a41af"), looks := false }, kinds := [], alts := [], laidByText := true, laidKinds := [.data, .data, .data], laidTests := true, laidLooks := .later }
def FnWeakestFewerUptoCardSaid : Prop := Claim7.holds Tryz.pinned (.plain (OpenSpec.upto fnWeakestFewerSpec)) fnWeakestFewerUptoCard
end Rows
end Go.Proofs.YtccklliljdembaaGreatDoor
