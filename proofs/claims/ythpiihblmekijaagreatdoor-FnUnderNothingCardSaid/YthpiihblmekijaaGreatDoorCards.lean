/-
  DERIVED. GIVEN WITH THE SEED: THE CARDS: each row of YthpiihblmekijaaGreatDoorRows.lean that lists a variable, with what it lists TIED to the program's text (the seventh form; the later family's looks); each row that meets fmt, with fmt's text TOLD by the authors' own Lean function (tested against real Go, not proved from fmt's source: count such statements apart). THE CARD IS WHAT COUNTS. Prove the row's statement (the work); the ties are given (YthpiihblmekijaaGreatDoorTie.lean); close each card by the builder's one call (the guide's Derived/Test/ToyasCard.lean, 'card_holds'). Laid BY PROGRAM, IN A SANDBOX (cutbox-door.mjs). By AI agents, Wed Nov 11 2026. No macro, syntax, notation, axiom, sorry.
-/
import Derived.Test.YthpiihblmekijaaGreatDoorRows
import GoSem.ClaimSeven
namespace Go.Proofs.YthpiihblmekijaaGreatDoor
namespace Rows

/-- THE TIED CARD OF 'laws.FnUnderSystem'. -/
def fnUnderSystemCard : Claim7 := { stood := { row := fnUnderSystemRow, standIns := [], harness := (true, "9a077bff846fc9286c140de7f5544c1180e5c39865adca5fef709ebff2f37226"), looks := true }, kinds := [], alts := [], laidByText := true, laidKinds := [.data, .data], laidTests := true, laidLooks := .later }
def FnUnderSystemCardSaid : Prop := Claim7.holds Tryz.pinned (.plain (OpenSpec.ofChange fnUnderSystemSpec)) fnUnderSystemCard

/-- THE TIED CARD OF 'laws.FnUnderNothing'. -/
def fnUnderNothingCard : Claim7 := { stood := { row := fnUnderNothingRow, standIns := [], harness := (true, "9a077bff846fc9286c140de7f5544c1180e5c39865adca5fef709ebff2f37226"), looks := true }, kinds := [], alts := [], laidByText := true, laidKinds := [.data, .data, .data, .data, .sentinel, .sentinel, .pinned], laidTests := true, laidLooks := .later }
def FnUnderNothingCardSaid : Prop := Claim7.holds Tryz.pinned (.plain (OpenSpec.ofChange fnUnderNothingSpec)) fnUnderNothingCard

/-- THE TIED CARD OF 'laws.FnPartsMore'. -/
def fnPartsMoreCard : Claim7 := { stood := { row := fnPartsMoreRow, standIns := [], harness := (true, "9a077bff846fc9286c140de7f5544c1180e5c39865adca5fef709ebff2f37226"), looks := true }, kinds := [], alts := [], laidByText := true, laidKinds := [.data, .data], laidTests := true, laidLooks := .later }
def FnPartsMoreCardSaid : Prop := Claim7.holds Tryz.pinned (.plain (OpenSpec.ofChange fnPartsMoreSpec)) fnPartsMoreCard

/-- THE TIED CARD OF 'laws.FnRuleSound'. -/
def fnRuleSoundCard : Claim7 := { stood := { row := fnRuleSoundRow, standIns := [], harness := (true, "9a077bff846fc9286c140de7f5544c1180e5c39865adca5fef709ebff2f37226"), looks := true }, kinds := [], alts := [], laidByText := true, laidKinds := [.data, .data], laidTests := true, laidLooks := .later }
def FnRuleSoundCardSaid : Prop := Claim7.holds Tryz.pinned (.plain (OpenSpec.ofChange fnRuleSoundSpec)) fnRuleSoundCard

/-- THE TIED CARD OF 'laws.FnKeepsBoth'. -/
def fnKeepsBothCard : Claim7 := { stood := { row := fnKeepsBothRow, standIns := [], harness := (true, "9a077bff846fc9286c140de7f5544c1180e5c39865adca5fef709ebff2f37226"), looks := true }, kinds := [], alts := [], laidByText := true, laidKinds := [.data, .data], laidTests := true, laidLooks := .later }
def FnKeepsBothCardSaid : Prop := Claim7.holds Tryz.pinned (.plain (OpenSpec.ofChange fnKeepsBothSpec)) fnKeepsBothCard

/-- THE TIED CARD OF 'laws.FnKeepsEither'. -/
def fnKeepsEitherCard : Claim7 := { stood := { row := fnKeepsEitherRow, standIns := [], harness := (true, "9a077bff846fc9286c140de7f5544c1180e5c39865adca5fef709ebff2f37226"), looks := true }, kinds := [], alts := [], laidByText := true, laidKinds := [.data, .data], laidTests := true, laidLooks := .later }
def FnKeepsEitherCardSaid : Prop := Claim7.holds Tryz.pinned (.plain (OpenSpec.ofChange fnKeepsEitherSpec)) fnKeepsEitherCard

/-- THE TIED CARD OF 'laws.FnSafeEmpty'. -/
def fnSafeEmptyCard : Claim7 := { stood := { row := fnSafeEmptyRow, standIns := [], harness := (true, "9a077bff846fc9286c140de7f5544c1180e5c39865adca5fef709ebff2f37226"), looks := true }, kinds := [], alts := [], laidByText := true, laidKinds := [.data, .data], laidTests := true, laidLooks := .later }
def FnSafeEmptyCardSaid : Prop := Claim7.holds Tryz.pinned (.plain (OpenSpec.ofChange fnSafeEmptySpec)) fnSafeEmptyCard

/-- THE SECOND FORM's CARD OF 'laws.FnUnderSystem'. -/
def fnUnderSystemUptoCard : Claim7 := { stood := { row := fnUnderSystemUptoRow, standIns := [], harness := (true, "9a077bff846fc9286c140de7f5544c1180e5c39865adca5fef709ebff2f37226"), looks := true }, kinds := [], alts := [], laidByText := true, laidKinds := [.data, .data], laidTests := true, laidLooks := .later }
def FnUnderSystemUptoCardSaid : Prop := Claim7.holds Tryz.pinned (.plain (OpenSpec.upto fnUnderSystemSpec)) fnUnderSystemUptoCard

/-- THE SECOND FORM's CARD OF 'laws.FnUnderNothing'. -/
def fnUnderNothingUptoCard : Claim7 := { stood := { row := fnUnderNothingUptoRow, standIns := [], harness := (true, "9a077bff846fc9286c140de7f5544c1180e5c39865adca5fef709ebff2f37226"), looks := true }, kinds := [], alts := [], laidByText := true, laidKinds := [.data, .data, .data, .data, .sentinel, .sentinel, .pinned], laidTests := true, laidLooks := .later }
def FnUnderNothingUptoCardSaid : Prop := Claim7.holds Tryz.pinned (.plain (OpenSpec.upto fnUnderNothingSpec)) fnUnderNothingUptoCard

/-- THE SECOND FORM's CARD OF 'laws.FnPartsMore'. -/
def fnPartsMoreUptoCard : Claim7 := { stood := { row := fnPartsMoreUptoRow, standIns := [], harness := (true, "9a077bff846fc9286c140de7f5544c1180e5c39865adca5fef709ebff2f37226"), looks := true }, kinds := [], alts := [], laidByText := true, laidKinds := [.data, .data], laidTests := true, laidLooks := .later }
def FnPartsMoreUptoCardSaid : Prop := Claim7.holds Tryz.pinned (.plain (OpenSpec.upto fnPartsMoreSpec)) fnPartsMoreUptoCard

/-- THE SECOND FORM's CARD OF 'laws.FnRuleSound'. -/
def fnRuleSoundUptoCard : Claim7 := { stood := { row := fnRuleSoundUptoRow, standIns := [], harness := (true, "9a077bff846fc9286c140de7f5544c1180e5c39865adca5fef709ebff2f37226"), looks := true }, kinds := [], alts := [], laidByText := true, laidKinds := [.data, .data], laidTests := true, laidLooks := .later }
def FnRuleSoundUptoCardSaid : Prop := Claim7.holds Tryz.pinned (.plain (OpenSpec.upto fnRuleSoundSpec)) fnRuleSoundUptoCard

/-- THE SECOND FORM's CARD OF 'laws.FnKeepsBoth'. -/
def fnKeepsBothUptoCard : Claim7 := { stood := { row := fnKeepsBothUptoRow, standIns := [], harness := (true, "9a077bff846fc9286c140de7f5544c1180e5c39865adca5fef709ebff2f37226"), looks := true }, kinds := [], alts := [], laidByText := true, laidKinds := [.data, .data], laidTests := true, laidLooks := .later }
def FnKeepsBothUptoCardSaid : Prop := Claim7.holds Tryz.pinned (.plain (OpenSpec.upto fnKeepsBothSpec)) fnKeepsBothUptoCard

/-- THE SECOND FORM's CARD OF 'laws.FnKeepsEither'. -/
def fnKeepsEitherUptoCard : Claim7 := { stood := { row := fnKeepsEitherUptoRow, standIns := [], harness := (true, "9a077bff846fc9286c140de7f5544c1180e5c39865adca5fef709ebff2f37226"), looks := true }, kinds := [], alts := [], laidByText := true, laidKinds := [.data, .data], laidTests := true, laidLooks := .later }
def FnKeepsEitherUptoCardSaid : Prop := Claim7.holds Tryz.pinned (.plain (OpenSpec.upto fnKeepsEitherSpec)) fnKeepsEitherUptoCard

/-- THE SECOND FORM's CARD OF 'laws.FnSafeEmpty'. -/
def fnSafeEmptyUptoCard : Claim7 := { stood := { row := fnSafeEmptyUptoRow, standIns := [], harness := (true, "9a077bff846fc9286c140de7f5544c1180e5c39865adca5fef709ebff2f37226"), looks := true }, kinds := [], alts := [], laidByText := true, laidKinds := [.data, .data], laidTests := true, laidLooks := .later }
def FnSafeEmptyUptoCardSaid : Prop := Claim7.holds Tryz.pinned (.plain (OpenSpec.upto fnSafeEmptySpec)) fnSafeEmptyUptoCard
end Rows
end Go.Proofs.YthpiihblmekijaaGreatDoor
