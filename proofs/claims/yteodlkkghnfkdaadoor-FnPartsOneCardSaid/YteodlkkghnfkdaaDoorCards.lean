/-
  DERIVED. GIVEN WITH THE SEED: THE CARDS: each row of YteodlkkghnfkdaaDoorRows.lean that lists a variable, with what it lists TIED to the program's text (the seventh form; the later family's looks); each row that meets fmt, with fmt's text TOLD by the authors' own Lean function (tested against real Go, not proved from fmt's source: count such statements apart). THE CARD IS WHAT COUNTS. Prove the row's statement (the work); the ties are given (YteodlkkghnfkdaaDoorTie.lean); close each card by the builder's one call (the guide's Derived/Test/ToyasCard.lean, 'card_holds'). Laid BY PROGRAM, IN A SANDBOX (cutbox-door.mjs). By AI agents, Wed Nov 11 2026. No macro, syntax, notation, axiom, sorry.
-/
import Derived.Test.YteodlkkghnfkdaaDoorRows
import GoSem.ClaimSeven
namespace Go.Proofs.YteodlkkghnfkdaaDoor
namespace Rows

/-- THE TIED CARD OF 'laws.FnUnderItself'. -/
def fnUnderItselfCard : Claim7 := { stood := { row := fnUnderItselfRow, standIns := [], harness := (true, "3388edc1df6b4de8c75a45d92e70c33129ea5bf5d7045e5546ee36280aa9bdb3"), looks := false }, kinds := [], alts := [], laidByText := true, laidKinds := [.data, .data], laidTests := true, laidLooks := .later }
def FnUnderItselfCardSaid : Prop := Claim7.holds Tryd.pinned (.plain (OpenSpec.ofChange fnUnderItselfSpec)) fnUnderItselfCard

/-- THE TIED CARD OF 'laws.FnPartsTurned'. -/
def fnPartsTurnedCard : Claim7 := { stood := { row := fnPartsTurnedRow, standIns := [], harness := (true, "3388edc1df6b4de8c75a45d92e70c33129ea5bf5d7045e5546ee36280aa9bdb3"), looks := false }, kinds := [], alts := [], laidByText := true, laidKinds := [.data, .data], laidTests := true, laidLooks := .later }
def FnPartsTurnedCardSaid : Prop := Claim7.holds Tryd.pinned (.plain (OpenSpec.ofChange fnPartsTurnedSpec)) fnPartsTurnedCard

/-- THE TIED CARD OF 'laws.FnPartsOne'. -/
def fnPartsOneCard : Claim7 := { stood := { row := fnPartsOneRow, standIns := [], harness := (true, "3388edc1df6b4de8c75a45d92e70c33129ea5bf5d7045e5546ee36280aa9bdb3"), looks := false }, kinds := [], alts := [], laidByText := true, laidKinds := [.data, .data], laidTests := true, laidLooks := .later }
def FnPartsOneCardSaid : Prop := Claim7.holds Tryd.pinned (.plain (OpenSpec.ofChange fnPartsOneSpec)) fnPartsOneCard

/-- THE SECOND FORM's CARD OF 'laws.FnUnderItself'. -/
def fnUnderItselfUptoCard : Claim7 := { stood := { row := fnUnderItselfUptoRow, standIns := [], harness := (true, "3388edc1df6b4de8c75a45d92e70c33129ea5bf5d7045e5546ee36280aa9bdb3"), looks := false }, kinds := [], alts := [], laidByText := true, laidKinds := [.data, .data], laidTests := true, laidLooks := .later }
def FnUnderItselfUptoCardSaid : Prop := Claim7.holds Tryd.pinned (.plain (OpenSpec.upto fnUnderItselfSpec)) fnUnderItselfUptoCard

/-- THE SECOND FORM's CARD OF 'laws.FnPartsTurned'. -/
def fnPartsTurnedUptoCard : Claim7 := { stood := { row := fnPartsTurnedUptoRow, standIns := [], harness := (true, "3388edc1df6b4de8c75a45d92e70c33129ea5bf5d7045e5546ee36280aa9bdb3"), looks := false }, kinds := [], alts := [], laidByText := true, laidKinds := [.data, .data], laidTests := true, laidLooks := .later }
def FnPartsTurnedUptoCardSaid : Prop := Claim7.holds Tryd.pinned (.plain (OpenSpec.upto fnPartsTurnedSpec)) fnPartsTurnedUptoCard

/-- THE SECOND FORM's CARD OF 'laws.FnPartsOne'. -/
def fnPartsOneUptoCard : Claim7 := { stood := { row := fnPartsOneUptoRow, standIns := [], harness := (true, "3388edc1df6b4de8c75a45d92e70c33129ea5bf5d7045e5546ee36280aa9bdb3"), looks := false }, kinds := [], alts := [], laidByText := true, laidKinds := [.data, .data], laidTests := true, laidLooks := .later }
def FnPartsOneUptoCardSaid : Prop := Claim7.holds Tryd.pinned (.plain (OpenSpec.upto fnPartsOneSpec)) fnPartsOneUptoCard
end Rows
end Go.Proofs.YteodlkkghnfkdaaDoor
