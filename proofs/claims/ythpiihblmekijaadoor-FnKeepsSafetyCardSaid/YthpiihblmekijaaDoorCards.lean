/-
  DERIVED. GIVEN WITH THE SEED: THE CARDS: each row of YthpiihblmekijaaDoorRows.lean that lists a variable, with what it lists TIED to the program's text (the seventh form; the later family's looks); each row that meets fmt, with fmt's text TOLD by the authors' own Lean function (tested against real Go, not proved from fmt's source: count such statements apart). THE CARD IS WHAT COUNTS. Prove the row's statement (the work); the ties are given (YthpiihblmekijaaDoorTie.lean); close each card by the builder's one call (the guide's Derived/Test/ToyasCard.lean, 'card_holds'). Laid BY PROGRAM, IN A SANDBOX (cutbox-door.mjs). By AI agents, Wed Nov 11 2026. No macro, syntax, notation, axiom, sorry.
-/
import Derived.Test.YthpiihblmekijaaDoorRows
import GoSem.ClaimSeven
namespace Go.Proofs.YthpiihblmekijaaDoor
namespace Rows

/-- THE TIED CARD OF 'laws.FnKeepsSafety'. -/
def fnKeepsSafetyCard : Claim7 := { stood := { row := fnKeepsSafetyRow, standIns := [], harness := (true, "9194cc4cee2721ff5ea684eef4f90cbfa4ee76953add42d73d8f22bd47bd943c"), looks := false }, kinds := [], alts := [], laidByText := true, laidKinds := [.data, .data], laidTests := true, laidLooks := .later }
def FnKeepsSafetyCardSaid : Prop := Claim7.holds Tryd.pinned (.plain (OpenSpec.ofChange fnKeepsSafetySpec)) fnKeepsSafetyCard

/-- THE TIED CARD OF 'laws.FnExactSafeWord'. -/
def fnExactSafeWordCard : Claim7 := { stood := { row := fnExactSafeWordRow, standIns := [], harness := (true, "9194cc4cee2721ff5ea684eef4f90cbfa4ee76953add42d73d8f22bd47bd943c"), looks := false }, kinds := [], alts := [], laidByText := true, laidKinds := [.data, .data], laidTests := true, laidLooks := .later }
def FnExactSafeWordCardSaid : Prop := Claim7.holds Tryd.pinned (.plain (OpenSpec.ofChange fnExactSafeWordSpec)) fnExactSafeWordCard

/-- THE TIED CARD OF 'laws.FnSafePrefix'. -/
def fnSafePrefixCard : Claim7 := { stood := { row := fnSafePrefixRow, standIns := [], harness := (true, "9194cc4cee2721ff5ea684eef4f90cbfa4ee76953add42d73d8f22bd47bd943c"), looks := false }, kinds := [], alts := [], laidByText := true, laidKinds := [.data, .data], laidTests := true, laidLooks := .later }
def FnSafePrefixCardSaid : Prop := Claim7.holds Tryd.pinned (.plain (OpenSpec.ofChange fnSafePrefixSpec)) fnSafePrefixCard

/-- THE SECOND FORM's CARD OF 'laws.FnKeepsSafety'. -/
def fnKeepsSafetyUptoCard : Claim7 := { stood := { row := fnKeepsSafetyUptoRow, standIns := [], harness := (true, "9194cc4cee2721ff5ea684eef4f90cbfa4ee76953add42d73d8f22bd47bd943c"), looks := false }, kinds := [], alts := [], laidByText := true, laidKinds := [.data, .data], laidTests := true, laidLooks := .later }
def FnKeepsSafetyUptoCardSaid : Prop := Claim7.holds Tryd.pinned (.plain (OpenSpec.upto fnKeepsSafetySpec)) fnKeepsSafetyUptoCard

/-- THE SECOND FORM's CARD OF 'laws.FnExactSafeWord'. -/
def fnExactSafeWordUptoCard : Claim7 := { stood := { row := fnExactSafeWordUptoRow, standIns := [], harness := (true, "9194cc4cee2721ff5ea684eef4f90cbfa4ee76953add42d73d8f22bd47bd943c"), looks := false }, kinds := [], alts := [], laidByText := true, laidKinds := [.data, .data], laidTests := true, laidLooks := .later }
def FnExactSafeWordUptoCardSaid : Prop := Claim7.holds Tryd.pinned (.plain (OpenSpec.upto fnExactSafeWordSpec)) fnExactSafeWordUptoCard

/-- THE SECOND FORM's CARD OF 'laws.FnSafePrefix'. -/
def fnSafePrefixUptoCard : Claim7 := { stood := { row := fnSafePrefixUptoRow, standIns := [], harness := (true, "9194cc4cee2721ff5ea684eef4f90cbfa4ee76953add42d73d8f22bd47bd943c"), looks := false }, kinds := [], alts := [], laidByText := true, laidKinds := [.data, .data], laidTests := true, laidLooks := .later }
def FnSafePrefixUptoCardSaid : Prop := Claim7.holds Tryd.pinned (.plain (OpenSpec.upto fnSafePrefixSpec)) fnSafePrefixUptoCard
end Rows
end Go.Proofs.YthpiihblmekijaaDoor
