/-
  DERIVED. GIVEN WITH THE SEED: THE CARDS: each row of YtloampfmlhmlhaaDoorRows.lean that lists a variable, with what it lists TIED to the program's text (the seventh form; the later family's looks); each row that meets fmt, with fmt's text TOLD by the authors' own Lean function (tested against real Go, not proved from fmt's source: count such statements apart). THE CARD IS WHAT COUNTS. Prove the row's statement (the work); the ties are given (YtloampfmlhmlhaaDoorTie.lean); close each card by the builder's one call (the guide's Derived/Test/ToyasCard.lean, 'card_holds'). Laid BY PROGRAM, IN A SANDBOX (cutbox-door.mjs). By AI agents, Wed Nov 11 2026. No macro, syntax, notation, axiom, sorry.
-/
import Derived.Test.YtloampfmlhmlhaaDoorRows
import GoSem.ClaimSeven
namespace Go.Proofs.YtloampfmlhmlhaaDoor
namespace Rows

/-- THE TIED CARD OF 'laws.FnExactUnsafeWitness'. -/
def fnExactUnsafeWitnessCard : Claim7 := { stood := { row := fnExactUnsafeWitnessRow, standIns := [], harness := (true, "ecd9f47c138b14e0af0225fbc5b90c17ece59448c49fdb2feff32884794d7155"), looks := false }, kinds := [], alts := [], laidByText := true, laidKinds := [.data, .data], laidTests := true, laidLooks := .later }
def FnExactUnsafeWitnessCardSaid : Prop := Claim7.holds Tryd.pinned (.plain (OpenSpec.ofChange fnExactUnsafeWitnessSpec)) fnExactUnsafeWitnessCard

/-- THE TIED CARD OF 'laws.FnExactTableValid'. -/
def fnExactTableValidCard : Claim7 := { stood := { row := fnExactTableValidRow, standIns := [], harness := (true, "ecd9f47c138b14e0af0225fbc5b90c17ece59448c49fdb2feff32884794d7155"), looks := false }, kinds := [], alts := [], laidByText := true, laidKinds := [.data, .data], laidTests := true, laidLooks := .later }
def FnExactTableValidCardSaid : Prop := Claim7.holds Tryd.pinned (.plain (OpenSpec.ofChange fnExactTableValidSpec)) fnExactTableValidCard

/-- THE SECOND FORM's CARD OF 'laws.FnExactUnsafeWitness'. -/
def fnExactUnsafeWitnessUptoCard : Claim7 := { stood := { row := fnExactUnsafeWitnessUptoRow, standIns := [], harness := (true, "ecd9f47c138b14e0af0225fbc5b90c17ece59448c49fdb2feff32884794d7155"), looks := false }, kinds := [], alts := [], laidByText := true, laidKinds := [.data, .data], laidTests := true, laidLooks := .later }
def FnExactUnsafeWitnessUptoCardSaid : Prop := Claim7.holds Tryd.pinned (.plain (OpenSpec.upto fnExactUnsafeWitnessSpec)) fnExactUnsafeWitnessUptoCard

/-- THE SECOND FORM's CARD OF 'laws.FnExactTableValid'. -/
def fnExactTableValidUptoCard : Claim7 := { stood := { row := fnExactTableValidUptoRow, standIns := [], harness := (true, "ecd9f47c138b14e0af0225fbc5b90c17ece59448c49fdb2feff32884794d7155"), looks := false }, kinds := [], alts := [], laidByText := true, laidKinds := [.data, .data], laidTests := true, laidLooks := .later }
def FnExactTableValidUptoCardSaid : Prop := Claim7.holds Tryd.pinned (.plain (OpenSpec.upto fnExactTableValidSpec)) fnExactTableValidUptoCard
end Rows
end Go.Proofs.YtloampfmlhmlhaaDoor
