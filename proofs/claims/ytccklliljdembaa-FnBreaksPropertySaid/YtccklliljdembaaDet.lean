/- The checks' contracts with their answers as functions of the arguments. -/
import Derived.Test.YtccklliljdembaaWalkSI
import Derived.Test.YtccklliljdembaaWalkFB
namespace Go.Proofs.Ytccklliljdembaa
set_option linter.unusedSimpArgs false
set_option linter.unusedVariables false
open Go.RowKit
open Classical in
/-- The answer of PartsViolation. -/
noncomputable def pvOf (parts : List Sys) (p : Auto) : Option (List Int) := if h : ∃ r, PV parts p r then h.choose else none
open Classical in
/-- The answer of ViolationUnder. -/
noncomputable def vuOf (s : Sys) (a p : Auto) : Option (List Int) := if h : ∃ r, VU s a p r then h.choose else none
theorem PV.of {parts : List Sys} {p : Auto} {r : Option (List Int)} (h : PV parts p r) : pvOf parts p = r := by
  unfold pvOf; rw [dif_pos ⟨r, h⟩]; exact (Exists.choose_spec (⟨r, h⟩ : ∃ r, PV parts p r)).unique h
theorem VU.of {s : Sys} {a p : Auto} {r : Option (List Int)} (h : VU s a p r) : vuOf s a p = r := by
  unfold vuOf; rw [dif_pos ⟨r, h⟩]; exact (Exists.choose_spec (⟨r, h⟩ : ∃ r, VU s a p r)).unique h
noncomputable def keepsB (parts : List Sys) (p : Auto) : Bool := areParts parts && autoValid p && !(pvOf parts p).isSome
noncomputable def underB (s : Sys) (a p : Auto) : Bool := sysValid s && autoValid a && autoValid p && !(vuOf s a p).isSome

end Go.Proofs.Ytccklliljdembaa
