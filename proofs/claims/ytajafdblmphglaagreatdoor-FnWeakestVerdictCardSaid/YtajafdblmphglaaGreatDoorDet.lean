/- The checks' contracts with their answers as functions of the arguments. -/
import Derived.Test.YtajafdblmphglaaGreatDoorWalkSI
import Derived.Test.YtajafdblmphglaaGreatDoorWalkFB
namespace Go.Proofs.YtajafdblmphglaaGreatDoor
set_option linter.unusedSimpArgs false
set_option linter.unusedVariables false
open Go.RowKit
open Classical in
/-- The answer of PartsViolation. -/
noncomputable def pvOf (parts : List Sys) (p : Auto) : Option (List Int) := if h : ∃ r, PV parts p r then h.choose else none
open Classical in
/-- The answer of ViolationUnder. -/
noncomputable def vuOf (s : Sys) (a p : Auto) : Option (List Int) := if h : ∃ r, VU s a p r then h.choose else none
theorem PV.of {parts : List Sys} {p : Auto} {r : Option (List Int)} (h : PV parts p r) : pvOf parts p = r := by
  unfold pvOf; rw [dif_pos ⟨r, h⟩]; exact (Exists.choose_spec (⟨r, h⟩ : ∃ r, PV parts p r)).unique h
theorem VU.of {s : Sys} {a p : Auto} {r : Option (List Int)} (h : VU s a p r) : vuOf s a p = r := by
  unfold vuOf; rw [dif_pos ⟨r, h⟩]; exact (Exists.choose_spec (⟨r, h⟩ : ∃ r, VU s a p r)).unique h
noncomputable def keepsB (parts : List Sys) (p : Auto) : Bool := areParts parts && autoValid p && !(pvOf parts p).isSome
theorem PartsKeep_cd (v vp : Value) (parts : List Sys) (p : Auto) (w : World) (hv : SyssV w v parts) (hl : parts.length ≤ 1048576) (hp : AutoV w vp p) (hT : Deb w) :
    Calls Tryz.prog 23 #[v, vp] w (Grows (.bool (keepsB parts p)) w) :=
  (PartsKeep_c v vp parts p w hv hl hp hT).mono (by rintro e w' ⟨r, hr, rfl, he⟩; unfold keepsB; rw [hr.of]; exact Grows.mk rfl he)
theorem KeepsProperty_cd (v vp : Value) (s : Sys) (p : Auto) (w : World) (hv : SysV w v s) (hp : AutoV w vp p) (hT : Deb w) :
    Calls Tryz.prog 24 #[v, vp] w (Grows (.bool (keepsB [s] p)) w) :=
  (KeepsProperty_c v vp s p w hv hp hT).mono (by rintro e w' ⟨r, hr, rfl, he⟩; unfold keepsB; rw [hr.of]; exact Grows.mk rfl he)
end Go.Proofs.YtajafdblmphglaaGreatDoor
