/- Part of this seat's proofs, cut to what its law needs. -/

import Derived.Test.YtanekmfifmkbmaaGreatDoorWalkSI
import Derived.Test.YtanekmfifmkbmaaGreatDoorWalkFB
namespace Go.Proofs.YtanekmfifmkbmaaGreatDoor
set_option linter.unusedSimpArgs false
set_option linter.unusedVariables false
open Go.RowKit
open Classical in
noncomputable def pvOf (parts : List Sys) (p : Auto) : Option (List Int) := if h : ∃ r, PV parts p r then h.choose else none
theorem PV.of {parts : List Sys} {p : Auto} {r : Option (List Int)} (h : PV parts p r) : pvOf parts p = r := by
  unfold pvOf; rw [dif_pos ⟨r, h⟩]; exact (Exists.choose_spec (⟨r, h⟩ : ∃ r, PV parts p r)).unique h
theorem PartsViolation_cd (v vp : Value) (parts : List Sys) (p : Auto) (w : World) (hv : SyssV w v parts) (hl : parts.length ≤ 1048576) (hp : AutoV w vp p) (hT : Deb w) :
    Calls Tryz.prog 10 #[v, vp] w (Grows (.tuple #[.string (rtext (pvOf parts p)), .bool (pvOf parts p).isSome]) w) :=
  (PartsViolation_c v vp parts p w hv hl hp hT).mono (by rintro e w' ⟨r, hr, rfl, he⟩; rw [hr.of]; exact Grows.mk rfl he)
theorem FirstViolation_cd (v vp : Value) (s : Sys) (p : Auto) (w : World) (hv : SysV w v s) (hp : AutoV w vp p) (hT : Deb w) :
    Calls Tryz.prog 11 #[v, vp] w (Grows (.tuple #[.string (rtext (pvOf [s] p)), .bool (pvOf [s] p).isSome]) w) :=
  (FirstViolation_c v vp s p w hv hp hT).mono (by rintro e w' ⟨r, hr, rfl, he⟩; rw [hr.of]; exact Grows.mk rfl he)
end Go.Proofs.YtanekmfifmkbmaaGreatDoor
