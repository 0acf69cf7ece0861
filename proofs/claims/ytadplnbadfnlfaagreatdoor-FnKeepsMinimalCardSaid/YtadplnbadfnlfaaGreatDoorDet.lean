/- Part of this seat's proofs, cut to what its law needs. -/

import Derived.Test.YtadplnbadfnlfaaGreatDoorWalkSI
import Derived.Test.YtadplnbadfnlfaaGreatDoorWalkFB
namespace Go.Proofs.YtadplnbadfnlfaaGreatDoor
set_option linter.unusedSimpArgs false
set_option linter.unusedVariables false
open Go.RowKit
open Classical in
noncomputable def pvOf (parts : List Sys) (p : Auto) : Option (List Int) := if h : ∃ r, PV parts p r then h.choose else none
theorem PV.of {parts : List Sys} {p : Auto} {r : Option (List Int)} (h : PV parts p r) : pvOf parts p = r := by
  unfold pvOf; rw [dif_pos ⟨r, h⟩]; exact (Exists.choose_spec (⟨r, h⟩ : ∃ r, PV parts p r)).unique h
theorem FirstViolation_cd (v vp : Value) (s : Sys) (p : Auto) (w : World) (hv : SysV w v s) (hp : AutoV w vp p) (hT : Deb w) :
    Calls Tryz.prog 17 #[v, vp] w (Grows (.tuple #[.string (rtext (pvOf [s] p)), .bool (pvOf [s] p).isSome]) w) :=
  (FirstViolation_c v vp s p w hv hp hT).mono (by rintro e w' ⟨r, hr, rfl, he⟩; rw [hr.of]; exact Grows.mk rfl he)
theorem FirstViolation_sd (v vp : Value) (s : Sys) (p : Auto) (w : World) (hv : SysV w v s) (hp : AutoV w vp p) (hel : s.edges.length ≤ 1048576) :
    Calls Tryz.prog 42 #[v, vp] w (Grows (.tuple #[.string (rtext (pvOf [s] p)), .bool (pvOf [s] p).isSome]) w) :=
  (FirstViolation_s v vp s p w hv hp hel).mono (by rintro e w' ⟨r, hr, rfl, he⟩; rw [hr.of]; exact Grows.mk rfl he)
end Go.Proofs.YtadplnbadfnlfaaGreatDoor
