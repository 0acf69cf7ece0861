/- Part of this seat's proofs, cut to what its law needs. -/

import Derived.Test.YtanekmfifmkbmaaDoorWalkSI
import Derived.Test.YtanekmfifmkbmaaDoorWalkFB
namespace Go.Proofs.YtanekmfifmkbmaaDoor
set_option linter.unusedSimpArgs false
set_option linter.unusedVariables false
open Go.RowKit
open Classical in
noncomputable def pvOf (parts : List Sys) (p : Auto) : Option (List Int) := if h : ∃ r, PV parts p r then h.choose else none
theorem PV.of {parts : List Sys} {p : Auto} {r : Option (List Int)} (h : PV parts p r) : pvOf parts p = r := by
  unfold pvOf; rw [dif_pos ⟨r, h⟩]; exact (Exists.choose_spec (⟨r, h⟩ : ∃ r, PV parts p r)).unique h
noncomputable def keepsB (parts : List Sys) (p : Auto) : Bool := areParts parts && autoValid p && !(pvOf parts p).isSome
theorem FirstViolation_cd (v vp : Value) (s : Sys) (p : Auto) (w : World) (hv : SysV w v s) (hp : AutoV w vp p) (hT : Deb w) :
    Calls Tryd.prog 11 #[v, vp] w (Grows (.tuple #[.string (rtext (pvOf [s] p)), .bool (pvOf [s] p).isSome]) w) :=
  (FirstViolation_c v vp s p w hv hp hT).mono (by rintro e w' ⟨r, hr, rfl, he⟩; rw [hr.of]; exact Grows.mk rfl he)
theorem KeepsProperty_cd (v vp : Value) (s : Sys) (p : Auto) (w : World) (hv : SysV w v s) (hp : AutoV w vp p) (hT : Deb w) :
    Calls Tryd.prog 12 #[v, vp] w (Grows (.bool (keepsB [s] p)) w) :=
  (KeepsProperty_c v vp s p w hv hp hT).mono (by rintro e w' ⟨r, hr, rfl, he⟩; unfold keepsB; rw [hr.of]; exact Grows.mk rfl he)
end Go.Proofs.YtanekmfifmkbmaaDoor
