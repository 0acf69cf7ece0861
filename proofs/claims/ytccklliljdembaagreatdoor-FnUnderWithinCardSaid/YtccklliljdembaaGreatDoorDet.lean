/- Part of this seat's proofs, cut to what its law needs. -/

import Derived.Test.YtccklliljdembaaGreatDoorWalkSI
import Derived.Test.YtccklliljdembaaGreatDoorWalkFB
namespace Go.Proofs.YtccklliljdembaaGreatDoor
set_option linter.unusedSimpArgs false
set_option linter.unusedVariables false
open Go.RowKit
open Classical in
noncomputable def pvOf (parts : List Sys) (p : Auto) : Option (List Int) := if h : ∃ r, PV parts p r then h.choose else none
open Classical in
noncomputable def vuOf (s : Sys) (a p : Auto) : Option (List Int) := if h : ∃ r, VU s a p r then h.choose else none
theorem PV.of {parts : List Sys} {p : Auto} {r : Option (List Int)} (h : PV parts p r) : pvOf parts p = r := by
  unfold pvOf; rw [dif_pos ⟨r, h⟩]; exact (Exists.choose_spec (⟨r, h⟩ : ∃ r, PV parts p r)).unique h
theorem VU.of {s : Sys} {a p : Auto} {r : Option (List Int)} (h : VU s a p r) : vuOf s a p = r := by
  unfold vuOf; rw [dif_pos ⟨r, h⟩]; exact (Exists.choose_spec (⟨r, h⟩ : ∃ r, VU s a p r)).unique h
noncomputable def keepsB (parts : List Sys) (p : Auto) : Bool := areParts parts && autoValid p && !(pvOf parts p).isSome
noncomputable def underB (s : Sys) (a p : Auto) : Bool := sysValid s && autoValid a && autoValid p && !(vuOf s a p).isSome

theorem KeepsProperty_cd (v vp : Value) (s : Sys) (p : Auto) (w : World) (hv : SysV w v s) (hp : AutoV w vp p) (hT : Deb w) :
    Calls Tryz.prog 14 #[v, vp] w (Grows (.bool (keepsB [s] p)) w) :=
  (KeepsProperty_c v vp s p w hv hp hT).mono (by rintro e w' ⟨r, hr, rfl, he⟩; unfold keepsB; rw [hr.of]; exact Grows.mk rfl he)
theorem KeepsUnder_cd (v va vp : Value) (s : Sys) (a p : Auto) (w : World) (hv : SysV w v s) (hva : AutoV w va a) (hp : AutoV w vp p) (hT : Deb w) :
    Calls Tryz.prog 16 #[v, va, vp] w (Grows (.bool (underB s a p)) w) :=
  (KeepsUnder_c v va vp s a p w hv hva hp hT).mono (by rintro e w' ⟨r, hr, rfl, he⟩; unfold underB; rw [hr.of]; exact Grows.mk rfl he)

end Go.Proofs.YtccklliljdembaaGreatDoor
