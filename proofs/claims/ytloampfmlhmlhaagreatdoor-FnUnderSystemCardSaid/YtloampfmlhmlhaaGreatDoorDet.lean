/- The checks' contracts with their answers as functions of the arguments. -/
import Derived.Test.YtloampfmlhmlhaaGreatDoorWalkSI
import Derived.Test.YtloampfmlhmlhaaGreatDoorWalkFB
namespace Go.Proofs.YtloampfmlhmlhaaGreatDoor
set_option linter.unusedSimpArgs false
set_option linter.unusedVariables false
open Go.RowKit
open Classical in
/-- The answer of PartsViolation. -/
noncomputable def pvOf (parts : List Sys) (p : Auto) : Option (List Int) := if h : ∃ r, PV parts p r then h.choose else none
open Classical in
/-- The answer of ViolationUnder. -/
noncomputable def vuOf (s : Sys) (a p : Auto) : Option (List Int) := if h : ∃ r, VU s a p r then h.choose else none
theorem PV.of {parts : List Sys} {p : Auto} {r : Option (List Int)} (h : PV parts p r) : pvOf parts p = r := by
  unfold pvOf; rw [dif_pos ⟨r, h⟩]; exact (Exists.choose_spec (⟨r, h⟩ : ∃ r, PV parts p r)).unique h
theorem VU.of {s : Sys} {a p : Auto} {r : Option (List Int)} (h : VU s a p r) : vuOf s a p = r := by
  unfold vuOf; rw [dif_pos ⟨r, h⟩]; exact (Exists.choose_spec (⟨r, h⟩ : ∃ r, VU s a p r)).unique h
noncomputable def keepsB (parts : List Sys) (p : Auto) : Bool := areParts parts && autoValid p && !(pvOf parts p).isSome
noncomputable def underB (s : Sys) (a p : Auto) : Bool := sysValid s && autoValid a && autoValid p && !(vuOf s a p).isSome

theorem PartsViolation_cd (v vp : Value) (parts : List Sys) (p : Auto) (w : World) (hv : SyssV w v parts) (hl : parts.length ≤ 1048576) (hp : AutoV w vp p) (hT : Deb w) :
    Calls Tryz.prog 21 #[v, vp] w (Grows (.tuple #[.string (rtext (pvOf parts p)), .bool (pvOf parts p).isSome]) w) :=
  (PartsViolation_c v vp parts p w hv hl hp hT).mono (by rintro e w' ⟨r, hr, rfl, he⟩; rw [hr.of]; exact Grows.mk rfl he)
theorem ViolationUnder_cd (v va vp : Value) (s : Sys) (a p : Auto) (w : World) (hv : SysV w v s) (hva : AutoV w va a) (hp : AutoV w vp p) (hT : Deb w) :
    Calls Tryz.prog 17 #[v, va, vp] w (Grows (.tuple #[.string (rtext (vuOf s a p)), .bool (vuOf s a p).isSome]) w) :=
  (ViolationUnder_c v va vp s a p w hv hva hp hT).mono (by rintro e w' ⟨r, hr, rfl, he⟩; rw [hr.of]; exact Grows.mk rfl he)
theorem ViolationUnder_sd (v va vp : Value) (s : Sys) (a p : Auto) (w : World) (hv : SysV w v s) (hva : AutoV w va a) (hp : AutoV w vp p) (hel : s.edges.length ≤ 1048576) :
    Calls Tryz.prog 18 #[v, va, vp] w (Grows (.tuple #[.string (rtext (vuOf s a p)), .bool (vuOf s a p).isSome]) w) :=
  (ViolationUnder_s v va vp s a p w hv hva hp hel).mono (by rintro e w' ⟨r, hr, rfl, he⟩; rw [hr.of]; exact Grows.mk rfl he)
end Go.Proofs.YtloampfmlhmlhaaGreatDoor
