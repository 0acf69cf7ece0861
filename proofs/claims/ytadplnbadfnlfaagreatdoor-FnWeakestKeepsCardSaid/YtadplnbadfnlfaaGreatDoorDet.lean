import Derived.Test.YtadplnbadfnlfaaGreatDoorWalkSI
import Derived.Test.YtadplnbadfnlfaaGreatDoorWalkFB
namespace Go.Proofs.YtadplnbadfnlfaaGreatDoor
set_option linter.unusedSimpArgs false
set_option linter.unusedVariables false
open Go.RowKit
open Classical in
noncomputable def vuOf (s:Sys) (a p:Auto):Option (List Int):=if h:∃r,VU s a p r then h.choose else none
theorem VU.of {s:Sys} {a p:Auto} {r:Option (List Int)} (h:VU s a p r):vuOf s a p=r:=by
 unfold vuOf;rw [dif_pos ⟨r,h⟩];exact (Exists.choose_spec (⟨r,h⟩:∃r,VU s a p r)).unique h
noncomputable def underB (s:Sys) (a p:Auto):Bool:=sysValid s&&autoValid a&&autoValid p && !(vuOf s a p).isSome
theorem KeepsUnder_cd (v va vp:Value) (s:Sys) (a p:Auto) (w:World) (hv:SysV w v s) (hva:AutoV w va a) (hp:AutoV w vp p) (hT:Deb w) :
  Calls Tryz.prog 49 #[v,va,vp] w (Grows (.bool (underB s a p)) w):=
 (KeepsUnder_c v va vp s a p w hv hva hp hT).mono (by rintro e w' ⟨r,hr,rfl,he⟩;unfold underB;rw [hr.of];exact Grows.mk rfl he)
end Go.Proofs.YtadplnbadfnlfaaGreatDoor
