/- Part of this seat's proofs, cut to what its law needs. -/

import Derived.Test.YtadplnbadfnlfaaGreatDoorWalkN
import Derived.Test.YtadplnbadfnlfaaGreatDoorWalkFB
import Derived.Test.YtadplnbadfnlfaaGreatDoorDet
import Derived.Test.YtadplnbadfnlfaaGreatDoorRead

namespace Go.Proofs.YtadplnbadfnlfaaGreatDoor
open Go.RowKit
set_option linter.unusedVariables false
set_option linter.unusedSimpArgs false
set_option maxHeartbeats 4000000
set_option maxRecDepth 100000



structure GroundP (w : World) (b8 bm b9 : Nat) (p q : Auto) : Prop where
  u : ∃ v, Blk w b8 #[v] 146 ∧ TabV w v (table p)
  m : Blk w bm #[.int .i64 (q.next.length : Nat)] 3
  r : ∃ v, Blk w b9 #[v] 146 ∧ TabV w v (table q)
theorem GroundP.ext {w w' : World} {b8 bm b9 : Nat} {p q : Auto} (h : GroundP w b8 bm b9 p q) (he : Ext w w') : GroundP w' b8 bm b9 p q := by
  obtain ⟨⟨vu, h1, h2⟩, h3, ⟨vr, h5, h6⟩⟩ := h
  exact ⟨⟨vu, h1.ext he, h2.mono he⟩, h3.ext he, ⟨vr, h5.ext he, h6.mono he⟩⟩

end Go.Proofs.YtadplnbadfnlfaaGreatDoor
