/- Part of this seat's proofs, cut to what its law needs. -/

import Derived.Test.YtccklliljdembaaGreatDoorWalkMs
import Derived.Test.YtccklliljdembaaGreatDoorWalkSE
import Derived.Test.YtccklliljdembaaGreatDoorPlainM
import Derived.Test.YtccklliljdembaaGreatDoorSafeS
import Derived.Deep.DeepCutAuto
import Derived.Test.YtccklliljdembaaGreatDoorWalkWk

namespace Go.Proofs.YtccklliljdembaaGreatDoor
open Go Go.RowKit
set_option linter.unusedVariables false
set_option linter.unusedSimpArgs false
set_option maxHeartbeats 4000000
set_option maxRecDepth 100000


theorem Pool.left {base : Nat} {w : World} {l m : List Slc} (h : Pool base w (l ++ m)) : Pool base w l :=
  ⟨fun s hs => h.own s (List.mem_append_left _ hs), (List.pairwise_append.1 h.apt).1⟩
theorem Pool.right {base : Nat} {w : World} {l m : List Slc} (h : Pool base w (l ++ m)) : Pool base w m :=
  ⟨fun s hs => h.own s (List.mem_append_right _ hs), (List.pairwise_append.1 h.apt).2.1⟩


end Go.Proofs.YtccklliljdembaaGreatDoor

namespace Go.Proofs.YtccklliljdembaaGreatDoor
open Go Go.RowKit
set_option linter.unusedVariables false
set_option linter.unusedSimpArgs false
set_option maxHeartbeats 4000000
set_option maxRecDepth 100000

structure RawMem (TC : Array Value) (al : Int) (w : World) (base B4 : Nat) (pl : List Slc) (vN vA : Value) (wr : World) : Prop where
  pool : Pool base wr pl
  ty : ∀ s ∈ pl, s.e = 3 ∨ s.e = 78 ∨ s.e = 4
  b1 : Blk wr w.heap.size TC 41
  b2 : Blk wr (w.heap.size + 1) #[.int .i64 0, .slice none 0 0, .slice none 0 0] 26
  b4 : Blk wr B4 #[.int .i64 al, vN, vA] 26
  ext : Ext w wr
  size : base ≤ wr.heap.size
section
variable {TC : Array Value} {al : Int} {w wr w' : World} {base B4 : Nat} {pl pl' : List Slc} {vN vA : Value}
end
end Go.Proofs.YtccklliljdembaaGreatDoor

namespace Go.Proofs.YtccklliljdembaaGreatDoor
open Go Go.RowKit
set_option linter.unusedVariables false
set_option linter.unusedSimpArgs false
set_option maxHeartbeats 4000000
set_option maxRecDepth 100000

end Go.Proofs.YtccklliljdembaaGreatDoor

namespace Go.Proofs.YtccklliljdembaaGreatDoor
open Go.RowKit
set_option linter.unusedVariables false
set_option maxHeartbeats 1600000
set_option maxRecDepth 100000

end Go.Proofs.YtccklliljdembaaGreatDoor
