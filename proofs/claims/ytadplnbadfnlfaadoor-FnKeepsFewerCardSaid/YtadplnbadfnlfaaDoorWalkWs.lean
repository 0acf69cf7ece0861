/- Part of this seat's proofs, cut to what its law needs. -/

import Derived.Test.YtadplnbadfnlfaaDoorWalkMs
import Derived.Test.YtadplnbadfnlfaaDoorWalkSE
import Derived.Test.YtadplnbadfnlfaaDoorPlainM
import Derived.Test.YtadplnbadfnlfaaDoorSafeS
import Derived.Deep.DeepCutAuto
import Derived.Test.YtadplnbadfnlfaaDoorWalkWk

namespace Go.Proofs.YtadplnbadfnlfaaDoor
open Go Go.RowKit
set_option linter.unusedVariables false
set_option linter.unusedSimpArgs false
set_option maxHeartbeats 4000000
set_option maxRecDepth 100000




end Go.Proofs.YtadplnbadfnlfaaDoor

namespace Go.Proofs.YtadplnbadfnlfaaDoor
open Go Go.RowKit
set_option linter.unusedVariables false
set_option linter.unusedSimpArgs false
set_option maxHeartbeats 4000000
set_option maxRecDepth 100000

structure RawMem (TC : Array Value) (al : Int) (w : World) (base B4 : Nat) (pl : List Slc) (vN vA : Value) (wr : World) : Prop where
  pool : Pool base wr pl
  ty : ∀ s ∈ pl, s.e = 3 ∨ s.e = 78 ∨ s.e = 4
  b1 : Blk wr w.heap.size TC 63
  b2 : Blk wr (w.heap.size + 1) #[.int .i64 0, .slice none 0 0, .slice none 0 0] 32
  b4 : Blk wr B4 #[.int .i64 al, vN, vA] 32
  ext : Ext w wr
  size : base ≤ wr.heap.size
section
variable {TC : Array Value} {al : Int} {w wr w' : World} {base B4 : Nat} {pl pl' : List Slc} {vN vA : Value}
end
end Go.Proofs.YtadplnbadfnlfaaDoor

namespace Go.Proofs.YtadplnbadfnlfaaDoor
open Go Go.RowKit
set_option linter.unusedVariables false
set_option linter.unusedSimpArgs false
set_option maxHeartbeats 4000000
set_option maxRecDepth 100000

end Go.Proofs.YtadplnbadfnlfaaDoor

namespace Go.Proofs.YtadplnbadfnlfaaDoor
open Go.RowKit
set_option linter.unusedVariables false
set_option maxHeartbeats 1600000
set_option maxRecDepth 100000

end Go.Proofs.YtadplnbadfnlfaaDoor
