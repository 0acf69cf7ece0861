/- Part of this seat's proofs, cut to what its law needs. -/

import Derived.Test.YtadplnbadfnlfaaDoorPlainC
import Derived.Test.YtadplnbadfnlfaaDoorSubS
import Derived.Test.YtadplnbadfnlfaaDoorWalkR
import Derived.Test.YtadplnbadfnlfaaDoorWalkY
import Derived.Maps.OwnSet
import Derived.Maps.OwnOps

namespace Go.Proofs.YtadplnbadfnlfaaDoor
open Go.RowKit Go.Maps
set_option linter.unusedVariables false
set_option linter.unusedSimpArgs false
set_option maxHeartbeats 4000000
set_option maxRecDepth 100000

structure NxIs (w0 : World) (B : Nat) (L : List Int) (nf : Value) (nx : Nat → Int → Nat) : Prop where
  fn : ∃ f caps, nf = .func (.func f) #[] caps ∧ (∀ args w, (callFunc f args).run Tryd.prog w = .ok (.enter f args) w) ∧
    ∀ w' (q : Nat) l, Ext w0 w' → q < B → l ∈ L → Calls Tryd.prog f (#[.int .i64 q, .int .i64 l] ++ caps) w' (Grows (.int .i64 (nx q l : Nat)) w')
  lt : ∀ q l, q < B → l ∈ L → nx q l < B

end Go.Proofs.YtadplnbadfnlfaaDoor
