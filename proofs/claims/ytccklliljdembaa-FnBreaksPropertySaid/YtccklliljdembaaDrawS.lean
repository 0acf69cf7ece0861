/- Draws, typed: parts that are wrong, parts and a property; the draws of checks' arguments out of bytes. -/
import Derived.Test.YtccklliljdembaaDrawR
import Derived.Test.YtccklliljdembaaDrawL
import Derived.Deep.RegionHeld3
import Derived.Deep.CutBlock
import Derived.Deep.DeepCutAuto
namespace Go.Proofs.Ytccklliljdembaa
set_option linter.unusedSimpArgs false
set_option linter.unusedVariables false
open Go.RowKit
set_option maxHeartbeats 1000000
set_option maxRecDepth 100000
attribute [local go_sem ↓] Go.wp_at_zero Go.wp_at_succ

variable {D D' D'' : Nat → Prop} {g q q' : Nat} {w w' : World}

theorem three_of {G5 : Nat} {x1 x2 x3 : Value} {t1 : TypeId} (h5 : Blk w G5 #[x1, x2, x3] t1) : w.cell? ⟨G5, 0, none⟩ = some x1 ∧ w.cell? ⟨G5, 1, none⟩ = some x2 ∧ w.cell? ⟨G5, 2, none⟩ = some x3 :=
  ⟨h5.cell 0 rfl, h5.cell 1 rfl, h5.cell 2 rfl⟩

end Go.Proofs.Ytccklliljdembaa
