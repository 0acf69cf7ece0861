/- Merged: DrawM, DrawN, DrawO. -/
import Derived.Test.YtccklliljdembaaDrawK
import Derived.Test.YtccklliljdembaaDrawL
import Derived.Test.YtccklliljdembaaDrawP
import Derived.Deep.RegionHeld3
import Derived.Deep.DeepCutAuto
import Derived.Test.YtccklliljdembaaDrawF
import Derived.Deep.CutBlock

namespace Go.Proofs.Ytccklliljdembaa
set_option linter.unusedSimpArgs false
set_option linter.unusedVariables false
open Go.RowKit
set_option maxHeartbeats 1000000
set_option maxRecDepth 100000
attribute [local go_sem ↓] Go.wp_at_zero Go.wp_at_succ

variable {D D' : Nat → Prop} {g q q' : Nat} {w w' : World}

end Go.Proofs.Ytccklliljdembaa

namespace Go.Proofs.Ytccklliljdembaa
set_option linter.unusedSimpArgs false
set_option linter.unusedVariables false
open Go.RowKit
set_option maxHeartbeats 1000000
set_option maxRecDepth 100000
attribute [local go_sem ↓] Go.wp_at_zero Go.wp_at_succ

variable {D D' : Nat → Prop} {g q q' : Nat} {w w' : World}

theorem Ext.blkN {w w' : World} {n : Nat} {cs : Array Value} {t : TypeId} (hn : w.heap.size = n) (h : Ext (w.alloc (.cells cs t)) w') : Blk w' n cs t := by have := h.blk; rwa [hn] at this

/-- The cells of three boxes. -/
theorem nine_of {b1 b2 b3 : Nat} {x1 x2 x3 y1 y2 y3 z1 z2 z3 : Value} {t1 t2 t3 : TypeId} (h1 : Blk w b1 #[x1, x2, x3] t1) (h2 : Blk w b2 #[y1, y2, y3] t2) (h3 : Blk w b3 #[z1, z2, z3] t3) :
    w.cell? ⟨b1, 0, none⟩ = some x1 ∧ w.cell? ⟨b1, 1, none⟩ = some x2 ∧ w.cell? ⟨b1, 2, none⟩ = some x3 ∧ w.cell? ⟨b2, 0, none⟩ = some y1 ∧ w.cell? ⟨b2, 1, none⟩ = some y2 ∧ w.cell? ⟨b2, 2, none⟩ = some y3 ∧ w.cell? ⟨b3, 0, none⟩ = some z1 ∧ w.cell? ⟨b3, 1, none⟩ = some z2 ∧ w.cell? ⟨b3, 2, none⟩ = some z3 :=
  ⟨h1.cell 0 rfl, h1.cell 1 rfl, h1.cell 2 rfl, h2.cell 0 rfl, h2.cell 1 rfl, h2.cell 2 rfl, h3.cell 0 rfl, h3.cell 1 rfl, h3.cell 2 rfl⟩

end Go.Proofs.Ytccklliljdembaa

namespace Go.Proofs.Ytccklliljdembaa
set_option linter.unusedSimpArgs false
set_option linter.unusedVariables false
open Go.RowKit
set_option maxHeartbeats 1000000
set_option maxRecDepth 100000
attribute [local go_sem ↓] Go.wp_at_zero Go.wp_at_succ

variable {D D' : Nat → Prop} {g q q' : Nat} {w w' : World}

end Go.Proofs.Ytccklliljdembaa
