/- Part of this seat's proofs, cut to what its law needs. -/

import Derived.Test.YtanekmfifmkbmaaGreatDoorDrawK
import Derived.Test.YtanekmfifmkbmaaGreatDoorDrawL
import Derived.Test.YtanekmfifmkbmaaGreatDoorDrawP
import Derived.Deep.RegionHeld3
import Derived.Deep.DeepCutAuto
import Derived.Test.YtanekmfifmkbmaaGreatDoorDrawF
import Derived.Deep.CutBlock

namespace Go.Proofs.YtanekmfifmkbmaaGreatDoor
set_option linter.unusedSimpArgs false
set_option linter.unusedVariables false
open Go.RowKit
set_option maxHeartbeats 1000000
set_option maxRecDepth 100000
attribute [local go_sem ↓] Go.wp_at_zero Go.wp_at_succ

variable {D D' : Nat → Prop} {g q q' : Nat} {w w' : World}

theorem SysA.boxed {v : Value} (h : SysA D q w v) : ∃ al st n a c, v = .agg #[.int .i64 al, .int .i64 st, .slice a n c] ∧ n ≤ q ∧ SlOk D w 87 3 (.slice a n c) n := h.sysT.boxed


def ThreeT (D : Nat → Prop) (q : Nat) (w : World) (v : Value) : Prop := ∃ s p t, v = .tuple #[s, p, t] ∧ SysT D q w s ∧ AutoT D q w p ∧ SysT D q w t

end Go.Proofs.YtanekmfifmkbmaaGreatDoor

namespace Go.Proofs.YtanekmfifmkbmaaGreatDoor
set_option linter.unusedSimpArgs false
set_option linter.unusedVariables false
open Go.RowKit
set_option maxHeartbeats 1000000
set_option maxRecDepth 100000
attribute [local go_sem ↓] Go.wp_at_zero Go.wp_at_succ

variable {D D' : Nat → Prop} {g q q' : Nat} {w w' : World}

end Go.Proofs.YtanekmfifmkbmaaGreatDoor

namespace Go.Proofs.YtanekmfifmkbmaaGreatDoor
set_option linter.unusedSimpArgs false
set_option linter.unusedVariables false
open Go.RowKit
set_option maxHeartbeats 1000000
set_option maxRecDepth 100000
attribute [local go_sem ↓] Go.wp_at_zero Go.wp_at_succ

variable {D D' : Nat → Prop} {g q q' : Nat} {w w' : World}

theorem ThreeT.tr {v : Value} (h : ThreeT D q w v) (hi : ∀ b, D b → D' b) (hs : Shp D w w') (hq : q ≤ q') : ThreeT D' q' w' v := by
  obtain ⟨s, p, t, rfl, h1, h2, h3⟩ := h
  exact ⟨s, p, t, rfl, h1.tr hi hs hq, h2.tr hi hs hq, h3.tr hi hs hq⟩


theorem Drew.fin {Q : Nat} {v : Value} {w4 w5 : World} (he : Below w.heap.size w w4) (hD : ∀ b, D b → w.heap.size + 3 ≤ b) (hT : Typed D Q w4) (h3 : ThreeT D Q w4 v)
    (ht : Tnd (fun b => w.heap.size ≤ b ∧ b < w.heap.size + 3) w4 w5) : Drew Q w ThreeT (.returned v) w5 :=
  ⟨v, D, rfl, he.trans (ht.below he.size fun b hb => hb.1), fun b hb => by have := hD b hb; omega, hT.tnd ht (fun b hb hd => by have := hD b hd; omega),
    h3.tr (fun _ h => h) (Shp.tnd ht fun b hb hs => by have := hD b hb; omega) (Nat.le_refl _)⟩

end Go.Proofs.YtanekmfifmkbmaaGreatDoor
