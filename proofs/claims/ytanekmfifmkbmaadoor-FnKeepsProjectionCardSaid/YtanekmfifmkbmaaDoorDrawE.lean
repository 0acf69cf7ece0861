/- Part of this seat's proofs, cut to what its law needs. -/

import Derived.Test.YtanekmfifmkbmaaDoorDrawS
import Derived.Deep.RegionHeld3
import Derived.Deep.CutBlock
import Derived.Deep.DeepCutAuto
namespace Go.Proofs.YtanekmfifmkbmaaDoor
set_option linter.unusedSimpArgs false
set_option linter.unusedVariables false
open Go.RowKit
set_option maxHeartbeats 1000000
set_option maxRecDepth 100000
attribute [local go_sem ↓] Go.wp_at_zero Go.wp_at_succ

variable {D D' D'' : Nat → Prop} {g q q' : Nat} {w w' : World}

theorem Drew.mk' {Q k : Nat} {v : Value} {w4 w5 : World} {Φ : (Nat → Prop) → Nat → World → Value → Prop} (hΦ : ∀ w', Shp D w4 w' → Φ D Q w' v) (he : Below w.heap.size w w4) (hD : ∀ b, D b → w.heap.size + k ≤ b) (hT : Typed D Q w4)
    (ht : Tnd (fun b => w.heap.size ≤ b ∧ b < w.heap.size + k) w4 w5) : Drew Q w Φ (.returned v) w5 :=
  ⟨v, D, rfl, he.trans (ht.below he.size fun b hb => hb.1), fun b hb => by have := hD b hb; omega, hT.tnd ht (fun b hb hd => by have := hD b hd; omega),
    hΦ _ (Shp.tnd ht fun b hb hs => by have := hD b hb; omega)⟩
end Go.Proofs.YtanekmfifmkbmaaDoor
