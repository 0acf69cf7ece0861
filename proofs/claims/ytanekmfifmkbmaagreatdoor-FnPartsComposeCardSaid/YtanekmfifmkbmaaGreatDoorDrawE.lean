/- Part of this seat's proofs, cut to what its law needs. -/

import Derived.Test.YtanekmfifmkbmaaGreatDoorDrawS
import Derived.Deep.RegionHeld3
import Derived.Deep.CutBlock
import Derived.Deep.DeepCutAuto
namespace Go.Proofs.YtanekmfifmkbmaaGreatDoor
set_option linter.unusedSimpArgs false
set_option linter.unusedVariables false
open Go.RowKit
set_option maxHeartbeats 1000000
set_option maxRecDepth 100000
attribute [local go_sem ↓] Go.wp_at_zero Go.wp_at_succ

variable {D D' D'' : Nat → Prop} {g q q' : Nat} {w w' : World}

theorem TwoT.tr {v : Value} (h : TwoT D q w v) (hi : ∀ b, D b → D' b) (hs : Shp D w w') (hq : q ≤ q') : TwoT D' q' w' v := by
  obtain ⟨s, p, rfl, h1, h2⟩ := h
  exact ⟨s, p, rfl, h1.tr hi hs hq, h2.tr hi hs hq⟩
theorem Drew.mk' {Q k : Nat} {v : Value} {w4 w5 : World} {Φ : (Nat → Prop) → Nat → World → Value → Prop} (hΦ : ∀ w', Shp D w4 w' → Φ D Q w' v) (he : Below w.heap.size w w4) (hD : ∀ b, D b → w.heap.size + k ≤ b) (hT : Typed D Q w4)
    (ht : Tnd (fun b => w.heap.size ≤ b ∧ b < w.heap.size + k) w4 w5) : Drew Q w Φ (.returned v) w5 :=
  ⟨v, D, rfl, he.trans (ht.below he.size fun b hb => hb.1), fun b hb => by have := hD b hb; omega, hT.tnd ht (fun b hb hd => by have := hD b hd; omega),
    hΦ _ (Shp.tnd ht fun b hb hs => by have := hD b hb; omega)⟩
theorem Blk.other3 {b b' : Nat} {cs : Array Value} {t : TypeId} (h : Blk w b cs t) (hn : b ≠ b') (u v x : Value) : Blk (((w.setCell ⟨b', 0, none⟩ u).setCell ⟨b', 1, none⟩ v).setCell ⟨b', 2, none⟩ x) b cs t :=
  ((h.other (p := ⟨b', 0, none⟩) hn u).other (p := ⟨b', 1, none⟩) hn v).other (p := ⟨b', 2, none⟩) hn x
theorem Blk.set3 {b : Nat} {p r s : Value} {t : TypeId} (h : Blk w b #[p, r, s] t) (u v x : Value) : Blk (((w.setCell ⟨b, 0, none⟩ u).setCell ⟨b, 1, none⟩ v).setCell ⟨b, 2, none⟩ x) b #[u, v, x] t :=
  ((h.set 0 u).set 1 v).set 2 x

end Go.Proofs.YtanekmfifmkbmaaGreatDoor
