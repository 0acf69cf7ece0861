/- Draws of the checks' arguments out of bytes. -/
import Derived.Test.YtccklliljdembaaDrawS
import Derived.Deep.RegionHeld3
import Derived.Deep.CutBlock
import Derived.Deep.DeepCutAuto
namespace Go.Proofs.Ytccklliljdembaa
set_option linter.unusedSimpArgs false
set_option linter.unusedVariables false
open Go.RowKit
set_option maxHeartbeats 1000000
set_option maxRecDepth 100000
attribute [local go_sem ↓] Go.wp_at_zero Go.wp_at_succ

variable {D D' D'' : Nat → Prop} {g q q' : Nat} {w w' : World}

/-- The results' boxes are written, and nothing else. -/
theorem Drew.mk' {Q k : Nat} {v : Value} {w4 w5 : World} {Φ : (Nat → Prop) → Nat → World → Value → Prop} (hΦ : ∀ w', Shp D w4 w' → Φ D Q w' v) (he : Below w.heap.size w w4) (hD : ∀ b, D b → w.heap.size + k ≤ b) (hT : Typed D Q w4)
    (ht : Tnd (fun b => w.heap.size ≤ b ∧ b < w.heap.size + k) w4 w5) : Drew Q w Φ (.returned v) w5 :=
  ⟨v, D, rfl, he.trans (ht.below he.size fun b hb => hb.1), fun b hb => by have := hD b hb; omega, hT.tnd ht (fun b hb hd => by have := hD b hd; omega),
    hΦ _ (Shp.tnd ht fun b hb hs => by have := hD b hb; omega)⟩
theorem Blk.other3 {b b' : Nat} {cs : Array Value} {t : TypeId} (h : Blk w b cs t) (hn : b ≠ b') (u v x : Value) : Blk (((w.setCell ⟨b', 0, none⟩ u).setCell ⟨b', 1, none⟩ v).setCell ⟨b', 2, none⟩ x) b cs t :=
  ((h.other (p := ⟨b', 0, none⟩) hn u).other (p := ⟨b', 1, none⟩) hn v).other (p := ⟨b', 2, none⟩) hn x
theorem Blk.set3 {b : Nat} {p r s : Value} {t : TypeId} (h : Blk w b #[p, r, s] t) (u v x : Value) : Blk (((w.setCell ⟨b, 0, none⟩ u).setCell ⟨b, 1, none⟩ v).setCell ⟨b, 2, none⟩ x) b #[u, v, x] t :=
  ((h.set 0 u).set 1 v).set 2 x

theorem nine_of' {G5 G6 G7 : Nat} {x1 x2 x3 y1 y2 y3 z1 z2 z3 : Value} {t1 t2 t3 : TypeId} (h5 : Blk w G5 #[x1, x2, x3] t1) (h6 : Blk w G6 #[y1, y2, y3] t2) (h7 : Blk w G7 #[z1, z2, z3] t3) :
    w.cell? ⟨G5, 0, none⟩ = some x1 ∧ w.cell? ⟨G5, 1, none⟩ = some x2 ∧ w.cell? ⟨G5, 2, none⟩ = some x3 ∧ w.cell? ⟨G6, 0, none⟩ = some y1 ∧ w.cell? ⟨G6, 1, none⟩ = some y2 ∧ w.cell? ⟨G6, 2, none⟩ = some y3 ∧ w.cell? ⟨G7, 0, none⟩ = some z1 ∧ w.cell? ⟨G7, 1, none⟩ = some z2 ∧ w.cell? ⟨G7, 2, none⟩ = some z3 :=
  ⟨h5.cell 0 rfl, h5.cell 1 rfl, h5.cell 2 rfl, h6.cell 0 rfl, h6.cell 1 rfl, h6.cell 2 rfl, h7.cell 0 rfl, h7.cell 1 rfl, h7.cell 2 rfl⟩

end Go.Proofs.Ytccklliljdembaa
