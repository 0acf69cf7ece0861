/- Part of this seat's proofs, cut to what its law needs. -/

import Derived.Test.YtadplnbadfnlfaaGreatDoorDrawS
import Derived.Deep.RegionHeld3
import Derived.Deep.CutBlock
import Derived.Deep.DeepCutAuto
namespace Go.Proofs.YtadplnbadfnlfaaGreatDoor
set_option linter.unusedSimpArgs false
set_option linter.unusedVariables false
open Go.RowKit
set_option maxHeartbeats 1000000
set_option maxRecDepth 100000
attribute [local go_sem ↓] Go.wp_at_zero Go.wp_at_succ

variable {D D' D'' : Nat → Prop} {g q q' : Nat} {w w' : World}

theorem TwoT.tr {v : Value} (h : TwoT D q w v) (hi : ∀ b, D b → D' b) (hs : Shp D w w') (hq : q ≤ q') : TwoT D' q' w' v := by
  obtain ⟨s, p, rfl, h1, h2⟩ := h
  exact ⟨s, p, rfl, h1.tr hi hs hq, h2.tr hi hs hq⟩
theorem Drew.mk' {Q k : Nat} {v : Value} {w4 w5 : World} {Φ : (Nat → Prop) → Nat → World → Value → Prop} (hΦ : ∀ w', Shp D w4 w' → Φ D Q w' v) (he : Below w.heap.size w w4) (hD : ∀ b, D b → w.heap.size + k ≤ b) (hT : Typed D Q w4)
    (ht : Tnd (fun b => w.heap.size ≤ b ∧ b < w.heap.size + k) w4 w5) : Drew Q w Φ (.returned v) w5 :=
  ⟨v, D, rfl, he.trans (ht.below he.size fun b hb => hb.1), fun b hb => by have := hD b hb; omega, hT.tnd ht (fun b hb hd => by have := hD b hd; omega),
    hΦ _ (Shp.tnd ht fun b hb hs => by have := hD b hb; omega)⟩
theorem DrawFirstViolation_t (v : Value) (l : List UInt8) (w : World) (hv : BytesV w v l) (hl : l.length ≤ 1048576) :
    Calls Tryz.prog 41 #[v] w (Drew 7400 w TwoT) := by
  obtain ⟨wo, hwo⟩ : ∃ wo, wo = (w.alloc (.cells #[.int .i64 0, .int .i64 0, .slice none 0 0] 25)).alloc (.cells #[.int .i64 0, .slice none 0 0, .slice none 0 0] 31) := ⟨_, rfl⟩
  have he : Ext w wo := by rw [hwo]; exact (Ext.alloc _ _).trans (Ext.alloc _ _)
  have b0 : Blk wo w.heap.size #[.int .i64 0, .int .i64 0, .slice none 0 0] 25 := by rw [hwo]; exact Ext.blk (Ext.alloc _ _)
  have b1 : Blk wo (w.heap.size + 1) #[.int .i64 0, .slice none 0 0, .slice none 0 0] 31 := by rw [hwo]; exact Ext.blk1 (Ext.refl _)
  have hso : wo.heap.size = w.heap.size + 2 := by rw [hwo]; simp
  go_enter Tryz.func41, Tryz.ntmps41
  go_wp2_with fail
  rw [← hwo]
  clear hwo
  refine (l19Open_t v l wo (hv.mono (fun b o x _ h => he.cell h) he.size) hl).mono ?_
  rintro e w1 ⟨g, rfl, hgb, he1, hs1⟩
  have b0 := b0.ext he1
  have b1 := b1.ext he1
  go_wp2_with fail
  refine (l8Draw_t hs1 (by omega)).mono ?_
  rintro e w2 ⟨r, D2, rfl, hi2, hs2, ht2, hR⟩
  have hR' := hR
  obtain ⟨s, p, rfl, hS, hP⟩ := hR
  obtain ⟨al1, st1, n1, a1, c1, rfl, hn1, hE1⟩ := hS.boxed
  obtain ⟨al2, n2, m2, aN, cN, aA, cA, rfl, hn2, hm2, hN, hA⟩ := hP.boxed
  have b0 := b0.tr ht2 (fun h => h) (by omega)
  have b1 := b1.tr ht2 (fun h => h) (by omega)
  have pc0 := b0.cell 0 rfl; have pf0 := b0.fr 0; have pc1 := b0.cell 1 rfl; have pf1 := b0.fr 1; have pc2 := b0.cell 2 rfl; have pf2 := b0.fr 2
  have qc0 := b1.cell 0 rfl; have qf0 := b1.fr 0; have qc1 := b1.cell 1 rfl; have qf1 := b1.fr 1; have qc2 := b1.cell 2 rfl; have qf2 := b1.fr 2
  go_wp2_with fail
  have y4 : Tnd (fun b => w.heap.size ≤ b ∧ b < w.heap.size + 2) w2 _ := (Tnd.set3 (b := w.heap.size) (by omega) (.int .i64 al1) (.int .i64 st1) (.slice a1 n1 c1)).trans (Tnd.set3 (b := w.heap.size + 1) (by omega) (.int .i64 al2) (.slice aN n2 cN) (.slice aA m2 cA))
  refine bodyPost_ret (v := .tuple #[.agg #[.int .i64 al1, .int .i64 st1, .slice a1 n1 c1], .agg #[.int .i64 al2, .slice aN n2 cN, .slice aA m2 cA]]) (by simp [results, Tryz.results41, go_sem, pc0, pc1, pc2, qc0, qc1, qc2, pf0, pf1, pf2, qf0, qf1, qf2]) rfl ?_
  refine Drew.mk' (fun w' hw' => hR'.tr (fun _ h => h) hw' (by omega)) ?_ (fun b hb => by have := (hs2.dom b hb).1; omega) hs2.typ y4
  exact Below.trans (he.trans he1) (ht2.tnd.below (lo := w.heap.size) (by have := he.size; have := he1.size; omega) (fun b hb => by rcases hb with hb | hb; exact hb.elim; omega))

end Go.Proofs.YtadplnbadfnlfaaGreatDoor
