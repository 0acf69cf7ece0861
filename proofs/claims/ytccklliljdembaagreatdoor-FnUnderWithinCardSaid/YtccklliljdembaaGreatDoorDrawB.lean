/- Part of this seat's proofs, cut to what its law needs. -/

import Derived.Test.YtccklliljdembaaGreatDoorDrawE
namespace Go.Proofs.YtccklliljdembaaGreatDoor
set_option linter.unusedSimpArgs false
set_option linter.unusedVariables false
open Go.RowKit
set_option maxHeartbeats 1000000
set_option maxRecDepth 100000

variable {D D' D'' : Nat → Prop} {g q q' : Nat} {w w' : World}

theorem DrawKeepsUnder_t (v : Value) (l : List UInt8) (w : World) (hv : BytesV w v l) (hl : l.length ≤ 1048576) :
    Calls Tryz.prog 15 #[v] w (Drew 9000 w SaaT) := by
  obtain ⟨wo, hwo⟩ : ∃ wo, wo = ((w.alloc (.cells #[.int .i64 0, .int .i64 0, .slice none 0 0] 31)).alloc (.cells #[.int .i64 0, .slice none 0 0, .slice none 0 0] 26)).alloc (.cells #[.int .i64 0, .slice none 0 0, .slice none 0 0] 26) := ⟨_, rfl⟩
  have he : Ext w wo := by rw [hwo]; exact ((Ext.alloc _ _).trans (Ext.alloc _ _)).trans (Ext.alloc _ _)
  have b0 : Blk wo w.heap.size #[.int .i64 0, .int .i64 0, .slice none 0 0] 31 := by rw [hwo]; exact Ext.blk ((Ext.alloc _ _).trans (Ext.alloc _ _))
  have b1 : Blk wo (w.heap.size + 1) #[.int .i64 0, .slice none 0 0, .slice none 0 0] 26 := by rw [hwo]; exact Ext.blk1 (Ext.alloc _ _)
  have b2 : Blk wo (w.heap.size + 1 + 1) #[.int .i64 0, .slice none 0 0, .slice none 0 0] 26 := by rw [hwo]; exact Ext.blk2 (Ext.refl _)
  have hso : wo.heap.size = w.heap.size + 3 := by rw [hwo]; simp
  go_enter Tryz.func15, Tryz.ntmps15
  go_wp2_with fail
  rw [← hwo]
  clear hwo
  refine (DrawViolationUnder_t v l wo (hv.mono (fun b o x _ h => he.cell h) he.size) hl).mono ?_
  rintro e w4 ⟨r, D4, rfl, he4, hd4, hT4, hR⟩
  have hR' := hR
  obtain ⟨s, a, p, rfl, hS, hA, hP⟩ := hR
  obtain ⟨al1, st1, n1, a1, c1, rfl, hn1, hE1⟩ := hS.boxed
  obtain ⟨al2, n2, m2, aN, cN, aA, cA, rfl, hn2, hm2, hN2, hA2⟩ := hA.boxed
  obtain ⟨al3, n3, m3, aN3, cN3, aA3, cA3, rfl, hn3, hm3, hN3, hA3⟩ := hP.boxed
  have b0 := b0.ext he4
  have b1 := b1.ext he4
  have b2 := b2.ext he4
  have pc0 := b0.cell 0 rfl; have pf0 := b0.fr 0; have pc1 := b0.cell 1 rfl; have pf1 := b0.fr 1; have pc2 := b0.cell 2 rfl; have pf2 := b0.fr 2
  have qc0 := b1.cell 0 rfl; have qf0 := b1.fr 0; have qc1 := b1.cell 1 rfl; have qf1 := b1.fr 1; have qc2 := b1.cell 2 rfl; have qf2 := b1.fr 2
  have rc0 := b2.cell 0 rfl; have rf0 := b2.fr 0; have rc1 := b2.cell 1 rfl; have rf1 := b2.fr 1; have rc2 := b2.cell 2 rfl; have rf2 := b2.fr 2
  go_wp2_with fail
  have y4 : Tnd (fun b => w.heap.size ≤ b ∧ b < w.heap.size + 3) w4 _ := ((Tnd.set3 (b := w.heap.size) (by omega) (.int .i64 al1) (.int .i64 st1) (.slice a1 n1 c1)).trans (Tnd.set3 (b := w.heap.size + 1) (by omega) (.int .i64 al2) (.slice aN n2 cN) (.slice aA m2 cA))).trans (Tnd.set3 (b := w.heap.size + 1 + 1) (by omega) (.int .i64 al3) (.slice aN3 n3 cN3) (.slice aA3 m3 cA3))
  refine bodyPost_ret (v := .tuple #[.agg #[.int .i64 al1, .int .i64 st1, .slice a1 n1 c1], .agg #[.int .i64 al2, .slice aN n2 cN, .slice aA m2 cA], .agg #[.int .i64 al3, .slice aN3 n3 cN3, .slice aA3 m3 cA3]]) (by simp [results, Tryz.results15, go_sem, pc0, pc1, pc2, qc0, qc1, qc2, rc0, rc1, rc2, pf0, pf1, pf2, qf0, qf1, qf2, rf0, rf1, rf2]) rfl ?_
  exact Drew.mk' (fun w' hw' => hR'.tr (fun _ h => h) hw' (by omega)) (he.trans he4) (fun b hb => by have := hd4 b hb; omega) hT4 y4

end Go.Proofs.YtccklliljdembaaGreatDoor
