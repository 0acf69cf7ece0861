/- Draws of the checks' arguments out of bytes, on: of KeepsUnder and PartsKeep; typed systems read as lists. -/
import Derived.Test.YthpiihblmekijaaGreatDoorDrawE
namespace Go.Proofs.YthpiihblmekijaaGreatDoor
set_option linter.unusedSimpArgs false
set_option linter.unusedVariables false
open Go.RowKit
set_option maxHeartbeats 1000000
set_option maxRecDepth 100000

variable {D D' D'' : Nat → Prop} {g q q' : Nat} {w w' : World}

theorem DrawKeepsUnder_t (v : Value) (l : List UInt8) (w : World) (hv : BytesV w v l) (hl : l.length ≤ 1048576) :
    Calls Tryz.prog 16 #[v] w (Drew 9000 w SaaT) := by
  obtain ⟨wo, hwo⟩ : ∃ wo, wo = ((w.alloc (.cells #[.int .i64 0, .int .i64 0, .slice none 0 0] 25)).alloc (.cells #[.int .i64 0, .slice none 0 0, .slice none 0 0] 29)).alloc (.cells #[.int .i64 0, .slice none 0 0, .slice none 0 0] 29) := ⟨_, rfl⟩
  have he : Ext w wo := by rw [hwo]; exact ((Ext.alloc _ _).trans (Ext.alloc _ _)).trans (Ext.alloc _ _)
  have b0 : Blk wo w.heap.size #[.int .i64 0, .int .i64 0, .slice none 0 0] 25 := by rw [hwo]; exact Ext.blk ((Ext.alloc _ _).trans (Ext.alloc _ _))
  have b1 : Blk wo (w.heap.size + 1) #[.int .i64 0, .slice none 0 0, .slice none 0 0] 29 := by rw [hwo]; exact Ext.blk1 (Ext.alloc _ _)
  have b2 : Blk wo (w.heap.size + 1 + 1) #[.int .i64 0, .slice none 0 0, .slice none 0 0] 29 := by rw [hwo]; exact Ext.blk2 (Ext.refl _)
  have hso : wo.heap.size = w.heap.size + 3 := by rw [hwo]; simp
  go_enter Tryz.func16, Tryz.ntmps16
  go_wp2_with fail
  rw [← hwo]
  clear hwo
  refine (DrawViolationUnder_t v l wo (hv.mono (fun b o x _ h => he.cell h) he.size) hl).mono ?_
  rintro e w4 ⟨r, D4, rfl, he4, hd4, hT4, hR⟩
  have hR' := hR
  obtain ⟨s, a, p, rfl, hS, hA, hP⟩ := hR
  obtain ⟨al1, st1, n1, a1, c1, rfl, hn1, hE1⟩ := hS.boxed
  obtain ⟨al2, n2, m2, aN, cN, aA, cA, rfl, hn2, hm2, hN2, hA2⟩ := hA.boxed
  obtain ⟨al3, n3, m3, aN3, cN3, aA3, cA3, rfl, hn3, hm3, hN3, hA3⟩ := hP.boxed
  have b0 := b0.ext he4
  have b1 := b1.ext he4
  have b2 := b2.ext he4
  have pc0 := b0.cell 0 rfl; have pf0 := b0.fr 0; have pc1 := b0.cell 1 rfl; have pf1 := b0.fr 1; have pc2 := b0.cell 2 rfl; have pf2 := b0.fr 2
  have qc0 := b1.cell 0 rfl; have qf0 := b1.fr 0; have qc1 := b1.cell 1 rfl; have qf1 := b1.fr 1; have qc2 := b1.cell 2 rfl; have qf2 := b1.fr 2
  have rc0 := b2.cell 0 rfl; have rf0 := b2.fr 0; have rc1 := b2.cell 1 rfl; have rf1 := b2.fr 1; have rc2 := b2.cell 2 rfl; have rf2 := b2.fr 2
  go_wp2_with fail
  have y4 : Tnd (fun b => w.heap.size ≤ b ∧ b < w.heap.size + 3) w4 _ := ((Tnd.set3 (b := w.heap.size) (by omega) (.int .i64 al1) (.int .i64 st1) (.slice a1 n1 c1)).trans (Tnd.set3 (b := w.heap.size + 1) (by omega) (.int .i64 al2) (.slice aN n2 cN) (.slice aA m2 cA))).trans (Tnd.set3 (b := w.heap.size + 1 + 1) (by omega) (.int .i64 al3) (.slice aN3 n3 cN3) (.slice aA3 m3 cA3))
  refine bodyPost_ret (v := .tuple #[.agg #[.int .i64 al1, .int .i64 st1, .slice a1 n1 c1], .agg #[.int .i64 al2, .slice aN n2 cN, .slice aA m2 cA], .agg #[.int .i64 al3, .slice aN3 n3 cN3, .slice aA3 m3 cA3]]) (by simp [results, Tryz.results16, go_sem, pc0, pc1, pc2, qc0, qc1, qc2, rc0, rc1, rc2, pf0, pf1, pf2, qf0, qf1, qf2, rf0, rf1, rf2]) rfl ?_
  exact Drew.mk' (fun w' hw' => hR'.tr (fun _ h => h) hw' (by omega)) (he.trans he4) (fun b hb => by have := hd4 b hb; omega) hT4 y4

theorem DrawPartsKeep_t (v : Value) (l : List UInt8) (w : World) (hv : BytesV w v l) (hl : l.length ≤ 1048576) :
    Calls Tryz.prog 24 #[v] w (Drew 45000 w PartsT) := by
  obtain ⟨wo, hwo⟩ : ∃ wo, wo = w.alloc (.cells #[.int .i64 0, .slice none 0 0, .slice none 0 0] 29) := ⟨_, rfl⟩
  have he : Ext w wo := by rw [hwo]; exact Ext.alloc _ _
  have b0 : Blk wo w.heap.size #[.int .i64 0, .slice none 0 0, .slice none 0 0] 29 := by rw [hwo]; exact Blk.new _ _ _
  have hso : wo.heap.size = w.heap.size + 1 := by rw [hwo]; simp
  go_enter Tryz.func24, Tryz.ntmps24
  go_wp2_with fail
  rw [← hwo]
  clear hwo
  refine (l19Open_t v l wo (hv.mono (fun b o x _ h => he.cell h) he.size) hl).mono ?_
  rintro e w1 ⟨g, rfl, hgb, he1, hs1⟩
  have b0 := b0.ext he1
  go_wp2_with fail
  refine (l8Parts_t hs1 (by omega)).mono ?_
  rintro e w2 ⟨r, D2, rfl, hi2, hs2, ht2, hR⟩
  have hR' := hR
  obtain ⟨s, p, rfl, ⟨nL, hnL, hL⟩, hP⟩ := hR
  obtain ⟨aL, cL, rfl⟩ := hL.shape
  obtain ⟨al2, n2, m2, aN, cN, aA, cA, rfl, hn2, hm2, hN, hA⟩ := hP.boxed
  have b0 := b0.tr ht2 (fun h => h) (by omega)
  have pc0 := b0.cell 0 rfl; have pf0 := b0.fr 0; have pc1 := b0.cell 1 rfl; have pf1 := b0.fr 1; have pc2 := b0.cell 2 rfl; have pf2 := b0.fr 2
  go_wp2_with fail
  have y4 : Tnd (fun b => w.heap.size ≤ b ∧ b < w.heap.size + 1) w2 _ := Tnd.set3 (b := w.heap.size) (by omega) (.int .i64 al2) (.slice aN n2 cN) (.slice aA m2 cA)
  refine bodyPost_ret (v := .tuple #[.slice aL nL cL, .agg #[.int .i64 al2, .slice aN n2 cN, .slice aA m2 cA]]) (by simp [results, Tryz.results24, go_sem, pc0, pc1, pc2, pf0, pf1, pf2]) rfl ?_
  refine Drew.mk' (fun w' hw' => hR'.tr (fun _ h => h) hw' (by omega)) ?_ (fun b hb => by have := (hs2.dom b hb).1; omega) hs2.typ y4
  exact Below.trans (he.trans he1) (ht2.tnd.below (lo := w.heap.size) (by have := he.size; have := he1.size; omega) (fun b hb => by rcases hb with hb | hb; exact hb.elim; omega))

/-- A typed slice of systems reads as some systems. -/
theorem SlOk.syssT {n : Nat} {v : Value} (hs : SlOk D w 25 3 v n) (hT : Typed D q w) : ∃ l : List Sys, l.length = n ∧ SyssV w v l ∧ ∀ s ∈ l, s.edges.length ≤ q := by
  rcases hs with ⟨rfl, rfl⟩ | ⟨b, cap, cs, rfl, hb, hh, h1, h2, h3⟩
  · exact ⟨[], rfl, ⟨none, 0, rfl, by simp, by simp, fun h => by simp at h⟩, fun s hs => by cases hs⟩
  · obtain ⟨l, h4, h5⟩ := exists_list n (fun i (x : Sys) => SysAt w b (0 + i * 3) x ∧ x.edges.length ≤ q) fun i hi => by
      have hs : SlOk D w 25 3 (.slice (some ⟨b, 0, none⟩) n cap) n := .inr ⟨b, cap, cs, rfl, hb, hh, h1, h2, h3⟩
      obtain ⟨b0, cap0, cs0, u0, k0, hv0, -, -, g0, -, hk0, hc0⟩ := hs.at hT hi (j := 0) (by omega)
      cases hv0
      obtain ⟨b1, cap1, cs1, u1, k1, hv1, -, -, g1, -, hk1, hc1⟩ := hs.at hT hi (j := 1) (by omega)
      cases hv1
      obtain ⟨b2, cap2, cs2, u2, k2, hv2, -, -, g2, -, hk2, hc2⟩ := hs.at hT hi (j := 2) (by omega)
      cases hv2
      rw [show ck 25 (i * 3 + 0) = some .int from per_sys i 0] at hk0
      rw [show ck 25 (i * 3 + 1) = some .int from per_sys i 1] at hk1
      rw [show ck 25 (i * 3 + 2) = some (.sl 62 3) from per_sys i 2] at hk2
      cases hk0; cases hk1; cases hk2
      obtain ⟨al, rfl⟩ := hc0
      obtain ⟨st, rfl⟩ := hc1
      obtain ⟨n1, hn1, hE1⟩ := hc2
      obtain ⟨es, rfl, he⟩ := hE1.edges hT
      exact ⟨⟨al, st, es⟩, by rw [Nat.zero_add]; exact ⟨_, by simpa using g0, g1, g2, he⟩, hn1⟩
    subst h4
    refine ⟨l, rfl, ⟨_, cap, rfl, h1, h2, fun _ => ⟨b, 0, rfl, (Array.getElem?_eq_some_iff.1 hh).1, fun i x hx => (h5 i x hx).1⟩⟩, fun s hs => ?_⟩
    obtain ⟨i, hi⟩ := List.getElem?_of_mem hs
    exact (h5 i s hi).2
end Go.Proofs.YthpiihblmekijaaGreatDoor
