/- Part of this seat's proofs, cut to what its law needs. -/

import Derived.Test.YtccklliljdembaaGreatDoorDrawS
import Derived.Deep.RegionHeld3
import Derived.Deep.CutBlock
import Derived.Deep.DeepCutAuto
namespace Go.Proofs.YtccklliljdembaaGreatDoor
set_option linter.unusedSimpArgs false
set_option linter.unusedVariables false
open Go.RowKit
set_option maxHeartbeats 1000000
set_option maxRecDepth 100000
attribute [local go_sem ↓] Go.wp_at_zero Go.wp_at_succ

variable {D D' D'' : Nat → Prop} {g q q' : Nat} {w w' : World}

theorem TwoT.tr {v : Value} (h : TwoT D q w v) (hi : ∀ b, D b → D' b) (hs : Shp D w w') (hq : q ≤ q') : TwoT D' q' w' v := by
  obtain ⟨s, p, rfl, h1, h2⟩ := h
  exact ⟨s, p, rfl, h1.tr hi hs hq, h2.tr hi hs hq⟩
def SaaT (D : Nat → Prop) (q : Nat) (w : World) (v : Value) : Prop := ∃ s a p, v = .tuple #[s, a, p] ∧ SysT D q w s ∧ AutoT D q w a ∧ AutoT D q w p
theorem SaaT.tr {v : Value} (h : SaaT D q w v) (hi : ∀ b, D b → D' b) (hs : Shp D w w') (hq : q ≤ q') : SaaT D' q' w' v := by
  obtain ⟨s, a, p, rfl, h1, h2, h3⟩ := h
  exact ⟨s, a, p, rfl, h1.tr hi hs hq, h2.tr hi hs hq, h3.tr hi hs hq⟩

theorem Drew.mk' {Q k : Nat} {v : Value} {w4 w5 : World} {Φ : (Nat → Prop) → Nat → World → Value → Prop} (hΦ : ∀ w', Shp D w4 w' → Φ D Q w' v) (he : Below w.heap.size w w4) (hD : ∀ b, D b → w.heap.size + k ≤ b) (hT : Typed D Q w4)
    (ht : Tnd (fun b => w.heap.size ≤ b ∧ b < w.heap.size + k) w4 w5) : Drew Q w Φ (.returned v) w5 :=
  ⟨v, D, rfl, he.trans (ht.below he.size fun b hb => hb.1), fun b hb => by have := hD b hb; omega, hT.tnd ht (fun b hb hd => by have := hD b hd; omega),
    hΦ _ (Shp.tnd ht fun b hb hs => by have := hD b hb; omega)⟩
theorem Blk.other3 {b b' : Nat} {cs : Array Value} {t : TypeId} (h : Blk w b cs t) (hn : b ≠ b') (u v x : Value) : Blk (((w.setCell ⟨b', 0, none⟩ u).setCell ⟨b', 1, none⟩ v).setCell ⟨b', 2, none⟩ x) b cs t :=
  ((h.other (p := ⟨b', 0, none⟩) hn u).other (p := ⟨b', 1, none⟩) hn v).other (p := ⟨b', 2, none⟩) hn x
theorem Blk.set3 {b : Nat} {p r s : Value} {t : TypeId} (h : Blk w b #[p, r, s] t) (u v x : Value) : Blk (((w.setCell ⟨b, 0, none⟩ u).setCell ⟨b, 1, none⟩ v).setCell ⟨b, 2, none⟩ x) b #[u, v, x] t :=
  ((h.set 0 u).set 1 v).set 2 x

def VUx (g : Nat) (w1 : World) (z G6 G7 G8 c : Nat) (al1 st1 : Int) (n1 : Nat) (a1 : Option Addr) (c1 : Nat) (al2 : Int) (n2 m2 : Nat) (aN : Option Addr) (cN : Nat) (aA : Option Addr) (cA : Nat) (wc : World) : Prop :=
  ∃ (D' : Nat → Prop) (al3 : Int) (n3 m3 : Nat) (aN3 : Option Addr) (cN3 : Nat) (aA3 : Option Addr) (cA3 : Nat),
    Box (fun _ => False) g 2000 w1 G6 c #[.int .i64 al1, .int .i64 st1, .slice a1 n1 c1] 31 wc D' ∧ Box (fun _ => False) g 2000 w1 G7 c #[.int .i64 al2, .slice aN n2 cN, .slice aA m2 cA] 26 wc D' ∧
    Box (fun _ => False) g 2000 w1 G8 c #[.int .i64 al3, .slice aN3 n3 cN3, .slice aA3 m3 cA3] 26 wc D' ∧
    SlOk D' wc 126 3 (.slice a1 n1 c1) n1 ∧ SlOk D' wc 78 1 (.slice aN n2 cN) n2 ∧ SlOk D' wc 4 1 (.slice aA m2 cA) m2 ∧
    SlOk D' wc 78 1 (.slice aN3 n3 cN3) n3 ∧ SlOk D' wc 4 1 (.slice aA3 m3 cA3) m3 ∧ n3 ≤ 2000 + c ∧ m3 ≤ 2000 + c ∧
    Blk wc z #[.int .i64 0, .int .i64 0, .slice none 0 0] 31 ∧ Blk wc (z + 1) #[.int .i64 0, .slice none 0 0, .slice none 0 0] 26 ∧ Blk wc (z + 1 + 1) #[.int .i64 0, .slice none 0 0, .slice none 0 0] 26
theorem nine_of' {G5 G6 G7 : Nat} {x1 x2 x3 y1 y2 y3 z1 z2 z3 : Value} {t1 t2 t3 : TypeId} (h5 : Blk w G5 #[x1, x2, x3] t1) (h6 : Blk w G6 #[y1, y2, y3] t2) (h7 : Blk w G7 #[z1, z2, z3] t3) :
    w.cell? ⟨G5, 0, none⟩ = some x1 ∧ w.cell? ⟨G5, 1, none⟩ = some x2 ∧ w.cell? ⟨G5, 2, none⟩ = some x3 ∧ w.cell? ⟨G6, 0, none⟩ = some y1 ∧ w.cell? ⟨G6, 1, none⟩ = some y2 ∧ w.cell? ⟨G6, 2, none⟩ = some y3 ∧ w.cell? ⟨G7, 0, none⟩ = some z1 ∧ w.cell? ⟨G7, 1, none⟩ = some z2 ∧ w.cell? ⟨G7, 2, none⟩ = some z3 :=
  ⟨h5.cell 0 rfl, h5.cell 1 rfl, h5.cell 2 rfl, h6.cell 0 rfl, h6.cell 1 rfl, h6.cell 2 rfl, h7.cell 0 rfl, h7.cell 1 rfl, h7.cell 2 rfl⟩

theorem DrawViolationUnder_t (v : Value) (l : List UInt8) (w : World) (hv : BytesV w v l) (hl : l.length ≤ 1048576) :
    Calls Tryz.prog 43 #[v] w (Drew 9000 w SaaT) := by
  obtain ⟨wo, hwo⟩ : ∃ wo, wo = ((w.alloc (.cells #[.int .i64 0, .int .i64 0, .slice none 0 0] 31)).alloc (.cells #[.int .i64 0, .slice none 0 0, .slice none 0 0] 26)).alloc (.cells #[.int .i64 0, .slice none 0 0, .slice none 0 0] 26) := ⟨_, rfl⟩
  have he : Ext w wo := by rw [hwo]; exact ((Ext.alloc _ _).trans (Ext.alloc _ _)).trans (Ext.alloc _ _)
  have b0 : Blk wo w.heap.size #[.int .i64 0, .int .i64 0, .slice none 0 0] 31 := by rw [hwo]; exact Ext.blk ((Ext.alloc _ _).trans (Ext.alloc _ _))
  have b1 : Blk wo (w.heap.size + 1) #[.int .i64 0, .slice none 0 0, .slice none 0 0] 26 := by rw [hwo]; exact Ext.blk1 (Ext.alloc _ _)
  have b2 : Blk wo (w.heap.size + 1 + 1) #[.int .i64 0, .slice none 0 0, .slice none 0 0] 26 := by rw [hwo]; exact Ext.blk2 (Ext.refl _)
  have hso : wo.heap.size = w.heap.size + 3 := by rw [hwo]; simp
  go_enter Tryz.func43, Tryz.ntmps43
  go_wp2_with fail
  rw [← hwo]
  clear hwo
  refine (l19Open_t v l wo (hv.mono (fun b o x _ h => he.cell h) he.size) hl).mono ?_
  rintro e w1 ⟨g, rfl, hgb, he1, hs1⟩
  have b0 := b0.ext he1
  have b1 := b1.ext he1
  have b2 := b2.ext he1
  have hw1 : w.heap.size + 3 ≤ w1.heap.size := by have := he1.size; omega
  have hb1 : Ext w w1 := he.trans he1
  clear he he1 hv
  have N0 := Bare.new hs1
  have hd : ∀ x, (fun _ => False : Nat → Prop) x → x < w1.heap.size := fun x hx => hx.elim
  go_wp2_with fail
  refine (l8Draw_t hs1 (by omega)).mono ?_
  rintro e w2 ⟨r, D2, rfl, hi2, hs2, ht2, hR⟩
  obtain ⟨s, p, rfl, hS, hP⟩ := hR
  obtain ⟨al1, st1, n1, a1, c1, rfl, hn1, hE1⟩ := hS.boxed
  obtain ⟨al2, n2, m2, aN, cN, aA, cA, rfl, hn2, hm2, hN, hA⟩ := hP.boxed
  have hw2 := ht2.size
  have b0 := b0.tr ht2 (fun h => h) (by omega)
  have b1 := b1.tr ht2 (fun h => h) (by omega)
  have b2 := b2.tr ht2 (fun h => h) (by omega)
  have N2 := N0.drawn (c' := 5400) hi2 ht2 hs2
  clear N0 hi2 ht2 hs2
  go_wp2_with fail
  have B6 := N2.box #[.int .i64 al1, .int .i64 st1, .slice a1 n1 c1] 31
  have B7 := B6.bare.box #[.int .i64 al2, .slice aN n2 cN, .slice aA m2 cA] 26
  rw [World.size_alloc] at B7
  have hx3 : Ext w2 ((w2.alloc (.cells #[.int .i64 al1, .int .i64 st1, .slice a1 n1 c1] 31)).alloc (.cells #[.int .i64 al2, .slice aN n2 cN, .slice aA m2 cA] 26)) := (Ext.alloc _ _).trans (Ext.alloc _ _)
  have B6 := B6.ext (Ext.alloc _ (.cells #[.int .i64 al2, .slice aN n2 cN, .slice aA m2 cA] 26))
  have hE1 := hE1.tr' (Inc.refl _ _) (Tr.ext N2.st hx3)
  have hN := hN.tr' (Inc.refl _ _) (Tr.ext N2.st hx3)
  have hA := hA.tr' (Inc.refl _ _) (Tr.ext N2.st hx3)
  have b0 := b0.ext hx3; have b1 := b1.ext hx3; have b2 := b2.ext hx3
  have hb3 : w2.heap.size + 1 + 1 = ((w2.alloc (.cells #[.int .i64 al1, .int .i64 st1, .slice a1 n1 c1] 31)).alloc (.cells #[.int .i64 al2, .slice aN n2 cN, .slice aA m2 cA] 26)).heap.size := by simp
  have hgG : g < w2.heap.size := N2.st.g_lt
  clear hx3 N2 hS hP
  generalize ((w2.alloc (.cells #[.int .i64 al1, .int .i64 st1, .slice a1 n1 c1] 31)).alloc (.cells #[.int .i64 al2, .slice aN n2 cN, .slice aA m2 cA] 26)) = w3 at B6 B7 hE1 hN hA b0 b1 b2 hb3 ⊢
  generalize w2.heap.size = G6 at B6 B7 hb3 hgG hw2 ⊢
  obtain ⟨G7, hG7, hG76⟩ : ∃ G7, G7 = G6 + 1 ∧ G6 < G7 := ⟨_, rfl, by omega⟩
  rw [← hG7] at B7 hb3 ⊢
  clear hG7
  refine (num_t [3, 6, 1, 5, 7, 2, 0] hb3 B6.st (by omega) (by decide) (by decide)).mono ?_
  rintro e w4 ⟨x, -, rfl, hs4, hk4⟩
  have hw4 := hk4.size
  have b0 := b0.kept hk4 (by omega); have b1 := b1.kept hk4 (by omega); have b2 := b2.kept hk4 (by omega)
  have hE1 := hE1.tr' (Inc.refl _ _) (Tr.kept B6.st hk4)
  have hN := hN.tr' (Inc.refl _ _) (Tr.kept B6.st hk4)
  have hA := hA.tr' (Inc.refl _ _) (Tr.kept B6.st hk4)
  have B6 := B6.kept (by omega) hk4 (c' := 5401) (hs4.up (by omega))
  have B7 := B7.kept (by omega) hk4 (c' := 5401) (hs4.up (by omega))
  clear hs4 hk4
  go_wp2_with fail
  refine (l3Over_t _ B6.st (by omega)).mono ?_
  rintro e w5 ⟨v5, D5, rfl, hi5, hs5, ht5, hS5⟩
  obtain ⟨al3, n3, m3, aN3, cN3, aA3, cA3, rfl, hn3, hm3, hN3, hA3⟩ := hS5.boxed
  have hw5 := ht5.size
  have b0 := b0.tr ht5 (fun h => by have := (B6.st.dom _ h).1; omega) (by omega); have b1 := b1.tr ht5 (fun h => by have := (B6.st.dom _ h).1; omega) (by omega); have b2 := b2.tr ht5 (fun h => by have := (B6.st.dom _ h).1; omega) (by omega)
  have hE1 := hE1.tr' hi5 ht5
  have hN := hN.tr' hi5 ht5
  have hA := hA.tr' hi5 ht5
  have B6 := B6.drawn (by omega) hi5 ht5 (c' := 5751) (hs5.up (by omega))
  have B7 := B7.drawn (by omega) hi5 ht5 (c' := 5751) (hs5.up (by omega))
  clear hs5 ht5 hi5 hS5
  have B8 := B6.bare.box #[.int .i64 al3, .slice aN3 n3 cN3, .slice aA3 m3 cA3] 26
  have hx8 := Ext.alloc w5 (.cells #[.int .i64 al3, .slice aN3 n3 cN3, .slice aA3 m3 cA3] 26)
  have b0 := b0.ext hx8; have b1 := b1.ext hx8; have b2 := b2.ext hx8
  have hE1 := hE1.tr' (Inc.refl _ _) (Tr.ext B6.st hx8)
  have hN := hN.tr' (Inc.refl _ _) (Tr.ext B6.st hx8)
  have hA := hA.tr' (Inc.refl _ _) (Tr.ext B6.st hx8)
  have hN3 := hN3.tr' (Inc.refl _ _) (Tr.ext B6.st hx8)
  have hA3 := hA3.tr' (Inc.refl _ _) (Tr.ext B6.st hx8)
  have B6 := B6.ext hx8
  have B7 := B7.ext hx8
  go_wp2_with fail
  clear hx8
  generalize w5.alloc (.cells #[.int .i64 al3, .slice aN3 n3 cN3, .slice aA3 m3 cA3] 26) = w6 at B6 B7 B8 hE1 hN hA hN3 hA3 b0 b1 b2 ⊢
  have hG8 : G7 < w5.heap.size := by omega
  generalize w5.heap.size = G8 at B8 hG8 ⊢
  refine (pick_t 3 B6.st (by omega) (by omega)).mono ?_
  rintro e w7 ⟨x, rfl, -, -, hs7, hk7⟩
  have b0 := b0.kept hk7 (by omega); have b1 := b1.kept hk7 (by omega); have b2 := b2.kept hk7 (by omega)
  have hE1 := hE1.tr' (Inc.refl _ _) (Tr.kept B6.st hk7)
  have hN := hN.tr' (Inc.refl _ _) (Tr.kept B6.st hk7)
  have hA := hA.tr' (Inc.refl _ _) (Tr.kept B6.st hk7)
  have hN3 := hN3.tr' (Inc.refl _ _) (Tr.kept B6.st hk7)
  have hA3 := hA3.tr' (Inc.refl _ _) (Tr.kept B6.st hk7)
  have B6 := B6.kept (by omega) hk7 (c' := 5752) (hs7.up (by omega))
  have B7 := B7.kept (by omega) hk7 (c' := 5752) (hs7.up (by omega))
  have B8 := B8.kept (by omega) hk7 (c' := 5752) (hs7.up (by omega))
  clear hs7 hk7 hw5 hw4
  go_upto_if 23 with fail
  go_cut [] (fun wc => VUx g w1 w.heap.size G6 G7 G8 6052 al1 st1 n1 a1 c1 al2 n2 m2 aN cN aA cA wc)
  case first =>
    by_cases hx : x = 0
    · subst hx
      go_wp2_with fail
      refine (l3Safe_t 2 2 (by omega) (by omega) B6.st (by omega)).mono ?_
      rintro e w8 ⟨v8, D8, rfl, hi8, hs8, ht8, vN4, vA4, rfl, hN4, hA4⟩
      obtain ⟨aN4, cN4, rfl⟩ := hN4.shape
      obtain ⟨aA4, cA4, rfl⟩ := hA4.shape
      have b0 := b0.tr ht8 (fun h => by have := (B6.st.dom _ h).1; omega) (by omega); have b1 := b1.tr ht8 (fun h => by have := (B6.st.dom _ h).1; omega) (by omega); have b2 := b2.tr ht8 (fun h => by have := (B6.st.dom _ h).1; omega) (by omega)
      have hE1 := hE1.tr' hi8 ht8
      have hN := hN.tr' hi8 ht8
      have hA := hA.tr' hi8 ht8
      have B6 := B6.drawn (by omega) hi8 ht8 (c' := 6052) (hs8.up (by omega))
      have B7 := B7.drawn (by omega) hi8 ht8 (c' := 6052) (hs8.up (by omega))
      have B8 := B8.drawn (by omega) hi8 ht8 (c' := 6052) (hs8.up (by omega))
      clear hs8 ht8 hi8
      have gc0 := B8.blk.cell 0 rfl; have gf0 := B8.blk.fr 0; have gc1 := B8.blk.cell 1 rfl; have gf1 := B8.blk.fr 1; have gc2 := B8.blk.cell 2 rfl; have gf2 := B8.blk.fr 2
      go_wp2_with fail
      have o := B8.out
      go_meet
      case rel => exact ⟨_, _, _, _, _, _, _, _, B6.other3 (by omega) hd (by omega) (by omega) o _ _ _, B7.other3 (by omega) hd (by omega) (by omega) o _ _ _, B8.set3 (by omega) hd (by omega) _ _ _, hE1.box3 o _ _ _, hN.box3 o _ _ _, hA.box3 o _ _ _, hN4.box3 o _ _ _, hA4.box3 o _ _ _, by omega, by omega, b0.other3 (by omega) _ _ _, b1.other3 (by omega) _ _ _, b2.other3 (by omega) _ _ _⟩
    · have hx' : ((x : Int) == 0) = false := beq_eq_false_iff_ne.2 (by omega)
      go_wp2_with fail
      go_meet
      case rel => exact ⟨_, _, _, _, _, _, _, _, B6.up (by omega), B7.up (by omega), B8.up (by omega), hE1, hN, hA, hN3, hA3, by omega, by omega, b0, b1, b2⟩
  case rest =>
  clear B6 B7 B8 hE1 hN hA hN3 hA3 b0 b1 b2
  obtain ⟨D9, al3, n3, m3, aN3, cN3, aA3, cA3, B6, B7, B8, hE1, hN, hA, hN3, hA3, hn3, hm3, b0, b1, b2⟩ := hcut
  go_wp2_with fail
  refine (pick_t 20 B6.st (by omega) (by omega)).mono ?_
  rintro e w9 ⟨x, rfl, -, -, hs9, hk9⟩
  have b0 := b0.kept hk9 (by omega); have b1 := b1.kept hk9 (by omega); have b2 := b2.kept hk9 (by omega)
  have hE1 := hE1.tr' (Inc.refl _ _) (Tr.kept B6.st hk9)
  have hN := hN.tr' (Inc.refl _ _) (Tr.kept B6.st hk9)
  have hA := hA.tr' (Inc.refl _ _) (Tr.kept B6.st hk9)
  have hN3 := hN3.tr' (Inc.refl _ _) (Tr.kept B6.st hk9)
  have hA3 := hA3.tr' (Inc.refl _ _) (Tr.kept B6.st hk9)
  have B6 := B6.kept (by omega) hk9 (c' := 6053) (hs9.up (by omega))
  have B7 := B7.kept (by omega) hk9 (c' := 6053) (hs9.up (by omega))
  have B8 := B8.kept (by omega) hk9 (c' := 6053) (hs9.up (by omega))
  clear hs9 hk9
  go_upto_if 28 with fail
  go_cut [] (fun wc => VUx g w1 w.heap.size G6 G7 G8 6203 al1 st1 n1 a1 c1 al2 n2 m2 aN cN aA cA wc)
  case first =>
    by_cases hx : x = 0
    · subst hx
      have gc0 := B8.blk.cell 0 rfl; have gf0 := B8.blk.fr 0; have gc1 := B8.blk.cell 1 rfl; have gf1 := B8.blk.fr 1; have gc2 := B8.blk.cell 2 rfl; have gf2 := B8.blk.fr 2
      go_wp2_with fail
      refine (l3Wrong_t _ ⟨_, _, _, n3, m3, rfl, by omega, by omega, hN3, hA3⟩ B6.st (by omega)).mono ?_
      rintro e u1 ⟨v1, D1, rfl, hi1, hs1, ht1, hS1⟩
      have b0 := b0.tr ht1 (fun h => by have := (B6.st.dom _ h).1; omega) (by omega); have b1 := b1.tr ht1 (fun h => by have := (B6.st.dom _ h).1; omega) (by omega); have b2 := b2.tr ht1 (fun h => by have := (B6.st.dom _ h).1; omega) (by omega)
      have hE1 := hE1.tr' hi1 ht1
      have hN := hN.tr' hi1 ht1
      have hA := hA.tr' hi1 ht1
      have B6 := B6.drawn (by omega) hi1 ht1 (c' := 6103) (hs1.up (by omega))
      have B7 := B7.drawn (by omega) hi1 ht1 (c' := 6103) (hs1.up (by omega))
      have B8 := B8.drawn (by omega) hi1 ht1 (c' := 6103) (hs1.up (by omega))
      go_wp2_with fail
      refine (l3Wrong_t _ (hS1.tr (fun _ h => h) (Shp.refl _ _) (by omega)) B6.st (by omega)).mono ?_
      rintro e u2 ⟨v2, D2, rfl, hi2, hs2, ht2, hS2⟩
      have b0 := b0.tr ht2 (fun h => by have := (B6.st.dom _ h).1; omega) (by omega); have b1 := b1.tr ht2 (fun h => by have := (B6.st.dom _ h).1; omega) (by omega); have b2 := b2.tr ht2 (fun h => by have := (B6.st.dom _ h).1; omega) (by omega)
      have hE1 := hE1.tr' hi2 ht2
      have hN := hN.tr' hi2 ht2
      have hA := hA.tr' hi2 ht2
      have B6 := B6.drawn (by omega) hi2 ht2 (c' := 6153) (hs2.up (by omega))
      have B7 := B7.drawn (by omega) hi2 ht2 (c' := 6153) (hs2.up (by omega))
      have B8 := B8.drawn (by omega) hi2 ht2 (c' := 6153) (hs2.up (by omega))
      go_wp2_with fail
      refine (l3Wrong_t _ (hS2.tr (fun _ h => h) (Shp.refl _ _) (by omega)) B6.st (by omega)).mono ?_
      rintro e u3 ⟨v3, D3, rfl, hi3, hs3, ht3, hS3⟩
      have b0 := b0.tr ht3 (fun h => by have := (B6.st.dom _ h).1; omega) (by omega); have b1 := b1.tr ht3 (fun h => by have := (B6.st.dom _ h).1; omega) (by omega); have b2 := b2.tr ht3 (fun h => by have := (B6.st.dom _ h).1; omega) (by omega)
      have hE1 := hE1.tr' hi3 ht3
      have hN := hN.tr' hi3 ht3
      have hA := hA.tr' hi3 ht3
      have B6 := B6.drawn (by omega) hi3 ht3 (c' := 6203) (hs3.up (by omega))
      have B7 := B7.drawn (by omega) hi3 ht3 (c' := 6203) (hs3.up (by omega))
      have B8 := B8.drawn (by omega) hi3 ht3 (c' := 6203) (hs3.up (by omega))
      obtain ⟨al4, n4, m4, aN4, cN4, aA4, cA4, rfl, hn4, hm4, hN4, hA4⟩ := hS3.boxed
      clear gc0 gc1 gc2 gf0 gf1 gf2
      have gc0 := B8.blk.cell 0 rfl; have gf0 := B8.blk.fr 0; have gc1 := B8.blk.cell 1 rfl; have gf1 := B8.blk.fr 1; have gc2 := B8.blk.cell 2 rfl; have gf2 := B8.blk.fr 2
      go_wp2_with fail
      have o := B8.out
      go_meet
      case rel => exact ⟨_, _, _, _, _, _, _, _, B6.other3 (by omega) hd (by omega) (by omega) o _ _ _, B7.other3 (by omega) hd (by omega) (by omega) o _ _ _, B8.set3 (by omega) hd (by omega) _ _ _, hE1.box3 o _ _ _, hN.box3 o _ _ _, hA.box3 o _ _ _, hN4.box3 o _ _ _, hA4.box3 o _ _ _, by omega, by omega, b0.other3 (by omega) _ _ _, b1.other3 (by omega) _ _ _, b2.other3 (by omega) _ _ _⟩
    · have hx' : ((x : Int) == 0) = false := beq_eq_false_iff_ne.2 (by omega)
      go_wp2_with fail
      go_meet
      case rel => exact ⟨_, _, _, _, _, _, _, _, B6.up (by omega), B7.up (by omega), B8.up (by omega), hE1, hN, hA, hN3, hA3, by omega, by omega, b0, b1, b2⟩
  case rest =>
  clear B6 B7 B8 hE1 hN hA hN3 hA3 b0 b1 b2
  obtain ⟨D9, al3, n3, m3, aN3, cN3, aA3, cA3, B6, B7, B8, hE1, hN, hA, hN3, hA3, hn3, hm3, b0, b1, b2⟩ := hcut
  go_wp2_with fail
  have b6 := B6.blk
  have b7 := B7.blk
  have b8 := B8.blk
  have pc0 := b0.cell 0 rfl; have pf0 := b0.fr 0; have pc1 := b0.cell 1 rfl; have pf1 := b0.fr 1; have pc2 := b0.cell 2 rfl; have pf2 := b0.fr 2
  have qc0 := b1.cell 0 rfl; have qf0 := b1.fr 0; have qc1 := b1.cell 1 rfl; have qf1 := b1.fr 1; have qc2 := b1.cell 2 rfl; have qf2 := b1.fr 2
  have rc0 := b2.cell 0 rfl; have rf0 := b2.fr 0; have rc1 := b2.cell 1 rfl; have rf1 := b2.fr 1; have rc2 := b2.cell 2 rfl; have rf2 := b2.fr 2
  have hbn : Below w.heap.size w wc := Below.trans hb1 (B6.tr.tnd.below (lo := w.heap.size) (by omega) (fun b hb => by rcases hb with hb | hb; exact hb.elim; omega))
  have hX : SaaT D9 9000 wc (.tuple #[.agg #[.int .i64 al1, .int .i64 st1, .slice a1 n1 c1], .agg #[.int .i64 al3, .slice aN3 n3 cN3, .slice aA3 m3 cA3], .agg #[.int .i64 al2, .slice aN n2 cN, .slice aA m2 cA]]) :=
    ⟨_, _, _, rfl, ⟨_, _, _, n1, rfl, by omega, hE1⟩, ⟨_, _, _, _, _, rfl, by omega, by omega, hN3, hA3⟩, ⟨_, _, _, _, _, rfl, by omega, by omega, hN, hA⟩⟩
  have hsn : St D9 g 9000 wc := B6.st.up (by omega)
  clear B6 B7 B8 hE1 hN hA hN3 hA3
  have e00 : G6 ≠ w.heap.size := by omega
  have e01 : G6 ≠ w.heap.size + 1 := by omega
  have e02 : G6 ≠ w.heap.size + 1 + 1 := by omega
  have e10 : G8 ≠ w.heap.size := by omega
  have e11 : G8 ≠ w.heap.size + 1 := by omega
  have e12 : G8 ≠ w.heap.size + 1 + 1 := by omega
  have e20 : G7 ≠ w.heap.size := by omega
  have e21 : G7 ≠ w.heap.size + 1 := by omega
  have e22 : G7 ≠ w.heap.size + 1 + 1 := by omega
  have hst0 := Lib.hid (show World.cell? (World.drew wc) ⟨G6, 0, none⟩ = some (.int .i64 al1) ∧ World.cell? (World.drew wc) ⟨G6, 1, none⟩ = some (.int .i64 st1) ∧ World.cell? (World.drew wc) ⟨G6, 2, none⟩ = some (.slice a1 n1 c1) ∧ World.cell? (World.drew wc) ⟨G8, 0, none⟩ = some (.int .i64 al3) ∧ World.cell? (World.drew wc) ⟨G8, 1, none⟩ = some (.slice aN3 n3 cN3) ∧ World.cell? (World.drew wc) ⟨G8, 2, none⟩ = some (.slice aA3 m3 cA3) ∧ World.cell? (World.drew wc) ⟨G7, 0, none⟩ = some (.int .i64 al2) ∧ World.cell? (World.drew wc) ⟨G7, 1, none⟩ = some (.slice aN n2 cN) ∧ World.cell? (World.drew wc) ⟨G7, 2, none⟩ = some (.slice aA m2 cA) from nine_of' ((b6).ext (Ext.drew _)) ((b8).ext (Ext.drew _)) ((b7).ext (Ext.drew _)))
  have hst1 := Lib.hid (show World.cell? (World.drew (((wc.setCell ⟨w.heap.size, 0, none⟩ (.int .i64 al1)).setCell ⟨w.heap.size, 1, none⟩ (.int .i64 st1)).setCell ⟨w.heap.size, 2, none⟩ (.slice a1 n1 c1))) ⟨G6, 0, none⟩ = some (.int .i64 al1) ∧ World.cell? (World.drew (((wc.setCell ⟨w.heap.size, 0, none⟩ (.int .i64 al1)).setCell ⟨w.heap.size, 1, none⟩ (.int .i64 st1)).setCell ⟨w.heap.size, 2, none⟩ (.slice a1 n1 c1))) ⟨G6, 1, none⟩ = some (.int .i64 st1) ∧ World.cell? (World.drew (((wc.setCell ⟨w.heap.size, 0, none⟩ (.int .i64 al1)).setCell ⟨w.heap.size, 1, none⟩ (.int .i64 st1)).setCell ⟨w.heap.size, 2, none⟩ (.slice a1 n1 c1))) ⟨G6, 2, none⟩ = some (.slice a1 n1 c1) ∧ World.cell? (World.drew (((wc.setCell ⟨w.heap.size, 0, none⟩ (.int .i64 al1)).setCell ⟨w.heap.size, 1, none⟩ (.int .i64 st1)).setCell ⟨w.heap.size, 2, none⟩ (.slice a1 n1 c1))) ⟨G8, 0, none⟩ = some (.int .i64 al3) ∧ World.cell? (World.drew (((wc.setCell ⟨w.heap.size, 0, none⟩ (.int .i64 al1)).setCell ⟨w.heap.size, 1, none⟩ (.int .i64 st1)).setCell ⟨w.heap.size, 2, none⟩ (.slice a1 n1 c1))) ⟨G8, 1, none⟩ = some (.slice aN3 n3 cN3) ∧ World.cell? (World.drew (((wc.setCell ⟨w.heap.size, 0, none⟩ (.int .i64 al1)).setCell ⟨w.heap.size, 1, none⟩ (.int .i64 st1)).setCell ⟨w.heap.size, 2, none⟩ (.slice a1 n1 c1))) ⟨G8, 2, none⟩ = some (.slice aA3 m3 cA3) ∧ World.cell? (World.drew (((wc.setCell ⟨w.heap.size, 0, none⟩ (.int .i64 al1)).setCell ⟨w.heap.size, 1, none⟩ (.int .i64 st1)).setCell ⟨w.heap.size, 2, none⟩ (.slice a1 n1 c1))) ⟨G7, 0, none⟩ = some (.int .i64 al2) ∧ World.cell? (World.drew (((wc.setCell ⟨w.heap.size, 0, none⟩ (.int .i64 al1)).setCell ⟨w.heap.size, 1, none⟩ (.int .i64 st1)).setCell ⟨w.heap.size, 2, none⟩ (.slice a1 n1 c1))) ⟨G7, 1, none⟩ = some (.slice aN n2 cN) ∧ World.cell? (World.drew (((wc.setCell ⟨w.heap.size, 0, none⟩ (.int .i64 al1)).setCell ⟨w.heap.size, 1, none⟩ (.int .i64 st1)).setCell ⟨w.heap.size, 2, none⟩ (.slice a1 n1 c1))) ⟨G7, 2, none⟩ = some (.slice aA m2 cA) from nine_of' (((b6.other3 e00 (.int .i64 al1) (.int .i64 st1) (.slice a1 n1 c1))).ext (Ext.drew _)) (((b8.other3 e10 (.int .i64 al1) (.int .i64 st1) (.slice a1 n1 c1))).ext (Ext.drew _)) (((b7.other3 e20 (.int .i64 al1) (.int .i64 st1) (.slice a1 n1 c1))).ext (Ext.drew _)))
  have hst2 := Lib.hid (show World.cell? (World.drew ((((((wc.setCell ⟨w.heap.size, 0, none⟩ (.int .i64 al1)).setCell ⟨w.heap.size, 1, none⟩ (.int .i64 st1)).setCell ⟨w.heap.size, 2, none⟩ (.slice a1 n1 c1)).setCell ⟨w.heap.size + 1, 0, none⟩ (.int .i64 al3)).setCell ⟨w.heap.size + 1, 1, none⟩ (.slice aN3 n3 cN3)).setCell ⟨w.heap.size + 1, 2, none⟩ (.slice aA3 m3 cA3))) ⟨G6, 0, none⟩ = some (.int .i64 al1) ∧ World.cell? (World.drew ((((((wc.setCell ⟨w.heap.size, 0, none⟩ (.int .i64 al1)).setCell ⟨w.heap.size, 1, none⟩ (.int .i64 st1)).setCell ⟨w.heap.size, 2, none⟩ (.slice a1 n1 c1)).setCell ⟨w.heap.size + 1, 0, none⟩ (.int .i64 al3)).setCell ⟨w.heap.size + 1, 1, none⟩ (.slice aN3 n3 cN3)).setCell ⟨w.heap.size + 1, 2, none⟩ (.slice aA3 m3 cA3))) ⟨G6, 1, none⟩ = some (.int .i64 st1) ∧ World.cell? (World.drew ((((((wc.setCell ⟨w.heap.size, 0, none⟩ (.int .i64 al1)).setCell ⟨w.heap.size, 1, none⟩ (.int .i64 st1)).setCell ⟨w.heap.size, 2, none⟩ (.slice a1 n1 c1)).setCell ⟨w.heap.size + 1, 0, none⟩ (.int .i64 al3)).setCell ⟨w.heap.size + 1, 1, none⟩ (.slice aN3 n3 cN3)).setCell ⟨w.heap.size + 1, 2, none⟩ (.slice aA3 m3 cA3))) ⟨G6, 2, none⟩ = some (.slice a1 n1 c1) ∧ World.cell? (World.drew ((((((wc.setCell ⟨w.heap.size, 0, none⟩ (.int .i64 al1)).setCell ⟨w.heap.size, 1, none⟩ (.int .i64 st1)).setCell ⟨w.heap.size, 2, none⟩ (.slice a1 n1 c1)).setCell ⟨w.heap.size + 1, 0, none⟩ (.int .i64 al3)).setCell ⟨w.heap.size + 1, 1, none⟩ (.slice aN3 n3 cN3)).setCell ⟨w.heap.size + 1, 2, none⟩ (.slice aA3 m3 cA3))) ⟨G8, 0, none⟩ = some (.int .i64 al3) ∧ World.cell? (World.drew ((((((wc.setCell ⟨w.heap.size, 0, none⟩ (.int .i64 al1)).setCell ⟨w.heap.size, 1, none⟩ (.int .i64 st1)).setCell ⟨w.heap.size, 2, none⟩ (.slice a1 n1 c1)).setCell ⟨w.heap.size + 1, 0, none⟩ (.int .i64 al3)).setCell ⟨w.heap.size + 1, 1, none⟩ (.slice aN3 n3 cN3)).setCell ⟨w.heap.size + 1, 2, none⟩ (.slice aA3 m3 cA3))) ⟨G8, 1, none⟩ = some (.slice aN3 n3 cN3) ∧ World.cell? (World.drew ((((((wc.setCell ⟨w.heap.size, 0, none⟩ (.int .i64 al1)).setCell ⟨w.heap.size, 1, none⟩ (.int .i64 st1)).setCell ⟨w.heap.size, 2, none⟩ (.slice a1 n1 c1)).setCell ⟨w.heap.size + 1, 0, none⟩ (.int .i64 al3)).setCell ⟨w.heap.size + 1, 1, none⟩ (.slice aN3 n3 cN3)).setCell ⟨w.heap.size + 1, 2, none⟩ (.slice aA3 m3 cA3))) ⟨G8, 2, none⟩ = some (.slice aA3 m3 cA3) ∧ World.cell? (World.drew ((((((wc.setCell ⟨w.heap.size, 0, none⟩ (.int .i64 al1)).setCell ⟨w.heap.size, 1, none⟩ (.int .i64 st1)).setCell ⟨w.heap.size, 2, none⟩ (.slice a1 n1 c1)).setCell ⟨w.heap.size + 1, 0, none⟩ (.int .i64 al3)).setCell ⟨w.heap.size + 1, 1, none⟩ (.slice aN3 n3 cN3)).setCell ⟨w.heap.size + 1, 2, none⟩ (.slice aA3 m3 cA3))) ⟨G7, 0, none⟩ = some (.int .i64 al2) ∧ World.cell? (World.drew ((((((wc.setCell ⟨w.heap.size, 0, none⟩ (.int .i64 al1)).setCell ⟨w.heap.size, 1, none⟩ (.int .i64 st1)).setCell ⟨w.heap.size, 2, none⟩ (.slice a1 n1 c1)).setCell ⟨w.heap.size + 1, 0, none⟩ (.int .i64 al3)).setCell ⟨w.heap.size + 1, 1, none⟩ (.slice aN3 n3 cN3)).setCell ⟨w.heap.size + 1, 2, none⟩ (.slice aA3 m3 cA3))) ⟨G7, 1, none⟩ = some (.slice aN n2 cN) ∧ World.cell? (World.drew ((((((wc.setCell ⟨w.heap.size, 0, none⟩ (.int .i64 al1)).setCell ⟨w.heap.size, 1, none⟩ (.int .i64 st1)).setCell ⟨w.heap.size, 2, none⟩ (.slice a1 n1 c1)).setCell ⟨w.heap.size + 1, 0, none⟩ (.int .i64 al3)).setCell ⟨w.heap.size + 1, 1, none⟩ (.slice aN3 n3 cN3)).setCell ⟨w.heap.size + 1, 2, none⟩ (.slice aA3 m3 cA3))) ⟨G7, 2, none⟩ = some (.slice aA m2 cA) from nine_of' ((((b6.other3 e00 (.int .i64 al1) (.int .i64 st1) (.slice a1 n1 c1)).other3 e01 (.int .i64 al3) (.slice aN3 n3 cN3) (.slice aA3 m3 cA3))).ext (Ext.drew _)) ((((b8.other3 e10 (.int .i64 al1) (.int .i64 st1) (.slice a1 n1 c1)).other3 e11 (.int .i64 al3) (.slice aN3 n3 cN3) (.slice aA3 m3 cA3))).ext (Ext.drew _)) ((((b7.other3 e20 (.int .i64 al1) (.int .i64 st1) (.slice a1 n1 c1)).other3 e21 (.int .i64 al3) (.slice aN3 n3 cN3) (.slice aA3 m3 cA3))).ext (Ext.drew _)))
  have hst3 := Lib.hid (show World.cell? (World.drew (((((((((wc.setCell ⟨w.heap.size, 0, none⟩ (.int .i64 al1)).setCell ⟨w.heap.size, 1, none⟩ (.int .i64 st1)).setCell ⟨w.heap.size, 2, none⟩ (.slice a1 n1 c1)).setCell ⟨w.heap.size + 1, 0, none⟩ (.int .i64 al3)).setCell ⟨w.heap.size + 1, 1, none⟩ (.slice aN3 n3 cN3)).setCell ⟨w.heap.size + 1, 2, none⟩ (.slice aA3 m3 cA3)).setCell ⟨w.heap.size + 1 + 1, 0, none⟩ (.int .i64 al2)).setCell ⟨w.heap.size + 1 + 1, 1, none⟩ (.slice aN n2 cN)).setCell ⟨w.heap.size + 1 + 1, 2, none⟩ (.slice aA m2 cA))) ⟨G6, 0, none⟩ = some (.int .i64 al1) ∧ World.cell? (World.drew (((((((((wc.setCell ⟨w.heap.size, 0, none⟩ (.int .i64 al1)).setCell ⟨w.heap.size, 1, none⟩ (.int .i64 st1)).setCell ⟨w.heap.size, 2, none⟩ (.slice a1 n1 c1)).setCell ⟨w.heap.size + 1, 0, none⟩ (.int .i64 al3)).setCell ⟨w.heap.size + 1, 1, none⟩ (.slice aN3 n3 cN3)).setCell ⟨w.heap.size + 1, 2, none⟩ (.slice aA3 m3 cA3)).setCell ⟨w.heap.size + 1 + 1, 0, none⟩ (.int .i64 al2)).setCell ⟨w.heap.size + 1 + 1, 1, none⟩ (.slice aN n2 cN)).setCell ⟨w.heap.size + 1 + 1, 2, none⟩ (.slice aA m2 cA))) ⟨G6, 1, none⟩ = some (.int .i64 st1) ∧ World.cell? (World.drew (((((((((wc.setCell ⟨w.heap.size, 0, none⟩ (.int .i64 al1)).setCell ⟨w.heap.size, 1, none⟩ (.int .i64 st1)).setCell ⟨w.heap.size, 2, none⟩ (.slice a1 n1 c1)).setCell ⟨w.heap.size + 1, 0, none⟩ (.int .i64 al3)).setCell ⟨w.heap.size + 1, 1, none⟩ (.slice aN3 n3 cN3)).setCell ⟨w.heap.size + 1, 2, none⟩ (.slice aA3 m3 cA3)).setCell ⟨w.heap.size + 1 + 1, 0, none⟩ (.int .i64 al2)).setCell ⟨w.heap.size + 1 + 1, 1, none⟩ (.slice aN n2 cN)).setCell ⟨w.heap.size + 1 + 1, 2, none⟩ (.slice aA m2 cA))) ⟨G6, 2, none⟩ = some (.slice a1 n1 c1) ∧ World.cell? (World.drew (((((((((wc.setCell ⟨w.heap.size, 0, none⟩ (.int .i64 al1)).setCell ⟨w.heap.size, 1, none⟩ (.int .i64 st1)).setCell ⟨w.heap.size, 2, none⟩ (.slice a1 n1 c1)).setCell ⟨w.heap.size + 1, 0, none⟩ (.int .i64 al3)).setCell ⟨w.heap.size + 1, 1, none⟩ (.slice aN3 n3 cN3)).setCell ⟨w.heap.size + 1, 2, none⟩ (.slice aA3 m3 cA3)).setCell ⟨w.heap.size + 1 + 1, 0, none⟩ (.int .i64 al2)).setCell ⟨w.heap.size + 1 + 1, 1, none⟩ (.slice aN n2 cN)).setCell ⟨w.heap.size + 1 + 1, 2, none⟩ (.slice aA m2 cA))) ⟨G8, 0, none⟩ = some (.int .i64 al3) ∧ World.cell? (World.drew (((((((((wc.setCell ⟨w.heap.size, 0, none⟩ (.int .i64 al1)).setCell ⟨w.heap.size, 1, none⟩ (.int .i64 st1)).setCell ⟨w.heap.size, 2, none⟩ (.slice a1 n1 c1)).setCell ⟨w.heap.size + 1, 0, none⟩ (.int .i64 al3)).setCell ⟨w.heap.size + 1, 1, none⟩ (.slice aN3 n3 cN3)).setCell ⟨w.heap.size + 1, 2, none⟩ (.slice aA3 m3 cA3)).setCell ⟨w.heap.size + 1 + 1, 0, none⟩ (.int .i64 al2)).setCell ⟨w.heap.size + 1 + 1, 1, none⟩ (.slice aN n2 cN)).setCell ⟨w.heap.size + 1 + 1, 2, none⟩ (.slice aA m2 cA))) ⟨G8, 1, none⟩ = some (.slice aN3 n3 cN3) ∧ World.cell? (World.drew (((((((((wc.setCell ⟨w.heap.size, 0, none⟩ (.int .i64 al1)).setCell ⟨w.heap.size, 1, none⟩ (.int .i64 st1)).setCell ⟨w.heap.size, 2, none⟩ (.slice a1 n1 c1)).setCell ⟨w.heap.size + 1, 0, none⟩ (.int .i64 al3)).setCell ⟨w.heap.size + 1, 1, none⟩ (.slice aN3 n3 cN3)).setCell ⟨w.heap.size + 1, 2, none⟩ (.slice aA3 m3 cA3)).setCell ⟨w.heap.size + 1 + 1, 0, none⟩ (.int .i64 al2)).setCell ⟨w.heap.size + 1 + 1, 1, none⟩ (.slice aN n2 cN)).setCell ⟨w.heap.size + 1 + 1, 2, none⟩ (.slice aA m2 cA))) ⟨G8, 2, none⟩ = some (.slice aA3 m3 cA3) ∧ World.cell? (World.drew (((((((((wc.setCell ⟨w.heap.size, 0, none⟩ (.int .i64 al1)).setCell ⟨w.heap.size, 1, none⟩ (.int .i64 st1)).setCell ⟨w.heap.size, 2, none⟩ (.slice a1 n1 c1)).setCell ⟨w.heap.size + 1, 0, none⟩ (.int .i64 al3)).setCell ⟨w.heap.size + 1, 1, none⟩ (.slice aN3 n3 cN3)).setCell ⟨w.heap.size + 1, 2, none⟩ (.slice aA3 m3 cA3)).setCell ⟨w.heap.size + 1 + 1, 0, none⟩ (.int .i64 al2)).setCell ⟨w.heap.size + 1 + 1, 1, none⟩ (.slice aN n2 cN)).setCell ⟨w.heap.size + 1 + 1, 2, none⟩ (.slice aA m2 cA))) ⟨G7, 0, none⟩ = some (.int .i64 al2) ∧ World.cell? (World.drew (((((((((wc.setCell ⟨w.heap.size, 0, none⟩ (.int .i64 al1)).setCell ⟨w.heap.size, 1, none⟩ (.int .i64 st1)).setCell ⟨w.heap.size, 2, none⟩ (.slice a1 n1 c1)).setCell ⟨w.heap.size + 1, 0, none⟩ (.int .i64 al3)).setCell ⟨w.heap.size + 1, 1, none⟩ (.slice aN3 n3 cN3)).setCell ⟨w.heap.size + 1, 2, none⟩ (.slice aA3 m3 cA3)).setCell ⟨w.heap.size + 1 + 1, 0, none⟩ (.int .i64 al2)).setCell ⟨w.heap.size + 1 + 1, 1, none⟩ (.slice aN n2 cN)).setCell ⟨w.heap.size + 1 + 1, 2, none⟩ (.slice aA m2 cA))) ⟨G7, 1, none⟩ = some (.slice aN n2 cN) ∧ World.cell? (World.drew (((((((((wc.setCell ⟨w.heap.size, 0, none⟩ (.int .i64 al1)).setCell ⟨w.heap.size, 1, none⟩ (.int .i64 st1)).setCell ⟨w.heap.size, 2, none⟩ (.slice a1 n1 c1)).setCell ⟨w.heap.size + 1, 0, none⟩ (.int .i64 al3)).setCell ⟨w.heap.size + 1, 1, none⟩ (.slice aN3 n3 cN3)).setCell ⟨w.heap.size + 1, 2, none⟩ (.slice aA3 m3 cA3)).setCell ⟨w.heap.size + 1 + 1, 0, none⟩ (.int .i64 al2)).setCell ⟨w.heap.size + 1 + 1, 1, none⟩ (.slice aN n2 cN)).setCell ⟨w.heap.size + 1 + 1, 2, none⟩ (.slice aA m2 cA))) ⟨G7, 2, none⟩ = some (.slice aA m2 cA) from nine_of' (((((b6.other3 e00 (.int .i64 al1) (.int .i64 st1) (.slice a1 n1 c1)).other3 e01 (.int .i64 al3) (.slice aN3 n3 cN3) (.slice aA3 m3 cA3)).other3 e02 (.int .i64 al2) (.slice aN n2 cN) (.slice aA m2 cA))).ext (Ext.drew _)) (((((b8.other3 e10 (.int .i64 al1) (.int .i64 st1) (.slice a1 n1 c1)).other3 e11 (.int .i64 al3) (.slice aN3 n3 cN3) (.slice aA3 m3 cA3)).other3 e12 (.int .i64 al2) (.slice aN n2 cN) (.slice aA m2 cA))).ext (Ext.drew _)) (((((b7.other3 e20 (.int .i64 al1) (.int .i64 st1) (.slice a1 n1 c1)).other3 e21 (.int .i64 al3) (.slice aN3 n3 cN3) (.slice aA3 m3 cA3)).other3 e22 (.int .i64 al2) (.slice aN n2 cN) (.slice aA m2 cA))).ext (Ext.drew _)))
  clear e00 e01 e02 e10 e11 e12 e20 e21 e22
  go_region_held3 (fun v => World.cell? v ⟨G6, 0, none⟩ = some (.int .i64 al1) ∧ World.cell? v ⟨G6, 1, none⟩ = some (.int .i64 st1) ∧ World.cell? v ⟨G6, 2, none⟩ = some (.slice a1 n1 c1) ∧ World.cell? v ⟨G8, 0, none⟩ = some (.int .i64 al3) ∧ World.cell? v ⟨G8, 1, none⟩ = some (.slice aN3 n3 cN3) ∧ World.cell? v ⟨G8, 2, none⟩ = some (.slice aA3 m3 cA3) ∧ World.cell? v ⟨G7, 0, none⟩ = some (.int .i64 al2) ∧ World.cell? v ⟨G7, 1, none⟩ = some (.slice aN n2 cN) ∧ World.cell? v ⟨G7, 2, none⟩ = some (.slice aA m2 cA))
    (first | with_reducible exact Hid.out hst0 | with_reducible exact Hid.out hst1 | with_reducible exact Hid.out hst2 | with_reducible exact Hid.out hst3)
    (fail)
  clear pc0 pc1 pc2 qc0 qc1 qc2 rc0 rc1 rc2 pf0 pf1 pf2 qf0 qf1 qf2 rf0 rf1 rf2
  have y4 : Tnd (fun b => w.heap.size ≤ b ∧ b < w.heap.size + 3) wc (((((((((wc.setCell ⟨w.heap.size, 0, none⟩ (.int .i64 al1)).setCell ⟨w.heap.size, 1, none⟩ (.int .i64 st1)).setCell ⟨w.heap.size, 2, none⟩ (.slice a1 n1 c1)).setCell ⟨w.heap.size + 1, 0, none⟩ (.int .i64 al3)).setCell ⟨w.heap.size + 1, 1, none⟩ (.slice aN3 n3 cN3)).setCell ⟨w.heap.size + 1, 2, none⟩ (.slice aA3 m3 cA3)).setCell ⟨w.heap.size + 1 + 1, 0, none⟩ (.int .i64 al2)).setCell ⟨w.heap.size + 1 + 1, 1, none⟩ (.slice aN n2 cN)).setCell ⟨w.heap.size + 1 + 1, 2, none⟩ (.slice aA m2 cA)) := ((Tnd.set3 (b := w.heap.size) (by omega) _ _ _).trans (Tnd.set3 (b := w.heap.size + 1) (by omega) _ _ _)).trans (Tnd.set3 (b := w.heap.size + 1 + 1) (by omega) _ _ _)
  have y5 := y4.trans (Tnd.ext (Ext.drew _))
  have p0 := (((b0.set3 (.int .i64 al1) (.int .i64 st1) (.slice a1 n1 c1)).other3 (b' := w.heap.size + 1) (by omega) (.int .i64 al3) (.slice aN3 n3 cN3) (.slice aA3 m3 cA3)).other3 (b' := w.heap.size + 1 + 1) (by omega) (.int .i64 al2) (.slice aN n2 cN) (.slice aA m2 cA)).ext (Ext.drew _)
  have p1 := (((b1.other3 (b' := w.heap.size) (by omega) (.int .i64 al1) (.int .i64 st1) (.slice a1 n1 c1)).set3 (.int .i64 al3) (.slice aN3 n3 cN3) (.slice aA3 m3 cA3)).other3 (b' := w.heap.size + 1 + 1) (by omega) (.int .i64 al2) (.slice aN n2 cN) (.slice aA m2 cA)).ext (Ext.drew _)
  have p2 := (((b2.other3 (b' := w.heap.size) (by omega) (.int .i64 al1) (.int .i64 st1) (.slice a1 n1 c1)).other3 (b' := w.heap.size + 1) (by omega) (.int .i64 al3) (.slice aN3 n3 cN3) (.slice aA3 m3 cA3)).set3 (.int .i64 al2) (.slice aN n2 cN) (.slice aA m2 cA)).ext (Ext.drew _)
  clear y4 b0 b1 b2 b6 b7 b8
  generalize (((((((((wc.setCell ⟨w.heap.size, 0, none⟩ (.int .i64 al1)).setCell ⟨w.heap.size, 1, none⟩ (.int .i64 st1)).setCell ⟨w.heap.size, 2, none⟩ (.slice a1 n1 c1)).setCell ⟨w.heap.size + 1, 0, none⟩ (.int .i64 al3)).setCell ⟨w.heap.size + 1, 1, none⟩ (.slice aN3 n3 cN3)).setCell ⟨w.heap.size + 1, 2, none⟩ (.slice aA3 m3 cA3)).setCell ⟨w.heap.size + 1 + 1, 0, none⟩ (.int .i64 al2)).setCell ⟨w.heap.size + 1 + 1, 1, none⟩ (.slice aN n2 cN)).setCell ⟨w.heap.size + 1 + 1, 2, none⟩ (.slice aA m2 cA)).drew = wz at y5 p0 p1 p2 ⊢
  have pc0 := p0.cell 0 rfl; have pf0 := p0.fr 0; have pc1 := p0.cell 1 rfl; have pf1 := p0.fr 1; have pc2 := p0.cell 2 rfl; have pf2 := p0.fr 2
  have qc0 := p1.cell 0 rfl; have qf0 := p1.fr 0; have qc1 := p1.cell 1 rfl; have qf1 := p1.fr 1; have qc2 := p1.cell 2 rfl; have qf2 := p1.fr 2
  have rc0 := p2.cell 0 rfl; have rf0 := p2.fr 0; have rc1 := p2.cell 1 rfl; have rf1 := p2.fr 1; have rc2 := p2.cell 2 rfl; have rf2 := p2.fr 2
  go_wp2_with fail
  refine bodyPost_ret (v := .tuple #[.agg #[.int .i64 al1, .int .i64 st1, .slice a1 n1 c1], .agg #[.int .i64 al3, .slice aN3 n3 cN3, .slice aA3 m3 cA3], .agg #[.int .i64 al2, .slice aN n2 cN, .slice aA m2 cA]]) (by simp [results, Tryz.results43, go_sem, pc0, pc1, pc2, qc0, qc1, qc2, rc0, rc1, rc2, pf0, pf1, pf2, qf0, qf1, qf2, rf0, rf1, rf2]) rfl ?_
  exact Drew.mk' (fun w' hw' => hX.tr (fun _ h => h) hw' (by omega)) hbn (fun b hb => by have := (hsn.dom b hb).1; omega) hsn.typ y5
end Go.Proofs.YtccklliljdembaaGreatDoor
