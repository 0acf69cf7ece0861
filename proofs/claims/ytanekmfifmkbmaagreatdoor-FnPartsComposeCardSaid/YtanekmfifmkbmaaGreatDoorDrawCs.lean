/- Part of this seat's proofs, cut to what its law needs. -/

import Derived.Test.YtanekmfifmkbmaaGreatDoorDrawTx
import Derived.Test.YtanekmfifmkbmaaGreatDoorDrawC
namespace Go.Proofs.YtanekmfifmkbmaaGreatDoor
set_option linter.unusedSimpArgs false
set_option linter.unusedVariables false
open Go.RowKit
set_option maxHeartbeats 1500000
set_option maxRecDepth 100000
attribute [local go_sem ↓] Go.wp_at_zero Go.wp_at_succ

variable {D D' D'' : Nat → Prop} {g q q' : Nat} {w w' : World}

theorem TwoS.up2 {v : Value} (h : TwoS D q w v) (hi : ∀ b, D b → D' b) (hs : Shp D w w') (hq : q ≤ q') : TwoS D' q' w' v := by
  obtain ⟨s, p, e, hS, hP⟩ := h
  exact ⟨s, p, e, hS.tr hi hs hq, hP.tr hi hs hq⟩
def CSx (g : Nat) (w1 : World) (bs G6 G7 c : Nat) (wc : World) : Prop :=
  ∃ (D' : Nat → Prop) (al1 st1 : Int) (n1 : Nat) (a1 : Option Addr) (c1 : Nat) (al2 st2 : Int) (n2 : Nat) (a2 : Option Addr) (c2 : Nat),
    Box (fun _ => False) g 2000 w1 G6 c #[.int .i64 al1, .int .i64 st1, .slice a1 n1 c1] 25 wc D' ∧ Box (fun _ => False) g 2000 w1 G7 c #[.int .i64 al2, .int .i64 st2, .slice a2 n2 c2] 25 wc D' ∧
    SlOk D' wc 87 3 (.slice a1 n1 c1) n1 ∧ SlOk D' wc 87 3 (.slice a2 n2 c2) n2 ∧ n1 ≤ 2000 + c ∧ n2 ≤ 2000 + c ∧
    Blk wc bs #[.int .i64 0, .int .i64 0, .slice none 0 0] 25 ∧ Blk wc (bs + 1) #[.int .i64 0, .int .i64 0, .slice none 0 0] 25

set_option maxHeartbeats 3000000 in
theorem DrawComposeSystems_t (v : Value) (l : List UInt8) (w : World) (hv : BytesV w v l) (hl : l.length ≤ 1048576) :
    Calls Tryz.prog 5 #[v] w (Drew 22000 w TwoS) := by
  obtain ⟨wo, hwo⟩ : ∃ wo, wo = (w.alloc (.cells #[.int .i64 0, .int .i64 0, .slice none 0 0] 25)).alloc (.cells #[.int .i64 0, .int .i64 0, .slice none 0 0] 25) := ⟨_, rfl⟩
  have he : Ext w wo := by rw [hwo]; exact (Ext.alloc _ _).trans (Ext.alloc _ _)
  have b0 : Blk wo w.heap.size #[.int .i64 0, .int .i64 0, .slice none 0 0] 25 := by rw [hwo]; exact Ext.blk (Ext.alloc _ _)
  have b1 : Blk wo (w.heap.size + 1) #[.int .i64 0, .int .i64 0, .slice none 0 0] 25 := by rw [hwo]; exact Ext.blk1 (Ext.refl _)
  have hso : wo.heap.size = w.heap.size + 2 := by rw [hwo]; simp
  go_enter Tryz.func5, Tryz.ntmps5
  go_wp2_with fail
  rw [← hwo]
  clear hwo
  refine (l19Open_t v l wo (hv.mono (fun b o x _ h => he.cell h) he.size) hl).mono ?_
  rintro e w1 ⟨g, rfl, hgb, he1, hs1⟩
  have b0 := b0.ext he1
  have b1 := b1.ext he1
  have hw1 : w.heap.size + 2 ≤ w1.heap.size := by have := he1.size; omega
  have hb1 : Ext w w1 := he.trans he1
  clear he he1 hv
  have N0 := Bare.new hs1
  have hd : ∀ x, (fun _ => False : Nat → Prop) x → x < w1.heap.size := fun x hx => hx.elim
  go_wp2_with fail
  refine (l2Small_t hs1 (by omega)).mono ?_
  rintro e w2 ⟨r, D2, rfl, hi2, hs2, ht2, hR⟩
  obtain ⟨al1, st1, n1, a1, c1, rfl, hn1, hE1⟩ := hR.boxed
  have hw2 := ht2.size
  have b0 := b0.tr ht2 (fun h => h) (by omega)
  have b1 := b1.tr ht2 (fun h => h) (by omega)
  have N2 := N0.drawn (c' := 4003) hi2 ht2 hs2
  clear N0 hi2 ht2 hs2
  have B6 := N2.box #[.int .i64 al1, .int .i64 st1, .slice a1 n1 c1] 25
  have hx3 : Ext w2 (w2.alloc (.cells #[.int .i64 al1, .int .i64 st1, .slice a1 n1 c1] 25)) := Ext.alloc _ _
  have hE1 := hE1.tr' (Inc.refl _ _) (Tr.ext N2.st hx3)
  have b0 := b0.ext hx3; have b1 := b1.ext hx3
  have hgG : g < w2.heap.size := N2.st.g_lt
  clear hx3 N2 hR
  go_wp2_with fail
  generalize (w2.alloc (.cells #[.int .i64 al1, .int .i64 st1, .slice a1 n1 c1] 25)) = w3 at B6 hE1 b0 b1 ⊢
  generalize w2.heap.size = G6 at B6 hgG hw2 ⊢
  refine (l2Small_t B6.st (by omega)).mono ?_
  rintro e w4 ⟨r, D4, rfl, hi4, hs4, ht4, hR⟩
  obtain ⟨al2, st2, n2, a2, c2, rfl, hn2, hE2⟩ := hR.boxed
  have b0 := b0.tr ht4 (fun h => by have := (B6.st.dom _ h).1; omega) (by omega)
  have b1 := b1.tr ht4 (fun h => by have := (B6.st.dom _ h).1; omega) (by omega)
  have hG67 : G6 < w4.heap.size := Nat.lt_of_lt_of_le B6.blk.lt ht4.size
  have hE1 := hE1.tr' hi4 ht4
  have B6 := B6.drawn (by omega) hi4 ht4 (c' := 8010) (hs4.up (by omega))
  clear hi4 hs4 ht4 hR
  have B7 := B6.bare.box #[.int .i64 al2, .int .i64 st2, .slice a2 n2 c2] 25
  have hx5 : Ext w4 (w4.alloc (.cells #[.int .i64 al2, .int .i64 st2, .slice a2 n2 c2] 25)) := Ext.alloc _ _
  have hE1 := hE1.tr' (Inc.refl _ _) (Tr.ext B6.st hx5)
  have hE2 := hE2.tr' (Inc.refl _ _) (Tr.ext B6.st hx5)
  have B6 := B6.ext hx5
  have b0 := b0.ext hx5; have b1 := b1.ext hx5
  clear hx5
  go_wp2_with fail
  generalize (w4.alloc (.cells #[.int .i64 al2, .int .i64 st2, .slice a2 n2 c2] 25)) = w5 at B6 B7 hE1 hE2 b0 b1 ⊢
  generalize w4.heap.size = G7 at B7 hG67 ⊢
  refine (pick_t 8 B6.st (by omega) (by omega)).mono ?_
  rintro e w6 ⟨x, rfl, -, -, hs6, hk6⟩
  have b0 := b0.kept hk6 (by omega); have b1 := b1.kept hk6 (by omega)
  have hE1 := hE1.tr' (Inc.refl _ _) (Tr.kept B6.st hk6)
  have hE2 := hE2.tr' (Inc.refl _ _) (Tr.kept B6.st hk6)
  have B6 := B6.kept (by omega) hk6 (c' := 8011) (hs6.up (by omega))
  have B7 := B7.kept (by omega) hk6 (c' := 8011) (hs6.up (by omega))
  clear hs6 hk6
  go_upto_block 0 with fail
  go_cut [] (fun wc => CSx g w1 w.heap.size G6 G7 17500 wc)
  case first =>
    have hx : x = 0 ∨ x = 1 ∨ x = 2 ∨ x = 3 ∨ x = 4 ∨ 4 < x := by omega
    rcases hx with rfl | rfl | rfl | rfl | rfl | hx
    · go_wp2_with fail
      refine (l2Draw_t B6.st (by omega)).mono ?_
      rintro e u1 ⟨v1, D1, rfl, hi1, hs1, ht1, hS1⟩
      obtain ⟨al3, st3, n3, a3, c3, rfl, hn3, hE3⟩ := hS1.boxed
      have b0 := b0.tr ht1 (fun h => by have := (B6.st.dom _ h).1; omega) (by omega)
      have b1 := b1.tr ht1 (fun h => by have := (B6.st.dom _ h).1; omega) (by omega)
      have hE2 := hE2.tr' hi1 ht1
      have B6 := B6.drawn (by omega) hi1 ht1 (c' := 17500) (hs1.up (by omega))
      have B7 := B7.drawn (by omega) hi1 ht1 (c' := 17500) (hs1.up (by omega))
      have gc0 := B6.blk.cell 0 rfl; have gf0 := B6.blk.fr 0; have gc1 := B6.blk.cell 1 rfl; have gf1 := B6.blk.fr 1; have gc2 := B6.blk.cell 2 rfl; have gf2 := B6.blk.fr 2
      go_wp2_with fail
      have o := B6.out
      go_meet
      case rel => exact ⟨_, _, _, _, _, _, _, _, _, _, _, B6.set3 (by omega) hd (by omega) _ _ _, B7.other3 (by omega) hd (by omega) (by omega) o _ _ _, hE3.box3 o _ _ _, hE2.box3 o _ _ _, by omega, by omega, b0.other3 (by omega) _ _ _, b1.other3 (by omega) _ _ _⟩
    · have gc0 := B6.blk.cell 0 rfl; have gc1 := B6.blk.cell 1 rfl; have gc2 := B6.blk.cell 2 rfl
      go_wp2_with fail
      refine (l6Change_t _ ⟨_, _, _, n1, rfl, by omega, hE1⟩ B6.st (by omega)).mono ?_
      rintro e u1 ⟨v1, D1, rfl, hi1, hs1, ht1, hS1⟩
      obtain ⟨al3, st3, n3, a3, c3, rfl, hn3, hE3⟩ := hS1.boxed
      have b0 := b0.tr ht1 (fun h => by have := (B6.st.dom _ h).1; omega) (by omega)
      have b1 := b1.tr ht1 (fun h => by have := (B6.st.dom _ h).1; omega) (by omega)
      have hE1 := hE1.tr' hi1 ht1
      have B6 := B6.drawn (by omega) hi1 ht1 (c' := 17500) (hs1.up (by omega))
      have B7 := B7.drawn (by omega) hi1 ht1 (c' := 17500) (hs1.up (by omega))
      clear gc0 gc1 gc2
      have gc0 := B7.blk.cell 0 rfl; have gf0 := B7.blk.fr 0; have gc1 := B7.blk.cell 1 rfl; have gf1 := B7.blk.fr 1; have gc2 := B7.blk.cell 2 rfl; have gf2 := B7.blk.fr 2
      go_wp2_with fail
      have o := B7.out
      go_meet
      case rel => exact ⟨_, _, _, _, _, _, _, _, _, _, _, B6.other3 (by omega) hd (by omega) (by omega) o _ _ _, B7.set3 (by omega) hd (by omega) _ _ _, hE1.box3 o _ _ _, hE3.box3 o _ _ _, by omega, by omega, b0.other3 (by omega) _ _ _, b1.other3 (by omega) _ _ _⟩
    · go_wp2_with fail
      refine (l2Big_t B6.st (by omega)).mono ?_
      rintro e u1 ⟨v1, D1, rfl, hi1, hs1, ht1, hS1⟩
      obtain ⟨al3, st3, n3, a3, c3, rfl, hn3, hE3⟩ := hS1.boxed
      have b0 := b0.tr ht1 (fun h => by have := (B6.st.dom _ h).1; omega) (by omega)
      have b1 := b1.tr ht1 (fun h => by have := (B6.st.dom _ h).1; omega) (by omega)
      have hE2 := hE2.tr' hi1 ht1
      have B6 := B6.drawn (by omega) hi1 ht1 (c' := 17500) (hs1.up (by omega))
      have B7 := B7.drawn (by omega) hi1 ht1 (c' := 17500) (hs1.up (by omega))
      have gc0 := B6.blk.cell 0 rfl; have gf0 := B6.blk.fr 0; have gc1 := B6.blk.cell 1 rfl; have gf1 := B6.blk.fr 1; have gc2 := B6.blk.cell 2 rfl; have gf2 := B6.blk.fr 2
      go_wp2_with fail
      have o := B6.out
      go_meet
      case rel => exact ⟨_, _, _, _, _, _, _, _, _, _, _, B6.set3 (by omega) hd (by omega) _ _ _, B7.other3 (by omega) hd (by omega) (by omega) o _ _ _, hE3.box3 o _ _ _, hE2.box3 o _ _ _, by omega, by omega, b0.other3 (by omega) _ _ _, b1.other3 (by omega) _ _ _⟩
    · have gc0 := B7.blk.cell 0 rfl; have gc1 := B7.blk.cell 1 rfl; have gc2 := B7.blk.cell 2 rfl
      go_wp2_with fail
      refine (l2Wrong_t _ ⟨_, _, _, n2, rfl, by omega, hE2⟩ B6.st (by omega)).mono ?_
      rintro e u1 ⟨v1, D1, rfl, hi1, hs1, ht1, hS1⟩
      have b0 := b0.tr ht1 (fun h => by have := (B6.st.dom _ h).1; omega) (by omega)
      have b1 := b1.tr ht1 (fun h => by have := (B6.st.dom _ h).1; omega) (by omega)
      have hE1 := hE1.tr' hi1 ht1
      have B6 := B6.drawn (by omega) hi1 ht1 (c' := 8031) (hs1.up (by omega))
      have B7 := B7.drawn (by omega) hi1 ht1 (c' := 8031) (hs1.up (by omega))
      clear gc0 gc1 gc2
      go_wp2_with fail
      refine (l2Wrong_t _ (hS1.tr (fun _ h => h) (Shp.refl _ _) (by omega)) B6.st (by omega)).mono ?_
      rintro e u2 ⟨v2, D2, rfl, hi2, hs2, ht2, hS2⟩
      obtain ⟨al3, st3, n3, a3, c3, rfl, hn3, hE3⟩ := hS2.boxed
      have b0 := b0.tr ht2 (fun h => by have := (B6.st.dom _ h).1; omega) (by omega)
      have b1 := b1.tr ht2 (fun h => by have := (B6.st.dom _ h).1; omega) (by omega)
      have hE1 := hE1.tr' hi2 ht2
      have B6 := B6.drawn (by omega) hi2 ht2 (c' := 17500) (hs2.up (by omega))
      have B7 := B7.drawn (by omega) hi2 ht2 (c' := 17500) (hs2.up (by omega))
      have gc0 := B7.blk.cell 0 rfl; have gf0 := B7.blk.fr 0; have gc1 := B7.blk.cell 1 rfl; have gf1 := B7.blk.fr 1; have gc2 := B7.blk.cell 2 rfl; have gf2 := B7.blk.fr 2
      go_wp2_with fail
      have o := B7.out
      go_meet
      case rel => exact ⟨_, _, _, _, _, _, _, _, _, _, _, B6.other3 (by omega) hd (by omega) (by omega) o _ _ _, B7.set3 (by omega) hd (by omega) _ _ _, hE1.box3 o _ _ _, hE3.box3 o _ _ _, by omega, by omega, b0.other3 (by omega) _ _ _, b1.other3 (by omega) _ _ _⟩
    · go_wp2_with fail
      refine (l2Draw_t B6.st (by omega)).mono ?_
      rintro e u1 ⟨v1, D1, rfl, hi1, hs1, ht1, hS1⟩
      obtain ⟨al3, st3, n3, a3, c3, rfl, hn3, hE3⟩ := hS1.boxed
      have b0 := b0.tr ht1 (fun h => by have := (B6.st.dom _ h).1; omega) (by omega)
      have b1 := b1.tr ht1 (fun h => by have := (B6.st.dom _ h).1; omega) (by omega)
      have hE2 := hE2.tr' hi1 ht1
      have B6 := B6.drawn (by omega) hi1 ht1 (c' := 12700) (hs1.up (by omega))
      have B7 := B7.drawn (by omega) hi1 ht1 (c' := 12700) (hs1.up (by omega))
      have gc0 := B6.blk.cell 0 rfl; have gf0 := B6.blk.fr 0; have gc1 := B6.blk.cell 1 rfl; have gf1 := B6.blk.fr 1; have gc2 := B6.blk.cell 2 rfl; have gf2 := B6.blk.fr 2
      go_wp2_with fail
      clear gc0 gc1 gc2 gf0 gf1 gf2
      have o6 := B6.out
      have hE3 : SlOk D1 (((u1.setCell ⟨G6, 0, none⟩ (.int .i64 al3)).setCell ⟨G6, 1, none⟩ (.int .i64 st3)).setCell ⟨G6, 2, none⟩ (.slice a3 n3 c3)) 87 3 (.slice a3 n3 c3) n3 := (((hE3.tr (fun _ h => h) (Shp.box o6)).tr (fun _ h => h) (Shp.box o6)).tr (fun _ h => h) (Shp.box o6))
      have b0 := b0.other3 (b' := G6) (by omega) (.int .i64 al3) (.int .i64 st3) (.slice a3 n3 c3)
      have b1 := b1.other3 (b' := G6) (by omega) (.int .i64 al3) (.int .i64 st3) (.slice a3 n3 c3)
      have B7 := B7.other3 (by omega) hd (by omega) (by omega) o6 (.int .i64 al3) (.int .i64 st3) (.slice a3 n3 c3)
      have B6 := B6.set3 (by omega) hd (by omega) (.int .i64 al3) (.int .i64 st3) (.slice a3 n3 c3)
      generalize ((u1.setCell ⟨G6, 0, none⟩ (.int .i64 al3)).setCell ⟨G6, 1, none⟩ (.int .i64 st3)).setCell ⟨G6, 2, none⟩ (.slice a3 n3 c3) = u2 at B6 B7 hE3 b0 b1 ⊢
      clear hi1 hs1 ht1 hS1 hE1 hE2
      have hE1 := hE3
      clear hE3
      obtain ⟨al5, st5, n5, a5, c5, e5⟩ : ∃ (al5 st5 : Int) (n5 : Nat) (a5 : Option Addr) (c5 : Nat), al3 = al5 ∧ st3 = st5 ∧ n3 = n5 ∧ a3 = a5 ∧ c3 = c5 := ⟨_, _, _, _, _, rfl, rfl, rfl, rfl, rfl⟩
      obtain ⟨rfl, rfl, rfl, rfl, rfl⟩ := e5
      refine (l2Draw_t B6.st (by omega)).mono ?_
      rintro e u3 ⟨v3, D3, rfl, hi3, hs3, ht3, hS3⟩
      obtain ⟨al4, st4, n4, a4, c4, rfl, hn4, hE4⟩ := hS3.boxed
      have b0 := b0.tr ht3 (fun h => by have := (B6.st.dom _ h).1; omega) (by omega)
      have b1 := b1.tr ht3 (fun h => by have := (B6.st.dom _ h).1; omega) (by omega)
      have hE1 := hE1.tr' hi3 ht3
      have B6 := B6.drawn (by omega) hi3 ht3 (c' := 17500) (hs3.up (by omega))
      have B7 := B7.drawn (by omega) hi3 ht3 (c' := 17500) (hs3.up (by omega))
      have gc0 := B7.blk.cell 0 rfl; have gf0 := B7.blk.fr 0; have gc1 := B7.blk.cell 1 rfl; have gf1 := B7.blk.fr 1; have gc2 := B7.blk.cell 2 rfl; have gf2 := B7.blk.fr 2
      go_wp2_with fail
      have o := B7.out
      go_meet
      case rel => exact ⟨_, _, _, _, _, _, _, _, _, _, _, B6.other3 (by omega) hd (by omega) (by omega) o _ _ _, B7.set3 (by omega) hd (by omega) _ _ _, hE1.box3 o _ _ _, hE4.box3 o _ _ _, by omega, by omega, b0.other3 (by omega) _ _ _, b1.other3 (by omega) _ _ _⟩
    · have g0 : ((x : Int) == 0) = false := beq_eq_false_iff_ne.2 (by omega)
      have g1 : ((x : Int) == 1) = false := beq_eq_false_iff_ne.2 (by omega)
      have g2 : ((x : Int) == 2) = false := beq_eq_false_iff_ne.2 (by omega)
      have g3 : ((x : Int) == 3) = false := beq_eq_false_iff_ne.2 (by omega)
      have g4 : ((x : Int) == 4) = false := beq_eq_false_iff_ne.2 (by omega)
      go_wp2_with fail
      go_meet
      case rel => exact ⟨_, _, _, _, _, _, _, _, _, _, _, B6.up (by omega), B7.up (by omega), hE1, hE2, by omega, by omega, b0, b1⟩
  case rest =>
  clear B6 B7 hE1 hE2 b0 b1 hn1 hn2
  obtain ⟨D9, al1, st1, n1, a1, c1, al2, st2, n2, a2, c2, B6, B7, hE1, hE2, hn1, hn2, b0, b1⟩ := hcut
  go_wp2_with fail
  have b6 := B6.blk
  have b7 := B7.blk
  have pc0 := b0.cell 0 rfl; have pf0 := b0.fr 0; have pc1 := b0.cell 1 rfl; have pf1 := b0.fr 1; have pc2 := b0.cell 2 rfl; have pf2 := b0.fr 2
  have qc0 := b1.cell 0 rfl; have qf0 := b1.fr 0; have qc1 := b1.cell 1 rfl; have qf1 := b1.fr 1; have qc2 := b1.cell 2 rfl; have qf2 := b1.fr 2
  have hbn : Below w.heap.size w wc := Below.trans hb1 (B6.tr.tnd.below (lo := w.heap.size) (by omega) (fun b hb => by rcases hb with hb | hb; exact hb.elim; omega))
  have hX : TwoS D9 22000 wc (.tuple #[.agg #[.int .i64 al1, .int .i64 st1, .slice a1 n1 c1], .agg #[.int .i64 al2, .int .i64 st2, .slice a2 n2 c2]]) :=
    ⟨_, _, rfl, ⟨_, _, _, n1, rfl, by omega, hE1⟩, ⟨_, _, _, n2, rfl, by omega, hE2⟩⟩
  have hsn : St D9 g 22000 wc := B6.st.up (by omega)
  clear B6 B7 hE1 hE2
  have e00 : G6 ≠ w.heap.size := by omega
  have e01 : G6 ≠ w.heap.size + 1 := by omega
  have e10 : G7 ≠ w.heap.size := by omega
  have e11 : G7 ≠ w.heap.size + 1 := by omega
  have hst0 := Lib.hid (show World.cell? (World.drew wc) ⟨G6, 0, none⟩ = some (.int .i64 al1) ∧ World.cell? (World.drew wc) ⟨G6, 1, none⟩ = some (.int .i64 st1) ∧ World.cell? (World.drew wc) ⟨G6, 2, none⟩ = some (.slice a1 n1 c1) ∧ World.cell? (World.drew wc) ⟨G7, 0, none⟩ = some (.int .i64 al2) ∧ World.cell? (World.drew wc) ⟨G7, 1, none⟩ = some (.int .i64 st2) ∧ World.cell? (World.drew wc) ⟨G7, 2, none⟩ = some (.slice a2 n2 c2) from six_of' ((b6).ext (Ext.drew _)) ((b7).ext (Ext.drew _)))
  have hst1 := Lib.hid (show World.cell? (World.drew (((wc.setCell ⟨w.heap.size, 0, none⟩ (.int .i64 al1)).setCell ⟨w.heap.size, 1, none⟩ (.int .i64 st1)).setCell ⟨w.heap.size, 2, none⟩ (.slice a1 n1 c1))) ⟨G6, 0, none⟩ = some (.int .i64 al1) ∧ World.cell? (World.drew (((wc.setCell ⟨w.heap.size, 0, none⟩ (.int .i64 al1)).setCell ⟨w.heap.size, 1, none⟩ (.int .i64 st1)).setCell ⟨w.heap.size, 2, none⟩ (.slice a1 n1 c1))) ⟨G6, 1, none⟩ = some (.int .i64 st1) ∧ World.cell? (World.drew (((wc.setCell ⟨w.heap.size, 0, none⟩ (.int .i64 al1)).setCell ⟨w.heap.size, 1, none⟩ (.int .i64 st1)).setCell ⟨w.heap.size, 2, none⟩ (.slice a1 n1 c1))) ⟨G6, 2, none⟩ = some (.slice a1 n1 c1) ∧ World.cell? (World.drew (((wc.setCell ⟨w.heap.size, 0, none⟩ (.int .i64 al1)).setCell ⟨w.heap.size, 1, none⟩ (.int .i64 st1)).setCell ⟨w.heap.size, 2, none⟩ (.slice a1 n1 c1))) ⟨G7, 0, none⟩ = some (.int .i64 al2) ∧ World.cell? (World.drew (((wc.setCell ⟨w.heap.size, 0, none⟩ (.int .i64 al1)).setCell ⟨w.heap.size, 1, none⟩ (.int .i64 st1)).setCell ⟨w.heap.size, 2, none⟩ (.slice a1 n1 c1))) ⟨G7, 1, none⟩ = some (.int .i64 st2) ∧ World.cell? (World.drew (((wc.setCell ⟨w.heap.size, 0, none⟩ (.int .i64 al1)).setCell ⟨w.heap.size, 1, none⟩ (.int .i64 st1)).setCell ⟨w.heap.size, 2, none⟩ (.slice a1 n1 c1))) ⟨G7, 2, none⟩ = some (.slice a2 n2 c2) from six_of' (((b6.other3 e00 (.int .i64 al1) (.int .i64 st1) (.slice a1 n1 c1))).ext (Ext.drew _)) (((b7.other3 e10 (.int .i64 al1) (.int .i64 st1) (.slice a1 n1 c1))).ext (Ext.drew _)))
  have hst2 := Lib.hid (show World.cell? (World.drew ((((((wc.setCell ⟨w.heap.size, 0, none⟩ (.int .i64 al1)).setCell ⟨w.heap.size, 1, none⟩ (.int .i64 st1)).setCell ⟨w.heap.size, 2, none⟩ (.slice a1 n1 c1)).setCell ⟨w.heap.size + 1, 0, none⟩ (.int .i64 al2)).setCell ⟨w.heap.size + 1, 1, none⟩ (.int .i64 st2)).setCell ⟨w.heap.size + 1, 2, none⟩ (.slice a2 n2 c2))) ⟨G6, 0, none⟩ = some (.int .i64 al1) ∧ World.cell? (World.drew ((((((wc.setCell ⟨w.heap.size, 0, none⟩ (.int .i64 al1)).setCell ⟨w.heap.size, 1, none⟩ (.int .i64 st1)).setCell ⟨w.heap.size, 2, none⟩ (.slice a1 n1 c1)).setCell ⟨w.heap.size + 1, 0, none⟩ (.int .i64 al2)).setCell ⟨w.heap.size + 1, 1, none⟩ (.int .i64 st2)).setCell ⟨w.heap.size + 1, 2, none⟩ (.slice a2 n2 c2))) ⟨G6, 1, none⟩ = some (.int .i64 st1) ∧ World.cell? (World.drew ((((((wc.setCell ⟨w.heap.size, 0, none⟩ (.int .i64 al1)).setCell ⟨w.heap.size, 1, none⟩ (.int .i64 st1)).setCell ⟨w.heap.size, 2, none⟩ (.slice a1 n1 c1)).setCell ⟨w.heap.size + 1, 0, none⟩ (.int .i64 al2)).setCell ⟨w.heap.size + 1, 1, none⟩ (.int .i64 st2)).setCell ⟨w.heap.size + 1, 2, none⟩ (.slice a2 n2 c2))) ⟨G6, 2, none⟩ = some (.slice a1 n1 c1) ∧ World.cell? (World.drew ((((((wc.setCell ⟨w.heap.size, 0, none⟩ (.int .i64 al1)).setCell ⟨w.heap.size, 1, none⟩ (.int .i64 st1)).setCell ⟨w.heap.size, 2, none⟩ (.slice a1 n1 c1)).setCell ⟨w.heap.size + 1, 0, none⟩ (.int .i64 al2)).setCell ⟨w.heap.size + 1, 1, none⟩ (.int .i64 st2)).setCell ⟨w.heap.size + 1, 2, none⟩ (.slice a2 n2 c2))) ⟨G7, 0, none⟩ = some (.int .i64 al2) ∧ World.cell? (World.drew ((((((wc.setCell ⟨w.heap.size, 0, none⟩ (.int .i64 al1)).setCell ⟨w.heap.size, 1, none⟩ (.int .i64 st1)).setCell ⟨w.heap.size, 2, none⟩ (.slice a1 n1 c1)).setCell ⟨w.heap.size + 1, 0, none⟩ (.int .i64 al2)).setCell ⟨w.heap.size + 1, 1, none⟩ (.int .i64 st2)).setCell ⟨w.heap.size + 1, 2, none⟩ (.slice a2 n2 c2))) ⟨G7, 1, none⟩ = some (.int .i64 st2) ∧ World.cell? (World.drew ((((((wc.setCell ⟨w.heap.size, 0, none⟩ (.int .i64 al1)).setCell ⟨w.heap.size, 1, none⟩ (.int .i64 st1)).setCell ⟨w.heap.size, 2, none⟩ (.slice a1 n1 c1)).setCell ⟨w.heap.size + 1, 0, none⟩ (.int .i64 al2)).setCell ⟨w.heap.size + 1, 1, none⟩ (.int .i64 st2)).setCell ⟨w.heap.size + 1, 2, none⟩ (.slice a2 n2 c2))) ⟨G7, 2, none⟩ = some (.slice a2 n2 c2) from six_of' ((((b6.other3 e00 (.int .i64 al1) (.int .i64 st1) (.slice a1 n1 c1)).other3 e01 (.int .i64 al2) (.int .i64 st2) (.slice a2 n2 c2))).ext (Ext.drew _)) ((((b7.other3 e10 (.int .i64 al1) (.int .i64 st1) (.slice a1 n1 c1)).other3 e11 (.int .i64 al2) (.int .i64 st2) (.slice a2 n2 c2))).ext (Ext.drew _)))
  clear e00 e01 e10 e11
  go_region_held3 (fun v => World.cell? v ⟨G6, 0, none⟩ = some (.int .i64 al1) ∧ World.cell? v ⟨G6, 1, none⟩ = some (.int .i64 st1) ∧ World.cell? v ⟨G6, 2, none⟩ = some (.slice a1 n1 c1) ∧ World.cell? v ⟨G7, 0, none⟩ = some (.int .i64 al2) ∧ World.cell? v ⟨G7, 1, none⟩ = some (.int .i64 st2) ∧ World.cell? v ⟨G7, 2, none⟩ = some (.slice a2 n2 c2))
    (first | with_reducible exact Hid.out hst0 | with_reducible exact Hid.out hst1 | with_reducible exact Hid.out hst2)
    (fail)
  clear pc0 pc1 pc2 qc0 qc1 qc2 pf0 pf1 pf2 qf0 qf1 qf2
  have y4 : Tnd (fun b => w.heap.size ≤ b ∧ b < w.heap.size + 2) wc ((((((wc.setCell ⟨w.heap.size, 0, none⟩ (.int .i64 al1)).setCell ⟨w.heap.size, 1, none⟩ (.int .i64 st1)).setCell ⟨w.heap.size, 2, none⟩ (.slice a1 n1 c1)).setCell ⟨w.heap.size + 1, 0, none⟩ (.int .i64 al2)).setCell ⟨w.heap.size + 1, 1, none⟩ (.int .i64 st2)).setCell ⟨w.heap.size + 1, 2, none⟩ (.slice a2 n2 c2)) := (Tnd.set3 (b := w.heap.size) (by omega) _ _ _).trans (Tnd.set3 (b := w.heap.size + 1) (by omega) _ _ _)
  have y5 := y4.trans (Tnd.ext (Ext.drew _))
  have p0 := ((b0.set3 (.int .i64 al1) (.int .i64 st1) (.slice a1 n1 c1)).other3 (b' := w.heap.size + 1) (by omega) (.int .i64 al2) (.int .i64 st2) (.slice a2 n2 c2)).ext (Ext.drew _)
  have p1 := ((b1.other3 (b' := w.heap.size) (by omega) (.int .i64 al1) (.int .i64 st1) (.slice a1 n1 c1)).set3 (.int .i64 al2) (.int .i64 st2) (.slice a2 n2 c2)).ext (Ext.drew _)
  clear y4 b0 b1 b6 b7
  generalize ((((((wc.setCell ⟨w.heap.size, 0, none⟩ (.int .i64 al1)).setCell ⟨w.heap.size, 1, none⟩ (.int .i64 st1)).setCell ⟨w.heap.size, 2, none⟩ (.slice a1 n1 c1)).setCell ⟨w.heap.size + 1, 0, none⟩ (.int .i64 al2)).setCell ⟨w.heap.size + 1, 1, none⟩ (.int .i64 st2)).setCell ⟨w.heap.size + 1, 2, none⟩ (.slice a2 n2 c2)).drew = wz at y5 p0 p1 ⊢
  have pc0 := p0.cell 0 rfl; have pf0 := p0.fr 0; have pc1 := p0.cell 1 rfl; have pf1 := p0.fr 1; have pc2 := p0.cell 2 rfl; have pf2 := p0.fr 2
  have qc0 := p1.cell 0 rfl; have qf0 := p1.fr 0; have qc1 := p1.cell 1 rfl; have qf1 := p1.fr 1; have qc2 := p1.cell 2 rfl; have qf2 := p1.fr 2
  go_wp2_with fail
  refine bodyPost_ret (v := .tuple #[.agg #[.int .i64 al1, .int .i64 st1, .slice a1 n1 c1], .agg #[.int .i64 al2, .int .i64 st2, .slice a2 n2 c2]]) (by simp [results, Tryz.results5, go_sem, pc0, pc1, pc2, qc0, qc1, qc2, pf0, pf1, pf2, qf0, qf1, qf2]) rfl ?_
  exact Drew.mk' (fun w' hw' => hX.up2 (fun _ h => h) hw' (by omega)) hbn (fun b hb => by have := (hsn.dom b hb).1; omega) hsn.typ y5
end Go.Proofs.YtanekmfifmkbmaaGreatDoor
