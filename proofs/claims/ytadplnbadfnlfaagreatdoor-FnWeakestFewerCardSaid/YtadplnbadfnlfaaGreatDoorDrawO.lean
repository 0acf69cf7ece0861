/- Part of this seat's proofs, cut to what its law needs. -/

import Derived.Test.YtadplnbadfnlfaaGreatDoorDrawK
import Derived.Test.YtadplnbadfnlfaaGreatDoorDrawL
import Derived.Test.YtadplnbadfnlfaaGreatDoorDrawP
import Derived.Deep.RegionHeld3
import Derived.Deep.DeepCutAuto
import Derived.Test.YtadplnbadfnlfaaGreatDoorDrawF
import Derived.Deep.CutBlock

namespace Go.Proofs.YtadplnbadfnlfaaGreatDoor
set_option linter.unusedSimpArgs false
set_option linter.unusedVariables false
open Go.RowKit
set_option maxHeartbeats 1000000
set_option maxRecDepth 100000
attribute [local go_sem ↓] Go.wp_at_zero Go.wp_at_succ

variable {D D' : Nat → Prop} {g q q' : Nat} {w w' : World}

theorem SysA.boxed {v : Value} (h : SysA D q w v) : ∃ al st n a c, v = .agg #[.int .i64 al, .int .i64 st, .slice a n c] ∧ n ≤ q ∧ SlOk D w 103 3 (.slice a n c) n := h.sysT.boxed


def L9 (D : Nat → Prop) (g q : Nat) (w : World) (G5 G6 c : Nat) (wc : World) : Prop :=
  ∃ (D' : Nat → Prop) (al1 st1 : Int) (n1 : Nat) (a1 : Option Addr) (c1 : Nat) (al2 st2 : Int) (n2 : Nat) (a2 : Option Addr) (c2 : Nat),
    Box D g q w w.heap.size c #[.int .i64 0, .int .i64 0, .slice none 0 0] 25 wc D' ∧ Box D g q w (w.heap.size + 1) c #[.int .i64 0, .slice none 0 0, .slice none 0 0] 31 wc D' ∧
    Box D g q w (w.heap.size + 1 + 1) c #[.int .i64 0, .int .i64 0, .slice none 0 0] 25 wc D' ∧
    Box D g q w G5 c #[.int .i64 al1, .int .i64 st1, .slice a1 n1 c1] 25 wc D' ∧ Box D g q w G6 c #[.int .i64 al2, .int .i64 st2, .slice a2 n2 c2] 25 wc D' ∧
    SlOk D' wc 103 3 (.slice a1 n1 c1) n1 ∧ SlOk D' wc 103 3 (.slice a2 n2 c2) n2 ∧ n1 ≤ q + c ∧ n2 ≤ q + c


def ThreeT (D : Nat → Prop) (q : Nat) (w : World) (v : Value) : Prop := ∃ s p t, v = .tuple #[s, p, t] ∧ SysT D q w s ∧ AutoT D q w p ∧ SysT D q w t

theorem l9Three_t (h : St D g q w) (hq : q + 18000 ≤ 1000000) :
    Calls Tryz.prog 262 #[.pointer (some ⟨g, 0, none⟩)] w (Drawn D g q 18000 w ThreeT) := by
  have hg := h.g_lt
  have hd := fun x hx => (h.dom x hx).2
  obtain ⟨wo, hwo⟩ : ∃ wo, wo = ((w.alloc (.cells #[.int .i64 0, .int .i64 0, .slice none 0 0] 25)).alloc (.cells #[.int .i64 0, .slice none 0 0, .slice none 0 0] 31)).alloc (.cells #[.int .i64 0, .int .i64 0, .slice none 0 0] 25) := ⟨_, rfl⟩
  have he : Ext w wo := by rw [hwo]; exact ((Ext.alloc _ _).trans (Ext.alloc _ _)).trans (Ext.alloc _ _)
  have B0 : Box D g q w w.heap.size 0 #[.int .i64 0, .int .i64 0, .slice none 0 0] 25 wo D := ⟨Inc.refl _ _, h.ext he, Tr.ext h he, by rw [hwo]; exact Ext.blk ((Ext.alloc _ _).trans (Ext.alloc _ _)), h.out (by omega)⟩
  have B1 : Box D g q w (w.heap.size + 1) 0 #[.int .i64 0, .slice none 0 0, .slice none 0 0] 31 wo D := ⟨Inc.refl _ _, h.ext he, Tr.ext h he, by rw [hwo]; exact Ext.blk1 (Ext.alloc _ _), h.out (by omega)⟩
  have B2 : Box D g q w (w.heap.size + 1 + 1) 0 #[.int .i64 0, .int .i64 0, .slice none 0 0] 25 wo D := ⟨Inc.refl _ _, h.ext he, Tr.ext h he, by rw [hwo]; exact Ext.blk2 (Ext.refl _), h.out (by omega)⟩
  have hso : w.heap.size + 3 ≤ wo.heap.size := by rw [hwo]; simp
  go_enter Tryz.func262, Tryz.ntmps262
  go_wp2_with fail
  rw [← hwo]
  clear hwo
  refine (l2Small_t B0.st (by omega)).mono ?_
  rintro e w1 ⟨v1, D1, rfl, hi1, hs1, ht1, hS1⟩
  obtain ⟨al1, st1, n1, a1, c1, rfl, hn1, hE1⟩ := hS1.boxed
  have B0 := B0.drawn (by omega) hi1 ht1 (c' := 4003) (hs1.up (by omega))
  have B1 := B1.drawn (by omega) hi1 ht1 (c' := 4003) (hs1.up (by omega))
  have B2 := B2.drawn (by omega) hi1 ht1 (c' := 4003) (hs1.up (by omega))
  have hsz := ht1.size
  clear hs1 ht1 hi1 he hS1
  have heB5 := Ext.alloc w1 (.cells #[.int .i64 al1, .int .i64 st1, .slice a1 n1 c1] 25)
  have B5 : Box D g q w w1.heap.size _ #[.int .i64 al1, .int .i64 st1, .slice a1 n1 c1] 25 _ _ := ⟨B0.inc, (B0.ext heB5).st, (B0.ext heB5).tr, Blk.new _ _ _, B0.st.out (Nat.le_refl _)⟩
  have hE1 := hE1.tr' (Inc.refl _ _) (Tr.ext B0.st heB5)
  have B0 := B0.ext heB5
  have B1 := B1.ext heB5
  have B2 := B2.ext heB5
  go_wp2_with fail
  generalize w1.alloc (.cells #[.int .i64 al1, .int .i64 st1, .slice a1 n1 c1] 25) = w2 at B0 B1 B2 B5 hE1 ⊢
  generalize w1.heap.size = G5 at B5 hsz ⊢
  refine (l2Small_t B0.st (by omega)).mono ?_
  rintro e w3 ⟨v3, D3, rfl, hi3, hs3, ht3, hS3⟩
  obtain ⟨al2, st2, n2, a2, c2, rfl, hn2, hE2⟩ := hS3.boxed
  have hsz3 : G5 < w3.heap.size := Nat.lt_of_lt_of_le B5.blk.lt ht3.size
  have hE1 := hE1.tr' hi3 ht3
  have B0 := B0.drawn (by omega) hi3 ht3 (c' := 8006) (hs3.up (by omega))
  have B1 := B1.drawn (by omega) hi3 ht3 (c' := 8006) (hs3.up (by omega))
  have B2 := B2.drawn (by omega) hi3 ht3 (c' := 8006) (hs3.up (by omega))
  have B5 := B5.drawn (by omega) hi3 ht3 (c' := 8006) (hs3.up (by omega))
  clear hs3 ht3 hi3 hS3
  have heB6 := Ext.alloc w3 (.cells #[.int .i64 al2, .int .i64 st2, .slice a2 n2 c2] 25)
  have B6 : Box D g q w w3.heap.size _ #[.int .i64 al2, .int .i64 st2, .slice a2 n2 c2] 25 _ _ := ⟨B0.inc, (B0.ext heB6).st, (B0.ext heB6).tr, Blk.new _ _ _, B0.st.out (Nat.le_refl _)⟩
  have hE1 := hE1.tr' (Inc.refl _ _) (Tr.ext B0.st heB6)
  have hE2 := hE2.tr' (Inc.refl _ _) (Tr.ext B0.st heB6)
  have B0 := B0.ext heB6
  have B1 := B1.ext heB6
  have B2 := B2.ext heB6
  have B5 := B5.ext heB6
  go_wp2_with fail
  generalize w3.alloc (.cells #[.int .i64 al2, .int .i64 st2, .slice a2 n2 c2] 25) = w4 at B0 B1 B2 B5 B6 hE1 hE2 ⊢
  generalize w3.heap.size = G6 at B6 hsz3 ⊢
  refine (pick_t 4 B0.st (by omega) (by omega)).mono ?_
  rintro e w5 ⟨x, rfl, -, -, hs5, hk5⟩
  have hE1 := hE1.tr' (Inc.refl _ _) (Tr.kept B0.st hk5)
  have hE2 := hE2.tr' (Inc.refl _ _) (Tr.kept B0.st hk5)
  have B0 := B0.kept (by omega) hk5 (c' := 8007) (hs5.up (by omega))
  have B1 := B1.kept (by omega) hk5 (c' := 8007) (hs5.up (by omega))
  have B2 := B2.kept (by omega) hk5 (c' := 8007) (hs5.up (by omega))
  have B5 := B5.kept (by omega) hk5 (c' := 8007) (hs5.up (by omega))
  have B6 := B6.kept (by omega) hk5 (c' := 8007) (hs5.up (by omega))
  clear hs5 hk5
  go_upto_if 13 with fail
  go_cut [] (fun wc => L9 D g q w G5 G6 12607 wc)
  case first =>
    by_cases hx : x = 0
    · subst hx
      go_wp2_with fail
      refine (l2Draw_t B0.st (by omega)).mono ?_
      rintro e w6 ⟨v6, D6, rfl, hi6, hs6, ht6, hS6⟩
      obtain ⟨al3, st3, n3, a3, c3, rfl, hn3, hE3⟩ := hS6.boxed
      have hE1 := hE1.tr' hi6 ht6
      have hE2 := hE2.tr' hi6 ht6
      have B0 := B0.drawn (by omega) hi6 ht6 (c' := 12607) (hs6.up (by omega))
      have B1 := B1.drawn (by omega) hi6 ht6 (c' := 12607) (hs6.up (by omega))
      have B2 := B2.drawn (by omega) hi6 ht6 (c' := 12607) (hs6.up (by omega))
      have B5 := B5.drawn (by omega) hi6 ht6 (c' := 12607) (hs6.up (by omega))
      have B6 := B6.drawn (by omega) hi6 ht6 (c' := 12607) (hs6.up (by omega))
      clear hs6 ht6 hi6 hS6
      have gc0 := B5.blk.cell 0 rfl; have gf0 := B5.blk.fr 0; have gc1 := B5.blk.cell 1 rfl; have gf1 := B5.blk.fr 1; have gc2 := B5.blk.cell 2 rfl; have gf2 := B5.blk.fr 2
      go_wp2_with fail
      have o := B5.out
      go_meet
      case rel => exact ⟨_, _, _, _, _, _, _, _, _, _, _, B0.other3 (by omega) hd (by omega) (by omega) o _ _ _, B1.other3 (by omega) hd (by omega) (by omega) o _ _ _, B2.other3 (by omega) hd (by omega) (by omega) o _ _ _, B5.set3 (by omega) hd (by omega) _ _ _, B6.other3 (by omega) hd (by omega) (by omega) o _ _ _, hE3.box3 o _ _ _, hE2.box3 o _ _ _, by omega, by omega⟩
    · have hx' : ((x : Int) == 0) = false := beq_eq_false_iff_ne.2 (by omega)
      go_wp2_with fail
      go_meet
      case rel => exact ⟨_, _, _, _, _, _, _, _, _, _, _, B0.up (by omega), B1.up (by omega), B2.up (by omega), B5.up (by omega), B6.up (by omega), hE1, hE2, by omega, by omega⟩
  case rest =>
  clear B0 B1 B2 B5 B6 hE1 hE2
  obtain ⟨D7, al1, st1, n1, a1, c1, al2, st2, n2, a2, c2, B0, B1, B2, B5, B6, hE1, hE2, hn1, hn2⟩ := hcut
  go_wp2_with fail
  refine (pick_t 4 B0.st (by omega) (by omega)).mono ?_
  rintro e w5 ⟨x, rfl, -, -, hs5, hk5⟩
  have hE1 := hE1.tr' (Inc.refl _ _) (Tr.kept B0.st hk5)
  have hE2 := hE2.tr' (Inc.refl _ _) (Tr.kept B0.st hk5)
  have B0 := B0.kept (by omega) hk5 (c' := 12608) (hs5.up (by omega))
  have B1 := B1.kept (by omega) hk5 (c' := 12608) (hs5.up (by omega))
  have B2 := B2.kept (by omega) hk5 (c' := 12608) (hs5.up (by omega))
  have B5 := B5.kept (by omega) hk5 (c' := 12608) (hs5.up (by omega))
  have B6 := B6.kept (by omega) hk5 (c' := 12608) (hs5.up (by omega))
  clear hs5 hk5
  go_upto_if 18 with fail
  go_cut [] (fun wc => L9 D g q w G5 G6 17208 wc)
  case first =>
    by_cases hx : x = 0
    · subst hx
      go_wp2_with fail
      refine (l2Draw_t B0.st (by omega)).mono ?_
      rintro e w6 ⟨v6, D6, rfl, hi6, hs6, ht6, hS6⟩
      obtain ⟨al3, st3, n3, a3, c3, rfl, hn3, hE3⟩ := hS6.boxed
      have hE1 := hE1.tr' hi6 ht6
      have hE2 := hE2.tr' hi6 ht6
      have B0 := B0.drawn (by omega) hi6 ht6 (c' := 17208) (hs6.up (by omega))
      have B1 := B1.drawn (by omega) hi6 ht6 (c' := 17208) (hs6.up (by omega))
      have B2 := B2.drawn (by omega) hi6 ht6 (c' := 17208) (hs6.up (by omega))
      have B5 := B5.drawn (by omega) hi6 ht6 (c' := 17208) (hs6.up (by omega))
      have B6 := B6.drawn (by omega) hi6 ht6 (c' := 17208) (hs6.up (by omega))
      clear hs6 ht6 hi6 hS6
      have gc0 := B6.blk.cell 0 rfl; have gf0 := B6.blk.fr 0; have gc1 := B6.blk.cell 1 rfl; have gf1 := B6.blk.fr 1; have gc2 := B6.blk.cell 2 rfl; have gf2 := B6.blk.fr 2
      go_wp2_with fail
      have o := B6.out
      go_meet
      case rel => exact ⟨_, _, _, _, _, _, _, _, _, _, _, B0.other3 (by omega) hd (by omega) (by omega) o _ _ _, B1.other3 (by omega) hd (by omega) (by omega) o _ _ _, B2.other3 (by omega) hd (by omega) (by omega) o _ _ _, B5.other3 (by omega) hd (by omega) (by omega) o _ _ _, B6.set3 (by omega) hd (by omega) _ _ _, hE1.box3 o _ _ _, hE3.box3 o _ _ _, by omega, by omega⟩
    · have hx' : ((x : Int) == 0) = false := beq_eq_false_iff_ne.2 (by omega)
      go_wp2_with fail
      go_meet
      case rel => exact ⟨_, _, _, _, _, _, _, _, _, _, _, B0.up (by omega), B1.up (by omega), B2.up (by omega), B5.up (by omega), B6.up (by omega), hE1, hE2, by omega, by omega⟩
  case rest =>
  clear B0 B1 B2 B5 B6 hE1 hE2
  obtain ⟨D8, al1, st1, n1, a1, c1, al2, st2, n2, a2, c2, B0, B1, B2, B5, B6, hE1, hE2, hn1, hn2⟩ := hcut
  go_wp2_with fail
  have E0 := B0.ext (Ext.drew wc)
  have E1 := B1.ext (Ext.drew wc)
  have E2 := B2.ext (Ext.drew wc)
  have E5 := B5.ext (Ext.drew wc)
  have E6 := B6.ext (Ext.drew wc)
  have F1 := hE1.tr' (Inc.refl _ _) (Tr.ext B0.st (Ext.drew wc))
  have F2 := hE2.tr' (Inc.refl _ _) (Tr.ext B0.st (Ext.drew wc))
  clear B0 B1 B2 B5 B6 hE1 hE2
  go_region_held3 (fun v => v.cell? ⟨G5, 0, none⟩ = some (.int .i64 al1) ∧ v.cell? ⟨G5, 1, none⟩ = some (.int .i64 st1) ∧ v.cell? ⟨G5, 2, none⟩ = some (.slice a1 n1 c1) ∧ v.cell? ⟨G6, 0, none⟩ = some (.int .i64 al2) ∧ v.cell? ⟨G6, 1, none⟩ = some (.int .i64 st2) ∧ v.cell? ⟨G6, 2, none⟩ = some (.slice a2 n2 c2))
    (first
      | with_reducible exact six_of E5.blk E6.blk
      | with_reducible exact six_of B5.blk B6.blk
      | with_reducible exact six_of (B5.other3 (by omega) hd (by omega) (by omega) o0 _ _ _).blk (B6.other3 (by omega) hd (by omega) (by omega) o0 _ _ _).blk
      | with_reducible exact six_of ((B5.other3 (by omega) hd (by omega) (by omega) o0 _ _ _).other3 (by omega) hd (by omega) (by omega) o1 _ _ _).blk ((B6.other3 (by omega) hd (by omega) (by omega) o0 _ _ _).other3 (by omega) hd (by omega) (by omega) o1 _ _ _).blk
      | with_reducible exact six_of (((B5.other3 (by omega) hd (by omega) (by omega) o0 _ _ _).other3 (by omega) hd (by omega) (by omega) o1 _ _ _).other3 (by omega) hd (by omega) (by omega) o2 _ _ _).blk (((B6.other3 (by omega) hd (by omega) (by omega) o0 _ _ _).other3 (by omega) hd (by omega) (by omega) o1 _ _ _).other3 (by omega) hd (by omega) (by omega) o2 _ _ _).blk)
    (first | (go_at_call 133; refine (l8Property_t _ E0.st (by omega)).mono ?_; rintro e w6 ⟨v6, D6, rfl, hi6, hs6, ht6, hS6⟩; obtain ⟨al3, n3, m3, aN, cN, aA, cA, rfl, hn3, hm3, hN3, hA3⟩ := hS6.boxed; have B0 := E0.drawn (by omega) hi6 ht6 (c' := 17608) (hs6.up (by omega)); have B1 := E1.drawn (by omega) hi6 ht6 (c' := 17608) (hs6.up (by omega)); have B2 := E2.drawn (by omega) hi6 ht6 (c' := 17608) (hs6.up (by omega)); have B5 := E5.drawn (by omega) hi6 ht6 (c' := 17608) (hs6.up (by omega)); have B6 := E6.drawn (by omega) hi6 ht6 (c' := 17608) (hs6.up (by omega)); have hE1 := F1.tr' hi6 ht6; have hE2 := F2.tr' hi6 ht6; have o0 := B0.out; have o1 := B1.out; have o2 := B2.out; have ff00 := B0.blk.fr 0; have ff01 := B0.blk.fr 1; have ff02 := B0.blk.fr 2; have kk00 := B0.blk.cell 0 rfl; have kk01 := B0.blk.cell 1 rfl; have kk02 := B0.blk.cell 2 rfl; have kk10 := B1.blk.cell 0 rfl; have kk11 := B1.blk.cell 1 rfl; have kk12 := B1.blk.cell 2 rfl; have kk20 := B2.blk.cell 0 rfl; have kk21 := B2.blk.cell 1 rfl; have kk22 := B2.blk.cell 2 rfl; have ff10 := B1.blk.fr 0; have ff11 := B1.blk.fr 1; have ff12 := B1.blk.fr 2; have ff20 := B2.blk.fr 0; have ff21 := B2.blk.fr 1; have ff22 := B2.blk.fr 2))
  have Z0 := ((B0.set3 (by omega) hd (by omega) (.int .i64 al1) (.int .i64 st1) (.slice a1 n1 c1)).other3 (b' := w.heap.size + 1) (by omega) hd (by omega) (by omega) o1 (.int .i64 al3) (.slice aN n3 cN) (.slice aA m3 cA)).other3 (b' := w.heap.size + 1 + 1) (by omega) hd (by omega) (by omega) o2 (.int .i64 al2) (.int .i64 st2) (.slice a2 n2 c2)
  have Z1 := ((B1.other3 (b' := w.heap.size) (by omega) hd (by omega) (by omega) o0 (.int .i64 al1) (.int .i64 st1) (.slice a1 n1 c1)).set3 (by omega) hd (by omega) (.int .i64 al3) (.slice aN n3 cN) (.slice aA m3 cA)).other3 (b' := w.heap.size + 1 + 1) (by omega) hd (by omega) (by omega) o2 (.int .i64 al2) (.int .i64 st2) (.slice a2 n2 c2)
  have Z2 := ((B2.other3 (b' := w.heap.size) (by omega) hd (by omega) (by omega) o0 (.int .i64 al1) (.int .i64 st1) (.slice a1 n1 c1)).other3 (b' := w.heap.size + 1) (by omega) hd (by omega) (by omega) o1 (.int .i64 al3) (.slice aN n3 cN) (.slice aA m3 cA)).set3 (by omega) hd (by omega) (.int .i64 al2) (.int .i64 st2) (.slice a2 n2 c2)
  have S1 := ((hE1.box3 o0 (.int .i64 al1) (.int .i64 st1) (.slice a1 n1 c1)).box3 o1 (.int .i64 al3) (.slice aN n3 cN) (.slice aA m3 cA)).box3 o2 (.int .i64 al2) (.int .i64 st2) (.slice a2 n2 c2)
  have S2 := ((hE2.box3 o0 (.int .i64 al1) (.int .i64 st1) (.slice a1 n1 c1)).box3 o1 (.int .i64 al3) (.slice aN n3 cN) (.slice aA m3 cA)).box3 o2 (.int .i64 al2) (.int .i64 st2) (.slice a2 n2 c2)
  have SN := ((hN3.box3 o0 (.int .i64 al1) (.int .i64 st1) (.slice a1 n1 c1)).box3 o1 (.int .i64 al3) (.slice aN n3 cN) (.slice aA m3 cA)).box3 o2 (.int .i64 al2) (.int .i64 st2) (.slice a2 n2 c2)
  have SB := ((hA3.box3 o0 (.int .i64 al1) (.int .i64 st1) (.slice a1 n1 c1)).box3 o1 (.int .i64 al3) (.slice aN n3 cN) (.slice aA m3 cA)).box3 o2 (.int .i64 al2) (.int .i64 st2) (.slice a2 n2 c2)
  clear B0 B1 B2 B5 B6 hE1 hE2 hN3 hA3
  generalize (((((((((w6.setCell ⟨w.heap.size, 0, none⟩ (.int .i64 al1)).setCell ⟨w.heap.size, 1, none⟩ (.int .i64 st1)).setCell ⟨w.heap.size, 2, none⟩ (.slice a1 n1 c1)).setCell ⟨w.heap.size + 1, 0, none⟩ (.int .i64 al3)).setCell ⟨w.heap.size + 1, 1, none⟩ (.slice aN n3 cN)).setCell ⟨w.heap.size + 1, 2, none⟩ (.slice aA m3 cA)).setCell ⟨w.heap.size + 1 + 1, 0, none⟩ (.int .i64 al2)).setCell ⟨w.heap.size + 1 + 1, 1, none⟩ (.int .i64 st2)).setCell ⟨w.heap.size + 1 + 1, 2, none⟩ (.slice a2 n2 c2)) = wz at Z0 Z1 Z2 S1 S2 SN SB ⊢
  have xc0 := Z0.blk.cell 0 rfl; have xf0 := Z0.blk.fr 0; have xc1 := Z0.blk.cell 1 rfl; have xf1 := Z0.blk.fr 1; have xc2 := Z0.blk.cell 2 rfl; have xf2 := Z0.blk.fr 2
  have yc0 := Z1.blk.cell 0 rfl; have yf0 := Z1.blk.fr 0; have yc1 := Z1.blk.cell 1 rfl; have yf1 := Z1.blk.fr 1; have yc2 := Z1.blk.cell 2 rfl; have yf2 := Z1.blk.fr 2
  have zc0 := Z2.blk.cell 0 rfl; have zf0 := Z2.blk.fr 0; have zc1 := Z2.blk.cell 1 rfl; have zf1 := Z2.blk.fr 1; have zc2 := Z2.blk.cell 2 rfl; have zf2 := Z2.blk.fr 2
  go_wp2_with fail
  refine bodyPost_ret (v := .tuple #[.agg #[.int .i64 al1, .int .i64 st1, .slice a1 n1 c1], .agg #[.int .i64 al3, .slice aN n3 cN, .slice aA m3 cA], .agg #[.int .i64 al2, .int .i64 st2, .slice a2 n2 c2]]) (by simp [results, Tryz.results262, go_sem, xc0, xc1, xc2, yc0, yc1, yc2, zc0, zc1, zc2, xf0, xf1, xf2, yf0, yf1, yf2, zf0, zf1, zf2]) rfl ?_
  exact ⟨_, D6, rfl, Z0.inc, Z0.st.up (by omega), Z0.tr, _, _, _, rfl, ⟨_, _, _, n1, rfl, by omega, S1⟩, ⟨_, _, _, _, _, rfl, by omega, by omega, SN, SB⟩, ⟨_, _, _, n2, rfl, by omega, S2⟩⟩
end Go.Proofs.YtadplnbadfnlfaaGreatDoor

namespace Go.Proofs.YtadplnbadfnlfaaGreatDoor
set_option linter.unusedSimpArgs false
set_option linter.unusedVariables false
open Go.RowKit
set_option maxHeartbeats 1000000
set_option maxRecDepth 100000
attribute [local go_sem ↓] Go.wp_at_zero Go.wp_at_succ

variable {D D' : Nat → Prop} {g q q' : Nat} {w w' : World}

end Go.Proofs.YtadplnbadfnlfaaGreatDoor

namespace Go.Proofs.YtadplnbadfnlfaaGreatDoor
set_option linter.unusedSimpArgs false
set_option linter.unusedVariables false
open Go.RowKit
set_option maxHeartbeats 1000000
set_option maxRecDepth 100000
attribute [local go_sem ↓] Go.wp_at_zero Go.wp_at_succ

variable {D D' : Nat → Prop} {g q q' : Nat} {w w' : World}

end Go.Proofs.YtadplnbadfnlfaaGreatDoor
