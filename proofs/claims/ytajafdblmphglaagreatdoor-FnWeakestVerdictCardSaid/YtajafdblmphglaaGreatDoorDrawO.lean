/- Merged: DrawM, DrawN, DrawO. -/
import Derived.Test.YtajafdblmphglaaGreatDoorDrawK
import Derived.Test.YtajafdblmphglaaGreatDoorDrawL
import Derived.Test.YtajafdblmphglaaGreatDoorDrawP
import Derived.Deep.RegionHeld3
import Derived.Deep.DeepCutAuto
import Derived.Test.YtajafdblmphglaaGreatDoorDrawF
import Derived.Deep.CutBlock

namespace Go.Proofs.YtajafdblmphglaaGreatDoor
set_option linter.unusedSimpArgs false
set_option linter.unusedVariables false
open Go.RowKit
set_option maxHeartbeats 1000000
set_option maxRecDepth 100000
attribute [local go_sem ↓] Go.wp_at_zero Go.wp_at_succ

variable {D D' : Nat → Prop} {g q q' : Nat} {w w' : World}

theorem SysA.boxed {v : Value} (h : SysA D q w v) : ∃ al st n a c, v = .agg #[.int .i64 al, .int .i64 st, .slice a n c] ∧ n ≤ q ∧ SlOk D w 77 3 (.slice a n c) n := h.sysT.boxed


/-- What stands between l9Three's statements: c has been spent. -/
def L9 (D : Nat → Prop) (g q : Nat) (w : World) (G5 G6 c : Nat) (wc : World) : Prop :=
  ∃ (D' : Nat → Prop) (al1 st1 : Int) (n1 : Nat) (a1 : Option Addr) (c1 : Nat) (al2 st2 : Int) (n2 : Nat) (a2 : Option Addr) (c2 : Nat),
    Box D g q w w.heap.size c #[.int .i64 0, .int .i64 0, .slice none 0 0] 25 wc D' ∧ Box D g q w (w.heap.size + 1) c #[.int .i64 0, .slice none 0 0, .slice none 0 0] 29 wc D' ∧
    Box D g q w (w.heap.size + 1 + 1) c #[.int .i64 0, .int .i64 0, .slice none 0 0] 25 wc D' ∧
    Box D g q w G5 c #[.int .i64 al1, .int .i64 st1, .slice a1 n1 c1] 25 wc D' ∧ Box D g q w G6 c #[.int .i64 al2, .int .i64 st2, .slice a2 n2 c2] 25 wc D' ∧
    SlOk D' wc 77 3 (.slice a1 n1 c1) n1 ∧ SlOk D' wc 77 3 (.slice a2 n2 c2) n2 ∧ n1 ≤ q + c ∧ n2 ≤ q + c


/-- Two systems and a property. -/
def ThreeT (D : Nat → Prop) (q : Nat) (w : World) (v : Value) : Prop := ∃ s p t, v = .tuple #[s, p, t] ∧ SysT D q w s ∧ AutoT D q w p ∧ SysT D q w t

theorem l9Three_t (h : St D g q w) (hq : q + 18000 ≤ 1000000) :
    Calls Tryz.prog 118 #[.pointer (some ⟨g, 0, none⟩)] w (Drawn D g q 18000 w ThreeT) := by
  have hg := h.g_lt
  have hd := fun x hx => (h.dom x hx).2
  obtain ⟨wo, hwo⟩ : ∃ wo, wo = ((w.alloc (.cells #[.int .i64 0, .int .i64 0, .slice none 0 0] 25)).alloc (.cells #[.int .i64 0, .slice none 0 0, .slice none 0 0] 29)).alloc (.cells #[.int .i64 0, .int .i64 0, .slice none 0 0] 25) := ⟨_, rfl⟩
  have he : Ext w wo := by rw [hwo]; exact ((Ext.alloc _ _).trans (Ext.alloc _ _)).trans (Ext.alloc _ _)
  have B0 : Box D g q w w.heap.size 0 #[.int .i64 0, .int .i64 0, .slice none 0 0] 25 wo D := ⟨Inc.refl _ _, h.ext he, Tr.ext h he, by rw [hwo]; exact Ext.blk ((Ext.alloc _ _).trans (Ext.alloc _ _)), h.out (by omega)⟩
  have B1 : Box D g q w (w.heap.size + 1) 0 #[.int .i64 0, .slice none 0 0, .slice none 0 0] 29 wo D := ⟨Inc.refl _ _, h.ext he, Tr.ext h he, by rw [hwo]; exact Ext.blk1 (Ext.alloc _ _), h.out (by omega)⟩
  have B2 : Box D g q w (w.heap.size + 1 + 1) 0 #[.int .i64 0, .int .i64 0, .slice none 0 0] 25 wo D := ⟨Inc.refl _ _, h.ext he, Tr.ext h he, by rw [hwo]; exact Ext.blk2 (Ext.refl _), h.out (by omega)⟩
  have hso : w.heap.size + 3 ≤ wo.heap.size := by rw [hwo]; simp
  go_enter Tryz.func118, Tryz.ntmps118
  go_wp2_with fail
  rw [← hwo]
  clear hwo
  refine (l2Small_t B0.st (by omega)).mono ?_
  rintro e w1 ⟨v1, D1, rfl, hi1, hs1, ht1, hS1⟩
  obtain ⟨al1, st1, n1, a1, c1, rfl, hn1, hE1⟩ := hS1.boxed
  have B0 := B0.drawn (by omega) hi1 ht1 (c' := 4003) (hs1.up (by omega))
  have B1 := B1.drawn (by omega) hi1 ht1 (c' := 4003) (hs1.up (by omega))
  have B2 := B2.drawn (by omega) hi1 ht1 (c' := 4003) (hs1.up (by omega))
  have hsz := ht1.size
  clear hs1 ht1 hi1 he hS1
  have heB5 := Ext.alloc w1 (.cells #[.int .i64 al1, .int .i64 st1, .slice a1 n1 c1] 25)
  have B5 : Box D g q w w1.heap.size _ #[.int .i64 al1, .int .i64 st1, .slice a1 n1 c1] 25 _ _ := ⟨B0.inc, (B0.ext heB5).st, (B0.ext heB5).tr, Blk.new _ _ _, B0.st.out (Nat.le_refl _)⟩
  have hE1 := hE1.tr' (Inc.refl _ _) (Tr.ext B0.st heB5)
  have B0 := B0.ext heB5
  have B1 := B1.ext heB5
  have B2 := B2.ext heB5
  go_wp2_with fail
  generalize w1.alloc (.cells #[.int .i64 al1, .int .i64 st1, .slice a1 n1 c1] 25) = w2 at B0 B1 B2 B5 hE1 ⊢
  generalize w1.heap.size = G5 at B5 hsz ⊢
  refine (l2Small_t B0.st (by omega)).mono ?_
  rintro e w3 ⟨v3, D3, rfl, hi3, hs3, ht3, hS3⟩
  obtain ⟨al2, st2, n2, a2, c2, rfl, hn2, hE2⟩ := hS3.boxed
  have hsz3 : G5 < w3.heap.size := Nat.lt_of_lt_of_le B5.blk.lt ht3.size
  have hE1 := hE1.tr' hi3 ht3
  have B0 := B0.drawn (by omega) hi3 ht3 (c' := 8006) (hs3.up (by omega))
  have B1 := B1.drawn (by omega) hi3 ht3 (c' := 8006) (hs3.up (by omega))
  have B2 := B2.drawn (by omega) hi3 ht3 (c' := 8006) (hs3.up (by omega))
  have B5 := B5.drawn (by omega) hi3 ht3 (c' := 8006) (hs3.up (by omega))
  clear hs3 ht3 hi3 hS3
  have heB6 := Ext.alloc w3 (.cells #[.int .i64 al2, .int .i64 st2, .slice a2 n2 c2] 25)
  have B6 : Box D g q w w3.heap.size _ #[.int .i64 al2, .int .i64 st2, .slice a2 n2 c2] 25 _ _ := ⟨B0.inc, (B0.ext heB6).st, (B0.ext heB6).tr, Blk.new _ _ _, B0.st.out (Nat.le_refl _)⟩
  have hE1 := hE1.tr' (Inc.refl _ _) (Tr.ext B0.st heB6)
  have hE2 := hE2.tr' (Inc.refl _ _) (Tr.ext B0.st heB6)
  have B0 := B0.ext heB6
  have B1 := B1.ext heB6
  have B2 := B2.ext heB6
  have B5 := B5.ext heB6
  go_wp2_with fail
  generalize w3.alloc (.cells #[.int .i64 al2, .int .i64 st2, .slice a2 n2 c2] 25) = w4 at B0 B1 B2 B5 B6 hE1 hE2 ⊢
  generalize w3.heap.size = G6 at B6 hsz3 ⊢
  refine (pick_t 4 B0.st (by omega) (by omega)).mono ?_
  rintro e w5 ⟨x, rfl, -, -, hs5, hk5⟩
  have hE1 := hE1.tr' (Inc.refl _ _) (Tr.kept B0.st hk5)
  have hE2 := hE2.tr' (Inc.refl _ _) (Tr.kept B0.st hk5)
  have B0 := B0.kept (by omega) hk5 (c' := 8007) (hs5.up (by omega))
  have B1 := B1.kept (by omega) hk5 (c' := 8007) (hs5.up (by omega))
  have B2 := B2.kept (by omega) hk5 (c' := 8007) (hs5.up (by omega))
  have B5 := B5.kept (by omega) hk5 (c' := 8007) (hs5.up (by omega))
  have B6 := B6.kept (by omega) hk5 (c' := 8007) (hs5.up (by omega))
  clear hs5 hk5
  go_upto_if 13 with fail
  go_cut [] (fun wc => L9 D g q w G5 G6 12607 wc)
  case first =>
    by_cases hx : x = 0
    · subst hx
      go_wp2_with fail
      refine (l2Draw_t B0.st (by omega)).mono ?_
      rintro e w6 ⟨v6, D6, rfl, hi6, hs6, ht6, hS6⟩
      obtain ⟨al3, st3, n3, a3, c3, rfl, hn3, hE3⟩ := hS6.boxed
      have hE1 := hE1.tr' hi6 ht6
      have hE2 := hE2.tr' hi6 ht6
      have B0 := B0.drawn (by omega) hi6 ht6 (c' := 12607) (hs6.up (by omega))
      have B1 := B1.drawn (by omega) hi6 ht6 (c' := 12607) (hs6.up (by omega))
      have B2 := B2.drawn (by omega) hi6 ht6 (c' := 12607) (hs6.up (by omega))
      have B5 := B5.drawn (by omega) hi6 ht6 (c' := 12607) (hs6.up (by omega))
      have B6 := B6.drawn (by omega) hi6 ht6 (c' := 12607) (hs6.up (by omega))
      clear hs6 ht6 hi6 hS6
      have gc0 := B5.blk.cell 0 rfl; have gf0 := B5.blk.fr 0; have gc1 := B5.blk.cell 1 rfl; have gf1 := B5.blk.fr 1; have gc2 := B5.blk.cell 2 rfl; have gf2 := B5.blk.fr 2
      go_wp2_with fail
      have o := B5.out
      go_meet
      case rel => exact ⟨_, _, _, _, _, _, _, _, _, _, _, B0.other3 (by omega) hd (by omega) (by omega) o _ _ _, B1.other3 (by omega) hd (by omega) (by omega) o _ _ _, B2.other3 (by omega) hd (by omega) (by omega) o _ _ _, B5.set3 (by omega) hd (by omega) _ _ _, B6.other3 (by omega) hd (by omega) (by omega) o _ _ _, hE3.box3 o _ _ _, hE2.box3 o _ _ _, by omega, by omega⟩
    · have hx' : ((x : Int) == 0) = false := beq_eq_false_iff_ne.2 (by omega)
      go_wp2_with fail
      go_meet
      case rel => exact ⟨_, _, _, _, _, _, _, _, _, _, _, B0.up (by omega), B1.up (by omega), B2.up (by omega), B5.up (by omega), B6.up (by omega), hE1, hE2, by omega, by omega⟩
  case rest =>
  clear B0 B1 B2 B5 B6 hE1 hE2
  obtain ⟨D7, al1, st1, n1, a1, c1, al2, st2, n2, a2, c2, B0, B1, B2, B5, B6, hE1, hE2, hn1, hn2⟩ := hcut
  go_wp2_with fail
  refine (pick_t 4 B0.st (by omega) (by omega)).mono ?_
  rintro e w5 ⟨x, rfl, -, -, hs5, hk5⟩
  have hE1 := hE1.tr' (Inc.refl _ _) (Tr.kept B0.st hk5)
  have hE2 := hE2.tr' (Inc.refl _ _) (Tr.kept B0.st hk5)
  have B0 := B0.kept (by omega) hk5 (c' := 12608) (hs5.up (by omega))
  have B1 := B1.kept (by omega) hk5 (c' := 12608) (hs5.up (by omega))
  have B2 := B2.kept (by omega) hk5 (c' := 12608) (hs5.up (by omega))
  have B5 := B5.kept (by omega) hk5 (c' := 12608) (hs5.up (by omega))
  have B6 := B6.kept (by omega) hk5 (c' := 12608) (hs5.up (by omega))
  clear hs5 hk5
  go_upto_if 18 with fail
  go_cut [] (fun wc => L9 D g q w G5 G6 17208 wc)
  case first =>
    by_cases hx : x = 0
    · subst hx
      go_wp2_with fail
      refine (l2Draw_t B0.st (by omega)).mono ?_
      rintro e w6 ⟨v6, D6, rfl, hi6, hs6, ht6, hS6⟩
      obtain ⟨al3, st3, n3, a3, c3, rfl, hn3, hE3⟩ := hS6.boxed
      have hE1 := hE1.tr' hi6 ht6
      have hE2 := hE2.tr' hi6 ht6
      have B0 := B0.drawn (by omega) hi6 ht6 (c' := 17208) (hs6.up (by omega))
      have B1 := B1.drawn (by omega) hi6 ht6 (c' := 17208) (hs6.up (by omega))
      have B2 := B2.drawn (by omega) hi6 ht6 (c' := 17208) (hs6.up (by omega))
      have B5 := B5.drawn (by omega) hi6 ht6 (c' := 17208) (hs6.up (by omega))
      have B6 := B6.drawn (by omega) hi6 ht6 (c' := 17208) (hs6.up (by omega))
      clear hs6 ht6 hi6 hS6
      have gc0 := B6.blk.cell 0 rfl; have gf0 := B6.blk.fr 0; have gc1 := B6.blk.cell 1 rfl; have gf1 := B6.blk.fr 1; have gc2 := B6.blk.cell 2 rfl; have gf2 := B6.blk.fr 2
      go_wp2_with fail
      have o := B6.out
      go_meet
      case rel => exact ⟨_, _, _, _, _, _, _, _, _, _, _, B0.other3 (by omega) hd (by omega) (by omega) o _ _ _, B1.other3 (by omega) hd (by omega) (by omega) o _ _ _, B2.other3 (by omega) hd (by omega) (by omega) o _ _ _, B5.other3 (by omega) hd (by omega) (by omega) o _ _ _, B6.set3 (by omega) hd (by omega) _ _ _, hE1.box3 o _ _ _, hE3.box3 o _ _ _, by omega, by omega⟩
    · have hx' : ((x : Int) == 0) = false := beq_eq_false_iff_ne.2 (by omega)
      go_wp2_with fail
      go_meet
      case rel => exact ⟨_, _, _, _, _, _, _, _, _, _, _, B0.up (by omega), B1.up (by omega), B2.up (by omega), B5.up (by omega), B6.up (by omega), hE1, hE2, by omega, by omega⟩
  case rest =>
  clear B0 B1 B2 B5 B6 hE1 hE2
  obtain ⟨D8, al1, st1, n1, a1, c1, al2, st2, n2, a2, c2, B0, B1, B2, B5, B6, hE1, hE2, hn1, hn2⟩ := hcut
  go_wp2_with fail
  have E0 := B0.ext (Ext.drew wc)
  have E1 := B1.ext (Ext.drew wc)
  have E2 := B2.ext (Ext.drew wc)
  have E5 := B5.ext (Ext.drew wc)
  have E6 := B6.ext (Ext.drew wc)
  have F1 := hE1.tr' (Inc.refl _ _) (Tr.ext B0.st (Ext.drew wc))
  have F2 := hE2.tr' (Inc.refl _ _) (Tr.ext B0.st (Ext.drew wc))
  clear B0 B1 B2 B5 B6 hE1 hE2
  go_region_held3 (fun v => v.cell? ⟨G5, 0, none⟩ = some (.int .i64 al1) ∧ v.cell? ⟨G5, 1, none⟩ = some (.int .i64 st1) ∧ v.cell? ⟨G5, 2, none⟩ = some (.slice a1 n1 c1) ∧ v.cell? ⟨G6, 0, none⟩ = some (.int .i64 al2) ∧ v.cell? ⟨G6, 1, none⟩ = some (.int .i64 st2) ∧ v.cell? ⟨G6, 2, none⟩ = some (.slice a2 n2 c2))
    (first
      | with_reducible exact six_of E5.blk E6.blk
      | with_reducible exact six_of B5.blk B6.blk
      | with_reducible exact six_of (B5.other3 (by omega) hd (by omega) (by omega) o0 _ _ _).blk (B6.other3 (by omega) hd (by omega) (by omega) o0 _ _ _).blk
      | with_reducible exact six_of ((B5.other3 (by omega) hd (by omega) (by omega) o0 _ _ _).other3 (by omega) hd (by omega) (by omega) o1 _ _ _).blk ((B6.other3 (by omega) hd (by omega) (by omega) o0 _ _ _).other3 (by omega) hd (by omega) (by omega) o1 _ _ _).blk
      | with_reducible exact six_of (((B5.other3 (by omega) hd (by omega) (by omega) o0 _ _ _).other3 (by omega) hd (by omega) (by omega) o1 _ _ _).other3 (by omega) hd (by omega) (by omega) o2 _ _ _).blk (((B6.other3 (by omega) hd (by omega) (by omega) o0 _ _ _).other3 (by omega) hd (by omega) (by omega) o1 _ _ _).other3 (by omega) hd (by omega) (by omega) o2 _ _ _).blk)
    (first | (go_at_call 101; refine (l8Property_t _ E0.st (by omega)).mono ?_; rintro e w6 ⟨v6, D6, rfl, hi6, hs6, ht6, hS6⟩; obtain ⟨al3, n3, m3, aN, cN, aA, cA, rfl, hn3, hm3, hN3, hA3⟩ := hS6.boxed; have B0 := E0.drawn (by omega) hi6 ht6 (c' := 17608) (hs6.up (by omega)); have B1 := E1.drawn (by omega) hi6 ht6 (c' := 17608) (hs6.up (by omega)); have B2 := E2.drawn (by omega) hi6 ht6 (c' := 17608) (hs6.up (by omega)); have B5 := E5.drawn (by omega) hi6 ht6 (c' := 17608) (hs6.up (by omega)); have B6 := E6.drawn (by omega) hi6 ht6 (c' := 17608) (hs6.up (by omega)); have hE1 := F1.tr' hi6 ht6; have hE2 := F2.tr' hi6 ht6; have o0 := B0.out; have o1 := B1.out; have o2 := B2.out; have ff00 := B0.blk.fr 0; have ff01 := B0.blk.fr 1; have ff02 := B0.blk.fr 2; have kk00 := B0.blk.cell 0 rfl; have kk01 := B0.blk.cell 1 rfl; have kk02 := B0.blk.cell 2 rfl; have kk10 := B1.blk.cell 0 rfl; have kk11 := B1.blk.cell 1 rfl; have kk12 := B1.blk.cell 2 rfl; have kk20 := B2.blk.cell 0 rfl; have kk21 := B2.blk.cell 1 rfl; have kk22 := B2.blk.cell 2 rfl; have ff10 := B1.blk.fr 0; have ff11 := B1.blk.fr 1; have ff12 := B1.blk.fr 2; have ff20 := B2.blk.fr 0; have ff21 := B2.blk.fr 1; have ff22 := B2.blk.fr 2))
  have Z0 := ((B0.set3 (by omega) hd (by omega) (.int .i64 al1) (.int .i64 st1) (.slice a1 n1 c1)).other3 (b' := w.heap.size + 1) (by omega) hd (by omega) (by omega) o1 (.int .i64 al3) (.slice aN n3 cN) (.slice aA m3 cA)).other3 (b' := w.heap.size + 1 + 1) (by omega) hd (by omega) (by omega) o2 (.int .i64 al2) (.int .i64 st2) (.slice a2 n2 c2)
  have Z1 := ((B1.other3 (b' := w.heap.size) (by omega) hd (by omega) (by omega) o0 (.int .i64 al1) (.int .i64 st1) (.slice a1 n1 c1)).set3 (by omega) hd (by omega) (.int .i64 al3) (.slice aN n3 cN) (.slice aA m3 cA)).other3 (b' := w.heap.size + 1 + 1) (by omega) hd (by omega) (by omega) o2 (.int .i64 al2) (.int .i64 st2) (.slice a2 n2 c2)
  have Z2 := ((B2.other3 (b' := w.heap.size) (by omega) hd (by omega) (by omega) o0 (.int .i64 al1) (.int .i64 st1) (.slice a1 n1 c1)).other3 (b' := w.heap.size + 1) (by omega) hd (by omega) (by omega) o1 (.int .i64 al3) (.slice aN n3 cN) (.slice aA m3 cA)).set3 (by omega) hd (by omega) (.int .i64 al2) (.int .i64 st2) (.slice a2 n2 c2)
  have S1 := ((hE1.box3 o0 (.int .i64 al1) (.int .i64 st1) (.slice a1 n1 c1)).box3 o1 (.int .i64 al3) (.slice aN n3 cN) (.slice aA m3 cA)).box3 o2 (.int .i64 al2) (.int .i64 st2) (.slice a2 n2 c2)
  have S2 := ((hE2.box3 o0 (.int .i64 al1) (.int .i64 st1) (.slice a1 n1 c1)).box3 o1 (.int .i64 al3) (.slice aN n3 cN) (.slice aA m3 cA)).box3 o2 (.int .i64 al2) (.int .i64 st2) (.slice a2 n2 c2)
  have SN := ((hN3.box3 o0 (.int .i64 al1) (.int .i64 st1) (.slice a1 n1 c1)).box3 o1 (.int .i64 al3) (.slice aN n3 cN) (.slice aA m3 cA)).box3 o2 (.int .i64 al2) (.int .i64 st2) (.slice a2 n2 c2)
  have SB := ((hA3.box3 o0 (.int .i64 al1) (.int .i64 st1) (.slice a1 n1 c1)).box3 o1 (.int .i64 al3) (.slice aN n3 cN) (.slice aA m3 cA)).box3 o2 (.int .i64 al2) (.int .i64 st2) (.slice a2 n2 c2)
  clear B0 B1 B2 B5 B6 hE1 hE2 hN3 hA3
  generalize (((((((((w6.setCell ⟨w.heap.size, 0, none⟩ (.int .i64 al1)).setCell ⟨w.heap.size, 1, none⟩ (.int .i64 st1)).setCell ⟨w.heap.size, 2, none⟩ (.slice a1 n1 c1)).setCell ⟨w.heap.size + 1, 0, none⟩ (.int .i64 al3)).setCell ⟨w.heap.size + 1, 1, none⟩ (.slice aN n3 cN)).setCell ⟨w.heap.size + 1, 2, none⟩ (.slice aA m3 cA)).setCell ⟨w.heap.size + 1 + 1, 0, none⟩ (.int .i64 al2)).setCell ⟨w.heap.size + 1 + 1, 1, none⟩ (.int .i64 st2)).setCell ⟨w.heap.size + 1 + 1, 2, none⟩ (.slice a2 n2 c2)) = wz at Z0 Z1 Z2 S1 S2 SN SB ⊢
  have xc0 := Z0.blk.cell 0 rfl; have xf0 := Z0.blk.fr 0; have xc1 := Z0.blk.cell 1 rfl; have xf1 := Z0.blk.fr 1; have xc2 := Z0.blk.cell 2 rfl; have xf2 := Z0.blk.fr 2
  have yc0 := Z1.blk.cell 0 rfl; have yf0 := Z1.blk.fr 0; have yc1 := Z1.blk.cell 1 rfl; have yf1 := Z1.blk.fr 1; have yc2 := Z1.blk.cell 2 rfl; have yf2 := Z1.blk.fr 2
  have zc0 := Z2.blk.cell 0 rfl; have zf0 := Z2.blk.fr 0; have zc1 := Z2.blk.cell 1 rfl; have zf1 := Z2.blk.fr 1; have zc2 := Z2.blk.cell 2 rfl; have zf2 := Z2.blk.fr 2
  go_wp2_with fail
  refine bodyPost_ret (v := .tuple #[.agg #[.int .i64 al1, .int .i64 st1, .slice a1 n1 c1], .agg #[.int .i64 al3, .slice aN n3 cN, .slice aA m3 cA], .agg #[.int .i64 al2, .int .i64 st2, .slice a2 n2 c2]]) (by simp [results, Tryz.results118, go_sem, xc0, xc1, xc2, yc0, yc1, yc2, zc0, zc1, zc2, xf0, xf1, xf2, yf0, yf1, yf2, zf0, zf1, zf2]) rfl ?_
  exact ⟨_, D6, rfl, Z0.inc, Z0.st.up (by omega), Z0.tr, _, _, _, rfl, ⟨_, _, _, n1, rfl, by omega, S1⟩, ⟨_, _, _, _, _, rfl, by omega, by omega, SN, SB⟩, ⟨_, _, _, n2, rfl, by omega, S2⟩⟩
end Go.Proofs.YtajafdblmphglaaGreatDoor

namespace Go.Proofs.YtajafdblmphglaaGreatDoor
set_option linter.unusedSimpArgs false
set_option linter.unusedVariables false
open Go.RowKit
set_option maxHeartbeats 1000000
set_option maxRecDepth 100000
attribute [local go_sem ↓] Go.wp_at_zero Go.wp_at_succ

variable {D D' : Nat → Prop} {g q q' : Nat} {w w' : World}

theorem Ext.blkN {w w' : World} {n : Nat} {cs : Array Value} {t : TypeId} (hn : w.heap.size = n) (h : Ext (w.alloc (.cells cs t)) w') : Blk w' n cs t := by have := h.blk; rwa [hn] at this

/-- What stands behind l9Spoil's choice: c has been spent. -/
def L10 (D : Nat → Prop) (g q : Nat) (w : World) (c : Nat) (wc : World) : Prop :=
  ∃ (D' : Nat → Prop) (al1 st1 : Int) (n1 : Nat) (a1 : Option Addr) (c1 : Nat) (al2 : Int) (n2 m2 : Nat) (aN : Option Addr) (cN : Nat) (aA : Option Addr) (cA : Nat) (al3 st3 : Int) (n3 : Nat) (a3 : Option Addr) (c3 : Nat),
    Box D g q w w.heap.size c #[.int .i64 al1, .int .i64 st1, .slice a1 n1 c1] 25 wc D' ∧ Box D g q w (w.heap.size + 1) c #[.int .i64 al2, .slice aN n2 cN, .slice aA m2 cA] 29 wc D' ∧
    Box D g q w (w.heap.size + 1 + 1) c #[.int .i64 al3, .int .i64 st3, .slice a3 n3 c3] 25 wc D' ∧
    Box D g q w (w.heap.size + 1 + 1 + 1) c #[.int .i64 0, .int .i64 0, .slice none 0 0] 25 wc D' ∧ Box D g q w (w.heap.size + 1 + 1 + 1 + 1) c #[.int .i64 0, .slice none 0 0, .slice none 0 0] 29 wc D' ∧
    Box D g q w (w.heap.size + 1 + 1 + 1 + 1 + 1) c #[.int .i64 0, .int .i64 0, .slice none 0 0] 25 wc D' ∧
    SlOk D' wc 77 3 (.slice a1 n1 c1) n1 ∧ SlOk D' wc 81 1 (.slice aN n2 cN) n2 ∧ SlOk D' wc 4 1 (.slice aA m2 cA) m2 ∧ SlOk D' wc 77 3 (.slice a3 n3 c3) n3 ∧
    n1 ≤ q + c ∧ n2 ≤ q + c ∧ m2 ≤ q + c ∧ n3 ≤ q + c

/-- The cells of three boxes. -/
theorem nine_of {b1 b2 b3 : Nat} {x1 x2 x3 y1 y2 y3 z1 z2 z3 : Value} {t1 t2 t3 : TypeId} (h1 : Blk w b1 #[x1, x2, x3] t1) (h2 : Blk w b2 #[y1, y2, y3] t2) (h3 : Blk w b3 #[z1, z2, z3] t3) :
    w.cell? ⟨b1, 0, none⟩ = some x1 ∧ w.cell? ⟨b1, 1, none⟩ = some x2 ∧ w.cell? ⟨b1, 2, none⟩ = some x3 ∧ w.cell? ⟨b2, 0, none⟩ = some y1 ∧ w.cell? ⟨b2, 1, none⟩ = some y2 ∧ w.cell? ⟨b2, 2, none⟩ = some y3 ∧ w.cell? ⟨b3, 0, none⟩ = some z1 ∧ w.cell? ⟨b3, 1, none⟩ = some z2 ∧ w.cell? ⟨b3, 2, none⟩ = some z3 :=
  ⟨h1.cell 0 rfl, h1.cell 1 rfl, h1.cell 2 rfl, h2.cell 0 rfl, h2.cell 1 rfl, h2.cell 2 rfl, h3.cell 0 rfl, h3.cell 1 rfl, h3.cell 2 rfl⟩

theorem l9Spoil_t (vs vp vt : Value) (h1 : SysT D q w vs) (h2 : AutoT D q w vp) (h3 : SysT D q w vt) (h : St D g q w) (hq : q + 200 ≤ 1000000) :
    Calls Tryz.prog 119 #[.pointer (some ⟨g, 0, none⟩), vs, vp, vt] w (Drawn D g q 200 w ThreeT) := by
  have hg := h.g_lt
  have hd := fun x hx => (h.dom x hx).2
  obtain ⟨al1, st1, n1, a1, c1, rfl, hn1, hE1⟩ := h1.boxed
  obtain ⟨al2, n2, m2, aN, cN, aA, cA, rfl, hn2, hm2, hN, hA⟩ := h2.boxed
  obtain ⟨al3, st3, n3, a3, c3, rfl, hn3, hE3⟩ := h3.boxed
  obtain ⟨wo, hwo⟩ : ∃ wo, wo = (((((w.alloc (.cells #[.int .i64 al1, .int .i64 st1, .slice a1 n1 c1] 25)).alloc (.cells #[.int .i64 al2, .slice aN n2 cN, .slice aA m2 cA] 29)).alloc (.cells #[.int .i64 al3, .int .i64 st3, .slice a3 n3 c3] 25)).alloc (.cells #[.int .i64 0, .int .i64 0, .slice none 0 0] 25)).alloc (.cells #[.int .i64 0, .slice none 0 0, .slice none 0 0] 29)).alloc (.cells #[.int .i64 0, .int .i64 0, .slice none 0 0] 25) := ⟨_, rfl⟩
  have he : Ext w wo := by rw [hwo]; exact (((((Ext.alloc _ _).trans (Ext.alloc _ _)).trans (Ext.alloc _ _)).trans (Ext.alloc _ _)).trans (Ext.alloc _ _)).trans (Ext.alloc _ _)
  have B0 : Box D g q w w.heap.size 0 #[.int .i64 al1, .int .i64 st1, .slice a1 n1 c1] 25 wo D := ⟨Inc.refl _ _, h.ext he, Tr.ext h he, by rw [hwo]; exact Ext.blkN rfl (((((Ext.alloc _ _).trans (Ext.alloc _ _)).trans (Ext.alloc _ _)).trans (Ext.alloc _ _)).trans (Ext.alloc _ _)), h.out (by omega)⟩
  have B1 : Box D g q w (w.heap.size + 1) 0 #[.int .i64 al2, .slice aN n2 cN, .slice aA m2 cA] 29 wo D := ⟨Inc.refl _ _, h.ext he, Tr.ext h he, by rw [hwo]; exact Ext.blkN (by simp) ((((Ext.alloc _ _).trans (Ext.alloc _ _)).trans (Ext.alloc _ _)).trans (Ext.alloc _ _)), h.out (by omega)⟩
  have B2 : Box D g q w (w.heap.size + 1 + 1) 0 #[.int .i64 al3, .int .i64 st3, .slice a3 n3 c3] 25 wo D := ⟨Inc.refl _ _, h.ext he, Tr.ext h he, by rw [hwo]; exact Ext.blkN (by simp) (((Ext.alloc _ _).trans (Ext.alloc _ _)).trans (Ext.alloc _ _)), h.out (by omega)⟩
  have B3 : Box D g q w (w.heap.size + 1 + 1 + 1) 0 #[.int .i64 0, .int .i64 0, .slice none 0 0] 25 wo D := ⟨Inc.refl _ _, h.ext he, Tr.ext h he, by rw [hwo]; exact Ext.blkN (by simp) ((Ext.alloc _ _).trans (Ext.alloc _ _)), h.out (by omega)⟩
  have B4 : Box D g q w (w.heap.size + 1 + 1 + 1 + 1) 0 #[.int .i64 0, .slice none 0 0, .slice none 0 0] 29 wo D := ⟨Inc.refl _ _, h.ext he, Tr.ext h he, by rw [hwo]; exact Ext.blkN (by simp) (Ext.alloc _ _), h.out (by omega)⟩
  have B5 : Box D g q w (w.heap.size + 1 + 1 + 1 + 1 + 1) 0 #[.int .i64 0, .int .i64 0, .slice none 0 0] 25 wo D := ⟨Inc.refl _ _, h.ext he, Tr.ext h he, by rw [hwo]; exact Ext.blkN (by simp) (Ext.refl _), h.out (by omega)⟩
  have hE1 := hE1.tr' (Inc.refl _ _) B0.tr
  have hN := hN.tr' (Inc.refl _ _) B0.tr
  have hA := hA.tr' (Inc.refl _ _) B0.tr
  have hE3 := hE3.tr' (Inc.refl _ _) B0.tr
  clear h1 h2 h3
  go_enter Tryz.func119, Tryz.ntmps119
  go_wp2_with fail
  rw [← hwo]
  clear hwo he
  refine (pick_t 30 B0.st (by omega) (by omega)).mono ?_
  rintro e w1 ⟨x, rfl, -, -, hs1, hk1⟩
  have hE1 := hE1.tr' (Inc.refl _ _) (Tr.kept B0.st hk1)
  have hN := hN.tr' (Inc.refl _ _) (Tr.kept B0.st hk1)
  have hA := hA.tr' (Inc.refl _ _) (Tr.kept B0.st hk1)
  have hE3 := hE3.tr' (Inc.refl _ _) (Tr.kept B0.st hk1)
  have B0 := B0.kept (by omega) hk1 (c' := 1) (hs1.up (by omega))
  have B1 := B1.kept (by omega) hk1 (c' := 1) (hs1.up (by omega))
  have B2 := B2.kept (by omega) hk1 (c' := 1) (hs1.up (by omega))
  have B3 := B3.kept (by omega) hk1 (c' := 1) (hs1.up (by omega))
  have B4 := B4.kept (by omega) hk1 (c' := 1) (hs1.up (by omega))
  have B5 := B5.kept (by omega) hk1 (c' := 1) (hs1.up (by omega))
  clear hs1 hk1
  go_upto_block 0 with fail
  go_cut [] (fun wc => L10 D g q w 151 wc)
  case first =>
    by_cases hx : x = 0
    · subst hx
      have hc0 := B0.blk.cell 0 rfl; have hf0 := B0.blk.fr 0; have hc1 := B0.blk.cell 1 rfl; have hf1 := B0.blk.fr 1; have hc2 := B0.blk.cell 2 rfl; have hf2 := B0.blk.fr 2
      go_wp2_with fail
      refine (l2Wrong_t _ (⟨_, _, _, n1, rfl, by omega, hE1⟩) B0.st (by omega)).mono ?_
      rintro e u2 ⟨v2, D2, rfl, hi2, hs2, ht2, hS2⟩
      have hE1 := hE1.tr' hi2 ht2
      have hN := hN.tr' hi2 ht2
      have hA := hA.tr' hi2 ht2
      have hE3 := hE3.tr' hi2 ht2
      have B0 := B0.drawn (by omega) hi2 ht2 (c' := 11) (hs2.up (by omega))
      have B1 := B1.drawn (by omega) hi2 ht2 (c' := 11) (hs2.up (by omega))
      have B2 := B2.drawn (by omega) hi2 ht2 (c' := 11) (hs2.up (by omega))
      have B3 := B3.drawn (by omega) hi2 ht2 (c' := 11) (hs2.up (by omega))
      have B4 := B4.drawn (by omega) hi2 ht2 (c' := 11) (hs2.up (by omega))
      have B5 := B5.drawn (by omega) hi2 ht2 (c' := 11) (hs2.up (by omega))
      clear hs2 ht2 hi2
      go_wp2_with fail
      refine (l2Wrong_t _ (hS2) B0.st (by omega)).mono ?_
      rintro e u3 ⟨v3, D3, rfl, hi3, hs3, ht3, hS3⟩
      have hE1 := hE1.tr' hi3 ht3
      have hN := hN.tr' hi3 ht3
      have hA := hA.tr' hi3 ht3
      have hE3 := hE3.tr' hi3 ht3
      have B0 := B0.drawn (by omega) hi3 ht3 (c' := 21) (hs3.up (by omega))
      have B1 := B1.drawn (by omega) hi3 ht3 (c' := 21) (hs3.up (by omega))
      have B2 := B2.drawn (by omega) hi3 ht3 (c' := 21) (hs3.up (by omega))
      have B3 := B3.drawn (by omega) hi3 ht3 (c' := 21) (hs3.up (by omega))
      have B4 := B4.drawn (by omega) hi3 ht3 (c' := 21) (hs3.up (by omega))
      have B5 := B5.drawn (by omega) hi3 ht3 (c' := 21) (hs3.up (by omega))
      clear hs3 ht3 hi3
      go_wp2_with fail
      refine (l2Wrong_t _ (hS3) B0.st (by omega)).mono ?_
      rintro e u4 ⟨v4, D4, rfl, hi4, hs4, ht4, hS4⟩
      have hE1 := hE1.tr' hi4 ht4
      have hN := hN.tr' hi4 ht4
      have hA := hA.tr' hi4 ht4
      have hE3 := hE3.tr' hi4 ht4
      have B0 := B0.drawn (by omega) hi4 ht4 (c' := 151) (hs4.up (by omega))
      have B1 := B1.drawn (by omega) hi4 ht4 (c' := 151) (hs4.up (by omega))
      have B2 := B2.drawn (by omega) hi4 ht4 (c' := 151) (hs4.up (by omega))
      have B3 := B3.drawn (by omega) hi4 ht4 (c' := 151) (hs4.up (by omega))
      have B4 := B4.drawn (by omega) hi4 ht4 (c' := 151) (hs4.up (by omega))
      have B5 := B5.drawn (by omega) hi4 ht4 (c' := 151) (hs4.up (by omega))
      have hS4 := hS4.tr (fun _ h => h) (Shp.refl _ _) (q' := q + 151) (by omega)
      clear hs4 ht4 hi4
      obtain ⟨al1', st1', n1', a1', c1', rfl, hn1', hE1'⟩ := hS4.boxed
      have gc0 := B0.blk.cell 0 rfl; have gf0 := B0.blk.fr 0; have gc1 := B0.blk.cell 1 rfl; have gf1 := B0.blk.fr 1; have gc2 := B0.blk.cell 2 rfl; have gf2 := B0.blk.fr 2
      go_wp2_with fail
      have o := B0.out
      go_meet
      case rel => exact ⟨_, _, _, _, _, _, _, _, _, _, _, _, _, _, _, _, _, _, B0.set3 (by omega) hd (by omega) _ _ _, B1.other3 (by omega) hd (by omega) (by omega) o _ _ _, B2.other3 (by omega) hd (by omega) (by omega) o _ _ _, B3.other3 (by omega) hd (by omega) (by omega) o _ _ _, B4.other3 (by omega) hd (by omega) (by omega) o _ _ _, B5.other3 (by omega) hd (by omega) (by omega) o _ _ _, hE1'.box3 o _ _ _, hN.box3 o _ _ _, hA.box3 o _ _ _, hE3.box3 o _ _ _, by omega, by omega, by omega, by omega⟩
    have hx' : ((x : Int) == 0) = false := beq_eq_false_iff_ne.2 (by omega)
    by_cases hy : x = 1
    · subst hy
      have hc0 := B1.blk.cell 0 rfl; have hf0 := B1.blk.fr 0; have hc1 := B1.blk.cell 1 rfl; have hf1 := B1.blk.fr 1; have hc2 := B1.blk.cell 2 rfl; have hf2 := B1.blk.fr 2
      go_wp2_with fail
      refine (l3Wrong_t _ (⟨_, _, _, n2, m2, rfl, by omega, by omega, hN, hA⟩) B0.st (by omega)).mono ?_
      rintro e u2 ⟨v2, D2, rfl, hi2, hs2, ht2, hS2⟩
      have hE1 := hE1.tr' hi2 ht2
      have hN := hN.tr' hi2 ht2
      have hA := hA.tr' hi2 ht2
      have hE3 := hE3.tr' hi2 ht2
      have B0 := B0.drawn (by omega) hi2 ht2 (c' := 51) (hs2.up (by omega))
      have B1 := B1.drawn (by omega) hi2 ht2 (c' := 51) (hs2.up (by omega))
      have B2 := B2.drawn (by omega) hi2 ht2 (c' := 51) (hs2.up (by omega))
      have B3 := B3.drawn (by omega) hi2 ht2 (c' := 51) (hs2.up (by omega))
      have B4 := B4.drawn (by omega) hi2 ht2 (c' := 51) (hs2.up (by omega))
      have B5 := B5.drawn (by omega) hi2 ht2 (c' := 51) (hs2.up (by omega))
      clear hs2 ht2 hi2
      go_wp2_with fail
      refine (l3Wrong_t _ (hS2) B0.st (by omega)).mono ?_
      rintro e u3 ⟨v3, D3, rfl, hi3, hs3, ht3, hS3⟩
      have hE1 := hE1.tr' hi3 ht3
      have hN := hN.tr' hi3 ht3
      have hA := hA.tr' hi3 ht3
      have hE3 := hE3.tr' hi3 ht3
      have B0 := B0.drawn (by omega) hi3 ht3 (c' := 101) (hs3.up (by omega))
      have B1 := B1.drawn (by omega) hi3 ht3 (c' := 101) (hs3.up (by omega))
      have B2 := B2.drawn (by omega) hi3 ht3 (c' := 101) (hs3.up (by omega))
      have B3 := B3.drawn (by omega) hi3 ht3 (c' := 101) (hs3.up (by omega))
      have B4 := B4.drawn (by omega) hi3 ht3 (c' := 101) (hs3.up (by omega))
      have B5 := B5.drawn (by omega) hi3 ht3 (c' := 101) (hs3.up (by omega))
      clear hs3 ht3 hi3
      go_wp2_with fail
      refine (l3Wrong_t _ (hS3) B0.st (by omega)).mono ?_
      rintro e u4 ⟨v4, D4, rfl, hi4, hs4, ht4, hS4⟩
      have hE1 := hE1.tr' hi4 ht4
      have hN := hN.tr' hi4 ht4
      have hA := hA.tr' hi4 ht4
      have hE3 := hE3.tr' hi4 ht4
      have B0 := B0.drawn (by omega) hi4 ht4 (c' := 151) (hs4.up (by omega))
      have B1 := B1.drawn (by omega) hi4 ht4 (c' := 151) (hs4.up (by omega))
      have B2 := B2.drawn (by omega) hi4 ht4 (c' := 151) (hs4.up (by omega))
      have B3 := B3.drawn (by omega) hi4 ht4 (c' := 151) (hs4.up (by omega))
      have B4 := B4.drawn (by omega) hi4 ht4 (c' := 151) (hs4.up (by omega))
      have B5 := B5.drawn (by omega) hi4 ht4 (c' := 151) (hs4.up (by omega))
      have hS4 := hS4.tr (fun _ h => h) (Shp.refl _ _) (q' := q + 151) (by omega)
      clear hs4 ht4 hi4
      obtain ⟨al2', n2', m2', aN', cN', aA', cA', rfl, hn2', hm2', hN', hA'⟩ := hS4.boxed
      have gc0 := B1.blk.cell 0 rfl; have gf0 := B1.blk.fr 0; have gc1 := B1.blk.cell 1 rfl; have gf1 := B1.blk.fr 1; have gc2 := B1.blk.cell 2 rfl; have gf2 := B1.blk.fr 2
      go_wp2_with fail
      have o := B1.out
      go_meet
      case rel => exact ⟨_, _, _, _, _, _, _, _, _, _, _, _, _, _, _, _, _, _, B0.other3 (by omega) hd (by omega) (by omega) o _ _ _, B1.set3 (by omega) hd (by omega) _ _ _, B2.other3 (by omega) hd (by omega) (by omega) o _ _ _, B3.other3 (by omega) hd (by omega) (by omega) o _ _ _, B4.other3 (by omega) hd (by omega) (by omega) o _ _ _, B5.other3 (by omega) hd (by omega) (by omega) o _ _ _, hE1.box3 o _ _ _, hN'.box3 o _ _ _, hA'.box3 o _ _ _, hE3.box3 o _ _ _, by omega, by omega, by omega, by omega⟩
    have hy' : ((x : Int) == 1) = false := beq_eq_false_iff_ne.2 (by omega)
    by_cases hz : x = 2
    · subst hz
      have hc0 := B2.blk.cell 0 rfl; have hf0 := B2.blk.fr 0; have hc1 := B2.blk.cell 1 rfl; have hf1 := B2.blk.fr 1; have hc2 := B2.blk.cell 2 rfl; have hf2 := B2.blk.fr 2
      go_wp2_with fail
      refine (l2Wrong_t _ (⟨_, _, _, n3, rfl, by omega, hE3⟩) B0.st (by omega)).mono ?_
      rintro e u2 ⟨v2, D2, rfl, hi2, hs2, ht2, hS2⟩
      have hE1 := hE1.tr' hi2 ht2
      have hN := hN.tr' hi2 ht2
      have hA := hA.tr' hi2 ht2
      have hE3 := hE3.tr' hi2 ht2
      have B0 := B0.drawn (by omega) hi2 ht2 (c' := 11) (hs2.up (by omega))
      have B1 := B1.drawn (by omega) hi2 ht2 (c' := 11) (hs2.up (by omega))
      have B2 := B2.drawn (by omega) hi2 ht2 (c' := 11) (hs2.up (by omega))
      have B3 := B3.drawn (by omega) hi2 ht2 (c' := 11) (hs2.up (by omega))
      have B4 := B4.drawn (by omega) hi2 ht2 (c' := 11) (hs2.up (by omega))
      have B5 := B5.drawn (by omega) hi2 ht2 (c' := 11) (hs2.up (by omega))
      clear hs2 ht2 hi2
      go_wp2_with fail
      refine (l2Wrong_t _ (hS2) B0.st (by omega)).mono ?_
      rintro e u3 ⟨v3, D3, rfl, hi3, hs3, ht3, hS3⟩
      have hE1 := hE1.tr' hi3 ht3
      have hN := hN.tr' hi3 ht3
      have hA := hA.tr' hi3 ht3
      have hE3 := hE3.tr' hi3 ht3
      have B0 := B0.drawn (by omega) hi3 ht3 (c' := 21) (hs3.up (by omega))
      have B1 := B1.drawn (by omega) hi3 ht3 (c' := 21) (hs3.up (by omega))
      have B2 := B2.drawn (by omega) hi3 ht3 (c' := 21) (hs3.up (by omega))
      have B3 := B3.drawn (by omega) hi3 ht3 (c' := 21) (hs3.up (by omega))
      have B4 := B4.drawn (by omega) hi3 ht3 (c' := 21) (hs3.up (by omega))
      have B5 := B5.drawn (by omega) hi3 ht3 (c' := 21) (hs3.up (by omega))
      clear hs3 ht3 hi3
      go_wp2_with fail
      refine (l2Wrong_t _ (hS3) B0.st (by omega)).mono ?_
      rintro e u4 ⟨v4, D4, rfl, hi4, hs4, ht4, hS4⟩
      have hE1 := hE1.tr' hi4 ht4
      have hN := hN.tr' hi4 ht4
      have hA := hA.tr' hi4 ht4
      have hE3 := hE3.tr' hi4 ht4
      have B0 := B0.drawn (by omega) hi4 ht4 (c' := 151) (hs4.up (by omega))
      have B1 := B1.drawn (by omega) hi4 ht4 (c' := 151) (hs4.up (by omega))
      have B2 := B2.drawn (by omega) hi4 ht4 (c' := 151) (hs4.up (by omega))
      have B3 := B3.drawn (by omega) hi4 ht4 (c' := 151) (hs4.up (by omega))
      have B4 := B4.drawn (by omega) hi4 ht4 (c' := 151) (hs4.up (by omega))
      have B5 := B5.drawn (by omega) hi4 ht4 (c' := 151) (hs4.up (by omega))
      have hS4 := hS4.tr (fun _ h => h) (Shp.refl _ _) (q' := q + 151) (by omega)
      clear hs4 ht4 hi4
      obtain ⟨al1', st1', n1', a1', c1', rfl, hn1', hE1'⟩ := hS4.boxed
      have gc0 := B2.blk.cell 0 rfl; have gf0 := B2.blk.fr 0; have gc1 := B2.blk.cell 1 rfl; have gf1 := B2.blk.fr 1; have gc2 := B2.blk.cell 2 rfl; have gf2 := B2.blk.fr 2
      go_wp2_with fail
      have o := B2.out
      go_meet
      case rel => exact ⟨_, _, _, _, _, _, _, _, _, _, _, _, _, _, _, _, _, _, B0.other3 (by omega) hd (by omega) (by omega) o _ _ _, B1.other3 (by omega) hd (by omega) (by omega) o _ _ _, B2.set3 (by omega) hd (by omega) _ _ _, B3.other3 (by omega) hd (by omega) (by omega) o _ _ _, B4.other3 (by omega) hd (by omega) (by omega) o _ _ _, B5.other3 (by omega) hd (by omega) (by omega) o _ _ _, hE1.box3 o _ _ _, hN.box3 o _ _ _, hA.box3 o _ _ _, hE1'.box3 o _ _ _, by omega, by omega, by omega, by omega⟩
    have hz' : ((x : Int) == 2) = false := beq_eq_false_iff_ne.2 (by omega)
    go_wp2_with fail
    go_meet
    case rel => exact ⟨_, _, _, _, _, _, _, _, _, _, _, _, _, _, _, _, _, _, B0.up (by omega), B1.up (by omega), B2.up (by omega), B3.up (by omega), B4.up (by omega), B5.up (by omega), hE1, hN, hA, hE3, by omega, by omega, by omega, by omega⟩
  case rest =>
  clear B0 B1 B2 B3 B4 B5 hE1 hE3 hN hA
  obtain ⟨D7, al1, st1, n1, a1, c1, al2, n2, m2, aN, cN, aA, cA, al3, st3, n3, a3, c3, B0, B1, B2, B3, B4, B5, hE1, hN, hA, hE3, hn1, hn2, hm2, hn3⟩ := hcut
  go_wp2_with fail
  have xc0 := B3.blk.cell 0 rfl; have xf0 := B3.blk.fr 0; have xc1 := B3.blk.cell 1 rfl; have xf1 := B3.blk.fr 1; have xc2 := B3.blk.cell 2 rfl; have xf2 := B3.blk.fr 2
  have yc0 := B4.blk.cell 0 rfl; have yf0 := B4.blk.fr 0; have yc1 := B4.blk.cell 1 rfl; have yf1 := B4.blk.fr 1; have yc2 := B4.blk.cell 2 rfl; have yf2 := B4.blk.fr 2
  have zc0 := B5.blk.cell 0 rfl; have zf0 := B5.blk.fr 0; have zc1 := B5.blk.cell 1 rfl; have zf1 := B5.blk.fr 1; have zc2 := B5.blk.cell 2 rfl; have zf2 := B5.blk.fr 2
  have o3 := B3.out
  have o4 := B4.out
  have o5 := B5.out
  trace_state
  go_region_held3 (fun v => v.cell? ⟨w.heap.size, 0, none⟩ = some (.int .i64 al1) ∧ v.cell? ⟨w.heap.size, 1, none⟩ = some (.int .i64 st1) ∧ v.cell? ⟨w.heap.size, 2, none⟩ = some (.slice a1 n1 c1) ∧ v.cell? ⟨w.heap.size + 1, 0, none⟩ = some (.int .i64 al2) ∧ v.cell? ⟨w.heap.size + 1, 1, none⟩ = some (.slice aN n2 cN) ∧ v.cell? ⟨w.heap.size + 1, 2, none⟩ = some (.slice aA m2 cA) ∧ v.cell? ⟨w.heap.size + 1 + 1, 0, none⟩ = some (.int .i64 al3) ∧ v.cell? ⟨w.heap.size + 1 + 1, 1, none⟩ = some (.int .i64 st3) ∧ v.cell? ⟨w.heap.size + 1 + 1, 2, none⟩ = some (.slice a3 n3 c3))
    (first
      | with_reducible exact nine_of (B0.ext (Ext.drew _)).blk (B1.ext (Ext.drew _)).blk (B2.ext (Ext.drew _)).blk
      | with_reducible exact nine_of ((B0.other3 (b' := w.heap.size + 1 + 1 + 1) (by omega) hd (by omega) (by omega) o3 (.int .i64 al1) (.int .i64 st1) (.slice a1 n1 c1)).ext (Ext.drew _)).blk ((B1.other3 (b' := w.heap.size + 1 + 1 + 1) (by omega) hd (by omega) (by omega) o3 (.int .i64 al1) (.int .i64 st1) (.slice a1 n1 c1)).ext (Ext.drew _)).blk ((B2.other3 (b' := w.heap.size + 1 + 1 + 1) (by omega) hd (by omega) (by omega) o3 (.int .i64 al1) (.int .i64 st1) (.slice a1 n1 c1)).ext (Ext.drew _)).blk
      | with_reducible exact nine_of (((B0.other3 (b' := w.heap.size + 1 + 1 + 1) (by omega) hd (by omega) (by omega) o3 (.int .i64 al1) (.int .i64 st1) (.slice a1 n1 c1)).other3 (b' := w.heap.size + 1 + 1 + 1 + 1) (by omega) hd (by omega) (by omega) o4 (.int .i64 al2) (.slice aN n2 cN) (.slice aA m2 cA)).ext (Ext.drew _)).blk (((B1.other3 (b' := w.heap.size + 1 + 1 + 1) (by omega) hd (by omega) (by omega) o3 (.int .i64 al1) (.int .i64 st1) (.slice a1 n1 c1)).other3 (b' := w.heap.size + 1 + 1 + 1 + 1) (by omega) hd (by omega) (by omega) o4 (.int .i64 al2) (.slice aN n2 cN) (.slice aA m2 cA)).ext (Ext.drew _)).blk (((B2.other3 (b' := w.heap.size + 1 + 1 + 1) (by omega) hd (by omega) (by omega) o3 (.int .i64 al1) (.int .i64 st1) (.slice a1 n1 c1)).other3 (b' := w.heap.size + 1 + 1 + 1 + 1) (by omega) hd (by omega) (by omega) o4 (.int .i64 al2) (.slice aN n2 cN) (.slice aA m2 cA)).ext (Ext.drew _)).blk
      | with_reducible exact nine_of ((((B0.other3 (b' := w.heap.size + 1 + 1 + 1) (by omega) hd (by omega) (by omega) o3 (.int .i64 al1) (.int .i64 st1) (.slice a1 n1 c1)).other3 (b' := w.heap.size + 1 + 1 + 1 + 1) (by omega) hd (by omega) (by omega) o4 (.int .i64 al2) (.slice aN n2 cN) (.slice aA m2 cA)).other3 (b' := w.heap.size + 1 + 1 + 1 + 1 + 1) (by omega) hd (by omega) (by omega) o5 (.int .i64 al3) (.int .i64 st3) (.slice a3 n3 c3)).ext (Ext.drew _)).blk ((((B1.other3 (b' := w.heap.size + 1 + 1 + 1) (by omega) hd (by omega) (by omega) o3 (.int .i64 al1) (.int .i64 st1) (.slice a1 n1 c1)).other3 (b' := w.heap.size + 1 + 1 + 1 + 1) (by omega) hd (by omega) (by omega) o4 (.int .i64 al2) (.slice aN n2 cN) (.slice aA m2 cA)).other3 (b' := w.heap.size + 1 + 1 + 1 + 1 + 1) (by omega) hd (by omega) (by omega) o5 (.int .i64 al3) (.int .i64 st3) (.slice a3 n3 c3)).ext (Ext.drew _)).blk ((((B2.other3 (b' := w.heap.size + 1 + 1 + 1) (by omega) hd (by omega) (by omega) o3 (.int .i64 al1) (.int .i64 st1) (.slice a1 n1 c1)).other3 (b' := w.heap.size + 1 + 1 + 1 + 1) (by omega) hd (by omega) (by omega) o4 (.int .i64 al2) (.slice aN n2 cN) (.slice aA m2 cA)).other3 (b' := w.heap.size + 1 + 1 + 1 + 1 + 1) (by omega) hd (by omega) (by omega) o5 (.int .i64 al3) (.int .i64 st3) (.slice a3 n3 c3)).ext (Ext.drew _)).blk)
    (fail)
  have Y3 := (((B3.set3 (by omega) hd (by omega) (.int .i64 al1) (.int .i64 st1) (.slice a1 n1 c1)).other3 (b' := w.heap.size + 1 + 1 + 1 + 1) (by omega) hd (by omega) (by omega) o4 (.int .i64 al2) (.slice aN n2 cN) (.slice aA m2 cA)).other3 (b' := w.heap.size + 1 + 1 + 1 + 1 + 1) (by omega) hd (by omega) (by omega) o5 (.int .i64 al3) (.int .i64 st3) (.slice a3 n3 c3))
  have Z3 := Y3.ext (Ext.drew _)
  have Y4 := (((B4.other3 (b' := w.heap.size + 1 + 1 + 1) (by omega) hd (by omega) (by omega) o3 (.int .i64 al1) (.int .i64 st1) (.slice a1 n1 c1)).set3 (by omega) hd (by omega) (.int .i64 al2) (.slice aN n2 cN) (.slice aA m2 cA)).other3 (b' := w.heap.size + 1 + 1 + 1 + 1 + 1) (by omega) hd (by omega) (by omega) o5 (.int .i64 al3) (.int .i64 st3) (.slice a3 n3 c3))
  have Z4 := Y4.ext (Ext.drew _)
  have Y5 := (((B5.other3 (b' := w.heap.size + 1 + 1 + 1) (by omega) hd (by omega) (by omega) o3 (.int .i64 al1) (.int .i64 st1) (.slice a1 n1 c1)).other3 (b' := w.heap.size + 1 + 1 + 1 + 1) (by omega) hd (by omega) (by omega) o4 (.int .i64 al2) (.slice aN n2 cN) (.slice aA m2 cA)).set3 (by omega) hd (by omega) (.int .i64 al3) (.int .i64 st3) (.slice a3 n3 c3))
  have Z5 := Y5.ext (Ext.drew _)
  have S1 := ((((hE1.box3 o3 (.int .i64 al1) (.int .i64 st1) (.slice a1 n1 c1)).box3 o4 (.int .i64 al2) (.slice aN n2 cN) (.slice aA m2 cA)).box3 o5 (.int .i64 al3) (.int .i64 st3) (.slice a3 n3 c3))).tr' (Inc.refl _ _) (Tr.ext Y3.st (Ext.drew _))
  have SN := ((((hN.box3 o3 (.int .i64 al1) (.int .i64 st1) (.slice a1 n1 c1)).box3 o4 (.int .i64 al2) (.slice aN n2 cN) (.slice aA m2 cA)).box3 o5 (.int .i64 al3) (.int .i64 st3) (.slice a3 n3 c3))).tr' (Inc.refl _ _) (Tr.ext Y3.st (Ext.drew _))
  have SB := ((((hA.box3 o3 (.int .i64 al1) (.int .i64 st1) (.slice a1 n1 c1)).box3 o4 (.int .i64 al2) (.slice aN n2 cN) (.slice aA m2 cA)).box3 o5 (.int .i64 al3) (.int .i64 st3) (.slice a3 n3 c3))).tr' (Inc.refl _ _) (Tr.ext Y3.st (Ext.drew _))
  have S3 := ((((hE3.box3 o3 (.int .i64 al1) (.int .i64 st1) (.slice a1 n1 c1)).box3 o4 (.int .i64 al2) (.slice aN n2 cN) (.slice aA m2 cA)).box3 o5 (.int .i64 al3) (.int .i64 st3) (.slice a3 n3 c3))).tr' (Inc.refl _ _) (Tr.ext Y3.st (Ext.drew _))
  clear B0 B1 B2 B3 B4 B5 hE1 hE3 hN hA Y3 Y4 Y5
  generalize ((((((((((wc.setCell ⟨w.heap.size + 1 + 1 + 1, 0, none⟩ (.int .i64 al1)).setCell ⟨w.heap.size + 1 + 1 + 1, 1, none⟩ (.int .i64 st1)).setCell ⟨w.heap.size + 1 + 1 + 1, 2, none⟩ (.slice a1 n1 c1)).setCell ⟨w.heap.size + 1 + 1 + 1 + 1, 0, none⟩ (.int .i64 al2)).setCell ⟨w.heap.size + 1 + 1 + 1 + 1, 1, none⟩ (.slice aN n2 cN)).setCell ⟨w.heap.size + 1 + 1 + 1 + 1, 2, none⟩ (.slice aA m2 cA)).setCell ⟨w.heap.size + 1 + 1 + 1 + 1 + 1, 0, none⟩ (.int .i64 al3)).setCell ⟨w.heap.size + 1 + 1 + 1 + 1 + 1, 1, none⟩ (.int .i64 st3)).setCell ⟨w.heap.size + 1 + 1 + 1 + 1 + 1, 2, none⟩ (.slice a3 n3 c3))).drew = wz at Z3 Z4 Z5 S1 SN SB S3 ⊢
  have pc0 := Z3.blk.cell 0 rfl; have pf0 := Z3.blk.fr 0; have pc1 := Z3.blk.cell 1 rfl; have pf1 := Z3.blk.fr 1; have pc2 := Z3.blk.cell 2 rfl; have pf2 := Z3.blk.fr 2
  have qc0 := Z4.blk.cell 0 rfl; have qf0 := Z4.blk.fr 0; have qc1 := Z4.blk.cell 1 rfl; have qf1 := Z4.blk.fr 1; have qc2 := Z4.blk.cell 2 rfl; have qf2 := Z4.blk.fr 2
  have rc0 := Z5.blk.cell 0 rfl; have rf0 := Z5.blk.fr 0; have rc1 := Z5.blk.cell 1 rfl; have rf1 := Z5.blk.fr 1; have rc2 := Z5.blk.cell 2 rfl; have rf2 := Z5.blk.fr 2
  go_wp2_with fail
  refine bodyPost_ret (v := .tuple #[.agg #[.int .i64 al1, .int .i64 st1, .slice a1 n1 c1], .agg #[.int .i64 al2, .slice aN n2 cN, .slice aA m2 cA], .agg #[.int .i64 al3, .int .i64 st3, .slice a3 n3 c3]]) (by simp [results, Tryz.results119, go_sem, pc0, pc1, pc2, qc0, qc1, qc2, rc0, rc1, rc2, pf0, pf1, pf2, qf0, qf1, qf2, rf0, rf1, rf2]) rfl ?_
  exact ⟨_, D7, rfl, Z3.inc, Z3.st.up (by omega), Z3.tr, _, _, _, rfl, ⟨_, _, _, n1, rfl, by omega, S1⟩, ⟨_, _, _, _, _, rfl, by omega, by omega, SN, SB⟩, ⟨_, _, _, n3, rfl, by omega, S3⟩⟩
end Go.Proofs.YtajafdblmphglaaGreatDoor

namespace Go.Proofs.YtajafdblmphglaaGreatDoor
set_option linter.unusedSimpArgs false
set_option linter.unusedVariables false
open Go.RowKit
set_option maxHeartbeats 1000000
set_option maxRecDepth 100000
attribute [local go_sem ↓] Go.wp_at_zero Go.wp_at_succ

variable {D D' : Nat → Prop} {g q q' : Nat} {w w' : World}

theorem ThreeT.tr {v : Value} (h : ThreeT D q w v) (hi : ∀ b, D b → D' b) (hs : Shp D w w') (hq : q ≤ q') : ThreeT D' q' w' v := by
  obtain ⟨s, p, t, rfl, h1, h2, h3⟩ := h
  exact ⟨s, p, t, rfl, h1.tr hi hs hq, h2.tr hi hs hq, h3.tr hi hs hq⟩


/-- The three results' boxes are written, and nothing else. -/
theorem Drew.fin {Q : Nat} {v : Value} {w4 w5 : World} (he : Below w.heap.size w w4) (hD : ∀ b, D b → w.heap.size + 3 ≤ b) (hT : Typed D Q w4) (h3 : ThreeT D Q w4 v)
    (ht : Tnd (fun b => w.heap.size ≤ b ∧ b < w.heap.size + 3) w4 w5) : Drew Q w ThreeT (.returned v) w5 :=
  ⟨v, D, rfl, he.trans (ht.below he.size fun b hb => hb.1), fun b hb => by have := hD b hb; omega, hT.tnd ht (fun b hb hd => by have := hD b hd; omega),
    h3.tr (fun _ h => h) (Shp.tnd ht fun b hb hs => by have := hD b hb; omega) (Nat.le_refl _)⟩

theorem DrawInterfaceOf_t (v : Value) (l : List UInt8) (w : World) (hv : BytesV w v l) (hl : l.length ≤ 1048576) :
    Calls Tryz.prog 55 #[v] w (Drew 20200 w ThreeT) := by
  obtain ⟨wo, hwo⟩ : ∃ wo, wo = ((w.alloc (.cells #[.int .i64 0, .int .i64 0, .slice none 0 0] 25)).alloc (.cells #[.int .i64 0, .slice none 0 0, .slice none 0 0] 29)).alloc (.cells #[.int .i64 0, .int .i64 0, .slice none 0 0] 25) := ⟨_, rfl⟩
  have he : Ext w wo := by rw [hwo]; exact ((Ext.alloc _ _).trans (Ext.alloc _ _)).trans (Ext.alloc _ _)
  have b0 : Blk wo w.heap.size #[.int .i64 0, .int .i64 0, .slice none 0 0] 25 := by rw [hwo]; exact Ext.blk ((Ext.alloc _ _).trans (Ext.alloc _ _))
  have b1 : Blk wo (w.heap.size + 1) #[.int .i64 0, .slice none 0 0, .slice none 0 0] 29 := by rw [hwo]; exact Ext.blk1 (Ext.alloc _ _)
  have b2 : Blk wo (w.heap.size + 1 + 1) #[.int .i64 0, .int .i64 0, .slice none 0 0] 25 := by rw [hwo]; exact Ext.blk2 (Ext.refl _)
  have hso : wo.heap.size = w.heap.size + 3 := by rw [hwo]; simp
  go_enter Tryz.func55, Tryz.ntmps55
  go_wp2_with fail
  rw [← hwo]
  clear hwo
  refine (l19Open_t v l wo (hv.mono (fun b o x _ h => he.cell h) he.size) hl).mono ?_
  rintro e w1 ⟨g, rfl, hgb, he1, hs1⟩
  have b0 := b0.ext he1
  have b1 := b1.ext he1
  have b2 := b2.ext he1
  go_wp2_with fail
  refine (l9Three_t hs1 (by omega)).mono ?_
  rintro e w2 ⟨r, D2, rfl, hi2, hs2, ht2, s, p, t, rfl, hS, hP, hT⟩
  obtain ⟨al1, st1, n1, a1, c1, rfl, hn1, hE1⟩ := hS.boxed
  obtain ⟨al2, n2, m2, aN, cN, aA, cA, rfl, hn2, hm2, hN, hA⟩ := hP.boxed
  obtain ⟨al3, st3, n3, a3, c3, rfl, hn3, hE3⟩ := hT.boxed
  have b0 := b0.tr ht2 (fun h => h) (by omega)
  have b1 := b1.tr ht2 (fun h => h) (by omega)
  have b2 := b2.tr ht2 (fun h => h) (by omega)
  go_wp2_with fail
  have hx3 : Ext w2 (((w2.alloc (.cells #[.int .i64 al1, .int .i64 st1, .slice a1 n1 c1] 25)).alloc (.cells #[.int .i64 al2, .slice aN n2 cN, .slice aA m2 cA] 29)).alloc (.cells #[.int .i64 al3, .int .i64 st3, .slice a3 n3 c3] 25)) := ((Ext.alloc _ _).trans (Ext.alloc _ _)).trans (Ext.alloc _ _)
  generalize ((w2.alloc (.cells #[.int .i64 al1, .int .i64 st1, .slice a1 n1 c1] 25)).alloc (.cells #[.int .i64 al2, .slice aN n2 cN, .slice aA m2 cA] 29)).alloc (.cells #[.int .i64 al3, .int .i64 st3, .slice a3 n3 c3] 25) = w3 at hx3 ⊢
  have hx4 := Tr.ext hs2 hx3
  have b0 := b0.ext hx3
  have b1 := b1.ext hx3
  have b2 := b2.ext hx3
  refine (l9Spoil_t _ _ _ ⟨_, _, _, n1, rfl, hn1, hE1.tr' (Inc.refl _ _) hx4⟩ ⟨_, _, _, n2, m2, rfl, hn2, hm2, hN.tr' (Inc.refl _ _) hx4, hA.tr' (Inc.refl _ _) hx4⟩ ⟨_, _, _, n3, rfl, hn3, hE3.tr' (Inc.refl _ _) hx4⟩ (hs2.ext hx3) (by omega)).mono ?_
  have hn0 : ∀ b, D2 b → w.heap.size + 3 ≤ b := fun b hb => by have := (hs2.dom b hb).1; omega
  have h4w : Below w.heap.size w w3 := Below.trans (he.trans he1) (Below.trans (ht2.tnd.below (lo := w.heap.size) (by have := he.size; have := he1.size; omega) (fun b hb => by rcases hb with hb | hb; exact hb.elim; omega)) (hx3.mono (by have := he.size; have := he1.size; have := ht2.size; omega)))
  clear hE1 hN hA hE3 hx4 hS hP hT
  rintro e w4 ⟨r, D4, rfl, hi4, hs4, ht4, h3⟩
  have h3' := h3
  obtain ⟨s, p, t, rfl, hS, hP, hT⟩ := h3
  obtain ⟨al1, st1, n1, a1, c1, rfl, hn1, hE1⟩ := hS.boxed
  obtain ⟨al2, n2, m2, aN, cN, aA, cA, rfl, hn2, hm2, hN, hA⟩ := hP.boxed
  obtain ⟨al3, st3, n3, a3, c3, rfl, hn3, hE3⟩ := hT.boxed
  have b0 := b0.tr ht4 (fun h => by have := hn0 _ h; omega) (by omega)
  have b1 := b1.tr ht4 (fun h => by have := hn0 _ h; omega) (by omega)
  have b2 := b2.tr ht4 (fun h => by have := hn0 _ h; omega) (by omega)
  have pc0 := b0.cell 0 rfl; have pf0 := b0.fr 0; have pc1 := b0.cell 1 rfl; have pf1 := b0.fr 1; have pc2 := b0.cell 2 rfl; have pf2 := b0.fr 2
  have qc0 := b1.cell 0 rfl; have qf0 := b1.fr 0; have qc1 := b1.cell 1 rfl; have qf1 := b1.fr 1; have qc2 := b1.cell 2 rfl; have qf2 := b1.fr 2
  have rc0 := b2.cell 0 rfl; have rf0 := b2.fr 0; have rc1 := b2.cell 1 rfl; have rf1 := b2.fr 1; have rc2 := b2.cell 2 rfl; have rf2 := b2.fr 2
  go_wp2_with fail
  have y4 : Tnd (fun b => w.heap.size ≤ b ∧ b < w.heap.size + 3) w4 _ := ((Tnd.set3 (b := w.heap.size) (by omega) (.int .i64 al1) (.int .i64 st1) (.slice a1 n1 c1)).trans (Tnd.set3 (b := w.heap.size + 1) (by omega) (.int .i64 al2) (.slice aN n2 cN) (.slice aA m2 cA))).trans (Tnd.set3 (b := w.heap.size + 1 + 1) (by omega) (.int .i64 al3) (.int .i64 st3) (.slice a3 n3 c3))
  refine bodyPost_ret (v := .tuple #[.agg #[.int .i64 al1, .int .i64 st1, .slice a1 n1 c1], .agg #[.int .i64 al2, .slice aN n2 cN, .slice aA m2 cA], .agg #[.int .i64 al3, .int .i64 st3, .slice a3 n3 c3]]) (by simp [results, Tryz.results55, go_sem, pc0, pc1, pc2, qc0, qc1, qc2, rc0, rc1, rc2, pf0, pf1, pf2, qf0, qf1, qf2, rf0, rf1, rf2]) rfl ?_
  refine Drew.fin (h4w.trans (ht4.tnd.below h4w.size fun b hb => ?_)) (fun b hb => by have := (hs4.dom b hb).1; omega) hs4.typ h3' y4
  rcases hb with hb | hb
  · have := hn0 b hb; omega
  · omega

theorem DrawTaskOf_t (v : Value) (l : List UInt8) (w : World) (hv : BytesV w v l) (hl : l.length ≤ 1048576) :
    Calls Tryz.prog 18 #[v] w (Drew 20200 w ThreeT) := by
  obtain ⟨wo, hwo⟩ : ∃ wo, wo = ((w.alloc (.cells #[.int .i64 0, .int .i64 0, .slice none 0 0] 25)).alloc (.cells #[.int .i64 0, .slice none 0 0, .slice none 0 0] 29)).alloc (.cells #[.int .i64 0, .int .i64 0, .slice none 0 0] 25) := ⟨_, rfl⟩
  have he : Ext w wo := by rw [hwo]; exact ((Ext.alloc _ _).trans (Ext.alloc _ _)).trans (Ext.alloc _ _)
  have b0 : Blk wo w.heap.size #[.int .i64 0, .int .i64 0, .slice none 0 0] 25 := by rw [hwo]; exact Ext.blk ((Ext.alloc _ _).trans (Ext.alloc _ _))
  have b1 : Blk wo (w.heap.size + 1) #[.int .i64 0, .slice none 0 0, .slice none 0 0] 29 := by rw [hwo]; exact Ext.blk1 (Ext.alloc _ _)
  have b2 : Blk wo (w.heap.size + 1 + 1) #[.int .i64 0, .int .i64 0, .slice none 0 0] 25 := by rw [hwo]; exact Ext.blk2 (Ext.refl _)
  have hso : wo.heap.size = w.heap.size + 3 := by rw [hwo]; simp
  go_enter Tryz.func18, Tryz.ntmps18
  go_wp2_with fail
  rw [← hwo]
  clear hwo
  refine (DrawInterfaceOf_t v l wo (hv.mono (fun b o x _ h => he.cell h) he.size) hl).mono ?_
  rintro e w4 ⟨r, D4, rfl, he4, hd4, hT4, h3⟩
  have h3' := h3
  obtain ⟨s, p, t, rfl, hS, hP, hT⟩ := h3
  obtain ⟨al1, st1, n1, a1, c1, rfl, hn1, hE1⟩ := hS.boxed
  obtain ⟨al2, n2, m2, aN, cN, aA, cA, rfl, hn2, hm2, hN, hA⟩ := hP.boxed
  obtain ⟨al3, st3, n3, a3, c3, rfl, hn3, hE3⟩ := hT.boxed
  have b0 := b0.ext he4
  have b1 := b1.ext he4
  have b2 := b2.ext he4
  have pc0 := b0.cell 0 rfl; have pf0 := b0.fr 0; have pc1 := b0.cell 1 rfl; have pf1 := b0.fr 1; have pc2 := b0.cell 2 rfl; have pf2 := b0.fr 2
  have qc0 := b1.cell 0 rfl; have qf0 := b1.fr 0; have qc1 := b1.cell 1 rfl; have qf1 := b1.fr 1; have qc2 := b1.cell 2 rfl; have qf2 := b1.fr 2
  have rc0 := b2.cell 0 rfl; have rf0 := b2.fr 0; have rc1 := b2.cell 1 rfl; have rf1 := b2.fr 1; have rc2 := b2.cell 2 rfl; have rf2 := b2.fr 2
  go_wp2_with fail
  have y4 : Tnd (fun b => w.heap.size ≤ b ∧ b < w.heap.size + 3) w4 _ := ((Tnd.set3 (b := w.heap.size) (by omega) (.int .i64 al1) (.int .i64 st1) (.slice a1 n1 c1)).trans (Tnd.set3 (b := w.heap.size + 1) (by omega) (.int .i64 al2) (.slice aN n2 cN) (.slice aA m2 cA))).trans (Tnd.set3 (b := w.heap.size + 1 + 1) (by omega) (.int .i64 al3) (.int .i64 st3) (.slice a3 n3 c3))
  refine bodyPost_ret (v := .tuple #[.agg #[.int .i64 al1, .int .i64 st1, .slice a1 n1 c1], .agg #[.int .i64 al2, .slice aN n2 cN, .slice aA m2 cA], .agg #[.int .i64 al3, .int .i64 st3, .slice a3 n3 c3]]) (by simp [results, Tryz.results18, go_sem, pc0, pc1, pc2, qc0, qc1, qc2, rc0, rc1, rc2, pf0, pf1, pf2, qf0, qf1, qf2, rf0, rf1, rf2]) rfl ?_
  exact Drew.fin (he.trans he4) (fun b hb => by have := hd4 b hb; omega) hT4 h3' y4
end Go.Proofs.YtajafdblmphglaaGreatDoor
