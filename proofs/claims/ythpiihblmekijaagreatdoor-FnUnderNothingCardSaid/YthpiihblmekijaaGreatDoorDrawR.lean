/- Draws, typed: parts. -/
import Derived.Test.YthpiihblmekijaaGreatDoorDrawQ
import Derived.Test.YthpiihblmekijaaGreatDoorWalkV
import Derived.Deep.RegionHeld3
import Derived.Deep.CutBlock
import Derived.Deep.DeepCutAuto
namespace Go.Proofs.YthpiihblmekijaaGreatDoor
set_option linter.unusedSimpArgs false
set_option linter.unusedVariables false
open Go.RowKit
set_option maxHeartbeats 1000000
set_option maxRecDepth 100000
attribute [local go_sem ↓] Go.wp_at_zero Go.wp_at_succ

variable {D D' D'' : Nat → Prop} {g q q' : Nat} {w w' : World}

theorem kin_sys {al st : Int} {ve : Value} {n : Nat} (h : SlOk D w 62 3 ve n) (hn : n ≤ q) : Kin D q w 25 [.int .i64 al, .int .i64 st, ve] := fun i u hu => by
  match i, hu with
  | 0, hu => exact ⟨.int, rfl, al, by simpa using hu.symm⟩
  | 1, hu => exact ⟨.int, rfl, st, by simpa using hu.symm⟩
  | 2, hu => exact ⟨.sl 62 3, rfl, n, hn, by simp at hu; subst hu; exact h⟩
  | i + 3, hu => simp at hu
theorem zk_sys : ∀ (D : Nat → Prop) q w, Kin D q w 25 (Value.agg #[.int .i64 0, .int .i64 0, .slice none 0 0]).cells.toList := fun D q w => by
  show Kin D q w 25 [.int .i64 0, .int .i64 0, .slice none 0 0]
  exact kin_sys SlOk.nil (Nat.zero_le _)

/-- Systems, as a typed slice. -/
def SyssT (k : Nat) (D : Nat → Prop) (_ : Nat) (w : World) (v : Value) : Prop := ∃ n, n ≤ k ∧ SlOk D w 25 3 v n
def SyssT1 (k : Nat) (D : Nat → Prop) (_ : Nat) (w : World) (v : Value) : Prop := ∃ n, 1 ≤ n ∧ n ≤ k ∧ SlOk D w 25 3 v n



theorem l7Draw_t (h : St D g q w) (hq : q + 26000 ≤ 1000000) :
    Calls Tryz.prog 120 #[.pointer (some ⟨g, 0, none⟩)] w (Drawn D g q 26000 w (SyssT1 3)) := by
  have hg := h.g_lt
  have hd := fun x hx => (h.dom x hx).2
  have N0 := (Bare.new h)
  obtain ⟨iL, sL, tL, hL⟩ := SlOk.lit h 25 3
  have N0 := N0.drawn (c' := 0) iL tL sL
  have hNw := tL.size
  clear iL sL tL
  go_enter Tryz.func120, Tryz.ntmps120
  go_wp2_with fail
  have hb1 : w.heap.size + 1 = (w.alloc (.cells #[] 25)).heap.size := by simp
  generalize w.alloc (.cells #[] 25) = w1 at N0 hL hNw hb1 ⊢
  refine (num_t [2, 2, 3, 1] hb1 N0.st (by omega) (by decide) (by decide)).mono ?_
  rintro e w2 ⟨x, hx, rfl, hs2, hk2⟩
  have hx1 : 1 ≤ x := (show ∀ y ∈ [2, 2, 3, (1 : Int)], 1 ≤ y by decide) x hx
  obtain ⟨m, rfl, hm⟩ := nat_of_mem (B := 3) hx (by decide)
  have hL := hL.tr' (Inc.refl _ _) (Tr.kept N0.st hk2)
  have N0 := N0.kept hk2 (c' := 1) hs2
  clear hs2 hk2 hx hb1
  go_wp2_with fail
  go_loopw [3, 4] (fun vl i wr => ∃ (k j : Nat) (D' : Nat → Prop), k + j = m ∧ i = .int .i64 j ∧ Bare D g q w (1 + k * 8605) wr D' ∧ SlOk D' wr 25 3 vl k) (fun _ i _ => (intOf i).toNat)
  case atStart => exact ⟨0, m, _, by omega, rfl, N0.up (by omega), hL⟩
  case round =>
    clear N0 hL
    obtain ⟨k, j, D1, hkj, rfl, N1, hL⟩ := hrel
    obtain ⟨aL, cL, rfl⟩ := hL.shape
    by_cases hj : 0 < j
    · go_wp2_with fail
      refine (l2Small_t N1.st (by omega)).mono ?_
      rintro e w3 ⟨v3, D3, rfl, hi3, hs3, ht3, hS3⟩
      obtain ⟨al1, st1, n1, a1, c1, rfl, hn1, hE1⟩ := hS3.sysT.boxed
      have hL := hL.tr' hi3 ht3
      have N3 := N1.drawn (c' := 1 + k * 8605 + 4003) hi3 ht3 (hs3.up (by omega))
      have hgw : g < w3.heap.size := N3.st.g_lt
      have hww : w.heap.size ≤ w3.heap.size := N3.tr.size
      clear hs3 ht3 hi3 hS3 N1
      have B5 := N3.box #[.int .i64 al1, .int .i64 st1, .slice a1 n1 c1] 25
      have hL := hL.tr' (Inc.refl _ _) (Tr.ext N3.st (Ext.alloc w3 (.cells #[.int .i64 al1, .int .i64 st1, .slice a1 n1 c1] 25)))
      have hE1 := hE1.tr' (Inc.refl _ _) (Tr.ext N3.st (Ext.alloc w3 (.cells #[.int .i64 al1, .int .i64 st1, .slice a1 n1 c1] 25)))
      clear N3
      go_wp2_with fail
      generalize w3.alloc (.cells #[.int .i64 al1, .int .i64 st1, .slice a1 n1 c1] 25) = w4 at B5 hL hE1 ⊢
      generalize w3.heap.size = G at B5 hgw hww ⊢
      refine (pick_t 3 B5.st (by omega) (by omega)).mono ?_
      rintro e w5 ⟨x, rfl, -, -, hs5, hk5⟩
      have hL := hL.tr' (Inc.refl _ _) (Tr.kept B5.st hk5)
      have hE1 := hE1.tr' (Inc.refl _ _) (Tr.kept B5.st hk5)
      have B5 := B5.kept hgw hk5 (c' := 1 + k * 8605 + 4004) (hs5.up (by omega))
      clear hs5 hk5
      go_upto_if 18 with fail
      go_cut [] (fun wc => ∃ (D' : Nat → Prop) (al1 st1 : Int) (n1 : Nat) (a1 : Option Addr) (c1 : Nat), Box D g q w G (1 + k * 8605 + 8604) #[.int .i64 al1, .int .i64 st1, .slice a1 n1 c1] 25 wc D' ∧ SlOk D' wc 25 3 (.slice aL k cL) k ∧ SlOk D' wc 62 3 (.slice a1 n1 c1) n1 ∧ n1 ≤ q + (1 + k * 8605 + 8604))
      case first =>
        by_cases hx : x = 0
        · subst hx
          go_wp2_with fail
          refine (l2Draw_t B5.st (by omega)).mono ?_
          rintro e w6 ⟨v6, D6, rfl, hi6, hs6, ht6, hS6⟩
          obtain ⟨al3, st3, n3, a3, c3, rfl, hn3, hE3⟩ := hS6.boxed
          have hL := hL.tr' hi6 ht6
          have B5 := B5.drawn hgw hi6 ht6 (c' := 1 + k * 8605 + 8604) (hs6.up (by omega))
          clear hs6 ht6 hi6 hS6
          have gc0 := B5.blk.cell 0 rfl; have gf0 := B5.blk.fr 0; have gc1 := B5.blk.cell 1 rfl; have gf1 := B5.blk.fr 1; have gc2 := B5.blk.cell 2 rfl; have gf2 := B5.blk.fr 2
          go_wp2_with fail
          have o := B5.out
          go_meet
          case rel => exact ⟨_, _, _, _, _, _, B5.set3 hgw hd hww _ _ _, hL.box3 o _ _ _, hE3.box3 o _ _ _, by omega⟩
        · have hx' : ((x : Int) == 0) = false := beq_eq_false_iff_ne.2 (by omega)
          go_wp2_with fail
          go_meet
          case rel => exact ⟨_, _, _, _, _, _, B5.up (by omega), hL, hE1, by omega⟩
      case rest =>
        clear B5 hL hE1
        obtain ⟨D7, al1, st1, n1, a1, c1, B5, hL, hE1, hn1⟩ := hcut
        have gc0 := B5.blk.cell 0 rfl; have gf0 := B5.blk.fr 0; have gc1 := B5.blk.cell 1 rfl; have gf1 := B5.blk.fr 1; have gc2 := B5.blk.cell 2 rfl; have gf2 := B5.blk.fr 2
        go_wp2_with (at_builtin; refine app1_t (q + (1 + k * 8605 + 8605)) rfl rfl Tryz.underlying38 infoSys rfl (by decide) per_sys zk_sys B5.st hL rfl rfl rfl (by simp [Value.oneCell']) (kin_sys hE1 hn1) (by omega) (by decide) (by omega) ?_; intro v1 w7 D8 hi7 hs7 ht7 hL7; obtain ⟨a7, c7, rfl⟩ := hL7.shape; have N7 := B5.bare.drawn (c' := 1 + k * 8605 + 8605) hi7 ht7 hs7)
        exact ⟨⟨k + 1, j - 1, D8, by omega, by go_num, N7.up (by omega), hL7⟩, by simp [intOf]; omega⟩
    · have hj0 : j = 0 := by omega
      subst hj0
      go_wp2_with fail
      go_ret
      exact ⟨_, D1, rfl, N1.inc, N1.st.up (by omega), N1.tr, k, by omega, by omega, hL⟩

/-- A system of a typed slice of systems, and a store there. -/
theorem SlOk.sys_at {n i : Nat} {v : Value} (hs : SlOk D w 25 3 v n) (h : St D g q w) (hi : i < n) :
    ∃ b cap al st a1 n1 c1, v = .slice (some ⟨b, 0, none⟩) n cap ∧ w.cell? ⟨b, i * 3, none⟩ = some (.int .i64 al) ∧ w.cell? ⟨b, i * 3 + 1, none⟩ = some (.int .i64 st) ∧ w.cell? ⟨b, i * 3 + 2, none⟩ = some (.slice a1 n1 c1) ∧ n1 ≤ q ∧ SlOk D w 62 3 (.slice a1 n1 c1) n1 ∧
      (∀ j, w.frozen? ⟨b, i * 3 + j, none⟩ = false) ∧ ∀ (al' st' : Int) (ve' : Value) (m : Nat), m ≤ q → SlOk D w 62 3 ve' m →
        St D g q (((w.setCell ⟨b, i * 3, none⟩ (.int .i64 al')).setCell ⟨b, i * 3 + 1, none⟩ (.int .i64 st')).setCell ⟨b, i * 3 + 2, none⟩ ve') ∧ Tr D g w (((w.setCell ⟨b, i * 3, none⟩ (.int .i64 al')).setCell ⟨b, i * 3 + 1, none⟩ (.int .i64 st')).setCell ⟨b, i * 3 + 2, none⟩ ve') := by
  obtain ⟨b, cap, cs, u0, k0, rfl, hb, hh, h0, hf0, hk0, hc0⟩ := hs.at h.typ hi (j := 0) (by omega)
  obtain ⟨b1, cap1, cs1, u1, k1, hv1, hb1, hh1, h1, hf1, hk1, hc1⟩ := hs.at h.typ hi (j := 1) (by omega)
  cases hv1
  obtain ⟨b2, cap2, cs2, u2, k2, hv2, hb2, hh2, h2, hf2, hk2, hc2⟩ := hs.at h.typ hi (j := 2) (by omega)
  cases hv2
  have e0 : ck 25 (i * 3 + 0) = some .int := per_sys i 0
  have e1 : ck 25 (i * 3 + 1) = some .int := per_sys i 1
  have e2 : ck 25 (i * 3 + 2) = some (.sl 62 3) := per_sys i 2
  rw [e0] at hk0; rw [e1] at hk1; rw [e2] at hk2
  cases hk0; cases hk1; cases hk2
  obtain ⟨al, rfl⟩ := hc0
  obtain ⟨st, rfl⟩ := hc1
  obtain ⟨n1, hn1, hE1⟩ := hc2
  obtain ⟨a1, c1, rfl⟩ := hE1.shape
  have hB : Blk w b cs 25 := hh
  refine ⟨b, cap, al, st, a1, n1, c1, rfl, by simpa using h0, h1, h2, hn1, hE1, fun j => hB.fr _, fun al' st' ve' m hm hE' => ?_⟩
  obtain ⟨s1, t1⟩ := h.set (k := .int) (u := .int .i64 al') hb hh e0 ⟨al', rfl⟩
  have B1 : Blk _ b _ 25 := hB.set (i * 3) (.int .i64 al')
  obtain ⟨s2, t2⟩ := s1.set (k := .int) (u := .int .i64 st') hb B1 e1 ⟨st', rfl⟩
  have B2 := B1.set (i * 3 + 1) (.int .i64 st')
  have t12 := t1.trans (Inc.refl _ _) t2
  obtain ⟨s3, t3⟩ := s2.set (k := .sl 62 3) (u := ve') hb B2 e2 ⟨m, hm, hE'.tr (fun _ h => h) t12.shp⟩
  exact ⟨s3, t12.trans (Inc.refl _ _) t3⟩
/-- A typed slice of systems reads as some systems. -/
theorem SlOk.syss {n : Nat} {v : Value} (hs : SlOk D w 25 3 v n) (h : St D g q w) : ∃ l : List Sys, l.length = n ∧ SyssV w v l ∧ ∀ s ∈ l, s.edges.length ≤ q := by
  rcases hs with ⟨rfl, rfl⟩ | ⟨b, cap, cs, rfl, hb, hh, h1, h2, h3⟩
  · exact ⟨[], rfl, ⟨none, 0, rfl, by simp, by simp, fun h => by simp at h⟩, fun s hs => by cases hs⟩
  · obtain ⟨l, h4, h5⟩ := exists_list n (fun i (x : Sys) => SysAt w b (0 + i * 3) x ∧ x.edges.length ≤ q) fun i hi => by
      have hs : SlOk D w 25 3 (.slice (some ⟨b, 0, none⟩) n cap) n := .inr ⟨b, cap, cs, rfl, hb, hh, h1, h2, h3⟩
      obtain ⟨b', cap', al, st, a1, n1, c1, hv, g0, g1, g2, hn1, hE, -⟩ := hs.sys_at h hi
      cases hv
      obtain ⟨es, rfl, he⟩ := hE.edges h.typ
      exact ⟨⟨al, st, es⟩, by rw [Nat.zero_add]; exact ⟨_, g0, g1, g2, he⟩, hn1⟩
    subst h4
    refine ⟨l, rfl, ⟨_, cap, rfl, h1, h2, fun _ => ⟨b, 0, rfl, (Array.getElem?_eq_some_iff.1 hh).1, fun i x hx => (h5 i x hx).1⟩⟩, fun s hs => ?_⟩
    obtain ⟨i, hi⟩ := List.getElem?_of_mem hs
    exact (h5 i s hi).2
end Go.Proofs.YthpiihblmekijaaGreatDoor
