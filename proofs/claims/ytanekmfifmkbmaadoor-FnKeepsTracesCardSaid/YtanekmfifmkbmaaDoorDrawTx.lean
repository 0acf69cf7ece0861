/- Part of this seat's proofs, cut to what its law needs. -/

import Derived.Test.YtanekmfifmkbmaaDoorDrawTw
namespace Go.Proofs.YtanekmfifmkbmaaDoor
set_option linter.unusedSimpArgs false
set_option linter.unusedVariables false
open Go.RowKit
set_option maxHeartbeats 1500000
set_option maxRecDepth 100000
attribute [local go_sem ↓] Go.wp_at_zero Go.wp_at_succ

variable {D D' D'' : Nat → Prop} {g q q' : Nat} {w w' : World}

theorem SlOk.short {e : TypeId} {sz n m c : Nat} {a : Option Addr} (h : SlOk D w e sz (.slice a n c) n) (hm : m ≤ n) : SlOk D w e sz (.slice a m c) m := by
  rcases h with ⟨e1, rfl⟩ | ⟨b, cap, cs, e1, hb, hh, hnc, hcm, hcs⟩
  · cases e1
    obtain rfl : m = 0 := by omega
    exact SlOk.nil
  · cases e1
    exact .inr ⟨b, _, cs, rfl, hb, hh, by omega, hcm, hcs⟩
theorem SlOk.capS {e : TypeId} {sz n c : Nat} {a : Option Addr} (h : SlOk D w e sz (.slice a n c) n) : n ≤ c := by
  rcases h with ⟨e1, rfl⟩ | ⟨b, cap, cs, e1, hb, hh, hnc, hcm, hcs⟩
  · omega
  · cases e1; exact hnc
theorem num_b (l : List Int) {b : Nat} (h : St D g q w) (hB : Blk w b (l.map (Value.int .i64)).toArray 3) (hbg : g < b) (hq : q + 1 ≤ 1000000) (h0 : 0 < l.length) (hl : l.length ≤ 100) :
    Calls Tryd.prog 34 #[.pointer (some ⟨g, 0, none⟩), .slice (some ⟨b, 0, none⟩) l.length l.length] w
      (fun e w' => ∃ x ∈ l, e = .returned (.int .i64 x) ∧ St D g (q + 1) w' ∧ Kept g w w') := by
  obtain ⟨p, hp, hr⟩ := h.rd
  have hv : IntsV w (.slice (some ⟨b, 0, none⟩) l.length l.length) l :=
    ⟨_, _, rfl, Nat.le_refl _, by unfold maxLen; omega, fun _ => ⟨b, 0, rfl, hB.lt, fun i x hx => by
      unfold IntAt
      refine hB.cell _ ?_
      simp [hx]⟩⟩
  refine (num_c g p _ l _ hr (by omega) hv (fun b off c hv => by cases hv; omega) h0 (by omega)).mono ?_
  rintro e w' ⟨x, hx, rfl, h1, h2⟩
  exact ⟨x, hx, rfl, h.asked h2 h1 (by omega) (by omega), h2⟩

def NumE (D : Nat → Prop) (g q : Nat) (l : List Int) (w : World) (e : Ending) (w' : World) : Prop := ∃ x ∈ l, e = .returned (.int .i64 x) ∧ St D g q w' ∧ Kept g w w'
def TwoS (D : Nat → Prop) (q : Nat) (w : World) (v : Value) : Prop := ∃ s p, v = .tuple #[s, p] ∧ SysT D q w s ∧ SysT D q w p
def L6P (D : Nat → Prop) (g q : Nat) (w : World) (G4 G5 c : Nat) (wc : World) : Prop :=
  ∃ (D' : Nat → Prop) (al1 st1 : Int) (n1 : Nat) (a1 : Option Addr) (c1 : Nat) (al2 st2 : Int) (n2 : Nat) (a2 : Option Addr) (c2 : Nat),
    Box D g q w w.heap.size c #[.int .i64 0, .int .i64 0, .slice none 0 0] 25 wc D' ∧ Box D g q w (w.heap.size + 1) c #[.int .i64 0, .int .i64 0, .slice none 0 0] 25 wc D' ∧
    Box D g q w G4 c #[.int .i64 al1, .int .i64 st1, .slice a1 n1 c1] 25 wc D' ∧ Box D g q w G5 c #[.int .i64 al2, .int .i64 st2, .slice a2 n2 c2] 25 wc D' ∧
    SlOk D' wc 85 3 (.slice a1 n1 c1) n1 ∧ SlOk D' wc 85 3 (.slice a2 n2 c2) n2 ∧ n1 ≤ q + c ∧ n2 ≤ q + c

set_option maxHeartbeats 3000000 in
theorem l6Pair_t (h : St D g q w) (hq : q + 13400 ≤ 1000000) :
    Calls Tryd.prog 18 #[.pointer (some ⟨g, 0, none⟩)] w (Drawn D g q 13400 w TwoS) := by
  have hg := h.g_lt
  have hd := fun x hx => (h.dom x hx).2
  obtain ⟨wo, hwo⟩ : ∃ wo, wo = (w.alloc (.cells #[.int .i64 0, .int .i64 0, .slice none 0 0] 25)).alloc (.cells #[.int .i64 0, .int .i64 0, .slice none 0 0] 25) := ⟨_, rfl⟩
  have he : Ext w wo := by rw [hwo]; exact (Ext.alloc _ _).trans (Ext.alloc _ _)
  have B0 : Box D g q w w.heap.size 0 #[.int .i64 0, .int .i64 0, .slice none 0 0] 25 wo D := ⟨Inc.refl _ _, h.ext he, Tr.ext h he, by rw [hwo]; exact Ext.blk (Ext.alloc _ _), h.out (by omega)⟩
  have B1 : Box D g q w (w.heap.size + 1) 0 #[.int .i64 0, .int .i64 0, .slice none 0 0] 25 wo D := ⟨Inc.refl _ _, h.ext he, Tr.ext h he, by rw [hwo]; exact Ext.blk1 (Ext.refl _), h.out (by omega)⟩
  have hso : w.heap.size + 2 ≤ wo.heap.size := by rw [hwo]; simp
  go_enter Tryd.func18, Tryd.ntmps18
  go_wp2_with fail
  rw [← hwo]
  clear hwo
  refine (l2Draw_t B0.st (by omega)).mono ?_
  rintro e w1 ⟨v1, D1, rfl, hi1, hs1, ht1, hS1⟩
  obtain ⟨al1, st1, n1, a1, c1, rfl, hn1, hE1⟩ := hS1.boxed
  have B0 := B0.drawn (by omega) hi1 ht1 (c' := 4600) (hs1.up (by omega))
  have B1 := B1.drawn (by omega) hi1 ht1 (c' := 4600) (hs1.up (by omega))
  have hsz := ht1.size
  clear hs1 ht1 hi1 he hS1
  have heB4 := Ext.alloc w1 (.cells #[.int .i64 al1, .int .i64 st1, .slice a1 n1 c1] 25)
  have B4 : Box D g q w w1.heap.size _ #[.int .i64 al1, .int .i64 st1, .slice a1 n1 c1] 25 _ _ := ⟨B0.inc, (B0.ext heB4).st, (B0.ext heB4).tr, Blk.new _ _ _, B0.st.out (Nat.le_refl _)⟩
  have hE1 := hE1.tr' (Inc.refl _ _) (Tr.ext B0.st heB4)
  have B0 := B0.ext heB4
  have B1 := B1.ext heB4
  have gc0 := B4.blk.cell 0 rfl; have gc1 := B4.blk.cell 1 rfl; have gc2 := B4.blk.cell 2 rfl
  go_wp2_with fail
  clear gc0 gc1 gc2
  generalize w1.alloc (.cells #[.int .i64 al1, .int .i64 st1, .slice a1 n1 c1] 25) = w2 at B0 B1 B4 hE1 ⊢
  generalize w1.heap.size = G4 at B4 hsz ⊢
  refine (l6Change_t _ ⟨_, _, _, n1, rfl, by omega, hE1⟩ B0.st (by omega)).mono ?_
  rintro e w3 ⟨v3, D3, rfl, hi3, hs3, ht3, hS3⟩
  obtain ⟨al2, st2, n2, a2, c2, rfl, hn2, hE2⟩ := hS3.boxed
  have hsz3 : G4 < w3.heap.size := Nat.lt_of_lt_of_le B4.blk.lt ht3.size
  have hE1 := hE1.tr' hi3 ht3
  have B0 := B0.drawn (by omega) hi3 ht3 (c' := 4640) (hs3.up (by omega))
  have B1 := B1.drawn (by omega) hi3 ht3 (c' := 4640) (hs3.up (by omega))
  have B4 := B4.drawn (by omega) hi3 ht3 (c' := 4640) (hs3.up (by omega))
  clear hs3 ht3 hi3 hS3
  have heB5 := Ext.alloc w3 (.cells #[.int .i64 al2, .int .i64 st2, .slice a2 n2 c2] 25)
  have B5 : Box D g q w w3.heap.size _ #[.int .i64 al2, .int .i64 st2, .slice a2 n2 c2] 25 _ _ := ⟨B0.inc, (B0.ext heB5).st, (B0.ext heB5).tr, Blk.new _ _ _, B0.st.out (Nat.le_refl _)⟩
  have hE1 := hE1.tr' (Inc.refl _ _) (Tr.ext B0.st heB5)
  have hE2 := hE2.tr' (Inc.refl _ _) (Tr.ext B0.st heB5)
  have B0 := B0.ext heB5
  have B1 := B1.ext heB5
  have B4 := B4.ext heB5
  go_wp2_with fail
  generalize w3.alloc (.cells #[.int .i64 al2, .int .i64 st2, .slice a2 n2 c2] 25) = w4 at B0 B1 B4 B5 hE1 hE2 ⊢
  generalize w3.heap.size = G5 at B5 hsz3 ⊢
  refine (pick_t 4 B0.st (by omega) (by omega)).mono ?_
  rintro e w5 ⟨x, rfl, -, -, hs5, hk5⟩
  have hE1 := hE1.tr' (Inc.refl _ _) (Tr.kept B0.st hk5)
  have hE2 := hE2.tr' (Inc.refl _ _) (Tr.kept B0.st hk5)
  have B0 := B0.kept (by omega) hk5 (c' := 4641) (hs5.up (by omega))
  have B1 := B1.kept (by omega) hk5 (c' := 4641) (hs5.up (by omega))
  have B4 := B4.kept (by omega) hk5 (c' := 4641) (hs5.up (by omega))
  have B5 := B5.kept (by omega) hk5 (c' := 4641) (hs5.up (by omega))
  clear hs5 hk5
  go_upto_block 0 with fail
  go_cut [] (fun wc => L6P D g q w G4 G5 8700 wc)
  case first =>
    have hx : x = 0 ∨ x = 1 ∨ 1 < x := by omega
    rcases hx with rfl | rfl | hx
    · go_upto_region 5 with fail
      have g0 := B4.blk.cell 0 rfl
      have hlt5 : G5 < w5.heap.size := B5.blk.lt
      have p1 := fun o => (Ext.alloc w5 o).cell g0
      have p2 := fun o o' => (Ext.alloc (w5.alloc o) o').cell (p1 o)
      have hBa : Blk ((w5.alloc (.cells #[.int .i64 2, .int .i64 3, .int .i64 1, .int .i64 4] 3)).alloc (.cells #[.int .i64 2, .int .i64 3] 3)).drew (w5.heap.size + 1) #[.int .i64 2, .int .i64 3] 3 := by have := (Blk.new (w5.alloc (.cells #[.int .i64 2, .int .i64 3, .int .i64 1, .int .i64 4] 3)) #[.int .i64 2, .int .i64 3] 3).ext (Ext.drew _); rwa [World.size_alloc] at this
      have hBb : Blk ((w5.alloc (.cells #[.int .i64 2, .int .i64 3] 3)).alloc (.cells #[.int .i64 2, .int .i64 3, .int .i64 1, .int .i64 4] 3)).drew (w5.heap.size + 1) #[.int .i64 2, .int .i64 3, .int .i64 1, .int .i64 4] 3 := by have := (Blk.new (w5.alloc (.cells #[.int .i64 2, .int .i64 3] 3)) #[.int .i64 2, .int .i64 3, .int .i64 1, .int .i64 4] 3).ext (Ext.drew _); rwa [World.size_alloc] at this
      have hBc : Blk ((w5.alloc (.cells #[.int .i64 2, .int .i64 3] 3)).alloc (.cells #[.int .i64 2, .int .i64 3, .int .i64 1, .int .i64 4] 3)).drew w5.heap.size #[.int .i64 2, .int .i64 3] 3 := (Blk.new w5 #[.int .i64 2, .int .i64 3] 3).ext ((Ext.alloc _ _).trans (Ext.drew _))
      have C1 : Calls Tryd.prog 34 #[.pointer (some ⟨g, 0, none⟩), .slice (some ⟨w5.heap.size, 0, none⟩) 4 4] (w5.alloc (.cells #[.int .i64 2, .int .i64 3, .int .i64 1, .int .i64 4] 3)).drew (NumE D3 g (q + 4642) [2, 3, 1, 4] (w5.alloc (.cells #[.int .i64 2, .int .i64 3, .int .i64 1, .int .i64 4] 3)).drew) := num_b [2, 3, 1, 4] (B0.st.ext ((Ext.alloc w5 _).trans (Ext.drew _))) ((Blk.new w5 _ _).ext (Ext.drew _)) (by omega) (by omega) (by decide) (by decide)
      have C2 : Calls Tryd.prog 34 #[.pointer (some ⟨g, 0, none⟩), .slice (some ⟨w5.heap.size, 0, none⟩) 4 4] ((w5.alloc (.cells #[.int .i64 2, .int .i64 3, .int .i64 1, .int .i64 4] 3)).alloc (.cells #[.int .i64 2, .int .i64 3] 3)).drew (NumE D3 g (q + 4642) [2, 3, 1, 4] ((w5.alloc (.cells #[.int .i64 2, .int .i64 3, .int .i64 1, .int .i64 4] 3)).alloc (.cells #[.int .i64 2, .int .i64 3] 3)).drew) := num_b [2, 3, 1, 4] (B0.st.ext (((Ext.alloc w5 _).trans (Ext.alloc _ _)).trans (Ext.drew _))) ((Blk.new w5 _ _).ext ((Ext.alloc _ _).trans (Ext.drew _))) (by omega) (by omega) (by decide) (by decide)
      have C3 : Calls Tryd.prog 34 #[.pointer (some ⟨g, 0, none⟩), .slice (some ⟨w5.heap.size + 1, 0, none⟩) 4 4] ((w5.alloc (.cells #[.int .i64 2, .int .i64 3] 3)).alloc (.cells #[.int .i64 2, .int .i64 3, .int .i64 1, .int .i64 4] 3)).drew (NumE D3 g (q + 4642) [2, 3, 1, 4] ((w5.alloc (.cells #[.int .i64 2, .int .i64 3] 3)).alloc (.cells #[.int .i64 2, .int .i64 3, .int .i64 1, .int .i64 4] 3)).drew) := num_b [2, 3, 1, 4] (B0.st.ext (((Ext.alloc w5 _).trans (Ext.alloc _ _)).trans (Ext.drew _))) hBb (by omega) (by omega) (by decide) (by decide)
      go_region_law (go_simp; go_wp2_with (first
        | (go_at_call 34; first
          | ((with_reducible refine C1.mono ?_); rintro e w6 ⟨x6, hx6, rfl, hs6, hk6⟩; have K6 : Kept g w5 w6 := (Tnd.ext ((Ext.alloc _ _).trans (Ext.drew _))).trans hk6; have C4 : Calls Tryd.prog 34 #[.pointer (some ⟨g, 0, none⟩), .slice (some ⟨w6.heap.size, 0, none⟩) 2 2] (w6.alloc (.cells #[.int .i64 2, .int .i64 3] 3)) (NumE D3 g (q + 4643) [2, 3] w6) := num_t [2, 3] rfl hs6 (by omega) (by decide) (by decide); obtain ⟨st, rfl, hst⟩ := nat_of_mem (B := 4) hx6 (by decide); have p6 := (B4.kept (by omega) K6 (c' := 4642) (hs6.up (by omega))).blk.cell 0 rfl; have pa6 := fun o => (Ext.alloc w6 o).cell p6)
          | ((with_reducible refine C2.mono ?_); rintro e w6 ⟨x6, hx6, rfl, hs6, hk6⟩; have K6 : Kept g w5 w6 := (Tnd.ext (((Ext.alloc _ _).trans (Ext.alloc _ _)).trans (Ext.drew _))).trans hk6; have C4 : Calls Tryd.prog 34 #[.pointer (some ⟨g, 0, none⟩), .slice (some ⟨w5.heap.size + 1, 0, none⟩) 2 2] w6 (NumE D3 g (q + 4643) [2, 3] w6) := num_b [2, 3] hs6 (hBa.kept hk6 (by omega)) (by omega) (by omega) (by decide) (by decide); obtain ⟨st, rfl, hst⟩ := nat_of_mem (B := 4) hx6 (by decide); have p6 := (B4.kept (by omega) K6 (c' := 4642) (hs6.up (by omega))).blk.cell 0 rfl; have pa6 := fun o => (Ext.alloc w6 o).cell p6)
          | ((with_reducible refine C3.mono ?_); rintro e w6 ⟨x6, hx6, rfl, hs6, hk6⟩; have K6 : Kept g w5 w6 := (Tnd.ext (((Ext.alloc _ _).trans (Ext.alloc _ _)).trans (Ext.drew _))).trans hk6; have C4 : Calls Tryd.prog 34 #[.pointer (some ⟨g, 0, none⟩), .slice (some ⟨w5.heap.size, 0, none⟩) 2 2] w6 (NumE D3 g (q + 4643) [2, 3] w6) := num_b [2, 3] hs6 (hBc.kept hk6 (by omega)) (by omega) (by omega) (by decide) (by decide); obtain ⟨st, rfl, hst⟩ := nat_of_mem (B := 4) hx6 (by decide); have p6 := (B4.kept (by omega) K6 (c' := 4642) (hs6.up (by omega))).blk.cell 0 rfl; have pa6 := fun o => (Ext.alloc w6 o).cell p6)
          | ((with_reducible refine C4.mono ?_); rintro e w7 ⟨x7, hx7, rfl, hs7, hk7⟩; have K7 : Kept g w6 w7 := hk7; obtain ⟨fw, rfl, hfw⟩ := nat_of_mem (B := 3) hx7 (by decide); have p7 := (B4.kept (by omega) (K6.trans K7) (c' := 4643) (hs7.up (by omega))).blk.cell 0 rfl; have CR := fun al' => l2Random_t (D := D3) al' fw st (by omega) (by omega) hs7 (by omega); have X5 := B5.kept (by omega) (K6.trans K7) (c' := 4643) (hs7.up (by omega))))
        | (go_at_call 51; (with_reducible refine (CR _).mono ?_); rintro e w8 ⟨v8, D8, rfl, hi8, hs8, ht8, ve, n8, rfl, hn8, hE8⟩; obtain ⟨a8, c8, rfl⟩ := hE8.shape; have X5 := X5.drawn (by omega) hi8 ht8 (c' := 8700) (hs8.up (by omega)); have gg0 := X5.blk.cell 0 rfl; have gf0 := X5.blk.fr 0; have gg1 := X5.blk.cell 1 rfl; have gf1 := X5.blk.fr 1; have gg2 := X5.blk.cell 2 rfl; have gf2 := X5.blk.fr 2)))
      all_goals
        have X0 := (B0.kept (by omega) (K6.trans K7) (c' := 4643) (hs7.up (by omega))).drawn (by omega) hi8 ht8 (c' := 8700) (hs8.up (by omega))
        have X1 := (B1.kept (by omega) (K6.trans K7) (c' := 4643) (hs7.up (by omega))).drawn (by omega) hi8 ht8 (c' := 8700) (hs8.up (by omega))
        have X4 := (B4.kept (by omega) (K6.trans K7) (c' := 4643) (hs7.up (by omega))).drawn (by omega) hi8 ht8 (c' := 8700) (hs8.up (by omega))
        have Y1 := (hE1.tr' (Inc.refl _ _) (Tr.kept B0.st (K6.trans K7))).tr' hi8 ht8
        go_wp2_with fail
        have o := X5.out
        go_meet
        case rel => exact ⟨_, _, _, _, _, _, _, _, _, _, _, X0.other3 (by omega) hd (by omega) (by omega) o _ _ _, X1.other3 (by omega) hd (by omega) (by omega) o _ _ _, X4.other3 (by omega) hd (by omega) (by omega) o _ _ _, X5.set3 (by omega) hd (by omega) _ _ _, Y1.box3 o _ _ _, hE8.box3 o _ _ _, by omega, by omega⟩
    · have gc0 := B5.blk.cell 0 rfl; have gf0 := B5.blk.fr 0; have gc1 := B5.blk.cell 1 rfl; have gf1 := B5.blk.fr 1; have gc2 := B5.blk.cell 2 rfl; have gf2 := B5.blk.fr 2
      go_wp2_with fail
      refine (l6Change_t _ ⟨_, _, _, n2, rfl, by omega, hE2⟩ B0.st (by omega)).mono ?_
      rintro e u1 ⟨v1, D1, rfl, hi1, hs1, ht1, hS1⟩
      have hE1 := hE1.tr' hi1 ht1
      have B0 := B0.drawn (by omega) hi1 ht1 (c' := 8700) (hs1.up (by omega))
      have B1 := B1.drawn (by omega) hi1 ht1 (c' := 8700) (hs1.up (by omega))
      have B4 := B4.drawn (by omega) hi1 ht1 (c' := 8700) (hs1.up (by omega))
      have B5 := B5.drawn (by omega) hi1 ht1 (c' := 8700) (hs1.up (by omega))
      obtain ⟨al3, st3, n3, a3, c3, rfl, hn3, hE3⟩ := hS1.boxed
      clear gc0 gc1 gc2 gf0 gf1 gf2
      have gc0 := B5.blk.cell 0 rfl; have gf0 := B5.blk.fr 0; have gc1 := B5.blk.cell 1 rfl; have gf1 := B5.blk.fr 1; have gc2 := B5.blk.cell 2 rfl; have gf2 := B5.blk.fr 2
      go_wp2_with fail
      have o := B5.out
      go_meet
      case rel => exact ⟨_, _, _, _, _, _, _, _, _, _, _, B0.other3 (by omega) hd (by omega) (by omega) o _ _ _, B1.other3 (by omega) hd (by omega) (by omega) o _ _ _, B4.other3 (by omega) hd (by omega) (by omega) o _ _ _, B5.set3 (by omega) hd (by omega) _ _ _, hE1.box3 o _ _ _, hE3.box3 o _ _ _, by omega, by omega⟩
    · have g0 : ((x : Int) == 0) = false := beq_eq_false_iff_ne.2 (by omega)
      have g1 : ((x : Int) == 1) = false := beq_eq_false_iff_ne.2 (by omega)
      go_wp2_with fail
      go_meet
      case rel => exact ⟨_, _, _, _, _, _, _, _, _, _, _, B0.up (by omega), B1.up (by omega), B4.up (by omega), B5.up (by omega), hE1, hE2, by omega, by omega⟩
  case rest =>
  clear B0 B1 B4 B5 hE1 hE2
  clear hn1 hn2
  obtain ⟨D1, al1, st1, n1, a1, c1, al2, st2, n2, a2, c2, B0, B1, B4, B5, hE1, hE2, hn1, hn2⟩ := hcut
  go_wp2_with fail
  refine (pick_t 24 B0.st (by omega) (by omega)).mono ?_
  rintro e w6 ⟨x, rfl, -, -, hs6, hk6⟩
  have hE1 := hE1.tr' (Inc.refl _ _) (Tr.kept B0.st hk6)
  have hE2 := hE2.tr' (Inc.refl _ _) (Tr.kept B0.st hk6)
  have B0 := B0.kept (by omega) hk6 (c' := 8701) (hs6.up (by omega))
  have B1 := B1.kept (by omega) hk6 (c' := 8701) (hs6.up (by omega))
  have B4 := B4.kept (by omega) hk6 (c' := 8701) (hs6.up (by omega))
  have B5 := B5.kept (by omega) hk6 (c' := 8701) (hs6.up (by omega))
  clear hs6 hk6
  go_upto_block 1 with fail
  go_cut [] (fun wc => L6P D g q w G4 G5 13400 wc)
  case first =>
    have hx : x = 0 ∨ x = 1 ∨ x = 2 ∨ x = 3 ∨ 3 < x := by omega
    rcases hx with rfl | rfl | rfl | rfl | hx
    · have gc0 := B4.blk.cell 0 rfl; have gf0 := B4.blk.fr 0; have gc1 := B4.blk.cell 1 rfl; have gf1 := B4.blk.fr 1; have gc2 := B4.blk.cell 2 rfl; have gf2 := B4.blk.fr 2
      go_wp2_with fail
      refine (l2Wrong_t _ (⟨_, _, _, n1, rfl, by omega, hE1⟩) B0.st (by omega)).mono ?_
      rintro e u1 ⟨v1, D1, rfl, hi1, hs1, ht1, hS1⟩
      have hE2 := hE2.tr' hi1 ht1
      have B0 := B0.drawn (by omega) hi1 ht1 (c' := 8711) (hs1.up (by omega))
      have B1 := B1.drawn (by omega) hi1 ht1 (c' := 8711) (hs1.up (by omega))
      have B4 := B4.drawn (by omega) hi1 ht1 (c' := 8711) (hs1.up (by omega))
      have B5 := B5.drawn (by omega) hi1 ht1 (c' := 8711) (hs1.up (by omega))
      go_wp2_with fail
      refine (l2Wrong_t _ (hS1.tr (fun _ h => h) (Shp.refl _ _) (by omega)) B0.st (by omega)).mono ?_
      rintro e u2 ⟨v2, D2, rfl, hi2, hs2, ht2, hS2⟩
      have hE2 := hE2.tr' hi2 ht2
      have B0 := B0.drawn (by omega) hi2 ht2 (c' := 8721) (hs2.up (by omega))
      have B1 := B1.drawn (by omega) hi2 ht2 (c' := 8721) (hs2.up (by omega))
      have B4 := B4.drawn (by omega) hi2 ht2 (c' := 8721) (hs2.up (by omega))
      have B5 := B5.drawn (by omega) hi2 ht2 (c' := 8721) (hs2.up (by omega))
      go_wp2_with fail
      refine (l2Wrong_t _ (hS2.tr (fun _ h => h) (Shp.refl _ _) (by omega)) B0.st (by omega)).mono ?_
      rintro e u3 ⟨v3, D3, rfl, hi3, hs3, ht3, hS3⟩
      have hE2 := hE2.tr' hi3 ht3
      have B0 := B0.drawn (by omega) hi3 ht3 (c' := 13400) (hs3.up (by omega))
      have B1 := B1.drawn (by omega) hi3 ht3 (c' := 13400) (hs3.up (by omega))
      have B4 := B4.drawn (by omega) hi3 ht3 (c' := 13400) (hs3.up (by omega))
      have B5 := B5.drawn (by omega) hi3 ht3 (c' := 13400) (hs3.up (by omega))
      obtain ⟨al3, st3, n3, a3, c3, rfl, hn3, hE3⟩ := hS3.boxed
      clear gc0 gc1 gc2 gf0 gf1 gf2
      have gc0 := B4.blk.cell 0 rfl; have gf0 := B4.blk.fr 0; have gc1 := B4.blk.cell 1 rfl; have gf1 := B4.blk.fr 1; have gc2 := B4.blk.cell 2 rfl; have gf2 := B4.blk.fr 2
      go_wp2_with fail
      have o := B4.out
      go_meet
      case rel => exact ⟨_, _, _, _, _, _, _, _, _, _, _, B0.other3 (by omega) hd (by omega) (by omega) o _ _ _, B1.other3 (by omega) hd (by omega) (by omega) o _ _ _, B4.set3 (by omega) hd (by omega) _ _ _, B5.other3 (by omega) hd (by omega) (by omega) o _ _ _, hE3.box3 o _ _ _, hE2.box3 o _ _ _, by omega, by omega⟩
    · have gc0 := B5.blk.cell 0 rfl; have gf0 := B5.blk.fr 0; have gc1 := B5.blk.cell 1 rfl; have gf1 := B5.blk.fr 1; have gc2 := B5.blk.cell 2 rfl; have gf2 := B5.blk.fr 2
      go_wp2_with fail
      refine (l2Wrong_t _ (⟨_, _, _, n2, rfl, by omega, hE2⟩) B0.st (by omega)).mono ?_
      rintro e u1 ⟨v1, D1, rfl, hi1, hs1, ht1, hS1⟩
      have hE1 := hE1.tr' hi1 ht1
      have B0 := B0.drawn (by omega) hi1 ht1 (c' := 8711) (hs1.up (by omega))
      have B1 := B1.drawn (by omega) hi1 ht1 (c' := 8711) (hs1.up (by omega))
      have B4 := B4.drawn (by omega) hi1 ht1 (c' := 8711) (hs1.up (by omega))
      have B5 := B5.drawn (by omega) hi1 ht1 (c' := 8711) (hs1.up (by omega))
      go_wp2_with fail
      refine (l2Wrong_t _ (hS1.tr (fun _ h => h) (Shp.refl _ _) (by omega)) B0.st (by omega)).mono ?_
      rintro e u2 ⟨v2, D2, rfl, hi2, hs2, ht2, hS2⟩
      have hE1 := hE1.tr' hi2 ht2
      have B0 := B0.drawn (by omega) hi2 ht2 (c' := 8721) (hs2.up (by omega))
      have B1 := B1.drawn (by omega) hi2 ht2 (c' := 8721) (hs2.up (by omega))
      have B4 := B4.drawn (by omega) hi2 ht2 (c' := 8721) (hs2.up (by omega))
      have B5 := B5.drawn (by omega) hi2 ht2 (c' := 8721) (hs2.up (by omega))
      go_wp2_with fail
      refine (l2Wrong_t _ (hS2.tr (fun _ h => h) (Shp.refl _ _) (by omega)) B0.st (by omega)).mono ?_
      rintro e u3 ⟨v3, D3, rfl, hi3, hs3, ht3, hS3⟩
      have hE1 := hE1.tr' hi3 ht3
      have B0 := B0.drawn (by omega) hi3 ht3 (c' := 13400) (hs3.up (by omega))
      have B1 := B1.drawn (by omega) hi3 ht3 (c' := 13400) (hs3.up (by omega))
      have B4 := B4.drawn (by omega) hi3 ht3 (c' := 13400) (hs3.up (by omega))
      have B5 := B5.drawn (by omega) hi3 ht3 (c' := 13400) (hs3.up (by omega))
      obtain ⟨al3, st3, n3, a3, c3, rfl, hn3, hE3⟩ := hS3.boxed
      clear gc0 gc1 gc2 gf0 gf1 gf2
      have gc0 := B5.blk.cell 0 rfl; have gf0 := B5.blk.fr 0; have gc1 := B5.blk.cell 1 rfl; have gf1 := B5.blk.fr 1; have gc2 := B5.blk.cell 2 rfl; have gf2 := B5.blk.fr 2
      go_wp2_with fail
      have o := B5.out
      go_meet
      case rel => exact ⟨_, _, _, _, _, _, _, _, _, _, _, B0.other3 (by omega) hd (by omega) (by omega) o _ _ _, B1.other3 (by omega) hd (by omega) (by omega) o _ _ _, B4.other3 (by omega) hd (by omega) (by omega) o _ _ _, B5.set3 (by omega) hd (by omega) _ _ _, hE1.box3 o _ _ _, hE3.box3 o _ _ _, by omega, by omega⟩
    · go_wp2_with fail
      refine (l2Draw_t B0.st (by omega)).mono ?_
      rintro e u1 ⟨v1, D1, rfl, hi1, hs1, ht1, hS1⟩
      have hE1 := hE1.tr' hi1 ht1
      have B0 := B0.drawn (by omega) hi1 ht1 (c' := 13400) (hs1.up (by omega))
      have B1 := B1.drawn (by omega) hi1 ht1 (c' := 13400) (hs1.up (by omega))
      have B4 := B4.drawn (by omega) hi1 ht1 (c' := 13400) (hs1.up (by omega))
      have B5 := B5.drawn (by omega) hi1 ht1 (c' := 13400) (hs1.up (by omega))
      obtain ⟨al3, st3, n3, a3, c3, rfl, hn3, hE3⟩ := hS1.boxed
      have gc0 := B5.blk.cell 0 rfl; have gf0 := B5.blk.fr 0; have gc1 := B5.blk.cell 1 rfl; have gf1 := B5.blk.fr 1; have gc2 := B5.blk.cell 2 rfl; have gf2 := B5.blk.fr 2
      go_wp2_with fail
      have o := B5.out
      go_meet
      case rel => exact ⟨_, _, _, _, _, _, _, _, _, _, _, B0.other3 (by omega) hd (by omega) (by omega) o _ _ _, B1.other3 (by omega) hd (by omega) (by omega) o _ _ _, B4.other3 (by omega) hd (by omega) (by omega) o _ _ _, B5.set3 (by omega) hd (by omega) _ _ _, hE1.box3 o _ _ _, hE3.box3 o _ _ _, by omega, by omega⟩
    · go_wp2_with fail
      refine (l2Big_n B0.st (by omega)).mono ?_
      rintro e u1 ⟨v1, D1, rfl, hi1, hs1, ht1, al3, st3, ve, n3, rfl, h1n, hn3, hE3⟩
      obtain ⟨a3, c3, rfl⟩ := hE3.shape
      have B0 := B0.drawn (by omega) hi1 ht1 (c' := 9000) (hs1.up (by omega))
      have B1 := B1.drawn (by omega) hi1 ht1 (c' := 9000) (hs1.up (by omega))
      have B4 := B4.drawn (by omega) hi1 ht1 (c' := 9000) (hs1.up (by omega))
      have B5 := B5.drawn (by omega) hi1 ht1 (c' := 9000) (hs1.up (by omega))
      have gc0 := B4.blk.cell 0 rfl; have gf0 := B4.blk.fr 0; have gc1 := B4.blk.cell 1 rfl; have gf1 := B4.blk.fr 1; have gc2 := B4.blk.cell 2 rfl; have gf2 := B4.blk.fr 2
      go_upto_region 17 with fail
      clear gc0 gc1 gc2 gf0 gf1 gf2
      have o4 := B4.out
      have hE3 : SlOk D1 (((u1.setCell ⟨G4, 0, none⟩ (.int .i64 al3)).setCell ⟨G4, 1, none⟩ (.int .i64 st3)).setCell ⟨G4, 2, none⟩ (.slice a3 n3 c3)) 85 3 (.slice a3 n3 c3) n3 := (((hE3.tr (fun _ h => h) (Shp.box o4)).tr (fun _ h => h) (Shp.box o4)).tr (fun _ h => h) (Shp.box o4))
      have B0 := B0.other3 (by omega) hd (by omega) (by omega) o4 (.int .i64 al3) (.int .i64 st3) (.slice a3 n3 c3)
      have B1 := B1.other3 (by omega) hd (by omega) (by omega) o4 (.int .i64 al3) (.int .i64 st3) (.slice a3 n3 c3)
      have B5 := B5.other3 (by omega) hd (by omega) (by omega) o4 (.int .i64 al3) (.int .i64 st3) (.slice a3 n3 c3)
      have B4 := B4.set3 (by omega) hd (by omega) (.int .i64 al3) (.int .i64 st3) (.slice a3 n3 c3)
      generalize ((u1.setCell ⟨G4, 0, none⟩ (.int .i64 al3)).setCell ⟨G4, 1, none⟩ (.int .i64 st3)).setCell ⟨G4, 2, none⟩ (.slice a3 n3 c3) = u2 at B0 B1 B4 B5 hE3 ⊢
      have D0' := fun d os => cell_regrown (B4.blk.cell 0 rfl) d os
      have D1' := fun d os => cell_regrown (B4.blk.cell 1 rfl) d os
      have D2' := fun d os => cell_regrown (B4.blk.cell 2 rfl) d os
      have hw1 : IntKind.i64.wrap ((n3 : Int) - 1) = ((n3 - 1 : Nat) : Int) := by rw [IntKind.wrap_i64]; omega
      have hl1 : ((n3 - 1 : Nat) : Int) ≤ (c3 : Int) := by have := hE3.capS; omega
      obtain ⟨Kc, HKc⟩ : ∃ Kc : FuncId → Array Value → World → Value → World → Prop, Hid (Kc = fun _ _ _ _ _ => True) := ⟨_, rfl⟩
      refine wp_region_ext (Kc := Kc) 13 (by kernel_rfl) (by kernel_rfl) ?_
      simp only [List.take_succ_cons, List.take_zero]
      repeat (refine WalkE.pure rfl (fun K hK => ?_); simp only [PureDo]; go_simp; refine hK _ ?_; clear hK K)
      refine WalkE.step (fun K hK wd hwd hdd => ?_)
      simp only [OpDo, OpSafe, OpOut]
      go_simp
      refine ⟨Ext.alloc _ _, hK _ _ ?_⟩
      clear hK K hdd
      repeat (refine WalkE.pure rfl (fun K hK => ?_); simp only [PureDo]; go_simp; refine hK _ ?_; clear hK K)
      refine WalkE.step (fun K hK we hwe hde => ?_)
      have j4 : Ext (wd.alloc (.cells #[] 85)) we := hde _ (Array.mem_of_getElem? (i := 0) rfl) rfl
      have hx1 : Ext u2 we := (Ext.drew _).trans hwe
      refine copy_do rfl rfl Tryd.underlying23 infoEdge rfl (by decide) per_edge zk_edge B0.st hx1 (Nat.le_trans (Ext.drew u2).size hwd.size) ((Blk.new wd _ _).ext j4) ((hE3.short (m := n3 - 1) (by omega)).tr' (Inc.refl _ _) (Tr.ext B0.st hx1)) rfl rfl (by omega) (by decide) ?_
      intro v5 w5' D5 he5 hi5 hs5 hE5 hD5
      refine hK _ _ ?_
      clear hK K hde
      obtain ⟨a5, c5, rfl⟩ := hE5.shape
      refine WalkE.nil (fun wn hwn hmn => ?_)
      simp only [List.drop_succ_cons, List.drop_zero, List.drop_nil]
      have e5 : Ext w5' wn := hmn 12 (by omega)
      have hxn : Ext u2 wn := (Ext.drew _).trans hwn
      have hE3 := hE3.tr' hi5 ((Tr.ext B0.st hxn))
      have B0 := B0.grow (c' := 9001) hxn hi5 ((hs5.ext e5).up (by omega)); have B1 := B1.grow (c' := 9001) hxn hi5 ((hs5.ext e5).up (by omega)); have B4 := B4.grow (c' := 9001) hxn hi5 ((hs5.ext e5).up (by omega)); have B5 := B5.grow (c' := 9001) hxn hi5 ((hs5.ext e5).up (by omega))
      have hE5 := hE5.tr' (Inc.refl _ _) (Tr.ext hs5 e5)
      clear D0' D1' D2' hmn HKc hwd hwe hwn e5 hxn j4 hx1 he5 hi5 hs5 hD5
      have gc0 := B5.blk.cell 0 rfl; have gf0 := B5.blk.fr 0; have gc1 := B5.blk.cell 1 rfl; have gf1 := B5.blk.fr 1; have gc2 := B5.blk.cell 2 rfl; have gf2 := B5.blk.fr 2
      go_wp2_with fail
      have o := B5.out
      go_meet
      case rel => exact ⟨_, _, _, _, _, _, _, _, _, _, _, (B0.other3 (by omega) hd (by omega) (by omega) o _ _ _).up (by omega), (B1.other3 (by omega) hd (by omega) (by omega) o _ _ _).up (by omega), (B4.other3 (by omega) hd (by omega) (by omega) o _ _ _).up (by omega), (B5.set3 (by omega) hd (by omega) _ _ _).up (by omega), hE3.box3 o _ _ _, hE5.box3 o _ _ _, by omega, by omega⟩
    · have g0 : ((x : Int) == 0) = false := beq_eq_false_iff_ne.2 (by omega)
      have g1 : ((x : Int) == 1) = false := beq_eq_false_iff_ne.2 (by omega)
      have g2 : ((x : Int) == 2) = false := beq_eq_false_iff_ne.2 (by omega)
      have g3 : ((x : Int) == 3) = false := beq_eq_false_iff_ne.2 (by omega)
      go_wp2_with fail
      go_meet
      case rel => exact ⟨_, _, _, _, _, _, _, _, _, _, _, B0.up (by omega), B1.up (by omega), B4.up (by omega), B5.up (by omega), hE1, hE2, by omega, by omega⟩
  case rest =>
  clear B0 B1 B4 B5 hE1 hE2 hn1 hn2
  obtain ⟨D8, al1, st1, n1, a1, c1, al2, st2, n2, a2, c2, B0, B1, B4, B5, hE1, hE2, hn1, hn2⟩ := hcut
  go_wp2_with fail
  have o0 := B0.out
  have o1 := B1.out
  have xc0 := B0.blk.cell 0 rfl; have xf0 := B0.blk.fr 0; have xc1 := B0.blk.cell 1 rfl; have xf1 := B0.blk.fr 1; have xc2 := B0.blk.cell 2 rfl; have xf2 := B0.blk.fr 2
  have yc0 := B1.blk.cell 0 rfl; have yf0 := B1.blk.fr 0; have yc1 := B1.blk.cell 1 rfl; have yf1 := B1.blk.fr 1; have yc2 := B1.blk.cell 2 rfl; have yf2 := B1.blk.fr 2
  go_region_held3 (fun v => v.cell? ⟨G4, 0, none⟩ = some (.int .i64 al1) ∧ v.cell? ⟨G4, 1, none⟩ = some (.int .i64 st1) ∧ v.cell? ⟨G4, 2, none⟩ = some (.slice a1 n1 c1) ∧ v.cell? ⟨G5, 0, none⟩ = some (.int .i64 al2) ∧ v.cell? ⟨G5, 1, none⟩ = some (.int .i64 st2) ∧ v.cell? ⟨G5, 2, none⟩ = some (.slice a2 n2 c2))
    (first
      | with_reducible exact six_of ((B4).ext (Ext.drew _)).blk ((B5).ext (Ext.drew _)).blk
      | with_reducible exact six_of (((B4.other3 (b' := w.heap.size) (by omega) hd (by omega) (by omega) o0 (.int .i64 al1) (.int .i64 st1) (.slice a1 n1 c1))).ext (Ext.drew _)).blk (((B5.other3 (b' := w.heap.size) (by omega) hd (by omega) (by omega) o0 (.int .i64 al1) (.int .i64 st1) (.slice a1 n1 c1))).ext (Ext.drew _)).blk
      | with_reducible exact six_of ((((B4.other3 (b' := w.heap.size) (by omega) hd (by omega) (by omega) o0 (.int .i64 al1) (.int .i64 st1) (.slice a1 n1 c1)).other3 (b' := w.heap.size + 1) (by omega) hd (by omega) (by omega) o1 (.int .i64 al2) (.int .i64 st2) (.slice a2 n2 c2))).ext (Ext.drew _)).blk ((((B5.other3 (b' := w.heap.size) (by omega) hd (by omega) (by omega) o0 (.int .i64 al1) (.int .i64 st1) (.slice a1 n1 c1)).other3 (b' := w.heap.size + 1) (by omega) hd (by omega) (by omega) o1 (.int .i64 al2) (.int .i64 st2) (.slice a2 n2 c2))).ext (Ext.drew _)).blk)
    (fail)
  have Y0 := ((B0.set3 (by omega) hd (by omega) (.int .i64 al1) (.int .i64 st1) (.slice a1 n1 c1)).other3 (b' := w.heap.size + 1) (by omega) hd (by omega) (by omega) o1 (.int .i64 al2) (.int .i64 st2) (.slice a2 n2 c2))
  have Z0 := Y0.ext (Ext.drew _)
  have Z1 := ((B1.other3 (b' := w.heap.size) (by omega) hd (by omega) (by omega) o0 (.int .i64 al1) (.int .i64 st1) (.slice a1 n1 c1)).set3 (by omega) hd (by omega) (.int .i64 al2) (.int .i64 st2) (.slice a2 n2 c2)).ext (Ext.drew _)
  have S1 := ((hE1.box3 o0 (.int .i64 al1) (.int .i64 st1) (.slice a1 n1 c1)).box3 o1 (.int .i64 al2) (.int .i64 st2) (.slice a2 n2 c2)).tr' (Inc.refl _ _) (Tr.ext Y0.st (Ext.drew _))
  have S2 := ((hE2.box3 o0 (.int .i64 al1) (.int .i64 st1) (.slice a1 n1 c1)).box3 o1 (.int .i64 al2) (.int .i64 st2) (.slice a2 n2 c2)).tr' (Inc.refl _ _) (Tr.ext Y0.st (Ext.drew _))
  clear B0 B1 B4 B5 hE1 hE2 Y0 xc0 xc1 xc2 yc0 yc1 yc2 xf0 xf1 xf2 yf0 yf1 yf2
  generalize ((((((wc.setCell ⟨w.heap.size, 0, none⟩ (.int .i64 al1)).setCell ⟨w.heap.size, 1, none⟩ (.int .i64 st1)).setCell ⟨w.heap.size, 2, none⟩ (.slice a1 n1 c1)).setCell ⟨w.heap.size + 1, 0, none⟩ (.int .i64 al2)).setCell ⟨w.heap.size + 1, 1, none⟩ (.int .i64 st2)).setCell ⟨w.heap.size + 1, 2, none⟩ (.slice a2 n2 c2)).drew = wz at Z0 Z1 S1 S2 ⊢
  have xc0 := Z0.blk.cell 0 rfl; have xf0 := Z0.blk.fr 0; have xc1 := Z0.blk.cell 1 rfl; have xf1 := Z0.blk.fr 1; have xc2 := Z0.blk.cell 2 rfl; have xf2 := Z0.blk.fr 2
  have yc0 := Z1.blk.cell 0 rfl; have yf0 := Z1.blk.fr 0; have yc1 := Z1.blk.cell 1 rfl; have yf1 := Z1.blk.fr 1; have yc2 := Z1.blk.cell 2 rfl; have yf2 := Z1.blk.fr 2
  go_wp2_with fail
  refine bodyPost_ret (v := .tuple #[.agg #[.int .i64 al1, .int .i64 st1, .slice a1 n1 c1], .agg #[.int .i64 al2, .int .i64 st2, .slice a2 n2 c2]]) (by simp [results, Tryd.results18, go_sem, xc0, xc1, xc2, yc0, yc1, yc2, xf0, xf1, xf2, yf0, yf1, yf2]) rfl ?_
  exact ⟨_, D8, rfl, Z0.inc, Z0.st.up (by omega), Z0.tr, _, _, rfl, ⟨_, _, _, n1, rfl, by omega, S1⟩, ⟨_, _, _, n2, rfl, by omega, S2⟩⟩

theorem DrawTracesWithin_t (v : Value) (l : List UInt8) (w : World) (hv : BytesV w v l) (hl : l.length ≤ 1048576) :
    Calls Tryd.prog 5 #[v] w (Drew 15400 w TwoS) := by
  obtain ⟨wo, hwo⟩ : ∃ wo, wo = (w.alloc (.cells #[.int .i64 0, .int .i64 0, .slice none 0 0] 25)).alloc (.cells #[.int .i64 0, .int .i64 0, .slice none 0 0] 25) := ⟨_, rfl⟩
  have he : Ext w wo := by rw [hwo]; exact (Ext.alloc _ _).trans (Ext.alloc _ _)
  have b0 : Blk wo w.heap.size #[.int .i64 0, .int .i64 0, .slice none 0 0] 25 := by rw [hwo]; exact Ext.blk (Ext.alloc _ _)
  have b1 : Blk wo (w.heap.size + 1) #[.int .i64 0, .int .i64 0, .slice none 0 0] 25 := by rw [hwo]; exact Ext.blk1 (Ext.refl _)
  have hso : wo.heap.size = w.heap.size + 2 := by rw [hwo]; simp
  go_enter Tryd.func5, Tryd.ntmps5
  go_wp2_with fail
  rw [← hwo]
  clear hwo
  refine (l19Open_t v l wo (hv.mono (fun b o x _ h => he.cell h) he.size) hl).mono ?_
  rintro e w1 ⟨g, rfl, hgb, he1, hs1⟩
  have b0 := b0.ext he1
  have b1 := b1.ext he1
  go_wp2_with fail
  refine (l6Pair_t hs1 (by omega)).mono ?_
  rintro e w2 ⟨r, D2, rfl, hi2, hs2, ht2, hR⟩
  have hR' := hR
  obtain ⟨s, p, rfl, hS, hP⟩ := hR
  obtain ⟨al1, st1, n1, a1, c1, rfl, hn1, hE1⟩ := hS.boxed
  obtain ⟨al2, st2, n2, a2, c2, rfl, hn2, hE2⟩ := hP.boxed
  have b0 := b0.tr ht2 (fun h => h) (by omega)
  have b1 := b1.tr ht2 (fun h => h) (by omega)
  have pc0 := b0.cell 0 rfl; have pf0 := b0.fr 0; have pc1 := b0.cell 1 rfl; have pf1 := b0.fr 1; have pc2 := b0.cell 2 rfl; have pf2 := b0.fr 2
  have qc0 := b1.cell 0 rfl; have qf0 := b1.fr 0; have qc1 := b1.cell 1 rfl; have qf1 := b1.fr 1; have qc2 := b1.cell 2 rfl; have qf2 := b1.fr 2
  go_wp2_with fail
  have y4 : Tnd (fun b => w.heap.size ≤ b ∧ b < w.heap.size + 2) w2 _ := (Tnd.set3 (b := w.heap.size) (by omega) (.int .i64 al1) (.int .i64 st1) (.slice a1 n1 c1)).trans (Tnd.set3 (b := w.heap.size + 1) (by omega) (.int .i64 al2) (.int .i64 st2) (.slice a2 n2 c2))
  refine bodyPost_ret (v := .tuple #[.agg #[.int .i64 al1, .int .i64 st1, .slice a1 n1 c1], .agg #[.int .i64 al2, .int .i64 st2, .slice a2 n2 c2]]) (by simp [results, Tryd.results5, go_sem, pc0, pc1, pc2, qc0, qc1, qc2, pf0, pf1, pf2, qf0, qf1, qf2]) rfl ?_
  refine Drew.mk' (fun w' hw' => ?_) ?_ (fun b hb => by have := (hs2.dom b hb).1; omega) hs2.typ y4
  · obtain ⟨s, p, e, hS, hP⟩ := hR'
    exact ⟨s, p, e, hS.tr (fun _ h => h) hw' (by omega), hP.tr (fun _ h => h) hw' (by omega)⟩
  · exact Below.trans (he.trans he1) (ht2.tnd.below (lo := w.heap.size) (by have := he.size; have := he1.size; omega) (fun b hb => by rcases hb with hb | hb; exact hb.elim; omega))
end Go.Proofs.YtanekmfifmkbmaaDoor
