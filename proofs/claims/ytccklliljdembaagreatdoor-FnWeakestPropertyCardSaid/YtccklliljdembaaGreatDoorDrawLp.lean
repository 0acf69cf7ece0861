/- Part of this seat's proofs, cut to what its law needs. -/

import Derived.Test.YtccklliljdembaaGreatDoorDrawV
import Derived.Test.YtccklliljdembaaGreatDoorDrawC
namespace Go.Proofs.YtccklliljdembaaGreatDoor
set_option linter.unusedSimpArgs false
set_option linter.unusedVariables false
open Go.RowKit
set_option maxHeartbeats 1000000
set_option maxRecDepth 100000
attribute [local go_sem ↓] Go.wp_at_zero Go.wp_at_succ

variable {D D' D'' : Nat → Prop} {g q q' : Nat} {w w' : World}

theorem l3Texts_t (w : World) : Calls Tryz.prog 142 #[] w (TextsEnd w) := by
  go_enter Tryz.func142, Tryz.ntmps142
  go_wp2_with fail
  go_ret
  refine TextsEnd.mk w _ rfl ?_ ?_ ?_
  all_goals decide

theorem l3Draw_t (h : St D g q w) (hq : q + 43000 ≤ 1000000) :
    Calls Tryz.prog 81 #[.pointer (some ⟨g, 0, none⟩)] w (Drawn D g q 43000 w AutoT) := by
  have hg := h.g_lt
  have hd := fun x hx => (h.dom x hx).2
  have B0 := Box.new h #[.int .i64 0, .slice none 0 0, .slice none 0 0] 26
  go_enter Tryz.func81, Tryz.ntmps81
  go_wp2_with fail
  generalize w.alloc (.cells #[.int .i64 0, .slice none 0 0, .slice none 0 0] 26) = w1 at B0 ⊢
  refine (pick_t 3 B0.st (by omega) (by omega)).mono ?_
  rintro e w2 ⟨x, rfl, -, -, hs2, hk2⟩
  have B1 := B0.kept hg hk2 (c' := 1) hs2
  clear hs2 hk2 B0
  by_cases hx : x = 0
  · subst hx
    go_wp2_with fail
    refine (l3Texts_t w2).mono ?_
    rintro e w3 ⟨c3, l, rfl, hl0, hl1, hls, hv3, he3⟩
    have B2 := B1.ext he3
    go_wp2_with fail
    refine (of_t _ l c3 w2.heap.size rfl B2.st (by omega) hv3 B1.st.g_lt hl0 hl1).mono ?_
    rintro e w4 ⟨t, ht, rfl, hs4, hk4⟩
    have B3 := B2.kept hg hk4 (c' := 2) hs4
    have ht2 := hls t ht
    clear hs4 hk4 hv3 hls he3
    go_wp2_with fail
    refine (ParseAutomaton_t t ht2 B3.st (by omega)).mono ?_
    rintro e w5 ⟨v5, D5, rfl, hi5, hs5, ht5, u5, b5, rfl, hS⟩
    have B4 := B3.drawn hg hi5 ht5 (c' := 42002) (hs5.up (by omega))
    obtain ⟨al, n, m, aN, cN, aA, cA, rfl, hn, hm, hN, hA⟩ := hS.boxed
    have he := Ext.alloc w5 (.cells #[.int .i64 al, .slice aN n cN, .slice aA m cA] 26)
    have hN := hN.tr' (Inc.refl _ _) (Tr.ext B4.st he)
    have hA := hA.tr' (Inc.refl _ _) (Tr.ext B4.st he)
    have ec := Blk.new w5 #[.int .i64 al, .slice aN n cN, .slice aA m cA] 26
    have B5 := B4.ext he
    have hne : w.heap.size < w5.heap.size := B4.blk.lt
    clear hs5 ht5 hi5
    go_upto_if 15 with fail
    generalize w5.alloc (.cells #[.int .i64 al, .slice aN n cN, .slice aA m cA] 26) = w6 at B5 hN hA ec ⊢
    generalize w5.heap.size = G at ec hne ⊢
    have ec0 := ec.cell 0 rfl
    have ec1 := ec.cell 1 rfl
    have ec2 := ec.cell 2 rfl
    cases b5
    · go_wp2_with fail
      refine (num_t [3, 6, 7, 5, 1, 0, 2] rfl B5.st (by omega) (by decide) (by decide)).mono ?_
      rintro e wa ⟨xa, hxa, rfl, hsa, hka⟩
      have Ba := B5.kept hg hka (c' := 42003) (hsa.up (by omega))
      go_wp2_with fail
      refine (l3Over_t xa Ba.st (by omega)).mono ?_
      rintro e wd ⟨vd, Dd, rfl, hid, hsd, htd, hSd⟩
      have Bd := Ba.drawn hg hid htd (c' := 43000) (hsd.up (by omega))
      obtain ⟨ald, nd, md, aNd, cNd, aAd, cAd, rfl, hnd, hmd, hNd, hAd⟩ := hSd.boxed
      have rc0 := Bd.blk.cell 0 rfl; have rf0 := Bd.blk.fr 0; have rc1 := Bd.blk.cell 1 rfl; have rf1 := Bd.blk.fr 1; have rc2 := Bd.blk.cell 2 rfl; have rf2 := Bd.blk.fr 2
      go_wp2_with fail
      refine bodyPost_ret (v := .agg #[.int .i64 ald, .slice aNd nd cNd, .slice aAd md cAd]) (by simp [results, Tryz.results81, go_sem, rc0, rc1, rc2, rf0, rf1, rf2]) rfl ?_
      have BZ := ((Bd.set hg hd (Nat.le_refl _) 0 (.int .i64 ald)).set hg hd (Nat.le_refl _) 1 (.slice aNd nd cNd)).set hg hd (Nat.le_refl _) 2 (.slice aAd md cAd)
      have oZ := Bd.out
      exact ⟨_, Dd, rfl, BZ.inc, BZ.st.up (by omega), BZ.tr, _, _, _, _, _, rfl, by omega, by omega, (((hNd.tr (fun _ h => h) (Shp.box oZ)).tr (fun _ h => h) (Shp.box oZ)).tr (fun _ h => h) (Shp.box oZ)), (((hAd.tr (fun _ h => h) (Shp.box oZ)).tr (fun _ h => h) (Shp.box oZ)).tr (fun _ h => h) (Shp.box oZ))⟩
    · have rc0 := B5.blk.cell 0 rfl; have rf0 := B5.blk.fr 0; have rc1 := B5.blk.cell 1 rfl; have rf1 := B5.blk.fr 1; have rc2 := B5.blk.cell 2 rfl; have rf2 := B5.blk.fr 2
      go_wp2_with fail
      refine bodyPost_ret (v := .agg #[.int .i64 al, .slice aN n cN, .slice aA m cA]) (by simp [results, Tryz.results81, go_sem, rc0, rc1, rc2, rf0, rf1, rf2]) rfl ?_
      have BZ := ((B5.set hg hd (Nat.le_refl _) 0 (.int .i64 al)).set hg hd (Nat.le_refl _) 1 (.slice aN n cN)).set hg hd (Nat.le_refl _) 2 (.slice aA m cA)
      have oZ := B5.out
      exact ⟨_, _, rfl, BZ.inc, BZ.st.up (by omega), BZ.tr, _, _, _, _, _, rfl, by omega, by omega, (((hN.tr (fun _ h => h) (Shp.box oZ)).tr (fun _ h => h) (Shp.box oZ)).tr (fun _ h => h) (Shp.box oZ)), (((hA.tr (fun _ h => h) (Shp.box oZ)).tr (fun _ h => h) (Shp.box oZ)).tr (fun _ h => h) (Shp.box oZ))⟩
  · have hx' : ((x : Int) == 0) = false := beq_eq_false_iff_ne.2 (by omega)
    go_wp2_with fail
    refine (num_t [3, 6, 7, 5, 1, 0, 2] rfl B1.st (by omega) (by decide) (by decide)).mono ?_
    rintro e wa ⟨xa, hxa, rfl, hsa, hka⟩
    have Ba := B1.kept hg hka (c' := 2) (hsa.up (by omega))
    go_wp2_with fail
    refine (l3Over_t xa Ba.st (by omega)).mono ?_
    rintro e wd ⟨vd, Dd, rfl, hid, hsd, htd, hSd⟩
    have Bd := Ba.drawn hg hid htd (c' := 43000) (hsd.up (by omega))
    obtain ⟨ald, nd, md, aNd, cNd, aAd, cAd, rfl, hnd, hmd, hNd, hAd⟩ := hSd.boxed
    have rc0 := Bd.blk.cell 0 rfl; have rf0 := Bd.blk.fr 0; have rc1 := Bd.blk.cell 1 rfl; have rf1 := Bd.blk.fr 1; have rc2 := Bd.blk.cell 2 rfl; have rf2 := Bd.blk.fr 2
    go_wp2_with fail
    refine bodyPost_ret (v := .agg #[.int .i64 ald, .slice aNd nd cNd, .slice aAd md cAd]) (by simp [results, Tryz.results81, go_sem, rc0, rc1, rc2, rf0, rf1, rf2]) rfl ?_
    have BZ := ((Bd.set hg hd (Nat.le_refl _) 0 (.int .i64 ald)).set hg hd (Nat.le_refl _) 1 (.slice aNd nd cNd)).set hg hd (Nat.le_refl _) 2 (.slice aAd md cAd)
    have oZ := Bd.out
    exact ⟨_, Dd, rfl, BZ.inc, BZ.st.up (by omega), BZ.tr, _, _, _, _, _, rfl, by omega, by omega, (((hNd.tr (fun _ h => h) (Shp.box oZ)).tr (fun _ h => h) (Shp.box oZ)).tr (fun _ h => h) (Shp.box oZ)), (((hAd.tr (fun _ h => h) (Shp.box oZ)).tr (fun _ h => h) (Shp.box oZ)).tr (fun _ h => h) (Shp.box oZ))⟩

def TwoAT (D : Nat → Prop) (q : Nat) (w : World) (v : Value) : Prop := ∃ s p, v = .tuple #[s, p] ∧ AutoT D q w s ∧ AutoT D q w p
theorem TwoAT.tr {v : Value} (h : TwoAT D q w v) (hi : ∀ b, D b → D' b) (hs : Shp D w w') (hq : q ≤ q') : TwoAT D' q' w' v := by
  obtain ⟨s, p, rfl, h1, h2⟩ := h
  exact ⟨s, p, rfl, h1.tr hi hs hq, h2.tr hi hs hq⟩
def LP (D : Nat → Prop) (g q : Nat) (w : World) (G4 G5 c : Nat) (wc : World) : Prop :=
  ∃ (D' : Nat → Prop) (al1 : Int) (n1 m1 : Nat) (aN1 : Option Addr) (cN1 : Nat) (aA1 : Option Addr) (cA1 : Nat) (al2 : Int) (n2 m2 : Nat) (aN2 : Option Addr) (cN2 : Nat) (aA2 : Option Addr) (cA2 : Nat),
    Box D g q w w.heap.size c #[.int .i64 0, .slice none 0 0, .slice none 0 0] 26 wc D' ∧ Box D g q w (w.heap.size + 1) c #[.int .i64 0, .slice none 0 0, .slice none 0 0] 26 wc D' ∧
    Box D g q w G4 c #[.int .i64 al1, .slice aN1 n1 cN1, .slice aA1 m1 cA1] 26 wc D' ∧ Box D g q w G5 c #[.int .i64 al2, .slice aN2 n2 cN2, .slice aA2 m2 cA2] 26 wc D' ∧
    SlOk D' wc 78 1 (.slice aN1 n1 cN1) n1 ∧ SlOk D' wc 4 1 (.slice aA1 m1 cA1) m1 ∧ SlOk D' wc 78 1 (.slice aN2 n2 cN2) n2 ∧ SlOk D' wc 4 1 (.slice aA2 m2 cA2) m2 ∧ n1 ≤ q + c ∧ m1 ≤ q + c ∧ n2 ≤ q + c ∧ m2 ≤ q + c

theorem l4Pair_t (h : St D g q w) (hq : q + 90000 ≤ 1000000) :
    Calls Tryz.prog 32 #[.pointer (some ⟨g, 0, none⟩)] w (Drawn D g q 90000 w TwoAT) := by
  have hg := h.g_lt
  have hd := fun x hx => (h.dom x hx).2
  obtain ⟨wo, hwo⟩ : ∃ wo, wo = (w.alloc (.cells #[.int .i64 0, .slice none 0 0, .slice none 0 0] 26)).alloc (.cells #[.int .i64 0, .slice none 0 0, .slice none 0 0] 26) := ⟨_, rfl⟩
  have he : Ext w wo := by rw [hwo]; exact (Ext.alloc _ _).trans (Ext.alloc _ _)
  have B0 : Box D g q w w.heap.size 0 #[.int .i64 0, .slice none 0 0, .slice none 0 0] 26 wo D := ⟨Inc.refl _ _, h.ext he, Tr.ext h he, by rw [hwo]; exact Ext.blk (Ext.alloc _ _), h.out (by omega)⟩
  have B1 : Box D g q w (w.heap.size + 1) 0 #[.int .i64 0, .slice none 0 0, .slice none 0 0] 26 wo D := ⟨Inc.refl _ _, h.ext he, Tr.ext h he, by rw [hwo]; exact Ext.blk1 (Ext.refl _), h.out (by omega)⟩
  have hso : w.heap.size + 2 ≤ wo.heap.size := by rw [hwo]; simp
  go_enter Tryz.func32, Tryz.ntmps32
  go_wp2_with fail
  rw [← hwo]
  clear hwo
  refine (l3Draw_t B0.st (by omega)).mono ?_
  rintro e u9 ⟨v9, D9, rfl, hi9, hs9, ht9, hS9⟩
  have B0 := B0.drawn (by omega) hi9 ht9 (c' := 43000) (hs9.up (by omega))
  have B1 := B1.drawn (by omega) hi9 ht9 (c' := 43000) (hs9.up (by omega))
  obtain ⟨al1, n1, m1, aN1, cN1, aA1, cA1, rfl, hn1, hm1, hN1, hA1⟩ := hS9.boxed
  have hsz := ht9.size
  clear hi9 hs9 ht9
  clear he
  have heB4 := Ext.alloc u9 (.cells #[.int .i64 al1, .slice aN1 n1 cN1, .slice aA1 m1 cA1] 26)
  have B4 : Box D g q w u9.heap.size _ #[.int .i64 al1, .slice aN1 n1 cN1, .slice aA1 m1 cA1] 26 _ _ := ⟨B0.inc, (B0.ext heB4).st, (B0.ext heB4).tr, Blk.new _ _ _, B0.st.out (Nat.le_refl _)⟩
  have hN1 := hN1.tr' (Inc.refl _ _) (Tr.ext B0.st heB4)
  have hA1 := hA1.tr' (Inc.refl _ _) (Tr.ext B0.st heB4)
  have B0 := B0.ext heB4
  have B1 := B1.ext heB4
  have gc0 := B4.blk.cell 0 rfl
  have gc1 := B4.blk.cell 1 rfl
  have gc2 := B4.blk.cell 2 rfl
  go_wp2_with fail
  clear gc0 gc1 gc2
  generalize u9.alloc (.cells #[.int .i64 al1, .slice aN1 n1 cN1, .slice aA1 m1 cA1] 26) = w2 at B0 B1 B4 hN1 hA1 ⊢
  generalize u9.heap.size = G4 at B4 hsz ⊢
  refine (l4Change_t _ (⟨_, _, _, n1, m1, rfl, by omega, by omega, hN1, hA1⟩) B0.st (by omega)).mono ?_
  rintro e u3 ⟨v3, D3, rfl, hi3, hs3, ht3, hS3⟩
  have hN1 := hN1.tr' hi3 ht3
  have hA1 := hA1.tr' hi3 ht3
  have B0 := B0.drawn (by omega) hi3 ht3 (c' := 43050) (hs3.up (by omega))
  have B1 := B1.drawn (by omega) hi3 ht3 (c' := 43050) (hs3.up (by omega))
  have B4 := B4.drawn (by omega) hi3 ht3 (c' := 43050) (hs3.up (by omega))
  clear hi3 hs3 ht3
  go_wp2_with fail
  refine (l4Change_t _ hS3 B0.st (by omega)).mono ?_
  rintro e u4 ⟨v4, D4, rfl, hi4, hs4, ht4, hS4⟩
  have hN1 := hN1.tr' hi4 ht4
  have hA1 := hA1.tr' hi4 ht4
  have B0 := B0.drawn (by omega) hi4 ht4 (c' := 43100) (hs4.up (by omega))
  have B1 := B1.drawn (by omega) hi4 ht4 (c' := 43100) (hs4.up (by omega))
  have B4 := B4.drawn (by omega) hi4 ht4 (c' := 43100) (hs4.up (by omega))
  obtain ⟨al2, n2, m2, aN2, cN2, aA2, cA2, rfl, hn2, hm2, hN2, hA2⟩ := hS4.boxed
  clear hi4 hs4 ht4
  have hsz3 : G4 < u4.heap.size := B4.blk.lt
  have heB5 := Ext.alloc u4 (.cells #[.int .i64 al2, .slice aN2 n2 cN2, .slice aA2 m2 cA2] 26)
  have B5 : Box D g q w u4.heap.size _ #[.int .i64 al2, .slice aN2 n2 cN2, .slice aA2 m2 cA2] 26 _ _ := ⟨B0.inc, (B0.ext heB5).st, (B0.ext heB5).tr, Blk.new _ _ _, B0.st.out (Nat.le_refl _)⟩
  have hN1 := hN1.tr' (Inc.refl _ _) (Tr.ext B0.st heB5)
  have hA1 := hA1.tr' (Inc.refl _ _) (Tr.ext B0.st heB5)
  have hN2 := hN2.tr' (Inc.refl _ _) (Tr.ext B0.st heB5)
  have hA2 := hA2.tr' (Inc.refl _ _) (Tr.ext B0.st heB5)
  have B0 := B0.ext heB5
  have B1 := B1.ext heB5
  have B4 := B4.ext heB5
  go_wp2_with fail
  generalize u4.alloc (.cells #[.int .i64 al2, .slice aN2 n2 cN2, .slice aA2 m2 cA2] 26) = w4 at B0 B1 B4 B5 hN1 hA1 hN2 hA2 ⊢
  generalize u4.heap.size = G5 at B5 hsz3 ⊢
  refine (pick_t 4 B0.st (by omega) (by omega)).mono ?_
  rintro e w5 ⟨x, rfl, -, -, hs5, hk5⟩
  have hN1 := hN1.tr' (Inc.refl _ _) (Tr.kept B0.st hk5)
  have hA1 := hA1.tr' (Inc.refl _ _) (Tr.kept B0.st hk5)
  have hN2 := hN2.tr' (Inc.refl _ _) (Tr.kept B0.st hk5)
  have hA2 := hA2.tr' (Inc.refl _ _) (Tr.kept B0.st hk5)
  have B0 := B0.kept (by omega) hk5 (c' := 43101) (hs5.up (by omega))
  have B1 := B1.kept (by omega) hk5 (c' := 43101) (hs5.up (by omega))
  have B4 := B4.kept (by omega) hk5 (c' := 43101) (hs5.up (by omega))
  have B5 := B5.kept (by omega) hk5 (c' := 43101) (hs5.up (by omega))
  clear hs5 hk5
  go_upto_block 0 with fail
  go_cut [] (fun wc => LP D g q w G4 G5 43500 wc)
  case first =>
    have hx : x = 0 ∨ x = 1 ∨ 1 < x := by omega
    rcases hx with rfl | rfl | hx
    · have gc0 := B4.blk.cell 0 rfl
      go_wp2_with fail
      refine (l3Over_t _ B0.st (by omega)).mono ?_
      rintro e u1 ⟨v1, D1, rfl, hi1, hs1, ht1, hS1⟩
      have hN1 := hN1.tr' hi1 ht1
      have hA1 := hA1.tr' hi1 ht1
      have hN2 := hN2.tr' hi1 ht1
      have hA2 := hA2.tr' hi1 ht1
      have B0 := B0.drawn (by omega) hi1 ht1 (c' := 43500) (hs1.up (by omega))
      have B1 := B1.drawn (by omega) hi1 ht1 (c' := 43500) (hs1.up (by omega))
      have B4 := B4.drawn (by omega) hi1 ht1 (c' := 43500) (hs1.up (by omega))
      have B5 := B5.drawn (by omega) hi1 ht1 (c' := 43500) (hs1.up (by omega))
      obtain ⟨al3, n3, m3, aN3, cN3, aA3, cA3, rfl, hn3, hm3, hN3, hA3⟩ := hS1.boxed
      clear hi1 hs1 ht1
      clear gc0
      have gc0 := B5.blk.cell 0 rfl; have gf0 := B5.blk.fr 0; have gc1 := B5.blk.cell 1 rfl; have gf1 := B5.blk.fr 1; have gc2 := B5.blk.cell 2 rfl; have gf2 := B5.blk.fr 2
      go_wp2_with fail
      have o := B5.out
      go_meet
      case rel => exact ⟨_, _, _, _, _, _, _, _, _, _, _, _, _, _, _, B0.other3 (by omega) hd (by omega) (by omega) o _ _ _, B1.other3 (by omega) hd (by omega) (by omega) o _ _ _, B4.other3 (by omega) hd (by omega) (by omega) o _ _ _, B5.set3 (by omega) hd (by omega) _ _ _, hN1.box3 o _ _ _, hA1.box3 o _ _ _, hN3.box3 o _ _ _, hA3.box3 o _ _ _, by omega, by omega, by omega, by omega⟩
    · have gc0 := B4.blk.cell 0 rfl; have gc1 := B4.blk.cell 1 rfl; have gc2 := B4.blk.cell 2 rfl
      go_wp2_with fail
      refine (l4Change_t _ (⟨_, _, _, n1, m1, rfl, by omega, by omega, hN1, hA1⟩) B0.st (by omega)).mono ?_
      rintro e u1 ⟨v1, D1, rfl, hi1, hs1, ht1, hS1⟩
      have hN1 := hN1.tr' hi1 ht1
      have hA1 := hA1.tr' hi1 ht1
      have hN2 := hN2.tr' hi1 ht1
      have hA2 := hA2.tr' hi1 ht1
      have B0 := B0.drawn (by omega) hi1 ht1 (c' := 43500) (hs1.up (by omega))
      have B1 := B1.drawn (by omega) hi1 ht1 (c' := 43500) (hs1.up (by omega))
      have B4 := B4.drawn (by omega) hi1 ht1 (c' := 43500) (hs1.up (by omega))
      have B5 := B5.drawn (by omega) hi1 ht1 (c' := 43500) (hs1.up (by omega))
      obtain ⟨al3, n3, m3, aN3, cN3, aA3, cA3, rfl, hn3, hm3, hN3, hA3⟩ := hS1.boxed
      clear hi1 hs1 ht1
      clear gc0 gc1 gc2
      have gc0 := B5.blk.cell 0 rfl; have gf0 := B5.blk.fr 0; have gc1 := B5.blk.cell 1 rfl; have gf1 := B5.blk.fr 1; have gc2 := B5.blk.cell 2 rfl; have gf2 := B5.blk.fr 2
      go_wp2_with fail
      have o := B5.out
      go_meet
      case rel => exact ⟨_, _, _, _, _, _, _, _, _, _, _, _, _, _, _, B0.other3 (by omega) hd (by omega) (by omega) o _ _ _, B1.other3 (by omega) hd (by omega) (by omega) o _ _ _, B4.other3 (by omega) hd (by omega) (by omega) o _ _ _, B5.set3 (by omega) hd (by omega) _ _ _, hN1.box3 o _ _ _, hA1.box3 o _ _ _, hN3.box3 o _ _ _, hA3.box3 o _ _ _, by omega, by omega, by omega, by omega⟩
    · have g0 : ((x : Int) == 0) = false := beq_eq_false_iff_ne.2 (by omega)
      have g1 : ((x : Int) == 1) = false := beq_eq_false_iff_ne.2 (by omega)
      go_wp2_with fail
      go_meet
      case rel => exact ⟨_, _, _, _, _, _, _, _, _, _, _, _, _, _, _, B0.up (by omega), B1.up (by omega), B4.up (by omega), B5.up (by omega), hN1, hA1, hN2, hA2, by omega, by omega, by omega, by omega⟩
  case rest =>
  clear B0 B1 B4 B5 hN1 hA1 hN2 hA2
  obtain ⟨D8, al1, n1, m1, aN1, cN1, aA1, cA1, al2, n2, m2, aN2, cN2, aA2, cA2, B0, B1, B4, B5, hN1, hA1, hN2, hA2, hn1, hm1, hn2, hm2⟩ := hcut
  go_wp2_with fail
  refine (pick_t 20 B0.st (by omega) (by omega)).mono ?_
  rintro e w6 ⟨x, rfl, -, -, hs6, hk6⟩
  have hN1 := hN1.tr' (Inc.refl _ _) (Tr.kept B0.st hk6)
  have hA1 := hA1.tr' (Inc.refl _ _) (Tr.kept B0.st hk6)
  have hN2 := hN2.tr' (Inc.refl _ _) (Tr.kept B0.st hk6)
  have hA2 := hA2.tr' (Inc.refl _ _) (Tr.kept B0.st hk6)
  have B0 := B0.kept (by omega) hk6 (c' := 43501) (hs6.up (by omega))
  have B1 := B1.kept (by omega) hk6 (c' := 43501) (hs6.up (by omega))
  have B4 := B4.kept (by omega) hk6 (c' := 43501) (hs6.up (by omega))
  have B5 := B5.kept (by omega) hk6 (c' := 43501) (hs6.up (by omega))
  clear hs6 hk6
  go_upto_block 1 with fail
  go_cut [] (fun wc => LP D g q w G4 G5 90000 wc)
  case first =>
    have hx : x = 0 ∨ x = 1 ∨ x = 2 ∨ x = 3 ∨ 3 < x := by omega
    rcases hx with rfl | rfl | rfl | rfl | hx
    · have gc0 := B4.blk.cell 0 rfl; have gc1 := B4.blk.cell 1 rfl; have gc2 := B4.blk.cell 2 rfl
      go_wp2_with fail
      refine (l3Wrong_t _ (⟨_, _, _, n1, m1, rfl, by omega, by omega, hN1, hA1⟩) B0.st (by omega)).mono ?_
      rintro e u1 ⟨v1, D1, rfl, hi1, hs1, ht1, hS1⟩
      have hN1 := hN1.tr' hi1 ht1
      have hA1 := hA1.tr' hi1 ht1
      have hN2 := hN2.tr' hi1 ht1
      have hA2 := hA2.tr' hi1 ht1
      have B0 := B0.drawn (by omega) hi1 ht1 (c' := 43551) (hs1.up (by omega))
      have B1 := B1.drawn (by omega) hi1 ht1 (c' := 43551) (hs1.up (by omega))
      have B4 := B4.drawn (by omega) hi1 ht1 (c' := 43551) (hs1.up (by omega))
      have B5 := B5.drawn (by omega) hi1 ht1 (c' := 43551) (hs1.up (by omega))
      clear hi1 hs1 ht1
      go_wp2_with fail
      refine (l3Wrong_t _ hS1 B0.st (by omega)).mono ?_
      rintro e u2 ⟨v2, D2, rfl, hi2, hs2, ht2, hS2⟩
      have hN1 := hN1.tr' hi2 ht2
      have hA1 := hA1.tr' hi2 ht2
      have hN2 := hN2.tr' hi2 ht2
      have hA2 := hA2.tr' hi2 ht2
      have B0 := B0.drawn (by omega) hi2 ht2 (c' := 43601) (hs2.up (by omega))
      have B1 := B1.drawn (by omega) hi2 ht2 (c' := 43601) (hs2.up (by omega))
      have B4 := B4.drawn (by omega) hi2 ht2 (c' := 43601) (hs2.up (by omega))
      have B5 := B5.drawn (by omega) hi2 ht2 (c' := 43601) (hs2.up (by omega))
      clear hi2 hs2 ht2
      go_wp2_with fail
      refine (l3Wrong_t _ hS2 B0.st (by omega)).mono ?_
      rintro e u3 ⟨v3, D3, rfl, hi3, hs3, ht3, hS3⟩
      have hN1 := hN1.tr' hi3 ht3
      have hA1 := hA1.tr' hi3 ht3
      have hN2 := hN2.tr' hi3 ht3
      have hA2 := hA2.tr' hi3 ht3
      have B0 := B0.drawn (by omega) hi3 ht3 (c' := 90000) (hs3.up (by omega))
      have B1 := B1.drawn (by omega) hi3 ht3 (c' := 90000) (hs3.up (by omega))
      have B4 := B4.drawn (by omega) hi3 ht3 (c' := 90000) (hs3.up (by omega))
      have B5 := B5.drawn (by omega) hi3 ht3 (c' := 90000) (hs3.up (by omega))
      obtain ⟨al3, n3, m3, aN3, cN3, aA3, cA3, rfl, hn3, hm3, hN3, hA3⟩ := hS3.boxed
      clear hi3 hs3 ht3
      clear gc0 gc1 gc2
      have gc0 := B4.blk.cell 0 rfl; have gf0 := B4.blk.fr 0; have gc1 := B4.blk.cell 1 rfl; have gf1 := B4.blk.fr 1; have gc2 := B4.blk.cell 2 rfl; have gf2 := B4.blk.fr 2
      go_wp2_with fail
      have o := B4.out
      go_meet
      case rel => exact ⟨_, _, _, _, _, _, _, _, _, _, _, _, _, _, _, B0.other3 (by omega) hd (by omega) (by omega) o _ _ _, B1.other3 (by omega) hd (by omega) (by omega) o _ _ _, B4.set3 (by omega) hd (by omega) _ _ _, B5.other3 (by omega) hd (by omega) (by omega) o _ _ _, hN3.box3 o _ _ _, hA3.box3 o _ _ _, hN2.box3 o _ _ _, hA2.box3 o _ _ _, by omega, by omega, by omega, by omega⟩
    · have gc0 := B5.blk.cell 0 rfl; have gc1 := B5.blk.cell 1 rfl; have gc2 := B5.blk.cell 2 rfl
      go_wp2_with fail
      refine (l3Wrong_t _ (⟨_, _, _, n2, m2, rfl, by omega, by omega, hN2, hA2⟩) B0.st (by omega)).mono ?_
      rintro e u1 ⟨v1, D1, rfl, hi1, hs1, ht1, hS1⟩
      have hN1 := hN1.tr' hi1 ht1
      have hA1 := hA1.tr' hi1 ht1
      have hN2 := hN2.tr' hi1 ht1
      have hA2 := hA2.tr' hi1 ht1
      have B0 := B0.drawn (by omega) hi1 ht1 (c' := 43551) (hs1.up (by omega))
      have B1 := B1.drawn (by omega) hi1 ht1 (c' := 43551) (hs1.up (by omega))
      have B4 := B4.drawn (by omega) hi1 ht1 (c' := 43551) (hs1.up (by omega))
      have B5 := B5.drawn (by omega) hi1 ht1 (c' := 43551) (hs1.up (by omega))
      clear hi1 hs1 ht1
      go_wp2_with fail
      refine (l3Wrong_t _ hS1 B0.st (by omega)).mono ?_
      rintro e u2 ⟨v2, D2, rfl, hi2, hs2, ht2, hS2⟩
      have hN1 := hN1.tr' hi2 ht2
      have hA1 := hA1.tr' hi2 ht2
      have hN2 := hN2.tr' hi2 ht2
      have hA2 := hA2.tr' hi2 ht2
      have B0 := B0.drawn (by omega) hi2 ht2 (c' := 43601) (hs2.up (by omega))
      have B1 := B1.drawn (by omega) hi2 ht2 (c' := 43601) (hs2.up (by omega))
      have B4 := B4.drawn (by omega) hi2 ht2 (c' := 43601) (hs2.up (by omega))
      have B5 := B5.drawn (by omega) hi2 ht2 (c' := 43601) (hs2.up (by omega))
      clear hi2 hs2 ht2
      go_wp2_with fail
      refine (l3Wrong_t _ hS2 B0.st (by omega)).mono ?_
      rintro e u3 ⟨v3, D3, rfl, hi3, hs3, ht3, hS3⟩
      have hN1 := hN1.tr' hi3 ht3
      have hA1 := hA1.tr' hi3 ht3
      have hN2 := hN2.tr' hi3 ht3
      have hA2 := hA2.tr' hi3 ht3
      have B0 := B0.drawn (by omega) hi3 ht3 (c' := 90000) (hs3.up (by omega))
      have B1 := B1.drawn (by omega) hi3 ht3 (c' := 90000) (hs3.up (by omega))
      have B4 := B4.drawn (by omega) hi3 ht3 (c' := 90000) (hs3.up (by omega))
      have B5 := B5.drawn (by omega) hi3 ht3 (c' := 90000) (hs3.up (by omega))
      obtain ⟨al3, n3, m3, aN3, cN3, aA3, cA3, rfl, hn3, hm3, hN3, hA3⟩ := hS3.boxed
      clear hi3 hs3 ht3
      clear gc0 gc1 gc2
      have gc0 := B5.blk.cell 0 rfl; have gf0 := B5.blk.fr 0; have gc1 := B5.blk.cell 1 rfl; have gf1 := B5.blk.fr 1; have gc2 := B5.blk.cell 2 rfl; have gf2 := B5.blk.fr 2
      go_wp2_with fail
      have o := B5.out
      go_meet
      case rel => exact ⟨_, _, _, _, _, _, _, _, _, _, _, _, _, _, _, B0.other3 (by omega) hd (by omega) (by omega) o _ _ _, B1.other3 (by omega) hd (by omega) (by omega) o _ _ _, B4.other3 (by omega) hd (by omega) (by omega) o _ _ _, B5.set3 (by omega) hd (by omega) _ _ _, hN1.box3 o _ _ _, hA1.box3 o _ _ _, hN3.box3 o _ _ _, hA3.box3 o _ _ _, by omega, by omega, by omega, by omega⟩
    · go_wp2_with fail
      refine (l3Draw_t B0.st (by omega)).mono ?_
      rintro e u1 ⟨v1, D1, rfl, hi1, hs1, ht1, hS1⟩
      have hN1 := hN1.tr' hi1 ht1
      have hA1 := hA1.tr' hi1 ht1
      have hN2 := hN2.tr' hi1 ht1
      have hA2 := hA2.tr' hi1 ht1
      have B0 := B0.drawn (by omega) hi1 ht1 (c' := 90000) (hs1.up (by omega))
      have B1 := B1.drawn (by omega) hi1 ht1 (c' := 90000) (hs1.up (by omega))
      have B4 := B4.drawn (by omega) hi1 ht1 (c' := 90000) (hs1.up (by omega))
      have B5 := B5.drawn (by omega) hi1 ht1 (c' := 90000) (hs1.up (by omega))
      obtain ⟨al3, n3, m3, aN3, cN3, aA3, cA3, rfl, hn3, hm3, hN3, hA3⟩ := hS1.boxed
      clear hi1 hs1 ht1
      have gc0 := B5.blk.cell 0 rfl; have gf0 := B5.blk.fr 0; have gc1 := B5.blk.cell 1 rfl; have gf1 := B5.blk.fr 1; have gc2 := B5.blk.cell 2 rfl; have gf2 := B5.blk.fr 2
      go_wp2_with fail
      have o := B5.out
      go_meet
      case rel => exact ⟨_, _, _, _, _, _, _, _, _, _, _, _, _, _, _, B0.other3 (by omega) hd (by omega) (by omega) o _ _ _, B1.other3 (by omega) hd (by omega) (by omega) o _ _ _, B4.other3 (by omega) hd (by omega) (by omega) o _ _ _, B5.set3 (by omega) hd (by omega) _ _ _, hN1.box3 o _ _ _, hA1.box3 o _ _ _, hN3.box3 o _ _ _, hA3.box3 o _ _ _, by omega, by omega, by omega, by omega⟩
    · go_wp2_with fail
      refine (l3Big_t B0.st (by omega)).mono ?_
      rintro e u1 ⟨v1, D1, rfl, hi1, hs1, ht1, hS1⟩
      have hN1 := hN1.tr' hi1 ht1
      have hA1 := hA1.tr' hi1 ht1
      have hN2 := hN2.tr' hi1 ht1
      have hA2 := hA2.tr' hi1 ht1
      have B0 := B0.drawn (by omega) hi1 ht1 (c' := 43600) (hs1.up (by omega))
      have B1 := B1.drawn (by omega) hi1 ht1 (c' := 43600) (hs1.up (by omega))
      have B4 := B4.drawn (by omega) hi1 ht1 (c' := 43600) (hs1.up (by omega))
      have B5 := B5.drawn (by omega) hi1 ht1 (c' := 43600) (hs1.up (by omega))
      obtain ⟨al3, n3, m3, aN3, cN3, aA3, cA3, rfl, hn3, hm3, hN3, hA3⟩ := hS1.boxed
      clear hi1 hs1 ht1
      have gc0 := B4.blk.cell 0 rfl; have gf0 := B4.blk.fr 0; have gc1 := B4.blk.cell 1 rfl; have gf1 := B4.blk.fr 1; have gc2 := B4.blk.cell 2 rfl; have gf2 := B4.blk.fr 2
      go_upto_region 17 with fail
      have o4 := B4.out
      have hN1 := hN3.box3 o4 (.int .i64 al3) (.slice aN3 n3 cN3) (.slice aA3 m3 cA3)
      have hA1 := hA3.box3 o4 (.int .i64 al3) (.slice aN3 n3 cN3) (.slice aA3 m3 cA3)
      have hN2 := hN2.box3 o4 (.int .i64 al3) (.slice aN3 n3 cN3) (.slice aA3 m3 cA3)
      have hA2 := hA2.box3 o4 (.int .i64 al3) (.slice aN3 n3 cN3) (.slice aA3 m3 cA3)
      have B0 := B0.other3 (b' := G4) (by omega) hd (by omega) (by omega) o4 (.int .i64 al3) (.slice aN3 n3 cN3) (.slice aA3 m3 cA3)
      have B1 := B1.other3 (b' := G4) (by omega) hd (by omega) (by omega) o4 (.int .i64 al3) (.slice aN3 n3 cN3) (.slice aA3 m3 cA3)
      have B5 := B5.other3 (b' := G4) (by omega) hd (by omega) (by omega) o4 (.int .i64 al3) (.slice aN3 n3 cN3) (.slice aA3 m3 cA3)
      have B4 := B4.set3 (by omega) hd (by omega) (.int .i64 al3) (.slice aN3 n3 cN3) (.slice aA3 m3 cA3)
      clear gc0 gc1 gc2 gf0 gf1 gf2 hN3 hA3 o4
      generalize (((u1.setCell ⟨G4, 0, none⟩ (.int .i64 al3)).setCell ⟨G4, 1, none⟩ (.slice aN3 n3 cN3)).setCell ⟨G4, 2, none⟩ (.slice aA3 m3 cA3)) = w8 at B0 B1 B4 B5 hN1 hA1 hN2 hA2 ⊢
      have gc0 := B4.blk.cell 0 rfl; have gc1 := B4.blk.cell 1 rfl; have gc2 := B4.blk.cell 2 rfl
      go_wp2_with fail
      refine (l4Change_t _ ⟨_, _, _, n3, m3, rfl, by omega, by omega, hN1, hA1⟩ B0.st (by omega)).mono ?_
      rintro e u2 ⟨v2, D2, rfl, hi2, hs2, ht2, hS2⟩
      have hN1 := hN1.tr' hi2 ht2
      have hA1 := hA1.tr' hi2 ht2
      have hN2 := hN2.tr' hi2 ht2
      have hA2 := hA2.tr' hi2 ht2
      have B0 := B0.drawn (by omega) hi2 ht2 (c' := 90000) (hs2.up (by omega))
      have B1 := B1.drawn (by omega) hi2 ht2 (c' := 90000) (hs2.up (by omega))
      have B4 := B4.drawn (by omega) hi2 ht2 (c' := 90000) (hs2.up (by omega))
      have B5 := B5.drawn (by omega) hi2 ht2 (c' := 90000) (hs2.up (by omega))
      obtain ⟨al4, n4, m4, aN4, cN4, aA4, cA4, rfl, hn4, hm4, hN4, hA4⟩ := hS2.boxed
      clear hi2 hs2 ht2
      clear gc0 gc1 gc2
      have gc0 := B5.blk.cell 0 rfl; have gf0 := B5.blk.fr 0; have gc1 := B5.blk.cell 1 rfl; have gf1 := B5.blk.fr 1; have gc2 := B5.blk.cell 2 rfl; have gf2 := B5.blk.fr 2
      go_wp2_with fail
      have o := B5.out
      go_meet
      case rel => exact ⟨_, _, _, _, _, _, _, _, _, _, _, _, _, _, _, B0.other3 (by omega) hd (by omega) (by omega) o _ _ _, B1.other3 (by omega) hd (by omega) (by omega) o _ _ _, B4.other3 (by omega) hd (by omega) (by omega) o _ _ _, B5.set3 (by omega) hd (by omega) _ _ _, hN1.box3 o _ _ _, hA1.box3 o _ _ _, hN4.box3 o _ _ _, hA4.box3 o _ _ _, by omega, by omega, by omega, by omega⟩
    · have g0 : ((x : Int) == 0) = false := beq_eq_false_iff_ne.2 (by omega)
      have g1 : ((x : Int) == 1) = false := beq_eq_false_iff_ne.2 (by omega)
      have g2 : ((x : Int) == 2) = false := beq_eq_false_iff_ne.2 (by omega)
      have g3 : ((x : Int) == 3) = false := beq_eq_false_iff_ne.2 (by omega)
      go_wp2_with fail
      go_meet
      case rel => exact ⟨_, _, _, _, _, _, _, _, _, _, _, _, _, _, _, B0.up (by omega), B1.up (by omega), B4.up (by omega), B5.up (by omega), hN1, hA1, hN2, hA2, by omega, by omega, by omega, by omega⟩
  case rest =>
  clear B0 B1 B4 B5 hN1 hA1 hN2 hA2
  obtain ⟨D8, al1, n1, m1, aN1, cN1, aA1, cA1, al2, n2, m2, aN2, cN2, aA2, cA2, B0, B1, B4, B5, hN1, hA1, hN2, hA2, hn1, hm1, hn2, hm2⟩ := hcut
  go_wp2_with fail
  have o0 := B0.out
  have o1 := B1.out
  have xc0 := B0.blk.cell 0 rfl; have xf0 := B0.blk.fr 0; have xc1 := B0.blk.cell 1 rfl; have xf1 := B0.blk.fr 1; have xc2 := B0.blk.cell 2 rfl; have xf2 := B0.blk.fr 2
  have yc0 := B1.blk.cell 0 rfl; have yf0 := B1.blk.fr 0; have yc1 := B1.blk.cell 1 rfl; have yf1 := B1.blk.fr 1; have yc2 := B1.blk.cell 2 rfl; have yf2 := B1.blk.fr 2
  go_region_held3 (fun v => v.cell? ⟨G4, 0, none⟩ = some (.int .i64 al1) ∧ v.cell? ⟨G4, 1, none⟩ = some (.slice aN1 n1 cN1) ∧ v.cell? ⟨G4, 2, none⟩ = some (.slice aA1 m1 cA1) ∧ v.cell? ⟨G5, 0, none⟩ = some (.int .i64 al2) ∧ v.cell? ⟨G5, 1, none⟩ = some (.slice aN2 n2 cN2) ∧ v.cell? ⟨G5, 2, none⟩ = some (.slice aA2 m2 cA2))
    (first
      | with_reducible exact six_of ((B4).ext (Ext.drew _)).blk ((B5).ext (Ext.drew _)).blk
      | with_reducible exact six_of (((B4.other3 (b' := w.heap.size) (by omega) hd (by omega) (by omega) o0 (.int .i64 al1) (.slice aN1 n1 cN1) (.slice aA1 m1 cA1))).ext (Ext.drew _)).blk (((B5.other3 (b' := w.heap.size) (by omega) hd (by omega) (by omega) o0 (.int .i64 al1) (.slice aN1 n1 cN1) (.slice aA1 m1 cA1))).ext (Ext.drew _)).blk
      | with_reducible exact six_of ((((B4.other3 (b' := w.heap.size) (by omega) hd (by omega) (by omega) o0 (.int .i64 al1) (.slice aN1 n1 cN1) (.slice aA1 m1 cA1)).other3 (b' := w.heap.size + 1) (by omega) hd (by omega) (by omega) o1 (.int .i64 al2) (.slice aN2 n2 cN2) (.slice aA2 m2 cA2))).ext (Ext.drew _)).blk ((((B5.other3 (b' := w.heap.size) (by omega) hd (by omega) (by omega) o0 (.int .i64 al1) (.slice aN1 n1 cN1) (.slice aA1 m1 cA1)).other3 (b' := w.heap.size + 1) (by omega) hd (by omega) (by omega) o1 (.int .i64 al2) (.slice aN2 n2 cN2) (.slice aA2 m2 cA2))).ext (Ext.drew _)).blk)
    (fail)
  have Y0 := ((B0.set3 (by omega) hd (by omega) (.int .i64 al1) (.slice aN1 n1 cN1) (.slice aA1 m1 cA1)).other3 (b' := w.heap.size + 1) (by omega) hd (by omega) (by omega) o1 (.int .i64 al2) (.slice aN2 n2 cN2) (.slice aA2 m2 cA2))
  have Z0 := Y0.ext (Ext.drew _)
  have Z1 := ((B1.other3 (b' := w.heap.size) (by omega) hd (by omega) (by omega) o0 (.int .i64 al1) (.slice aN1 n1 cN1) (.slice aA1 m1 cA1)).set3 (by omega) hd (by omega) (.int .i64 al2) (.slice aN2 n2 cN2) (.slice aA2 m2 cA2)).ext (Ext.drew _)
  have ShN1 := ((hN1.box3 o0 (.int .i64 al1) (.slice aN1 n1 cN1) (.slice aA1 m1 cA1)).box3 o1 (.int .i64 al2) (.slice aN2 n2 cN2) (.slice aA2 m2 cA2)).tr' (Inc.refl _ _) (Tr.ext Y0.st (Ext.drew _))
  have ShA1 := ((hA1.box3 o0 (.int .i64 al1) (.slice aN1 n1 cN1) (.slice aA1 m1 cA1)).box3 o1 (.int .i64 al2) (.slice aN2 n2 cN2) (.slice aA2 m2 cA2)).tr' (Inc.refl _ _) (Tr.ext Y0.st (Ext.drew _))
  have ShN2 := ((hN2.box3 o0 (.int .i64 al1) (.slice aN1 n1 cN1) (.slice aA1 m1 cA1)).box3 o1 (.int .i64 al2) (.slice aN2 n2 cN2) (.slice aA2 m2 cA2)).tr' (Inc.refl _ _) (Tr.ext Y0.st (Ext.drew _))
  have ShA2 := ((hA2.box3 o0 (.int .i64 al1) (.slice aN1 n1 cN1) (.slice aA1 m1 cA1)).box3 o1 (.int .i64 al2) (.slice aN2 n2 cN2) (.slice aA2 m2 cA2)).tr' (Inc.refl _ _) (Tr.ext Y0.st (Ext.drew _))
  clear B0 B1 B4 B5 hN1 hA1 hN2 hA2 Y0 xc0 xc1 xc2 yc0 yc1 yc2 xf0 xf1 xf2 yf0 yf1 yf2
  generalize ((((((wc.setCell ⟨w.heap.size, 0, none⟩ (.int .i64 al1)).setCell ⟨w.heap.size, 1, none⟩ (.slice aN1 n1 cN1)).setCell ⟨w.heap.size, 2, none⟩ (.slice aA1 m1 cA1)).setCell ⟨w.heap.size + 1, 0, none⟩ (.int .i64 al2)).setCell ⟨w.heap.size + 1, 1, none⟩ (.slice aN2 n2 cN2)).setCell ⟨w.heap.size + 1, 2, none⟩ (.slice aA2 m2 cA2)).drew = wz at Z0 Z1 ShN1 ShA1 ShN2 ShA2 ⊢
  have xc0 := Z0.blk.cell 0 rfl; have xf0 := Z0.blk.fr 0; have xc1 := Z0.blk.cell 1 rfl; have xf1 := Z0.blk.fr 1; have xc2 := Z0.blk.cell 2 rfl; have xf2 := Z0.blk.fr 2
  have yc0 := Z1.blk.cell 0 rfl; have yf0 := Z1.blk.fr 0; have yc1 := Z1.blk.cell 1 rfl; have yf1 := Z1.blk.fr 1; have yc2 := Z1.blk.cell 2 rfl; have yf2 := Z1.blk.fr 2
  go_wp2_with fail
  refine bodyPost_ret (v := .tuple #[.agg #[.int .i64 al1, .slice aN1 n1 cN1, .slice aA1 m1 cA1], .agg #[.int .i64 al2, .slice aN2 n2 cN2, .slice aA2 m2 cA2]]) (by simp [results, Tryz.results32, go_sem, xc0, xc1, xc2, yc0, yc1, yc2, xf0, xf1, xf2, yf0, yf1, yf2]) rfl ?_
  exact ⟨_, D8, rfl, Z0.inc, Z0.st.up (by omega), Z0.tr, _, _, rfl, ⟨_, _, _, _, _, rfl, by omega, by omega, ShN1, ShA1⟩, ⟨_, _, _, _, _, rfl, by omega, by omega, ShN2, ShA2⟩⟩

theorem DrawLanguageWithin_t (v : Value) (l : List UInt8) (w : World) (hv : BytesV w v l) (hl : l.length ≤ 1048576) :
    Calls Tryz.prog 10 #[v] w (Drew 92000 w TwoAT) := by
  obtain ⟨wo, hwo⟩ : ∃ wo, wo = (w.alloc (.cells #[.int .i64 0, .slice none 0 0, .slice none 0 0] 26)).alloc (.cells #[.int .i64 0, .slice none 0 0, .slice none 0 0] 26) := ⟨_, rfl⟩
  have he : Ext w wo := by rw [hwo]; exact (Ext.alloc _ _).trans (Ext.alloc _ _)
  have b0 : Blk wo w.heap.size #[.int .i64 0, .slice none 0 0, .slice none 0 0] 26 := by rw [hwo]; exact Ext.blk (Ext.alloc _ _)
  have b1 : Blk wo (w.heap.size + 1) #[.int .i64 0, .slice none 0 0, .slice none 0 0] 26 := by rw [hwo]; exact Ext.blk1 (Ext.refl _)
  have hso : wo.heap.size = w.heap.size + 2 := by rw [hwo]; simp
  go_enter Tryz.func10, Tryz.ntmps10
  go_wp2_with fail
  rw [← hwo]
  clear hwo
  refine (l19Open_t v l wo (hv.mono (fun b o x _ h => he.cell h) he.size) hl).mono ?_
  rintro e w1 ⟨g, rfl, hgb, he1, hs1⟩
  have b0 := b0.ext he1
  have b1 := b1.ext he1
  go_wp2_with fail
  refine (l4Pair_t hs1 (by omega)).mono ?_
  rintro e w2 ⟨r, D2, rfl, hi2, hs2, ht2, hR⟩
  have hR' := hR
  obtain ⟨s, p, rfl, hS, hP⟩ := hR
  obtain ⟨al1, n1, m1, aN1, cN1, aA1, cA1, rfl, hn1, hm1, hN1, hA1⟩ := hS.boxed
  obtain ⟨al2, n2, m2, aN, cN, aA, cA, rfl, hn2, hm2, hN, hA⟩ := hP.boxed
  have b0 := b0.tr ht2 (fun h => h) (by omega)
  have b1 := b1.tr ht2 (fun h => h) (by omega)
  have pc0 := b0.cell 0 rfl; have pf0 := b0.fr 0; have pc1 := b0.cell 1 rfl; have pf1 := b0.fr 1; have pc2 := b0.cell 2 rfl; have pf2 := b0.fr 2
  have qc0 := b1.cell 0 rfl; have qf0 := b1.fr 0; have qc1 := b1.cell 1 rfl; have qf1 := b1.fr 1; have qc2 := b1.cell 2 rfl; have qf2 := b1.fr 2
  go_wp2_with fail
  have y4 : Tnd (fun b => w.heap.size ≤ b ∧ b < w.heap.size + 2) w2 _ := (Tnd.set3 (b := w.heap.size) (by omega) (.int .i64 al1) (.slice aN1 n1 cN1) (.slice aA1 m1 cA1)).trans (Tnd.set3 (b := w.heap.size + 1) (by omega) (.int .i64 al2) (.slice aN n2 cN) (.slice aA m2 cA))
  refine bodyPost_ret (v := .tuple #[.agg #[.int .i64 al1, .slice aN1 n1 cN1, .slice aA1 m1 cA1], .agg #[.int .i64 al2, .slice aN n2 cN, .slice aA m2 cA]]) (by simp [results, Tryz.results10, go_sem, pc0, pc1, pc2, qc0, qc1, qc2, pf0, pf1, pf2, qf0, qf1, qf2]) rfl ?_
  refine Drew.mk' (fun w' hw' => hR'.tr (fun _ h => h) hw' (by omega)) ?_ (fun b hb => by have := (hs2.dom b hb).1; omega) hs2.typ y4
  exact Below.trans (he.trans he1) (ht2.tnd.below (lo := w.heap.size) (by have := he.size; have := he1.size; omega) (fun b hb => by rcases hb with hb | hb; exact hb.elim; omega))
end Go.Proofs.YtccklliljdembaaGreatDoor
