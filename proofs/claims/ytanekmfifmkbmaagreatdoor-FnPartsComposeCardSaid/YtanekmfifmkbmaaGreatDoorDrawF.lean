/- Part of this seat's proofs, cut to what its law needs. -/

import Derived.Test.YtanekmfifmkbmaaGreatDoorDrawD

namespace Go.Proofs.YtanekmfifmkbmaaGreatDoor
set_option linter.unusedSimpArgs false
set_option linter.unusedVariables false
open Go.RowKit
set_option maxHeartbeats 1000000
set_option maxRecDepth 100000
attribute [local go_sem ↓] Go.wp_at_zero Go.wp_at_succ

variable {D D' : Nat → Prop} {g q q' : Nat} {w w' : World}

theorem l3Copy_t (al : Int) (n m : Nat) (aN aA : Option Addr) (cN cA : Nat) (hn : n ≤ q) (hm : m ≤ q) (hN : SlOk D w 80 1 (.slice aN n cN) n) (hA : SlOk D w 4 1 (.slice aA m cA) m) (h : St D g q w) (hq : q ≤ 1000000) :
    Calls Tryz.prog 72 #[.agg #[.int .i64 al, .slice aN n cN, .slice aA m cA]] w (Drawn D g q 0 w fun D' _ w' v => ∃ vn va, v = .agg #[.int .i64 al, vn, va] ∧ SlOk D' w' 80 1 vn n ∧ SlOk D' w' 4 1 va m) := by
  have hg := h.g_lt
  have hd := fun x hx => (h.dom x hx).2
  have BA := Box.new h #[.int .i64 al, .slice aN n cN, .slice aA m cA] 31
  have BA := BA.ext (Ext.alloc _ (.cells #[.int .i64 0, .slice none 0 0, .slice none 0 0] 31))
  have BR : Box D g q w (w.heap.size + 1) 0 #[.int .i64 0, .slice none 0 0, .slice none 0 0] 31 _ D := ⟨BA.inc, BA.st, BA.tr, Ext.blk1 (Ext.refl _), h.out (by omega)⟩
  have hN := hN.tr' (Inc.refl _ _) BR.tr
  have hA := hA.tr' (Inc.refl _ _) BR.tr
  go_enter Tryz.func72, Tryz.ntmps72
  go_wp2_with fail
  generalize (w.alloc (.cells #[.int .i64 al, .slice aN n cN, .slice aA m cA] 31)).alloc (.cells #[.int .i64 0, .slice none 0 0, .slice none 0 0] 31) = w1 at BA BR hN hA ⊢
  have D0 := fun d os => cell_regrown (BA.blk.cell 0 rfl) d os
  have D2 := fun d os => cell_regrown (BA.blk.cell 2 rfl) d os
  have hsz1 := BR.blk.lt
  obtain ⟨Kc, HKc⟩ : ∃ Kc : FuncId → Array Value → World → Value → World → Prop, Hid (Kc = fun _ _ _ _ _ => True) := ⟨_, rfl⟩
  refine wp_region_ext (Kc := Kc) 8 (by kernel_rfl) (by kernel_rfl) ?_
  simp only [List.take_succ_cons, List.take_zero]
  repeat (refine WalkE.pure rfl (fun K hK => ?_); simp only [PureDo]; go_simp; refine hK _ ?_; clear hK K)
  refine WalkE.step (fun K hK wd hwd hdd => ?_)
  simp only [OpDo, OpSafe, OpOut]
  go_simp
  refine ⟨Ext.alloc _ _, hK _ _ ?_⟩
  clear hK K hdd
  repeat (refine WalkE.pure rfl (fun K hK => ?_); simp only [PureDo]; go_simp; refine hK _ ?_; clear hK K)
  refine WalkE.step (fun K hK we hwe hde => ?_)
  have j4 : Ext (wd.alloc (.cells #[] 4)) we := hde _ (Array.mem_of_getElem? (i := 0) rfl) rfl
  have hx1 : Ext w1 we := (Ext.drew _).trans hwe
  refine copy_do rfl rfl Tryz.underlying29 infoBool rfl (by decide) per_bool zk_bool BR.st hx1 (Nat.le_trans (Ext.drew w1).size hwd.size) ((Blk.new wd _ _).ext j4) (hA.tr' (Inc.refl _ _) (Tr.ext BR.st hx1)) rfl rfl (by omega) (by decide) ?_
  intro v5 w5 D5 he5 hi5 hs5 hE5 hD5
  refine hK _ _ ?_
  clear hK K hde
  obtain ⟨a5, c5, rfl⟩ := hE5.shape
  repeat (refine WalkE.pure rfl (fun K hK => ?_); simp only [PureDo]; go_simp; refine hK _ ?_; clear hK K)
  refine WalkE.step (fun K hK wf hwf hdf => ?_)
  simp only [OpDo, OpSafe, OpOut]
  go_simp
  refine ⟨Ext.alloc _ _, hK _ _ ?_⟩
  clear hK K hdf
  refine WalkE.nil (fun wn hwn hmn => ?_)
  simp only [List.drop_succ_cons, List.drop_zero, List.drop_nil]
  have e5 : Ext w5 wn := hmn 5 (by omega)
  have e9 := hmn 7 (by omega)
  have hxn : Ext w1 wn := (Ext.drew _).trans hwn
  have hGw : w1.heap.size ≤ wf.heap.size := Nat.le_trans (Ext.drew w1).size hwf.size
  have BG := BR.beside (c' := 0) hxn hi5 (hs5.ext e5) ((Blk.new wf _ _).ext e9) hGw e5 hD5 (by decide)
  have hN := hN.tr' hi5 ⟨(Tr.ext BR.st hxn).tnd, (Tr.ext BR.st hxn).shp⟩
  have BR := BR.grow (c' := 0) hxn hi5 (hs5.ext e5)
  have BA := BA.grow (c' := 0) hxn hi5 (hs5.ext e5)
  have hA5 := hE5.tr' (Inc.refl _ _) (Tr.ext hs5 e5)
  clear D0 D2 hmn HKc hwe hwf hwn e5 e9 hxn j4 hx1 he5 hi5 hs5 hE5 hD5 hA
  generalize wf.heap.size = G at BG hGw ⊢
  clear wf we w5
  have gc0 := BG.blk.cell 0 rfl; have gf0 := BG.blk.fr 0; have gc1 := BG.blk.cell 1 rfl; have gf1 := BG.blk.fr 1; have gc2 := BG.blk.cell 2 rfl; have gf2 := BG.blk.fr 2
  go_wp2_with fail
  have oG := BG.out
  have BR := ((BR.other (b' := G) (by omega) hd (by omega) (by omega) oG 0 (.int .i64 al)).other (b' := G) (by omega) hd (by omega) (by omega) oG 1 (.slice none 0 0)).other (b' := G) (by omega) hd (by omega) (by omega) oG 2 (.slice a5 m c5)
  have BA := ((BA.other (b' := G) (by omega) hd (by omega) (by omega) oG 0 (.int .i64 al)).other (b' := G) (by omega) hd (by omega) (by omega) oG 1 (.slice none 0 0)).other (b' := G) (by omega) hd (by omega) (by omega) oG 2 (.slice a5 m c5)
  have BG := ((BG.set (by omega) hd (by omega) 0 (.int .i64 al)).set (by omega) hd (by omega) 1 (.slice none 0 0)).set (by omega) hd (by omega) 2 (.slice a5 m c5)
  have hN : SlOk D5 (((wn.setCell ⟨G, 0, none⟩ (.int .i64 al)).setCell ⟨G, 1, none⟩ (.slice none 0 0)).setCell ⟨G, 2, none⟩ (.slice a5 m c5)) 80 1 (.slice aN n cN) n := (((hN.tr (fun _ h => h) (Shp.box oG)).tr (fun _ h => h) (Shp.box oG)).tr (fun _ h => h) (Shp.box oG))
  have hA5 : SlOk D5 (((wn.setCell ⟨G, 0, none⟩ (.int .i64 al)).setCell ⟨G, 1, none⟩ (.slice none 0 0)).setCell ⟨G, 2, none⟩ (.slice a5 m c5)) 4 1 (.slice a5 m c5) m := (((hA5.tr (fun _ h => h) (Shp.box oG)).tr (fun _ h => h) (Shp.box oG)).tr (fun _ h => h) (Shp.box oG))
  generalize ((wn.setCell ⟨G, 0, none⟩ (.int .i64 al)).setCell ⟨G, 1, none⟩ (.slice none 0 0)).setCell ⟨G, 2, none⟩ (.slice a5 m c5) = w2 at BR BA BG hN hA5 ⊢
  clear gc0 gc1 gc2 gf0 gf1 gf2 oG
  have hne1 : w.heap.size + 1 ≠ G := by omega
  have hne2 : G ≠ w.heap.size + 1 := by omega
  go_loopw [4] (fun i wr => ∃ (k : Nat) (D' : Nat → Prop) (vN : Value), k ≤ n ∧ i = .int .i64 k ∧ Box D g q w w.heap.size 0 #[.int .i64 al, .slice aN n cN, .slice aA m cA] 31 wr D' ∧ Box D g q w (w.heap.size + 1) 0 #[.int .i64 0, .slice none 0 0, .slice none 0 0] 31 wr D' ∧ Box D g q w G 0 #[.int .i64 al, vN, .slice a5 m c5] 31 wr D' ∧ SlOk D' wr 80 1 (.slice aN n cN) n ∧ SlOk D' wr 4 1 (.slice a5 m c5) m ∧ SlOk D' wr 80 1 vN k) (fun i _ => n - (intOf i).toNat)
  case atStart => exact ⟨0, D5, _, by omega, rfl, BA, BR, BG, hN, hA5, SlOk.nil⟩
  case round =>
    clear BA BR BG hN hA5
    obtain ⟨k, D6, vN, hk, rfl, BA, BR, BG, hN, hA, hV⟩ := hrel
    obtain ⟨aV, cV, rfl⟩ := hV.shape
    have ac1 := BA.blk.cell 1 rfl
    by_cases hlt : k < n
    · obtain ⟨b, cap, r, rc, rm, hv, hb, hc, hrm, hrow⟩ := hN.row_at BA.st.typ hlt
      cases hv
      have hk1 : (0 : Int) ≤ (k : Int) := by omega
      have hk2 : (k : Int) < (n : Int) := by omega
      go_wp2_with fail
      have D0 := fun d os => cell_regrown (BG.blk.cell 1 rfl) d os
      have D1 := fun d os => cell_regrown ac1 d os
      have D2 := fun d os => cell_regrown hc d os
      obtain ⟨Kc, HKc⟩ : ∃ Kc : FuncId → Array Value → World → Value → World → Prop, Hid (Kc = fun _ _ _ _ _ => True) := ⟨_, rfl⟩
      refine wp_region_ext (Kc := Kc) 10 (by kernel_rfl) (by kernel_rfl) ?_
      simp only [List.take_succ_cons, List.take_zero]
      repeat (refine WalkE.pure rfl (fun K hK => ?_); simp only [PureDo]; go_simp; refine hK _ ?_; clear hK K)
      refine WalkE.step (fun K hK we hwe hde => ?_)
      simp only [OpDo, OpSafe, OpOut]
      go_simp
      refine ⟨Ext.alloc _ _, hK _ _ ?_⟩
      clear hK K hde
      repeat (refine WalkE.pure rfl (fun K hK => ?_); simp only [PureDo]; go_simp; refine hK _ ?_; clear hK K)
      refine WalkE.step (fun K hK wf hwf hdf => ?_)
      have j4 : Ext (we.alloc (.cells #[] 3)) wf := hdf _ (Array.mem_of_getElem? (i := 0) rfl) rfl
      have hx1 : Ext wr wf := (Ext.drew _).trans hwf
      refine copy_do rfl rfl Tryz.underlying80 infoInt rfl (by decide) per_int zk_int BR.st hx1 (Nat.le_trans (Ext.drew wr).size hwe.size) ((Blk.new we _ _).ext j4) (hrow.tr' (Inc.refl _ _) (Tr.ext BR.st hx1)) rfl rfl (by omega) (by decide) ?_
      intro v5 w5 D7 he5 hi5 hs5 hE5 hD5
      refine hK _ _ ?_
      clear hK K hdf
      obtain ⟨a7, c7, rfl⟩ := hE5.shape
      repeat (refine WalkE.pure rfl (fun K hK => ?_); simp only [PureDo]; go_simp; refine hK _ ?_; clear hK K)
      refine WalkE.step (fun K hK wg hwg hdg => ?_)
      simp only [OpDo, OpSafe, OpOut]
      go_simp
      refine ⟨Ext.alloc _ _, hK _ _ ?_⟩
      clear hK K hdg
      refine WalkE.nil (fun wm hwm hmm => ?_)
      simp only [List.drop_succ_cons, List.drop_zero, List.drop_nil]
      have e5 : Ext w5 wm := hmm 8 (by omega)
      have e9 := hmm 9 (by omega)
      have hxn : Ext wr wm := (Ext.drew _).trans hwm
      have l0 := e9.new 0 rfl
      have hcell : ∀ (j' : Nat) (u : Value), [Value.slice a7 rm c7][j']? = some u → wm.cell? ((⟨wg.heap.size, 0, none⟩ : Addr).add j') = some u := fun j' u hu => by
        rw [add_none, Nat.zero_add]
        match j', hu with
        | 0, hu => simp at hu; subst hu; exact l0
        | j' + 1, hu => simp at hu
      have htn := Tr.ext BR.st hxn
      have hN := hN.tr' hi5 htn
      have hA := hA.tr' hi5 htn
      have hV := hV.tr' hi5 htn
      have hrow := hE5.tr' (Inc.refl _ _) (Tr.ext hs5 e5)
      have BA := BA.grow (c' := 0) hxn hi5 (hs5.ext e5)
      have BG := BG.grow (c' := 0) hxn hi5 (hs5.ext e5)
      have BR := BR.grow (c' := 0) hxn hi5 (hs5.ext e5)
      clear l0 e9 e5 hmm HKc D0 D1 D2 hwm hwe hwf hwg hxn htn hc ac1 hE5 hs5 hi5 he5 hD5 j4 hx1
      generalize wg.heap.size = r5 at hcell ⊢
      go_wp2_with (at_builtin; refine app_t (news := [Value.slice a7 rm c7]) (q' := q) rfl _ _ _ rfl Tryz.underlying28 infoInts rfl (by decide) per_ints zk_ints BG.st hV rfl rfl (by simp) hcell (by simp [Value.oneCell']) (kin_ints hrow hrm) (by omega) (by decide) (by omega) ?_; intro v1 w7 D8 hi7 hs7 ht7 hV7; obtain ⟨a8, c8, rfl⟩ := hV7.shape; have BG7 := BG.drawn (by omega) hi7 ht7 (c' := 0) hs7; have gc1 := BG7.blk.cell 1 rfl; have gf1 := BG7.blk.fr 1)
      have BA7 := BA.drawn (by omega) hi7 ht7 (c' := 0) hs7
      have BR7 := BR.drawn (by omega) hi7 ht7 (c' := 0) hs7
      have oG := BG7.out
      exact ⟨⟨k + 1, D8, _, by omega, by go_num, BA7.other (b' := G) (by omega) hd (by omega) (by omega) oG 1 _, BR7.other (b' := G) (by omega) hd (by omega) (by omega) oG 1 _, BG7.set (by omega) hd (by omega) 1 _, (hN.tr' hi7 ht7).tr (fun _ h => h) (Shp.box oG), (hA.tr' hi7 ht7).tr (fun _ h => h) (Shp.box oG), hV7.tr (fun _ h => h) (Shp.box oG)⟩, by simp [intOf]; omega⟩
    · obtain rfl : k = n := by omega
      have gc0 := BG.blk.cell 0 rfl; have gf0 := BG.blk.fr 0; have gc1 := BG.blk.cell 1 rfl; have gf1 := BG.blk.fr 1; have gc2 := BG.blk.cell 2 rfl; have gf2 := BG.blk.fr 2
      have zc0 := BR.blk.cell 0 rfl; have zf0 := BR.blk.fr 0; have zc1 := BR.blk.cell 1 rfl; have zf1 := BR.blk.fr 1; have zc2 := BR.blk.cell 2 rfl; have zf2 := BR.blk.fr 2
      go_wp2_with fail
      refine bodyPost_ret (v := .agg #[.int .i64 al, .slice aV k cV, .slice a5 m c5]) (by simp [results, Tryz.results72, go_sem, zc0, zc1, zc2, zf0, zf1, zf2]) rfl ?_
      have BZ := ((BR.set (by omega) hd (by omega) 0 (.int .i64 al)).set (by omega) hd (by omega) 1 (.slice aV k cV)).set (by omega) hd (by omega) 2 (.slice a5 m c5)
      have oZ := BR.out
      exact ⟨_, D6, rfl, BZ.inc, BZ.st, BZ.tr, _, _, rfl, (((hV.tr (fun _ h => h) (Shp.box oZ)).tr (fun _ h => h) (Shp.box oZ)).tr (fun _ h => h) (Shp.box oZ)), (((hA.tr (fun _ h => h) (Shp.box oZ)).tr (fun _ h => h) (Shp.box oZ)).tr (fun _ h => h) (Shp.box oZ))⟩
end Go.Proofs.YtanekmfifmkbmaaGreatDoor

namespace Go.Proofs.YtanekmfifmkbmaaGreatDoor
set_option linter.unusedSimpArgs false
set_option linter.unusedVariables false
open Go.RowKit
set_option maxHeartbeats 1000000
set_option maxRecDepth 100000
attribute [local go_sem ↓] Go.wp_at_zero Go.wp_at_succ

variable {D D' : Nat → Prop} {g q q' : Nat} {w w' : World}

theorem SlOk.store_row {n i : Nat} {v : Value} (hs : SlOk D w 80 1 v n) (h : St D g q w) (hi : i < n) : ∃ b cap r c m, v = .slice (some ⟨b, 0, none⟩) n cap ∧ D b ∧ w.cell? ⟨b, i, none⟩ = some (.slice r m c) ∧ w.frozen? ⟨b, i, none⟩ = false ∧ m ≤ q ∧ SlOk D w 3 1 (.slice r m c) m ∧ (∀ u m', m' ≤ q → SlOk D w 3 1 u m' → St D g q (w.setCell ⟨b, i, none⟩ u) ∧ Tr D g w (w.setCell ⟨b, i, none⟩ u)) := by
  obtain ⟨b, cap, cs, u, k, rfl, hb, hh, h1, hf, h2, h3⟩ := hs.at h.typ hi (j := 0) (by omega)
  have h2' : CK.sl 3 1 = k := Option.some.inj h2
  subst h2'
  obtain ⟨m, hm, h4⟩ := h3
  obtain ⟨r, c, rfl⟩ := h4.shape
  simp only [Nat.mul_one, Nat.add_zero] at h1 hf h2
  exact ⟨b, cap, r, c, m, rfl, hb, h1, hf, hm, h4, fun u m' hm' hu => h.set hb hh h2 ⟨m', hm', hu⟩⟩

def lenOf : Option Value → Nat
  | some (.slice _ k _) => k
  | _ => 0

theorem l3Wrong_t (v : Value) (hv : AutoT D q w v) (h : St D g q w) (hq : q + 50 ≤ 1000000) :
    Calls Tryz.prog 69 #[.pointer (some ⟨g, 0, none⟩), v] w (Drawn D g q 50 w AutoT) := by
  have hg := h.g_lt
  have hd := fun x hx => (h.dom x hx).2
  obtain ⟨al, n, m, aN0, cN0, aA0, cA0, rfl, hn, hm, hN, hA⟩ := hv.boxed
  have BA := Box.new h #[.int .i64 al, .slice aN0 n cN0, .slice aA0 m cA0] 31
  have BA := BA.ext (Ext.alloc _ (.cells #[.int .i64 0, .slice none 0 0, .slice none 0 0] 31))
  have BR : Box D g q w (w.heap.size + 1) 0 #[.int .i64 0, .slice none 0 0, .slice none 0 0] 31 _ D := ⟨BA.inc, BA.st, BA.tr, Ext.blk1 (Ext.refl _), h.out (by omega)⟩
  have hN := hN.tr' (Inc.refl _ _) BR.tr
  have hA := hA.tr' (Inc.refl _ _) BR.tr
  clear BA
  go_enter Tryz.func69, Tryz.ntmps69
  go_wp2_with fail
  refine (l3Copy_t al n m aN0 aA0 cN0 cA0 hn hm hN hA BR.st (by omega)).mono ?_
  rintro e w1 ⟨v1, D1, rfl, hi1, hs1, ht1, vN, vA, rfl, hN, hA⟩
  have BR := BR.drawn (by omega) hi1 ht1 (c' := 0) hs1
  obtain ⟨aN, cN, rfl⟩ := hN.shape
  obtain ⟨aA, cA, rfl⟩ := hA.shape
  go_wp2_with fail
  have he := Ext.alloc w1 (.cells #[.int .i64 al, .slice aN n cN, .slice aA m cA] 31)
  have BG : Box D g q w w1.heap.size 0 #[.int .i64 al, .slice aN n cN, .slice aA m cA] 31 _ D1 := ⟨BR.inc, (BR.ext he).st, (BR.ext he).tr, Blk.new _ _ _, BR.st.out (Nat.le_refl _)⟩
  have hN := hN.tr' (Inc.refl _ _) (Tr.ext BR.st he)
  have hA := hA.tr' (Inc.refl _ _) (Tr.ext BR.st he)
  have BR := BR.ext he
  have hGs : w.heap.size + 1 < w1.heap.size := Nat.lt_of_lt_of_le (by simp) ht1.size
  clear ht1 hi1 hs1 he
  generalize w1.alloc (.cells #[.int .i64 al, .slice aN n cN, .slice aA m cA] 31) = w2 at BR BG hN hA ⊢
  generalize w1.heap.size = G at BG hGs ⊢

  refine (pick_t n BG.st (by omega) (by omega)).mono ?_
  rintro e w3 ⟨k, rfl, hkn', -, hs3, hk3⟩
  have hkn : 0 < n → k < n := fun h0 => by have := hkn' (by omega); omega
  have hN := hN.tr' (Inc.refl _ _) (Tr.kept BG.st hk3)
  have hA := hA.tr' (Inc.refl _ _) (Tr.kept BG.st hk3)
  have BR := BR.kept (by omega) hk3 (c' := 1) hs3
  have BG := BG.kept (by omega) hk3 (c' := 1) hs3
  clear hs3 hk3 hkn'
  go_wp2_with fail
  refine (pick_t 30 BG.st (by omega) (by omega)).mono ?_
  rintro e w3 ⟨x, rfl, -, -, hs3, hk3⟩
  have hN := hN.tr' (Inc.refl _ _) (Tr.kept BG.st hk3)
  have hA := hA.tr' (Inc.refl _ _) (Tr.kept BG.st hk3)
  have BR := BR.kept (by omega) hk3 (c' := 2) hs3
  have BG := BG.kept (by omega) hk3 (c' := 2) hs3
  clear hs3 hk3
  have hx : x = 0 ∨ x = 1 ∨ x = 2 ∨ x = 3 ∨ x = 4 ∨ x = 5 ∨ 5 < x := by omega
  have hne1 : w.heap.size + 1 ≠ G := by omega
  have hne2 : G ≠ w.heap.size + 1 := by omega
  rcases hx with rfl | rfl | rfl | rfl | rfl | rfl | hx
  · go_wp2_with fail
    refine (num_t [64, -1, 1, 63, 0] rfl BG.st (by omega) (by decide) (by decide)).mono ?_
    rintro e w4 ⟨y, hy, rfl, hs4, hk4⟩
    have hN := hN.tr' (Inc.refl _ _) (Tr.kept BG.st hk4)
    have hA := hA.tr' (Inc.refl _ _) (Tr.kept BG.st hk4)
    have BR := BR.kept (by omega) hk4 (c' := 3) hs4
    have BG := BG.kept (by omega) hk4 (c' := 3) hs4
    clear hs4 hk4
    have gc0 := BG.blk.cell 0 rfl; have gf0 := BG.blk.fr 0; have gc1 := BG.blk.cell 1 rfl; have gf1 := BG.blk.fr 1; have gc2 := BG.blk.cell 2 rfl; have gf2 := BG.blk.fr 2; have rc0 := BR.blk.cell 0 rfl; have rf0 := BR.blk.fr 0; have rc1 := BR.blk.cell 1 rfl; have rf1 := BR.blk.fr 1; have rc2 := BR.blk.cell 2 rfl; have rf2 := BR.blk.fr 2
    go_wp2_with fail
    clear gc0 gc1 gc2 gf0 gf1 gf2 rc0 rc1 rc2 rf0 rf1 rf2
    have BR := BR.other (b' := G) (by omega) hd (by omega) (by omega) BG.out 0 (.int .i64 y)
    have hN : SlOk D1 (w4.setCell ⟨G, 0, none⟩ (.int .i64 y)) 80 1 (.slice aN n cN) n := hN.tr (fun _ h => h) (Shp.box BG.out)
    have hA : SlOk D1 (w4.setCell ⟨G, 0, none⟩ (.int .i64 y)) 4 1 (.slice aA m cA) m := hA.tr (fun _ h => h) (Shp.box BG.out)
    have zc0 := BR.blk.cell 0 rfl; have zf0 := BR.blk.fr 0; have zc1 := BR.blk.cell 1 rfl; have zf1 := BR.blk.fr 1; have zc2 := BR.blk.cell 2 rfl; have zf2 := BR.blk.fr 2
    refine bodyPost_ret (v := .agg #[.int .i64 y, .slice aN n cN, .slice aA m cA]) (by simp [results, Tryz.results69, go_sem, zc0, zc1, zc2, zf0, zf1, zf2]) rfl ?_
    have BZ := ((BR.set (by omega) hd (by omega) 0 (.int .i64 y)).set (by omega) hd (by omega) 1 (.slice aN n cN)).set (by omega) hd (by omega) 2 (.slice aA m cA)
    have oZ := BR.out
    exact ⟨_, _, rfl, BZ.inc, BZ.st.up (by omega), BZ.tr, _, _, _, _, _, rfl, by omega, by omega, (((hN.tr (fun _ h => h) (Shp.box oZ)).tr (fun _ h => h) (Shp.box oZ)).tr (fun _ h => h) (Shp.box oZ)), (((hA.tr (fun _ h => h) (Shp.box oZ)).tr (fun _ h => h) (Shp.box oZ)).tr (fun _ h => h) (Shp.box oZ))⟩
  · have gc0 := BG.blk.cell 0 rfl; have gf0 := BG.blk.fr 0; have gc1 := BG.blk.cell 1 rfl; have gf1 := BG.blk.fr 1; have gc2 := BG.blk.cell 2 rfl; have gf2 := BG.blk.fr 2; have rc0 := BR.blk.cell 0 rfl; have rf0 := BR.blk.fr 0; have rc1 := BR.blk.cell 1 rfl; have rf1 := BR.blk.fr 1; have rc2 := BR.blk.cell 2 rfl; have rf2 := BR.blk.fr 2
    go_wp2_with (at_builtin; refine app1_t (q + 3) rfl rfl Tryz.underlying29 infoBool rfl (by decide) per_bool zk_bool BG.st hA rfl rfl rfl (by simp [Value.oneCell']) (kin_bool _) (by omega) (by decide) (by omega) ?_; intro v1 w4 D4 hi4 hs4 ht4 hA4; obtain ⟨a4, c4, rfl⟩ := hA4.shape; have BR4 := BR.drawn (by omega) hi4 ht4 (c' := 3) hs4; have BG4 := BG.drawn (by omega) hi4 ht4 (c' := 3) hs4; clear gc0 gc1 gc2 gf0 gf1 gf2 rc0 rc1 rc2 rf0 rf1 rf2; have gc0 := BG4.blk.cell 0 rfl; have gf0 := BG4.blk.fr 0; have gc1 := BG4.blk.cell 1 rfl; have gf1 := BG4.blk.fr 1; have gc2 := BG4.blk.cell 2 rfl; have gf2 := BG4.blk.fr 2; have rc0 := BR4.blk.cell 0 rfl; have rf0 := BR4.blk.fr 0; have rc1 := BR4.blk.cell 1 rfl; have rf1 := BR4.blk.fr 1; have rc2 := BR4.blk.cell 2 rfl; have rf2 := BR4.blk.fr 2)
    clear gc0 gc1 gc2 gf0 gf1 gf2 rc0 rc1 rc2 rf0 rf1 rf2
    have BR5 := BR4.other (b' := G) (by omega) hd (by omega) (by omega) BG4.out 2 (.slice a4 (m + 1) c4)
    have hA5 : SlOk D4 (w4.setCell ⟨G, 2, none⟩ (.slice a4 (m + 1) c4)) 4 1 (.slice a4 (m + 1) c4) (m + 1) := hA4.tr (fun _ h => h) (Shp.box BG4.out)
    have hN5 : SlOk D4 (w4.setCell ⟨G, 2, none⟩ (.slice a4 (m + 1) c4)) 80 1 (.slice aN n cN) n := (hN.tr' hi4 ht4).tr (fun _ h => h) (Shp.box BG4.out)
    have zc0 := BR5.blk.cell 0 rfl; have zf0 := BR5.blk.fr 0; have zc1 := BR5.blk.cell 1 rfl; have zf1 := BR5.blk.fr 1; have zc2 := BR5.blk.cell 2 rfl; have zf2 := BR5.blk.fr 2
    refine bodyPost_ret (v := .agg #[.int .i64 al, .slice aN n cN, .slice a4 (m + 1) c4]) (by simp [results, Tryz.results69, go_sem, zc0, zc1, zc2, zf0, zf1, zf2]) rfl ?_
    have BZ := ((BR5.set (by omega) hd (by omega) 0 (.int .i64 al)).set (by omega) hd (by omega) 1 (.slice aN n cN)).set (by omega) hd (by omega) 2 (.slice a4 (m + 1) c4)
    have oZ := BR5.out
    exact ⟨_, _, rfl, BZ.inc, BZ.st.up (by omega), BZ.tr, _, _, _, _, _, rfl, by omega, by omega, (((hN5.tr (fun _ h => h) (Shp.box oZ)).tr (fun _ h => h) (Shp.box oZ)).tr (fun _ h => h) (Shp.box oZ)), (((hA5.tr (fun _ h => h) (Shp.box oZ)).tr (fun _ h => h) (Shp.box oZ)).tr (fun _ h => h) (Shp.box oZ))⟩
  · by_cases hn0 : 0 < n
    · have hk0 : k < n := hkn hn0
      have hk1 : (0 : Int) ≤ (k : Int) := by omega
      have hk2 : (k : Int) < (n : Int) := by omega
      obtain ⟨b, cap, r, rc, rm, hv5, hb, hc, -, hrm, hrow, -⟩ := hN.store_row BG.st hk0
      cases hv5
      have gc1 := BG.blk.cell 1 rfl
      go_wp2_with fail
      have BG' := BG.ext (Ext.drew _)
      have BR' := BR.ext (Ext.drew _)
      have hN' := hN.tr' (Inc.refl _ _) (Tr.ext BG.st (Ext.drew _))
      have hA' := hA.tr' (Inc.refl _ _) (Tr.ext BG.st (Ext.drew _))
      have hrow' := hrow.tr' (Inc.refl _ _) (Tr.ext BG.st (Ext.drew _))
      have gl1 := fun o => (Ext.alloc w3 o).cell gc1
      have gl2 := fun o => (Ext.alloc w3 o).cell hc
      go_region_law (refine step_app1_t (q + 3) (by rfl) (by rfl) Tryz.underlying80 infoInt (by rfl) (by decide) per_int zk_int BG'.st hrow' (by rfl) (by rfl) (by rfl) (by simp [Value.oneCell']) (kin_int _) (by omega) (by decide) (by omega) ?_; intro v1 w7 D7 hi7 hs7 ht7 hE7; obtain ⟨a7, c7, rfl⟩ := hE7.shape; have hN7 := hN'.tr' hi7 ht7; obtain ⟨b2, cap2, r2, rc2, rm2, hv7, hb2, hc2, hf2, hrm2, hrow2, hst2⟩ := hN7.store_row hs7 hk0; cases hv7; have BG7 := BG'.drawn (by omega) hi7 ht7 (c' := 3) hs7; have BR7 := BR'.drawn (by omega) hi7 ht7 (c' := 3) hs7; have gc7 := BG7.blk.cell 1 rfl)
      all_goals
        obtain ⟨s8, t8⟩ := hst2 (.slice a7 (rm + 1) c7) (rm + 1) (by omega) hE7
        have BR8 := BR7.drawn (by omega) (Inc.refl _ _) t8 s8
        have BG8 := BG7.drawn (by omega) (Inc.refl _ _) t8 s8
        have hN8 := hN7.tr' (Inc.refl _ _) t8
        have hA8 := (hA'.tr' hi7 ht7).tr' (Inc.refl _ _) t8
        clear hc2 hf2 gc7 gl1 gl2 gc1 hc hst2 s8 t8
        generalize w7.setCell ⟨b, k, none⟩ (.slice a7 (rm + 1) c7) = w8 at BR8 BG8 hN8 hA8 ⊢
        have gc0 := BG8.blk.cell 0 rfl; have gf0 := BG8.blk.fr 0; have gc1 := BG8.blk.cell 1 rfl; have gf1 := BG8.blk.fr 1; have gc2 := BG8.blk.cell 2 rfl; have gf2 := BG8.blk.fr 2; have rc0 := BR8.blk.cell 0 rfl; have rf0 := BR8.blk.fr 0; have rc1 := BR8.blk.cell 1 rfl; have rf1 := BR8.blk.fr 1; have rc2 := BR8.blk.cell 2 rfl; have rf2 := BR8.blk.fr 2
        go_wp2_with fail
        clear gc0 gc1 gc2 gf0 gf1 gf2 rc0 rc1 rc2 rf0 rf1 rf2
        have zc0 := BR8.blk.cell 0 rfl; have zf0 := BR8.blk.fr 0; have zc1 := BR8.blk.cell 1 rfl; have zf1 := BR8.blk.fr 1; have zc2 := BR8.blk.cell 2 rfl; have zf2 := BR8.blk.fr 2
        refine bodyPost_ret (v := .agg #[.int .i64 al, .slice (some ⟨b, 0, none⟩) n cN, .slice aA m cA]) (by simp [results, Tryz.results69, go_sem, zc0, zc1, zc2, zf0, zf1, zf2]) rfl ?_
        have BZ := ((BR8.set (by omega) hd (by omega) 0 (.int .i64 al)).set (by omega) hd (by omega) 1 (.slice (some ⟨b, 0, none⟩) n cN)).set (by omega) hd (by omega) 2 (.slice aA m cA)
        have oZ := BR8.out
        exact ⟨_, _, rfl, BZ.inc, BZ.st.up (by omega), BZ.tr, _, _, _, _, _, rfl, by omega, by omega, (((hN8.tr (fun _ h => h) (Shp.box oZ)).tr (fun _ h => h) (Shp.box oZ)).tr (fun _ h => h) (Shp.box oZ)), (((hA8.tr (fun _ h => h) (Shp.box oZ)).tr (fun _ h => h) (Shp.box oZ)).tr (fun _ h => h) (Shp.box oZ))⟩
    · have hz : n < 1 := by omega
      clear hn0
      have gc0 := BG.blk.cell 0 rfl; have gf0 := BG.blk.fr 0; have gc1 := BG.blk.cell 1 rfl; have gf1 := BG.blk.fr 1; have gc2 := BG.blk.cell 2 rfl; have gf2 := BG.blk.fr 2; have rc0 := BR.blk.cell 0 rfl; have rf0 := BR.blk.fr 0; have rc1 := BR.blk.cell 1 rfl; have rf1 := BR.blk.fr 1; have rc2 := BR.blk.cell 2 rfl; have rf2 := BR.blk.fr 2
      go_wp2_with fail
      clear gc0 gc1 gc2 gf0 gf1 gf2 rc0 rc1 rc2 rf0 rf1 rf2
      have zc0 := BR.blk.cell 0 rfl; have zf0 := BR.blk.fr 0; have zc1 := BR.blk.cell 1 rfl; have zf1 := BR.blk.fr 1; have zc2 := BR.blk.cell 2 rfl; have zf2 := BR.blk.fr 2
      refine bodyPost_ret (v := .agg #[.int .i64 al, .slice aN n cN, .slice aA m cA]) (by simp [results, Tryz.results69, go_sem, zc0, zc1, zc2, zf0, zf1, zf2]) rfl ?_
      have BZ := ((BR.set (by omega) hd (by omega) 0 (.int .i64 al)).set (by omega) hd (by omega) 1 (.slice aN n cN)).set (by omega) hd (by omega) 2 (.slice aA m cA)
      have oZ := BR.out
      exact ⟨_, _, rfl, BZ.inc, BZ.st.up (by omega), BZ.tr, _, _, _, _, _, rfl, by omega, by omega, (((hN.tr (fun _ h => h) (Shp.box oZ)).tr (fun _ h => h) (Shp.box oZ)).tr (fun _ h => h) (Shp.box oZ)), (((hA.tr (fun _ h => h) (Shp.box oZ)).tr (fun _ h => h) (Shp.box oZ)).tr (fun _ h => h) (Shp.box oZ))⟩
  · by_cases hn0 : 0 < n
    · have hk0 : k < n := hkn hn0
      have hk1 : (0 : Int) ≤ (k : Int) := by omega
      have hk2 : (k : Int) < (n : Int) := by omega
      obtain ⟨b, cap, r, rc, rm, hv5, hb, hc, -, hrm, hrow, -⟩ := hN.store_row BG.st hk0
      cases hv5
      have gc1 := BG.blk.cell 1 rfl
      by_cases hr0 : 0 < rm
      · obtain ⟨b1, cap1, u1, hv6, hb1, -, -, -⟩ := hrow.store_int BG.st hr0
        cases hv6
        go_wp2_with fail
        refine (pick_t rm BG.st (by omega) (by omega)).mono ?_
        rintro e w4 ⟨j, rfl, hj', -, hs4, hk4⟩
        have hj : j < rm := by have := hj' (by omega); omega
        have hj1 : (0 : Int) ≤ (j : Int) := by omega
        have hj2 : (j : Int) < (rm : Int) := by omega
        have hN4 := hN.tr' (Inc.refl _ _) (Tr.kept BG.st hk4)
        have hA4 := hA.tr' (Inc.refl _ _) (Tr.kept BG.st hk4)
        have hrow4 := hrow.tr' (Inc.refl _ _) (Tr.kept BG.st hk4)
        have hbg : b ≠ g := by have := (BG.st.dom b hb).1; omega
        have hc4 := hk4.cell (p := ⟨b, k, none⟩) hbg hc
        have BR4 := BR.kept (by omega) hk4 (c' := 3) hs4
        have BG4 := BG.kept (by omega) hk4 (c' := 3) hs4
        clear hs4 hk4 hj' hc gc1
        have gc4 := BG4.blk.cell 1 rfl
        go_wp2_with fail
        have BG' := BG4.ext (Ext.drew _)
        have BR' := BR4.ext (Ext.drew _)
        have hN' := hN4.tr' (Inc.refl _ _) (Tr.ext BG4.st (Ext.drew _))
        have hA' := hA4.tr' (Inc.refl _ _) (Tr.ext BG4.st (Ext.drew _))
        have hrow' := hrow4.tr' (Inc.refl _ _) (Tr.ext BG4.st (Ext.drew _))
        have gl1 := fun o => (Ext.alloc w4 o).cell gc4
        have gl2 := fun o => (Ext.alloc w4 o).cell hc4
        have hw1 : IntKind.i64.wrap ((n : Int) - 1) = (n : Int) - 1 := IntWalk.i64_in _ (by omega)
        go_region_law (go_simp; go_wp2_with (go_at_call 63; refine (num_t [-1, (n : Int), (n : Int) - 1, 0] rfl BG'.st (by omega) (by simp) (by simp)).mono ?_; rintro e w6 ⟨y, hy, rfl, hs6, hk6⟩; have BG6 := BG'.kept (by omega) hk6 (c' := 4) (hs6.up (by omega)); have gc6 := BG6.blk.cell 1 rfl; have gd6 := hk6.cell (p := ⟨b, k, none⟩) hbg ((Ext.drew w4).cell hc4); have hrow6 := hrow'.tr' (Inc.refl _ _) (Tr.kept BG'.st hk6); obtain ⟨b2, cap2, u2, hv2, hb2, gs6, gf6, hst6⟩ := hrow6.store_int BG6.st hj; cases hv2))
        all_goals
          obtain ⟨s7, t7⟩ := hst6 y
          have BR7 := (BR'.kept (by omega) hk6 (c' := 4) (hs6.up (by omega))).drawn (by omega) (Inc.refl _ _) t7 s7
          have BG7 := BG6.drawn (by omega) (Inc.refl _ _) t7 s7
          have hN7 := (hN'.tr' (Inc.refl _ _) (Tr.kept BG'.st hk6)).tr' (Inc.refl _ _) t7
          have hA7 := (hA'.tr' (Inc.refl _ _) (Tr.kept BG'.st hk6)).tr' (Inc.refl _ _) t7
          clear gs6 gf6 hst6 s7 t7 gc6 gd6 gl1 gl2 gc4 hc4
          generalize w6.setCell ⟨b1, j, none⟩ (.int .i64 y) = w7 at BR7 BG7 hN7 hA7 ⊢
          have gc0 := BG7.blk.cell 0 rfl; have gf0 := BG7.blk.fr 0; have gc1 := BG7.blk.cell 1 rfl; have gf1 := BG7.blk.fr 1; have gc2 := BG7.blk.cell 2 rfl; have gf2 := BG7.blk.fr 2; have rc0 := BR7.blk.cell 0 rfl; have rf0 := BR7.blk.fr 0; have rc1 := BR7.blk.cell 1 rfl; have rf1 := BR7.blk.fr 1; have rc2 := BR7.blk.cell 2 rfl; have rf2 := BR7.blk.fr 2
          go_wp2_with fail
          clear gc0 gc1 gc2 gf0 gf1 gf2 rc0 rc1 rc2 rf0 rf1 rf2
          have zc0 := BR7.blk.cell 0 rfl; have zf0 := BR7.blk.fr 0; have zc1 := BR7.blk.cell 1 rfl; have zf1 := BR7.blk.fr 1; have zc2 := BR7.blk.cell 2 rfl; have zf2 := BR7.blk.fr 2
          refine bodyPost_ret (v := .agg #[.int .i64 al, .slice (some ⟨b, 0, none⟩) n cN, .slice aA m cA]) (by simp [results, Tryz.results69, go_sem, zc0, zc1, zc2, zf0, zf1, zf2]) rfl ?_
          have BZ := ((BR7.set (by omega) hd (by omega) 0 (.int .i64 al)).set (by omega) hd (by omega) 1 (.slice (some ⟨b, 0, none⟩) n cN)).set (by omega) hd (by omega) 2 (.slice aA m cA)
          have oZ := BR7.out
          exact ⟨_, _, rfl, BZ.inc, BZ.st.up (by omega), BZ.tr, _, _, _, _, _, rfl, by omega, by omega, (((hN7.tr (fun _ h => h) (Shp.box oZ)).tr (fun _ h => h) (Shp.box oZ)).tr (fun _ h => h) (Shp.box oZ)), (((hA7.tr (fun _ h => h) (Shp.box oZ)).tr (fun _ h => h) (Shp.box oZ)).tr (fun _ h => h) (Shp.box oZ))⟩
      · have hz : rm < 1 := by omega
        clear hr0
        have gc0 := BG.blk.cell 0 rfl; have gf0 := BG.blk.fr 0; have gc1 := BG.blk.cell 1 rfl; have gf1 := BG.blk.fr 1; have gc2 := BG.blk.cell 2 rfl; have gf2 := BG.blk.fr 2; have rc0 := BR.blk.cell 0 rfl; have rf0 := BR.blk.fr 0; have rc1 := BR.blk.cell 1 rfl; have rf1 := BR.blk.fr 1; have rc2 := BR.blk.cell 2 rfl; have rf2 := BR.blk.fr 2
        go_wp2_with fail
        clear gc0 gc1 gc2 gf0 gf1 gf2 rc0 rc1 rc2 rf0 rf1 rf2
        have zc0 := BR.blk.cell 0 rfl; have zf0 := BR.blk.fr 0; have zc1 := BR.blk.cell 1 rfl; have zf1 := BR.blk.fr 1; have zc2 := BR.blk.cell 2 rfl; have zf2 := BR.blk.fr 2
        refine bodyPost_ret (v := .agg #[.int .i64 al, .slice (some ⟨b, 0, none⟩) n cN, .slice aA m cA]) (by simp [results, Tryz.results69, go_sem, zc0, zc1, zc2, zf0, zf1, zf2]) rfl ?_
        have BZ := ((BR.set (by omega) hd (by omega) 0 (.int .i64 al)).set (by omega) hd (by omega) 1 (.slice (some ⟨b, 0, none⟩) n cN)).set (by omega) hd (by omega) 2 (.slice aA m cA)
        have oZ := BR.out
        exact ⟨_, _, rfl, BZ.inc, BZ.st.up (by omega), BZ.tr, _, _, _, _, _, rfl, by omega, by omega, (((hN.tr (fun _ h => h) (Shp.box oZ)).tr (fun _ h => h) (Shp.box oZ)).tr (fun _ h => h) (Shp.box oZ)), (((hA.tr (fun _ h => h) (Shp.box oZ)).tr (fun _ h => h) (Shp.box oZ)).tr (fun _ h => h) (Shp.box oZ))⟩
    · have hz : n < 1 := by omega
      clear hn0
      have gc0 := BG.blk.cell 0 rfl; have gf0 := BG.blk.fr 0; have gc1 := BG.blk.cell 1 rfl; have gf1 := BG.blk.fr 1; have gc2 := BG.blk.cell 2 rfl; have gf2 := BG.blk.fr 2; have rc0 := BR.blk.cell 0 rfl; have rf0 := BR.blk.fr 0; have rc1 := BR.blk.cell 1 rfl; have rf1 := BR.blk.fr 1; have rc2 := BR.blk.cell 2 rfl; have rf2 := BR.blk.fr 2
      go_wp2_with fail
      clear gc0 gc1 gc2 gf0 gf1 gf2 rc0 rc1 rc2 rf0 rf1 rf2
      have zc0 := BR.blk.cell 0 rfl; have zf0 := BR.blk.fr 0; have zc1 := BR.blk.cell 1 rfl; have zf1 := BR.blk.fr 1; have zc2 := BR.blk.cell 2 rfl; have zf2 := BR.blk.fr 2
      refine bodyPost_ret (v := .agg #[.int .i64 al, .slice aN n cN, .slice aA m cA]) (by simp [results, Tryz.results69, go_sem, zc0, zc1, zc2, zf0, zf1, zf2]) rfl ?_
      have BZ := ((BR.set (by omega) hd (by omega) 0 (.int .i64 al)).set (by omega) hd (by omega) 1 (.slice aN n cN)).set (by omega) hd (by omega) 2 (.slice aA m cA)
      have oZ := BR.out
      exact ⟨_, _, rfl, BZ.inc, BZ.st.up (by omega), BZ.tr, _, _, _, _, _, rfl, by omega, by omega, (((hN.tr (fun _ h => h) (Shp.box oZ)).tr (fun _ h => h) (Shp.box oZ)).tr (fun _ h => h) (Shp.box oZ)), (((hA.tr (fun _ h => h) (Shp.box oZ)).tr (fun _ h => h) (Shp.box oZ)).tr (fun _ h => h) (Shp.box oZ))⟩
  · obtain ⟨i4, s4, t4, l4⟩ := SlOk.lit BG.st 80 1
    have BR4 := BR.drawn (by omega) i4 t4 s4
    have BG4 := BG.drawn (by omega) i4 t4 s4
    have oG4 := BG4.out
    have BR5 := BR4.other (b' := G) (by omega) hd (by omega) (by omega) oG4 1 (.slice (some ⟨w3.heap.size, 0, none⟩) 0 0)
    have BG5 := BG4.set (by omega) hd (by omega) 1 (.slice (some ⟨w3.heap.size, 0, none⟩) 0 0)
    have l5 := l4.tr (fun _ h => h) (Shp.box (j := 1) (u := .slice (some ⟨w3.heap.size, 0, none⟩) 0 0) oG4)
    obtain ⟨w5, hw5⟩ : ∃ w5, w5 = (w3.alloc (.cells #[] 80)).setCell ⟨G, 1, none⟩ (.slice (some ⟨w3.heap.size, 0, none⟩) 0 0) := ⟨_, rfl⟩
    have hsz5 : w5.heap.size = w3.heap.size + 1 := by rw [hw5]; simp
    rw [← hw5] at BR5 BG5 l5
    obtain ⟨i6, s6, t6, l6⟩ := SlOk.lit BG5.st 4 1
    have l7 := l5.tr' i6 t6
    have BR6 := BR5.drawn (by omega) i6 t6 s6
    have BG6 := BG5.drawn (by omega) i6 t6 s6
    have BR7 := BR6.other (b' := G) (by omega) hd (by omega) (by omega) BG6.out 2 (.slice (some ⟨w5.heap.size, 0, none⟩) 0 0)
    have BG7 := BG6.set (by omega) hd (by omega) 2 (.slice (some ⟨w5.heap.size, 0, none⟩) 0 0)
    have l8 := l7.tr (fun _ h => h) (Shp.box (j := 2) (u := .slice (some ⟨w5.heap.size, 0, none⟩) 0 0) BG6.out)
    have l9 := l6.tr (fun _ h => h) (Shp.box (j := 2) (u := .slice (some ⟨w5.heap.size, 0, none⟩) 0 0) BG6.out)
    rw [hsz5] at BR7 BG7 l8 l9
    have gc1 := fun o => (Ext.alloc w3 o).cell (BG.blk.cell 1 rfl)
    have gf1 : ∀ cs t, (w3.alloc (.cells cs t)).frozen? ⟨G, 1, none⟩ = false := fun cs t => (BG.blk.ext (Ext.alloc _ _)).fr 1
    have gc0 := BG.blk.cell 0 rfl
    have gc2 := BG.blk.cell 2 rfl
    have rc0 := BR.blk.cell 0 rfl
    have gz0 := BG7.blk.cell 0 rfl
    have gz1 := BG7.blk.cell 1 rfl
    have gz2 := BG7.blk.cell 2 rfl
    have gz3 := BG6.blk.cell 2 rfl
    have gz4 := BG6.blk.fr 2
    have rz := BR7.blk
    rw [hw5] at gz0 gz1 gz2 gz3 gz4
    have zc0 := rz.cell 0 rfl; have zf0 := rz.fr 0; have zc1 := rz.cell 1 rfl; have zf1 := rz.fr 1; have zc2 := rz.cell 2 rfl; have zf2 := rz.fr 2
    rw [hw5] at zc0 zc1 zc2 zf0 zf1 zf2
    go_wp2_with fail
    clear gc0 gc1 gc2 gf1 rc0 gz0 gz1 gz2 gz3 gz4 zc0 zc1 zc2 zf0 zf1 zf2 rz
    subst hw5
    have zc0 := BR7.blk.cell 0 rfl; have zf0 := BR7.blk.fr 0; have zc1 := BR7.blk.cell 1 rfl; have zf1 := BR7.blk.fr 1; have zc2 := BR7.blk.cell 2 rfl; have zf2 := BR7.blk.fr 2
    refine bodyPost_ret (v := .agg #[.int .i64 al, .slice (some ⟨w3.heap.size, 0, none⟩) 0 0, .slice (some ⟨w3.heap.size + 1, 0, none⟩) 0 0]) (by simp [results, Tryz.results69, go_sem, zc0, zc1, zc2, zf0, zf1, zf2]) rfl ?_
    have BZ := ((BR7.set (by omega) hd (by omega) 0 (.int .i64 al)).set (by omega) hd (by omega) 1 (.slice (some ⟨w3.heap.size, 0, none⟩) 0 0)).set (by omega) hd (by omega) 2 (.slice (some ⟨w3.heap.size + 1, 0, none⟩) 0 0)
    have oZ := BR7.out
    exact ⟨_, _, rfl, BZ.inc, BZ.st.up (by omega), BZ.tr, _, _, _, _, _, rfl, by omega, by omega, (((l8.tr (fun _ h => h) (Shp.box oZ)).tr (fun _ h => h) (Shp.box oZ)).tr (fun _ h => h) (Shp.box oZ)), (((l9.tr (fun _ h => h) (Shp.box oZ)).tr (fun _ h => h) (Shp.box oZ)).tr (fun _ h => h) (Shp.box oZ))⟩
  · go_wp2_with fail
    go_loopw [92, 93, 94, 95] (fun _ _ _ _ wr => ∃ (t : Nat) (D' : Nat → Prop) (vN vA : Value), (t = 0 ∨ n + t ≤ 13) ∧ Box D g q w (w.heap.size + 1) (2 + t) #[.int .i64 0, .slice none 0 0, .slice none 0 0] 31 wr D' ∧ Box D g q w G (2 + t) #[.int .i64 al, vN, vA] 31 wr D' ∧ SlOk D' wr 80 1 vN (n + t) ∧ SlOk D' wr 4 1 vA (m + t)) (fun _ _ _ _ wr => 13 - lenOf (wr.cell? ⟨G, 1, none⟩))
    case atStart => exact ⟨0, D1, _, _, .inl rfl, BR, BG, hN, hA⟩
    case round =>
      clear BR BG hN hA
      obtain ⟨t, D2, vN, vA, ht, BR, BG, hN, hA⟩ := hrel
      obtain ⟨aN, cN, rfl⟩ := hN.shape
      obtain ⟨aA, cA, rfl⟩ := hA.shape
      have gc1 := BG.blk.cell 1 rfl
      have hlen : lenOf (wr.cell? ⟨G, 1, none⟩) = n + t := by rw [gc1]; rfl
      rw [hlen]
      clear hlen
      by_cases hn0 : 0 < n
      · by_cases hnt : n + t ≤ 12
        · have hnt1 : ((n : Int) + (t : Int)) ≤ 12 := by omega
          obtain ⟨b, cap, r, rc, rm, hv5, hb, hc, -, hrm, hrow, -⟩ := hN.store_row BG.st (i := 0) (by omega)
          cases hv5
          have hk1 : (0 : Int) < (n : Int) + (t : Int) := by omega
          have hk2 : 0 < n + t := by omega
          go_wp2_with fail
          have D0 := fun d os => cell_regrown gc1 d os
          have D3 := fun d os => cell_regrown hc d os
          obtain ⟨Kc, HKc⟩ : ∃ Kc : FuncId → Array Value → World → Value → World → Prop, Hid (Kc = fun _ _ _ _ _ => True) := ⟨_, rfl⟩
          refine wp_region_ext (Kc := Kc) 9 (by kernel_rfl) (by kernel_rfl) ?_
          simp only [List.take_succ_cons, List.take_zero]
          repeat (refine WalkE.pure rfl (fun K hK => ?_); simp only [PureDo]; go_simp; refine hK _ ?_; clear hK K)
          refine WalkE.step (fun K hK we hwe hde => ?_)
          simp only [OpDo, OpSafe, OpOut]
          go_simp
          refine ⟨Ext.alloc _ _, hK _ _ ?_⟩
          clear hK K hde
          repeat (refine WalkE.pure rfl (fun K hK => ?_); simp only [PureDo]; go_simp; refine hK _ ?_; clear hK K)
          refine WalkE.step (fun K hK wf hwf hdf => ?_)
          have j4 : Ext (we.alloc (.cells #[] 3)) wf := hdf _ (Array.mem_of_getElem? (i := 0) rfl) rfl
          have hx1 : Ext wr wf := (Ext.drew _).trans hwf
          refine copy_do rfl rfl Tryz.underlying80 infoInt rfl (by decide) per_int zk_int BR.st hx1 (Nat.le_trans (Ext.drew wr).size hwe.size) ((Blk.new we _ _).ext j4) (hrow.tr' (Inc.refl _ _) (Tr.ext BR.st hx1)) rfl rfl (by omega) (by decide) ?_
          intro v5 w5 D7 he5 hi5 hs5 hE5 hD5
          refine hK _ _ ?_
          clear hK K hdf
          obtain ⟨a7, c7, rfl⟩ := hE5.shape
          repeat (refine WalkE.pure rfl (fun K hK => ?_); simp only [PureDo]; go_simp; refine hK _ ?_; clear hK K)
          refine WalkE.step (fun K hK wg hwg hdg => ?_)
          simp only [OpDo, OpSafe, OpOut]
          go_simp
          refine ⟨Ext.alloc _ _, hK _ _ ?_⟩
          clear hK K hdg
          refine WalkE.nil (fun wm hwm hmm => ?_)
          simp only [List.drop_succ_cons, List.drop_zero, List.drop_nil]
          have e5 : Ext w5 wm := hmm 7 (by omega)
          have e9 := hmm 8 (by omega)
          have hxn : Ext wr wm := (Ext.drew _).trans hwm
          have l0 := e9.new 0 rfl
          have hcell : ∀ (j' : Nat) (u : Value), [Value.slice a7 rm c7][j']? = some u → wm.cell? ((⟨wg.heap.size, 0, none⟩ : Addr).add j') = some u := fun j' u hu => by
            rw [add_none, Nat.zero_add]
            match j', hu with
            | 0, hu => simp at hu; subst hu; exact l0
            | j' + 1, hu => simp at hu
          have htn := Tr.ext BR.st hxn
          have hN := hN.tr' hi5 htn
          have hA := hA.tr' hi5 htn
          have hrow := hE5.tr' (Inc.refl _ _) (Tr.ext hs5 e5)
          have BG := BG.grow (c' := 2 + t) hxn hi5 (hs5.ext e5)
          have BR := BR.grow (c' := 2 + t) hxn hi5 (hs5.ext e5)
          clear l0 e9 e5 hmm HKc D0 D3 hwm hwe hwf hwg hxn htn hc gc1 hE5 hs5 hi5 he5 hD5 j4 hx1
          generalize wg.heap.size = r5 at hcell ⊢
          go_wp2_with (first
            | (at_builtin; (refine app_t (news := [Value.slice a7 rm c7]) (q' := q + (2 + (t + 1))) rfl _ _ _ rfl Tryz.underlying28 infoInts rfl (by decide) per_ints zk_ints BG.st hN rfl rfl (by simp) hcell (by simp [Value.oneCell']) (kin_ints hrow hrm) (by omega) (by decide) (by omega) ?_; intro v1 w7 D8 hi7 hs7 ht7 hV7; obtain ⟨a8, c8, rfl⟩ := hV7.shape; have BG7 := BG.drawn (by omega) hi7 ht7 (c' := 2 + (t + 1)) hs7; have BR7 := BR.drawn (by omega) hi7 ht7 (c' := 2 + (t + 1)) hs7; have gc1 := BG7.blk.cell 1 rfl; have gf1 := BG7.blk.fr 1; have gc2 := BG7.blk.cell 2 rfl; have BG8 := BG7.set (by omega) hd (by omega) 1 (.slice a8 (n + t + 1) c8); have BR8 := BR7.other (b' := G) (by omega) hd (by omega) (by omega) BG7.out 1 (.slice a8 (n + t + 1) c8); have hA8 := (hA.tr' hi7 ht7).tr (fun _ h => h) (Shp.box (j := 1) (u := .slice a8 (n + t + 1) c8) BG7.out); have hN8 := hV7.tr (fun _ h => h) (Shp.box (j := 1) (u := .slice a8 (n + t + 1) c8) BG7.out)))
            | (at_builtin; (refine app1_t (q + (2 + (t + 1))) rfl rfl Tryz.underlying29 infoBool rfl (by decide) per_bool zk_bool BG8.st hA8 rfl (by rw [show (w7.setCell ⟨G, 1, none⟩ (.slice a8 (n + t + 1) c8)).heap.size = w7.heap.size from by simp]; rfl) rfl (by simp [Value.oneCell']) (kin_bool _) (by omega) (by decide) (by omega) ?_; intro v2 w9 D9 hi9 hs9 ht9 hA9; obtain ⟨a9, c9, rfl⟩ := hA9.shape; have BG9 := BG8.drawn (by omega) hi9 ht9 (c' := 2 + (t + 1)) hs9; have BR9 := BR8.drawn (by omega) hi9 ht9 (c' := 2 + (t + 1)) hs9; have gd2 := BG9.blk.cell 2 rfl; have ge2 := BG9.blk.fr 2)))
          have o9 := BG9.out
          have BGf := BG9.set (by omega) hd (by omega) 2 (.slice a9 (m + t + 1) c9)
          have hlen2 := BGf.blk.cell 1 rfl
          refine ⟨⟨t + 1, D9, _, _, .inr (by omega), BR9.other (b' := G) (by omega) hd (by omega) (by omega) o9 2 _, BGf, (hN8.tr' hi9 ht9).tr (fun _ h => h) (Shp.box o9), hA9.tr (fun _ h => h) (Shp.box o9)⟩, ?_⟩
          rw [hlen2]
          show 13 - (n + t + 1) < 13 - (n + t)
          omega
        · have hz : 12 < n + t := by omega
          clear hnt
          have gc0 := BG.blk.cell 0 rfl; have gf0 := BG.blk.fr 0; have gc1 := BG.blk.cell 1 rfl; have gf1 := BG.blk.fr 1; have gc2 := BG.blk.cell 2 rfl; have gf2 := BG.blk.fr 2; have rc0 := BR.blk.cell 0 rfl; have rf0 := BR.blk.fr 0; have rc1 := BR.blk.cell 1 rfl; have rf1 := BR.blk.fr 1; have rc2 := BR.blk.cell 2 rfl; have rf2 := BR.blk.fr 2
          go_wp2_with fail
          clear gc0 gc1 gc2 gf0 gf1 gf2 rc0 rc1 rc2 rf0 rf1 rf2
          have zc0 := BR.blk.cell 0 rfl; have zf0 := BR.blk.fr 0; have zc1 := BR.blk.cell 1 rfl; have zf1 := BR.blk.fr 1; have zc2 := BR.blk.cell 2 rfl; have zf2 := BR.blk.fr 2
          refine bodyPost_ret (v := .agg #[.int .i64 al, .slice aN (n + t) cN, .slice aA (m + t) cA]) (by simp [results, Tryz.results69, go_sem, zc0, zc1, zc2, zf0, zf1, zf2]) rfl ?_
          have BZ := ((BR.set (by omega) hd (by omega) 0 (.int .i64 al)).set (by omega) hd (by omega) 1 (.slice aN (n + t) cN)).set (by omega) hd (by omega) 2 (.slice aA (m + t) cA)
          have oZ := BR.out
          exact ⟨_, _, rfl, BZ.inc, BZ.st.up (by omega), BZ.tr, _, _, _, _, _, rfl, by omega, by omega, (((hN.tr (fun _ h => h) (Shp.box oZ)).tr (fun _ h => h) (Shp.box oZ)).tr (fun _ h => h) (Shp.box oZ)), (((hA.tr (fun _ h => h) (Shp.box oZ)).tr (fun _ h => h) (Shp.box oZ)).tr (fun _ h => h) (Shp.box oZ))⟩
      · have hz : n < 1 := by omega
        clear hn0
        have gc0 := BG.blk.cell 0 rfl; have gf0 := BG.blk.fr 0; have gc1 := BG.blk.cell 1 rfl; have gf1 := BG.blk.fr 1; have gc2 := BG.blk.cell 2 rfl; have gf2 := BG.blk.fr 2; have rc0 := BR.blk.cell 0 rfl; have rf0 := BR.blk.fr 0; have rc1 := BR.blk.cell 1 rfl; have rf1 := BR.blk.fr 1; have rc2 := BR.blk.cell 2 rfl; have rf2 := BR.blk.fr 2
        go_wp2_with fail
        clear gc0 gc1 gc2 gf0 gf1 gf2 rc0 rc1 rc2 rf0 rf1 rf2
        have zc0 := BR.blk.cell 0 rfl; have zf0 := BR.blk.fr 0; have zc1 := BR.blk.cell 1 rfl; have zf1 := BR.blk.fr 1; have zc2 := BR.blk.cell 2 rfl; have zf2 := BR.blk.fr 2
        refine bodyPost_ret (v := .agg #[.int .i64 al, .slice aN (n + t) cN, .slice aA (m + t) cA]) (by simp [results, Tryz.results69, go_sem, zc0, zc1, zc2, zf0, zf1, zf2]) rfl ?_
        have BZ := ((BR.set (by omega) hd (by omega) 0 (.int .i64 al)).set (by omega) hd (by omega) 1 (.slice aN (n + t) cN)).set (by omega) hd (by omega) 2 (.slice aA (m + t) cA)
        have oZ := BR.out
        exact ⟨_, _, rfl, BZ.inc, BZ.st.up (by omega), BZ.tr, _, _, _, _, _, rfl, by omega, by omega, (((hN.tr (fun _ h => h) (Shp.box oZ)).tr (fun _ h => h) (Shp.box oZ)).tr (fun _ h => h) (Shp.box oZ)), (((hA.tr (fun _ h => h) (Shp.box oZ)).tr (fun _ h => h) (Shp.box oZ)).tr (fun _ h => h) (Shp.box oZ))⟩
  · have g0 : ((x : Int) == 0) = false := beq_eq_false_iff_ne.2 (by omega)
    have g1 : ((x : Int) == 1) = false := beq_eq_false_iff_ne.2 (by omega)
    have g2 : ((x : Int) == 2) = false := beq_eq_false_iff_ne.2 (by omega)
    have g3 : ((x : Int) == 3) = false := beq_eq_false_iff_ne.2 (by omega)
    have g4 : ((x : Int) == 4) = false := beq_eq_false_iff_ne.2 (by omega)
    have g5 : ((x : Int) == 5) = false := beq_eq_false_iff_ne.2 (by omega)
    have gc0 := BG.blk.cell 0 rfl; have gf0 := BG.blk.fr 0; have gc1 := BG.blk.cell 1 rfl; have gf1 := BG.blk.fr 1; have gc2 := BG.blk.cell 2 rfl; have gf2 := BG.blk.fr 2; have rc0 := BR.blk.cell 0 rfl; have rf0 := BR.blk.fr 0; have rc1 := BR.blk.cell 1 rfl; have rf1 := BR.blk.fr 1; have rc2 := BR.blk.cell 2 rfl; have rf2 := BR.blk.fr 2
    go_wp2_with fail
    clear gc0 gc1 gc2 gf0 gf1 gf2 rc0 rc1 rc2 rf0 rf1 rf2
    have zc0 := BR.blk.cell 0 rfl; have zf0 := BR.blk.fr 0; have zc1 := BR.blk.cell 1 rfl; have zf1 := BR.blk.fr 1; have zc2 := BR.blk.cell 2 rfl; have zf2 := BR.blk.fr 2
    refine bodyPost_ret (v := .agg #[.int .i64 al, .slice aN n cN, .slice aA m cA]) (by simp [results, Tryz.results69, go_sem, zc0, zc1, zc2, zf0, zf1, zf2]) rfl ?_
    have BZ := ((BR.set (by omega) hd (by omega) 0 (.int .i64 al)).set (by omega) hd (by omega) 1 (.slice aN n cN)).set (by omega) hd (by omega) 2 (.slice aA m cA)
    have oZ := BR.out
    exact ⟨_, _, rfl, BZ.inc, BZ.st.up (by omega), BZ.tr, _, _, _, _, _, rfl, by omega, by omega, (((hN.tr (fun _ h => h) (Shp.box oZ)).tr (fun _ h => h) (Shp.box oZ)).tr (fun _ h => h) (Shp.box oZ)), (((hA.tr (fun _ h => h) (Shp.box oZ)).tr (fun _ h => h) (Shp.box oZ)).tr (fun _ h => h) (Shp.box oZ))⟩
end Go.Proofs.YtanekmfifmkbmaaGreatDoor
