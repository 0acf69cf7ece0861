/- Part of this seat's proofs, cut to what its law needs. -/

import Derived.Test.YtanekmfifmkbmaaGreatDoorDrawU
import Derived.Test.YtanekmfifmkbmaaGreatDoorWalkR
import Derived.Test.YtanekmfifmkbmaaGreatDoorDrawE
import Derived.Test.YtanekmfifmkbmaaGreatDoorSubS

namespace Go.Proofs.YtanekmfifmkbmaaGreatDoor
set_option linter.unusedSimpArgs false
set_option linter.unusedVariables false
open Go.RowKit
set_option maxHeartbeats 12000000
set_option maxRecDepth 100000
attribute [local go_sem ↓] Go.wp_at_zero Go.wp_at_succ

section
variable {P : Program} {D D' : Nat → Prop} {g q q' : Nat} {w w' w0 : World} {e : TypeId} {n m : Nat} {v : Value}
theorem SlOk.own {sz : Nat} (h : SlOk D w e sz v n) : ∃ xs, w.ownsRow 0 e sz v n xs := by
  rcases h with ⟨rfl, rfl⟩ | ⟨b, cap, cs, rfl, hb, hh, hnc, hcm, hcs⟩
  · exact ⟨[], World.ownsRow_nil _ _ _ _⟩
  · refine ⟨cs.toList.take (n * sz), ?_, .inr ⟨b, cap, cs, rfl, Nat.zero_le _, hh, hnc, hcm, hcs, rfl⟩⟩
    rw [List.length_take, Array.length_toList, hcs]
    exact Nat.min_eq_left (Nat.mul_le_mul_right _ hnc)
theorem app_t2 {ops : Array Oper} {rest : List Oper} {o : Oper} {a : Act} {Q : Exit → Act → World → Prop} (hgd : o.guard = none) (s x : Operand) (t : TypeId) {size bytes : Nat} {z : Value} {xs : List Value}
    (ho : o.op = .call { callee := .builtin .append, args := #[s, x], argTypes := #[t, t] }) (ht : P.underlying t = some (.slice e)) (hinfo : (P.info? e).map (fun i => (i.zero, i.size, i.bytes)) = some (some z, size, bytes)) (hzs : z.cells.size = size) (hsz : 0 < size) (hp : Per e size)
    (hzk : ∀ D q w, Kin D q w e z.cells.toList) (h : St D g q w) (hs : SlOk D w e size v n) (hown : w.ownsRow 0 e size v n xs) (hev : a.eval s = v) {ad : Addr} {c : Nat} {news : List Value} (hx : a.eval x = .slice (some ad) m c) (hl : news.length = m * size) (hnews : ∀ j u, news[j]? = some u → w.cell? (ad.add j) = some u)
    (h1 : ∀ u ∈ news, u.oneCell' = true) (hk : Kin D q w e news) (hnm : n + m ≤ 4294967296) (hby : bytes ≤ 1024) (hqq : q ≤ q')
    (hQ : ∀ v' w' D', Inc D D' w → St D' g q' w' → Tr D g w w' → SlOk D' w' e size v' (n + m) → w'.ownsRow 0 e size v' (n + m) (xs ++ news) → w.grownBy w' v.ownBlock → wpList P ops Q rest (a.put o.dst v') w') : wpList P ops Q (o :: rest) a w := by
  obtain ⟨i, hi, hz, rfl, rfl⟩ := info_parts hinfo
  obtain ⟨v', w', D', hr, h2, h3, h4, h5⟩ := run_app_t (P := P) t o.type i z ht hi hz hzs hsz hp hzk h hs ad c news hl hnews h1 hk (by unfold maxLen; omega) (by have := Nat.mul_le_mul hnm hby; omega) hqq
  obtain ⟨v2, w2, hr2, g1, g2, -, -⟩ := run_append_own_at (P := P) (w := w) 0 t o.type e i z i.size i.bytes ht hi hz rfl rfl hzs hsz v n xs hown ad m c news hl hnews h1 (by unfold maxLen; omega) (by have := Nat.mul_le_mul hnm hby; omega) (Nat.zero_le _)
  rw [hr] at hr2
  cases hr2
  refine wpList_plain hgd fun _ hK => ?_
  unfold Oper.wp execOp
  simp only [ho, resolve, invoke, builtin, Sem.run_bind, Sem.run_pure, Result.andThen_ok, List.map_toArray, List.map_cons, List.map_nil, hev, hx, hr]
  exact hK _ _ (hQ v' w' D' h2 h3 h4 h5 g1 g2)
end

variable {D D' : Nat → Prop} {g q q' : Nat} {w w' : World}

theorem l4Change_g (al : Int) (n m : Nat) (aN0 aA0 : Option Addr) (cN0 cA0 : Nat) (hn : n ≤ q) (hm : m ≤ q) (h : St D g q w) (hq : q + 50 ≤ 1000000)
    (hcopy : ∀ w', Ext w w' → Calls Tryz.prog 72 #[.agg #[.int .i64 al, .slice aN0 n cN0, .slice aA0 m cA0]] w' (Drawn D g q 0 w' fun D' _ w'' r => ∃ vn va, r = .agg #[.int .i64 al, vn, va] ∧ SlOk D' w'' 80 1 vn n ∧ SlOk D' w'' 4 1 va m)) :
    Calls Tryz.prog 30 #[.pointer (some ⟨g, 0, none⟩), .agg #[.int .i64 al, .slice aN0 n cN0, .slice aA0 m cA0]] w (Drawn D g q 50 w AutoT) := by
  have hg := h.g_lt
  have hd := fun x hx => (h.dom x hx).2
  have BA := Box.new h #[.int .i64 al, .slice aN0 n cN0, .slice aA0 m cA0] 31
  have BA := BA.ext (Ext.alloc _ (.cells #[.int .i64 0, .slice none 0 0, .slice none 0 0] 31))
  have BR : Box D g q w (w.heap.size + 1) 0 #[.int .i64 0, .slice none 0 0, .slice none 0 0] 31 _ D := ⟨BA.inc, BA.st, BA.tr, Ext.blk1 (Ext.refl _), h.out (by omega)⟩
  clear BA
  go_enter Tryz.func30, Tryz.ntmps30
  go_wp2_with fail
  refine (hcopy _ ((Ext.alloc _ _).trans (Ext.alloc _ _))).mono ?_
  rintro e w1 ⟨v1, D1, rfl, hi1, hs1, ht1, vN, vA, rfl, hN, hA⟩
  have BR := BR.drawn (by omega) hi1 ht1 (c' := 0) hs1
  obtain ⟨aN, cN, rfl⟩ := hN.shape
  obtain ⟨aA, cA, rfl⟩ := hA.shape
  have he := Ext.alloc w1 (.cells #[.int .i64 al, .slice aN n cN, .slice aA m cA] 31)
  have BG : Box D g q w w1.heap.size 0 #[.int .i64 al, .slice aN n cN, .slice aA m cA] 31 _ D1 := ⟨BR.inc, (BR.ext he).st, (BR.ext he).tr, Blk.new _ _ _, BR.st.out (Nat.le_refl _)⟩
  have hN := hN.tr' (Inc.refl _ _) (Tr.ext BR.st he)
  have hA := hA.tr' (Inc.refl _ _) (Tr.ext BR.st he)
  have BR := BR.ext he
  have hGs : w.heap.size + 1 < w1.heap.size := Nat.lt_of_lt_of_le (by simp) ht1.size
  clear ht1 hi1 hs1 he
  go_upto_if 14 with fail
  generalize w1.alloc (.cells #[.int .i64 al, .slice aN n cN, .slice aA m cA] 31) = w2 at BR BG hN hA ⊢
  generalize w1.heap.size = G at BG hGs ⊢
  by_cases hn0 : n = 0
  · have hnz : ((n : Int) == 0) = true := by simp [hn0]
    clear hn0
    have gc0 := BG.blk.cell 0 rfl; have gf0 := BG.blk.fr 0; have gc1 := BG.blk.cell 1 rfl; have gf1 := BG.blk.fr 1; have gc2 := BG.blk.cell 2 rfl; have gf2 := BG.blk.fr 2; have rc0 := BR.blk.cell 0 rfl; have rf0 := BR.blk.fr 0; have rc1 := BR.blk.cell 1 rfl; have rf1 := BR.blk.fr 1; have rc2 := BR.blk.cell 2 rfl; have rf2 := BR.blk.fr 2
    go_wp2_with fail
    clear gc0 gc1 gc2 gf0 gf1 gf2 rc0 rc1 rc2 rf0 rf1 rf2
    have zc0 := BR.blk.cell 0 rfl; have zf0 := BR.blk.fr 0; have zc1 := BR.blk.cell 1 rfl; have zf1 := BR.blk.fr 1; have zc2 := BR.blk.cell 2 rfl; have zf2 := BR.blk.fr 2
    refine bodyPost_ret (v := .agg #[.int .i64 al, .slice aN n cN, .slice aA m cA]) (by simp [results, Tryz.results30, go_sem, zc0, zc1, zc2, zf0, zf1, zf2]) rfl ?_
    have BZ := ((BR.set (by omega) hd (by omega) 0 (.int .i64 al)).set (by omega) hd (by omega) 1 (.slice aN n cN)).set (by omega) hd (by omega) 2 (.slice aA m cA)
    have oZ := BR.out
    exact ⟨_, _, rfl, BZ.inc, BZ.st.up (by omega), BZ.tr, _, _, _, _, _, rfl, by omega, by omega, (((hN.tr (fun _ h => h) (Shp.box oZ)).tr (fun _ h => h) (Shp.box oZ)).tr (fun _ h => h) (Shp.box oZ)), (((hA.tr (fun _ h => h) (Shp.box oZ)).tr (fun _ h => h) (Shp.box oZ)).tr (fun _ h => h) (Shp.box oZ))⟩
  have hn1 : 0 < n := by omega
  have hnz : ((n : Int) == 0) = false := beq_eq_false_iff_ne.2 (by omega)
  go_wp2_with fail
  refine (pick_t n BG.st (by omega) (by omega)).mono ?_
  rintro e w3 ⟨k, rfl, hkn', -, hs3, hk3⟩
  have hkn : k < n := by have := hkn' (by omega); omega
  have hN := hN.tr' (Inc.refl _ _) (Tr.kept BG.st hk3)
  have hA := hA.tr' (Inc.refl _ _) (Tr.kept BG.st hk3)
  have BR := BR.kept (by omega) hk3 (c' := 1) hs3
  have BG := BG.kept (by omega) hk3 (c' := 1) hs3
  clear hs3 hk3 hkn' hnz hn0
  go_wp2_with fail
  refine (pick_t 4 BG.st (by omega) (by omega)).mono ?_
  rintro e w3 ⟨x, rfl, -, -, hs3, hk3⟩
  have hN := hN.tr' (Inc.refl _ _) (Tr.kept BG.st hk3)
  have hA := hA.tr' (Inc.refl _ _) (Tr.kept BG.st hk3)
  have BR := BR.kept (by omega) hk3 (c' := 2) hs3
  have BG := BG.kept (by omega) hk3 (c' := 2) hs3
  clear hs3 hk3
  have hne1 : w.heap.size + 1 ≠ G := by omega
  have hne2 : G ≠ w.heap.size + 1 := by omega
  have hk1 : (0 : Int) ≤ (k : Int) := by omega
  have hk2 : (k : Int) < (n : Int) := by omega
  have hx : x = 0 ∨ x = 1 ∨ x = 2 ∨ 2 < x := by omega
  rcases hx with rfl | rfl | rfl | hx
  · by_cases hmk : k < m
    · have hmk2 : (k : Int) < (m : Int) := by omega
      obtain ⟨b, cap, u, hv5, hb, hc, hf, hst⟩ := hA.store_bool BG.st hmk
      cases hv5
      have gc2 := BG.blk.cell 2 rfl
      go_wp2_with fail
      have D0 := fun d os => cell_regrown gc2 d os
      have D1 := fun d os => cell_regrown hc d os
      obtain ⟨Kc, HKc⟩ : ∃ Kc : FuncId → Array Value → World → Value → World → Prop, Hid (Kc = fun _ _ _ _ _ => True) := ⟨_, rfl⟩
      refine wp_region_ext (Kc := Kc) 10 (by kernel_rfl) (by kernel_rfl) ?_
      simp only [List.take_succ_cons, List.take_zero]
      repeat (refine WalkE.pure rfl (fun K hK => ?_); simp only [PureDo]; go_simp; refine hK _ ?_; clear hK K)
      refine WalkE.nil (fun wn hwn hmn => ?_)
      simp only [List.drop_succ_cons, List.drop_zero, List.drop_nil]
      clear hmn HKc D0 D1
      have hxn : Ext w3 wn := (Ext.drew _).trans hwn
      have BR6 := BR.ext hxn
      have BG6 := BG.ext hxn
      have hN6 := hN.tr' (Inc.refl _ _) (Tr.ext BG.st hxn)
      have hA6 := hA.tr' (Inc.refl _ _) (Tr.ext BG.st hxn)
      obtain ⟨b2, cap2, u2, hv6, hb6, hc6, hf6, hst6⟩ := hA6.store_bool BG6.st hmk
      cases hv6
      obtain ⟨s7, t7⟩ := hst6 (!u)
      have BR7 := BR6.drawn (by omega) (Inc.refl _ _) t7 s7
      have BG7 := BG6.drawn (by omega) (Inc.refl _ _) t7 s7
      have hN7 := hN6.tr' (Inc.refl _ _) t7
      have hA7 := hA6.tr' (Inc.refl _ _) t7
      clear s7 t7 hst6 gc2 hc
      have gc0 := BG7.blk.cell 0 rfl; have gf0 := BG7.blk.fr 0; have gc1 := BG7.blk.cell 1 rfl; have gf1 := BG7.blk.fr 1; have gc2 := BG7.blk.cell 2 rfl; have gf2 := BG7.blk.fr 2; have rc0 := BR7.blk.cell 0 rfl; have rf0 := BR7.blk.fr 0; have rc1 := BR7.blk.cell 1 rfl; have rf1 := BR7.blk.fr 1; have rc2 := BR7.blk.cell 2 rfl; have rf2 := BR7.blk.fr 2
      go_wp2_with fail
      clear gc0 gc1 gc2 gf0 gf1 gf2 rc0 rc1 rc2 rf0 rf1 rf2
      generalize wn.setCell ⟨b, k, none⟩ (.bool (!u)) = w7 at BR7 BG7 hN7 hA7 ⊢
      have zc0 := BR7.blk.cell 0 rfl; have zf0 := BR7.blk.fr 0; have zc1 := BR7.blk.cell 1 rfl; have zf1 := BR7.blk.fr 1; have zc2 := BR7.blk.cell 2 rfl; have zf2 := BR7.blk.fr 2
      refine bodyPost_ret (v := .agg #[.int .i64 al, .slice aN n cN, .slice (some ⟨b, 0, none⟩) m cA]) (by simp [results, Tryz.results30, go_sem, zc0, zc1, zc2, zf0, zf1, zf2]) rfl ?_
      have BZ := ((BR7.set (by omega) hd (by omega) 0 (.int .i64 al)).set (by omega) hd (by omega) 1 (.slice aN n cN)).set (by omega) hd (by omega) 2 (.slice (some ⟨b, 0, none⟩) m cA)
      have oZ := BR7.out
      exact ⟨_, _, rfl, BZ.inc, BZ.st.up (by omega), BZ.tr, _, _, _, _, _, rfl, by omega, by omega, (((hN7.tr (fun _ h => h) (Shp.box oZ)).tr (fun _ h => h) (Shp.box oZ)).tr (fun _ h => h) (Shp.box oZ)), (((hA7.tr (fun _ h => h) (Shp.box oZ)).tr (fun _ h => h) (Shp.box oZ)).tr (fun _ h => h) (Shp.box oZ))⟩
    · have hmk2 : ¬ (k : Int) < (m : Int) := by omega
      have gc0 := BG.blk.cell 0 rfl; have gf0 := BG.blk.fr 0; have gc1 := BG.blk.cell 1 rfl; have gf1 := BG.blk.fr 1; have gc2 := BG.blk.cell 2 rfl; have gf2 := BG.blk.fr 2; have rc0 := BR.blk.cell 0 rfl; have rf0 := BR.blk.fr 0; have rc1 := BR.blk.cell 1 rfl; have rf1 := BR.blk.fr 1; have rc2 := BR.blk.cell 2 rfl; have rf2 := BR.blk.fr 2
      go_wp2_with fail
      clear gc0 gc1 gc2 gf0 gf1 gf2 rc0 rc1 rc2 rf0 rf1 rf2
      have zc0 := BR.blk.cell 0 rfl; have zf0 := BR.blk.fr 0; have zc1 := BR.blk.cell 1 rfl; have zf1 := BR.blk.fr 1; have zc2 := BR.blk.cell 2 rfl; have zf2 := BR.blk.fr 2
      refine bodyPost_ret (v := .agg #[.int .i64 al, .slice aN n cN, .slice aA m cA]) (by simp [results, Tryz.results30, go_sem, zc0, zc1, zc2, zf0, zf1, zf2]) rfl ?_
      have BZ := ((BR.set (by omega) hd (by omega) 0 (.int .i64 al)).set (by omega) hd (by omega) 1 (.slice aN n cN)).set (by omega) hd (by omega) 2 (.slice aA m cA)
      have oZ := BR.out
      exact ⟨_, _, rfl, BZ.inc, BZ.st.up (by omega), BZ.tr, _, _, _, _, _, rfl, by omega, by omega, (((hN.tr (fun _ h => h) (Shp.box oZ)).tr (fun _ h => h) (Shp.box oZ)).tr (fun _ h => h) (Shp.box oZ)), (((hA.tr (fun _ h => h) (Shp.box oZ)).tr (fun _ h => h) (Shp.box oZ)).tr (fun _ h => h) (Shp.box oZ))⟩
  · obtain ⟨b, cap, r, rc, rm, hv5, hb, hc, -, hrm, hrow, -⟩ := hN.store_row BG.st hkn
    cases hv5
    have gc1 := BG.blk.cell 1 rfl
    by_cases hr0 : 0 < rm
    · have hr2 : (0 : Int) < (rm : Int) := by omega
      obtain ⟨b1, cap1, u1, hv6, hb1, -, -, -⟩ := hrow.store_int BG.st hr0
      cases hv6
      go_wp2_with fail
      have BG' := BG.ext (Ext.drew _)
      have BR' := BR.ext (Ext.drew _)
      have hN' := hN.tr' (Inc.refl _ _) (Tr.ext BG.st (Ext.drew _))
      have hA' := hA.tr' (Inc.refl _ _) (Tr.ext BG.st (Ext.drew _))
      have hrow' := hrow.tr' (Inc.refl _ _) (Tr.ext BG.st (Ext.drew _))
      have hbg : b ≠ g := by have := (BG.st.dom b hb).1; omega
      have gcd := (Ext.drew w3).cell gc1
      have hcd := (Ext.drew w3).cell hc
      go_region_law (go_simp; go_wp2_with (first
        | (go_at_call 23; refine (pick_t _ BG'.st (by omega) (by omega)).mono ?_; rintro e w6 ⟨x6, rfl, hx6, -, hs6, hk6⟩; have hy6 := hx6 (by omega); have hz6 : (0 : Int) ≤ (x6 : Int) := (by omega); have BG6 := BG'.kept (by omega) hk6 (c' := 3) (hs6.up (by omega)); have BR6 := BR'.kept (by omega) hk6 (c' := 3) (hs6.up (by omega)); have gc6 := BG6.blk.cell 1 rfl; have gd6 := hk6.cell (p := ⟨b, k, none⟩) hbg hcd; have hrow6 := hrow'.tr' (Inc.refl _ _) (Tr.kept BG'.st hk6); have hN6 := hN'.tr' (Inc.refl _ _) (Tr.kept BG'.st hk6); have hA6 := hA'.tr' (Inc.refl _ _) (Tr.kept BG'.st hk6))
        | (go_at_call 23; refine (pick_t _ BG6.st (by omega) (by omega)).mono ?_; rintro e w7 ⟨x7, rfl, hx7, -, hs7, hk7⟩; have hy7 := hx7 (by omega); have hz7 : (0 : Int) ≤ (x7 : Int) := (by omega); have BG7 := BG6.kept (by omega) hk7 (c' := 4) (hs7.up (by omega)); have BR7 := BR6.kept (by omega) hk7 (c' := 4) (hs7.up (by omega)); have gc7 := BG7.blk.cell 1 rfl; have gd7 := hk7.cell (p := ⟨b, k, none⟩) hbg gd6; have hrow7 := hrow6.tr' (Inc.refl _ _) (Tr.kept BG6.st hk7); have hN7 := hN6.tr' (Inc.refl _ _) (Tr.kept BG6.st hk7); have hA7 := hA6.tr' (Inc.refl _ _) (Tr.kept BG6.st hk7); first | (have hj6 : x6 < rm := (by omega); obtain ⟨b2, cap2, u2, hv2, hb2, gs7, gf7, hst7⟩ := hrow7.store_int BG7.st hj6; cases hv2) | (have hj7 : x7 < rm := (by omega); obtain ⟨b2, cap2, u2, hv2, hb2, gs7, gf7, hst7⟩ := hrow7.store_int BG7.st hj7; cases hv2))))
      all_goals
        first
          | (obtain ⟨s8, t8⟩ := hst7 (x7 : Int); have BR8 := BR7.drawn (by omega) (Inc.refl _ _) t8 s8; have BG8 := BG7.drawn (by omega) (Inc.refl _ _) t8 s8; have hN8 := hN7.tr' (Inc.refl _ _) t8; have hA8 := hA7.tr' (Inc.refl _ _) t8; clear gs7 gf7 hst7 s8 t8; generalize w7.setCell ⟨b1, x6, none⟩ (.int .i64 (x7 : Int)) = w8 at BR8 BG8 hN8 hA8 ⊢; clear BR7 BG7 hN7 hA7)
          | (obtain ⟨s8, t8⟩ := hst7 (x6 : Int); have BR8 := BR7.drawn (by omega) (Inc.refl _ _) t8 s8; have BG8 := BG7.drawn (by omega) (Inc.refl _ _) t8 s8; have hN8 := hN7.tr' (Inc.refl _ _) t8; have hA8 := hA7.tr' (Inc.refl _ _) t8; clear gs7 gf7 hst7 s8 t8; generalize w7.setCell ⟨b1, x7, none⟩ (.int .i64 (x6 : Int)) = w8 at BR8 BG8 hN8 hA8 ⊢; clear BR7 BG7 hN7 hA7)
        have gc0 := BG8.blk.cell 0 rfl; have gf0 := BG8.blk.fr 0; have gc1 := BG8.blk.cell 1 rfl; have gf1 := BG8.blk.fr 1; have gc2 := BG8.blk.cell 2 rfl; have gf2 := BG8.blk.fr 2; have rc0 := BR8.blk.cell 0 rfl; have rf0 := BR8.blk.fr 0; have rc1 := BR8.blk.cell 1 rfl; have rf1 := BR8.blk.fr 1; have rc2 := BR8.blk.cell 2 rfl; have rf2 := BR8.blk.fr 2
        go_wp2_with fail
        clear gc0 gc1 gc2 gf0 gf1 gf2 rc0 rc1 rc2 rf0 rf1 rf2
        have zc0 := BR8.blk.cell 0 rfl; have zf0 := BR8.blk.fr 0; have zc1 := BR8.blk.cell 1 rfl; have zf1 := BR8.blk.fr 1; have zc2 := BR8.blk.cell 2 rfl; have zf2 := BR8.blk.fr 2
        refine bodyPost_ret (v := .agg #[.int .i64 al, .slice (some ⟨b, 0, none⟩) n cN, .slice aA m cA]) (by simp [results, Tryz.results30, go_sem, zc0, zc1, zc2, zf0, zf1, zf2]) rfl ?_
        have BZ := ((BR8.set (by omega) hd (by omega) 0 (.int .i64 al)).set (by omega) hd (by omega) 1 (.slice (some ⟨b, 0, none⟩) n cN)).set (by omega) hd (by omega) 2 (.slice aA m cA)
        have oZ := BR8.out
        exact ⟨_, _, rfl, BZ.inc, BZ.st.up (by omega), BZ.tr, _, _, _, _, _, rfl, by omega, by omega, (((hN8.tr (fun _ h => h) (Shp.box oZ)).tr (fun _ h => h) (Shp.box oZ)).tr (fun _ h => h) (Shp.box oZ)), (((hA8.tr (fun _ h => h) (Shp.box oZ)).tr (fun _ h => h) (Shp.box oZ)).tr (fun _ h => h) (Shp.box oZ))⟩
    · have hr2 : ¬ (0 : Int) < (rm : Int) := by omega
      have gc0 := BG.blk.cell 0 rfl; have gf0 := BG.blk.fr 0; have gc1 := BG.blk.cell 1 rfl; have gf1 := BG.blk.fr 1; have gc2 := BG.blk.cell 2 rfl; have gf2 := BG.blk.fr 2; have rc0 := BR.blk.cell 0 rfl; have rf0 := BR.blk.fr 0; have rc1 := BR.blk.cell 1 rfl; have rf1 := BR.blk.fr 1; have rc2 := BR.blk.cell 2 rfl; have rf2 := BR.blk.fr 2
      go_wp2_with fail
      clear gc0 gc1 gc2 gf0 gf1 gf2 rc0 rc1 rc2 rf0 rf1 rf2
      have zc0 := BR.blk.cell 0 rfl; have zf0 := BR.blk.fr 0; have zc1 := BR.blk.cell 1 rfl; have zf1 := BR.blk.fr 1; have zc2 := BR.blk.cell 2 rfl; have zf2 := BR.blk.fr 2
      refine bodyPost_ret (v := .agg #[.int .i64 al, .slice (some ⟨b, 0, none⟩) n cN, .slice aA m cA]) (by simp [results, Tryz.results30, go_sem, zc0, zc1, zc2, zf0, zf1, zf2]) rfl ?_
      have BZ := ((BR.set (by omega) hd (by omega) 0 (.int .i64 al)).set (by omega) hd (by omega) 1 (.slice (some ⟨b, 0, none⟩) n cN)).set (by omega) hd (by omega) 2 (.slice aA m cA)
      have oZ := BR.out
      exact ⟨_, _, rfl, BZ.inc, BZ.st.up (by omega), BZ.tr, _, _, _, _, _, rfl, by omega, by omega, (((hN.tr (fun _ h => h) (Shp.box oZ)).tr (fun _ h => h) (Shp.box oZ)).tr (fun _ h => h) (Shp.box oZ)), (((hA.tr (fun _ h => h) (Shp.box oZ)).tr (fun _ h => h) (Shp.box oZ)).tr (fun _ h => h) (Shp.box oZ))⟩
  · obtain ⟨b, cap, r, rc, rm, hv5, hb, hc, -, hrm, hrow, -⟩ := hN.store_row BG.st hkn
    cases hv5
    by_cases h12 : n < 12
    case neg =>
      have h12' : ¬ (n : Int) < 12 := by omega
      have gc0 := BG.blk.cell 0 rfl; have gf0 := BG.blk.fr 0; have gc1 := BG.blk.cell 1 rfl; have gf1 := BG.blk.fr 1; have gc2 := BG.blk.cell 2 rfl; have gf2 := BG.blk.fr 2; have rc0 := BR.blk.cell 0 rfl; have rf0 := BR.blk.fr 0; have rc1 := BR.blk.cell 1 rfl; have rf1 := BR.blk.fr 1; have rc2 := BR.blk.cell 2 rfl; have rf2 := BR.blk.fr 2
      go_wp2_with fail
      clear gc0 gc1 gc2 gf0 gf1 gf2 rc0 rc1 rc2 rf0 rf1 rf2
      have zc0 := BR.blk.cell 0 rfl; have zf0 := BR.blk.fr 0; have zc1 := BR.blk.cell 1 rfl; have zf1 := BR.blk.fr 1; have zc2 := BR.blk.cell 2 rfl; have zf2 := BR.blk.fr 2
      refine bodyPost_ret (v := .agg #[.int .i64 al, .slice (some ⟨b, 0, none⟩) n cN, .slice aA m cA]) (by simp [results, Tryz.results30, go_sem, zc0, zc1, zc2, zf0, zf1, zf2]) rfl ?_
      have BZ := ((BR.set (by omega) hd (by omega) 0 (.int .i64 al)).set (by omega) hd (by omega) 1 (.slice (some ⟨b, 0, none⟩) n cN)).set (by omega) hd (by omega) 2 (.slice aA m cA)
      have oZ := BR.out
      exact ⟨_, _, rfl, BZ.inc, BZ.st.up (by omega), BZ.tr, _, _, _, _, _, rfl, by omega, by omega, (((hN.tr (fun _ h => h) (Shp.box oZ)).tr (fun _ h => h) (Shp.box oZ)).tr (fun _ h => h) (Shp.box oZ)), (((hA.tr (fun _ h => h) (Shp.box oZ)).tr (fun _ h => h) (Shp.box oZ)).tr (fun _ h => h) (Shp.box oZ))⟩
    by_cases hmk : k < m
    case neg =>
      have h12' : (n : Int) < 12 := by omega
      have hmk2 : ¬ (k : Int) < (m : Int) := by omega
      have gc0 := BG.blk.cell 0 rfl; have gf0 := BG.blk.fr 0; have gc1 := BG.blk.cell 1 rfl; have gf1 := BG.blk.fr 1; have gc2 := BG.blk.cell 2 rfl; have gf2 := BG.blk.fr 2; have rc0 := BR.blk.cell 0 rfl; have rf0 := BR.blk.fr 0; have rc1 := BR.blk.cell 1 rfl; have rf1 := BR.blk.fr 1; have rc2 := BR.blk.cell 2 rfl; have rf2 := BR.blk.fr 2
      go_wp2_with fail
      clear gc0 gc1 gc2 gf0 gf1 gf2 rc0 rc1 rc2 rf0 rf1 rf2
      have zc0 := BR.blk.cell 0 rfl; have zf0 := BR.blk.fr 0; have zc1 := BR.blk.cell 1 rfl; have zf1 := BR.blk.fr 1; have zc2 := BR.blk.cell 2 rfl; have zf2 := BR.blk.fr 2
      refine bodyPost_ret (v := .agg #[.int .i64 al, .slice (some ⟨b, 0, none⟩) n cN, .slice aA m cA]) (by simp [results, Tryz.results30, go_sem, zc0, zc1, zc2, zf0, zf1, zf2]) rfl ?_
      have BZ := ((BR.set (by omega) hd (by omega) 0 (.int .i64 al)).set (by omega) hd (by omega) 1 (.slice (some ⟨b, 0, none⟩) n cN)).set (by omega) hd (by omega) 2 (.slice aA m cA)
      have oZ := BR.out
      exact ⟨_, _, rfl, BZ.inc, BZ.st.up (by omega), BZ.tr, _, _, _, _, _, rfl, by omega, by omega, (((hN.tr (fun _ h => h) (Shp.box oZ)).tr (fun _ h => h) (Shp.box oZ)).tr (fun _ h => h) (Shp.box oZ)), (((hA.tr (fun _ h => h) (Shp.box oZ)).tr (fun _ h => h) (Shp.box oZ)).tr (fun _ h => h) (Shp.box oZ))⟩
    have gc1 := BG.blk.cell 1 rfl
    have gc2 := BG.blk.cell 2 rfl
    have h12' : (n : Int) < 12 := by omega
    have hmk2 : (k : Int) < (m : Int) := by omega
    by_cases hr0 : 0 < rm
    case neg =>
      have hr2 : ¬ (0 : Int) < (rm : Int) := by omega
      clear gc1 gc2
      have gc0 := BG.blk.cell 0 rfl; have gf0 := BG.blk.fr 0; have gc1 := BG.blk.cell 1 rfl; have gf1 := BG.blk.fr 1; have gc2 := BG.blk.cell 2 rfl; have gf2 := BG.blk.fr 2; have rc0 := BR.blk.cell 0 rfl; have rf0 := BR.blk.fr 0; have rc1 := BR.blk.cell 1 rfl; have rf1 := BR.blk.fr 1; have rc2 := BR.blk.cell 2 rfl; have rf2 := BR.blk.fr 2
      go_wp2_with fail
      clear gc0 gc1 gc2 gf0 gf1 gf2 rc0 rc1 rc2 rf0 rf1 rf2
      have zc0 := BR.blk.cell 0 rfl; have zf0 := BR.blk.fr 0; have zc1 := BR.blk.cell 1 rfl; have zf1 := BR.blk.fr 1; have zc2 := BR.blk.cell 2 rfl; have zf2 := BR.blk.fr 2
      refine bodyPost_ret (v := .agg #[.int .i64 al, .slice (some ⟨b, 0, none⟩) n cN, .slice aA m cA]) (by simp [results, Tryz.results30, go_sem, zc0, zc1, zc2, zf0, zf1, zf2]) rfl ?_
      have BZ := ((BR.set (by omega) hd (by omega) 0 (.int .i64 al)).set (by omega) hd (by omega) 1 (.slice (some ⟨b, 0, none⟩) n cN)).set (by omega) hd (by omega) 2 (.slice aA m cA)
      have oZ := BR.out
      exact ⟨_, _, rfl, BZ.inc, BZ.st.up (by omega), BZ.tr, _, _, _, _, _, rfl, by omega, by omega, (((hN.tr (fun _ h => h) (Shp.box oZ)).tr (fun _ h => h) (Shp.box oZ)).tr (fun _ h => h) (Shp.box oZ)), (((hA.tr (fun _ h => h) (Shp.box oZ)).tr (fun _ h => h) (Shp.box oZ)).tr (fun _ h => h) (Shp.box oZ))⟩
    have hr2 : (0 : Int) < (rm : Int) := by omega
    go_wp2_with fail
    obtain ⟨xs, hown⟩ := hN.own
    have hxk : xs[k]? = some (.slice r rm rc) := by
      obtain ⟨u, hu⟩ : ∃ u, xs[k]? = some u := ⟨_, List.getElem?_eq_getElem (by rw [hown.1]; omega)⟩
      have := own_cell hown hu
      rw [hc] at this; cases this; exact hu
    have HXK := Lib.hid hxk
    clear hxk gc2
    have D0 := fun d os => cell_regrown gc1 d os
    have D1 := fun d os => cell_regrown hc d os
    obtain ⟨Kc, HKc⟩ : ∃ Kc : FuncId → Array Value → World → Value → World → Prop, Hid (Kc = fun _ _ _ _ _ => True) := ⟨_, rfl⟩
    refine wp_region_ext (Kc := Kc) 10 (by kernel_rfl) (by kernel_rfl) ?_
    simp only [List.take_succ_cons, List.take_zero]
    repeat (refine WalkE.pure rfl (fun K hK => ?_); simp only [PureDo]; go_simp; refine hK _ ?_; clear hK K)
    refine WalkE.step (fun K hK we hwe hde => ?_)
    simp only [OpDo, OpSafe, OpOut]
    go_simp
    refine ⟨Ext.alloc _ _, hK _ _ ?_⟩
    clear hK K hde
    repeat (refine WalkE.pure rfl (fun K hK => ?_); simp only [PureDo]; go_simp; refine hK _ ?_; clear hK K)
    refine WalkE.step (fun K hK wf hwf hdf => ?_)
    have j4 : Ext (we.alloc (.cells #[] 3)) wf := hdf _ (Array.mem_of_getElem? (i := 0) rfl) rfl
    have hx1 : Ext w3 wf := (Ext.drew _).trans hwf
    refine copy_do rfl rfl Tryz.underlying80 infoInt rfl (by decide) per_int zk_int BR.st hx1 (Nat.le_trans (Ext.drew w3).size hwe.size) ((Blk.new we _ _).ext j4) (hrow.tr' (Inc.refl _ _) (Tr.ext BR.st hx1)) rfl rfl (by omega) (by decide) ?_
    intro v5 w5 D7 he5 hi5 hs5 hE5 hD5
    refine hK _ _ ?_
    clear hK K hdf
    obtain ⟨a7, c7, rfl⟩ := hE5.shape
    repeat (refine WalkE.pure rfl (fun K hK => ?_); simp only [PureDo]; go_simp; refine hK _ ?_; clear hK K)
    refine WalkE.step (fun K hK wg hwg hdg => ?_)
    simp only [OpDo, OpSafe, OpOut]
    go_simp
    refine ⟨Ext.alloc _ _, hK _ _ ?_⟩
    clear hK K hdg
    refine WalkE.nil (fun wm hwm hmm => ?_)
    simp only [List.drop_succ_cons, List.drop_zero, List.drop_nil]
    have e5 : Ext w5 wm := hmm 8 (by omega)
    have e9 := hmm 9 (by omega)
    have hxn : Ext w3 wm := (Ext.drew _).trans hwm
    have l0 := e9.new 0 rfl
    have hcell : ∀ (j' : Nat) (u : Value), [Value.slice a7 rm c7][j']? = some u → wm.cell? ((⟨wg.heap.size, 0, none⟩ : Addr).add j') = some u := fun j' u hu => by
      rw [add_none, Nat.zero_add]
      match j', hu with
      | 0, hu => simp at hu; subst hu; exact l0
      | j' + 1, hu => simp at hu
    have htn := Tr.ext BR.st hxn
    have hN := hN.tr' hi5 htn
    have hA := hA.tr' hi5 htn
    have hrow := hE5.tr' (Inc.refl _ _) (Tr.ext hs5 e5)
    have BG := BG.grow (c' := 2) hxn hi5 (hs5.ext e5)
    have BR := BR.grow (c' := 2) hxn hi5 (hs5.ext e5)
    have hown := own_ext hown hxn
    clear l0 e9 e5 hmm HKc D0 D1 hwm hwe hwf hwg hxn htn hc gc1 hE5 hs5 hi5 he5 hD5 j4 hx1
    generalize wg.heap.size = r5 at hcell ⊢
    go_wp2_with (at_builtin; refine app_t2 (news := [Value.slice a7 rm c7]) (q' := q + 3) rfl _ _ _ rfl Tryz.underlying28 infoInts rfl (by decide) per_ints zk_ints BG.st hN hown rfl rfl (by simp) hcell (by simp [Value.oneCell']) (kin_ints hrow hrm) (by omega) (by decide) (by omega) ?_; intro v1 w7 D8 hi7 hs7 ht7 hV7 hown7 hgr7; obtain ⟨a8, c8, rfl⟩ := hV7.shape; have BG7 := BG.drawn (by omega) hi7 ht7 (c' := 3) hs7; have gc1 := BG7.blk.cell 1 rfl; have gf1 := BG7.blk.fr 1)
    have BR7 := BR.drawn (by omega) hi7 ht7 (c' := 3) hs7
    have oG := BG7.out
    have BG8 := BG7.set (by omega) hd (by omega) 1 (.slice a8 (n + 1) c8)
    have BR8 := BR7.other (b' := G) (by omega) hd (by omega) (by omega) oG 1 (.slice a8 (n + 1) c8)
    have hA8 := (hA.tr' hi7 ht7).tr (fun _ h => h) (Shp.box (j := 1) (u := .slice a8 (n + 1) c8) oG)
    have hN8 := hV7.tr (fun _ h => h) (Shp.box (j := 1) (u := .slice a8 (n + 1) c8) oG)
    have hown8 := own_store hown7 BG7.blk (by decide) 1 (.slice a8 (n + 1) c8)
    have hxk8 : (xs ++ [Value.slice a7 rm c7])[k]? = some (.slice r rm rc) := by rw [List.getElem?_append_left (List.getElem?_eq_some_iff.1 HXK.out).1]; exact HXK.out
    have HXK8 := Lib.hid hxk8
    clear hxk8 HXK gc1 gf1 BG7 BR7 hown7 hV7 hs7 ht7 hi7 hgr7 hA hN hrow BG BR hown hcell oG
    generalize w7.setCell ⟨G, 1, none⟩ (.slice a8 (n + 1) c8) = w8 at BG8 BR8 hA8 hN8 hown8 ⊢
    generalize xs ++ [Value.slice a7 rm c7] = ys at hown8 HXK8
    obtain ⟨bA, capA, uA, hv6, hbA, hcA, -, -⟩ := hA8.store_bool BG8.st hmk
    cases hv6
    have gc2 := BG8.blk.cell 2 rfl
    have D0 := fun d os => cell_regrown gc2 d os
    have D1 := fun d os => cell_regrown hcA d os
    obtain ⟨Kc, HKc⟩ : ∃ Kc : FuncId → Array Value → World → Value → World → Prop, Hid (Kc = fun _ _ _ _ _ => True) := ⟨_, rfl⟩
    refine wp_region_ext (Kc := Kc) 8 (by kernel_rfl) (by kernel_rfl) ?_
    simp only [List.take_succ_cons, List.take_zero]
    repeat (refine WalkE.pure rfl (fun K hK => ?_); simp only [PureDo]; go_simp; refine hK _ ?_; clear hK K)
    refine WalkE.step (fun K hK we hwe hde => ?_)
    simp only [OpDo, OpSafe, OpOut]
    go_simp
    refine ⟨Ext.alloc _ _, hK _ _ ?_⟩
    clear hK K hde
    refine WalkE.nil (fun wn hwn hmn => ?_)
    simp only [List.drop_succ_cons, List.drop_zero, List.drop_nil]
    have hxn : Ext w8 wn := (Ext.drew _).trans hwn
    have l0 := (hmn 7 (by omega)).new 0 rfl
    have hcell : ∀ (j' : Nat) (u : Value), [Value.bool uA][j']? = some u → wn.cell? ((⟨we.heap.size, 0, none⟩ : Addr).add j') = some u := fun j' u hu => by
      rw [add_none, Nat.zero_add]
      match j', hu with
      | 0, hu => simp at hu; subst hu; exact l0
      | j' + 1, hu => simp at hu
    have hN9 := hN8.tr' (Inc.refl _ _) (Tr.ext BG8.st hxn)
    have hA9 := hA8.tr' (Inc.refl _ _) (Tr.ext BG8.st hxn)
    have BR9 := BR8.ext hxn
    have BG9 := BG8.ext hxn
    have hown9 := own_ext hown8 hxn
    obtain ⟨zs, hownA⟩ := hA9.own
    clear l0 hmn HKc D0 D1 hwn hwe hxn gc2 hcA BG8 BR8 hA8 hN8 hown8
    generalize we.heap.size = r6 at hcell ⊢
    go_upto_region 17 with (at_builtin; refine app_t2 (news := [Value.bool uA]) (q' := q + 4) rfl _ _ _ rfl Tryz.underlying29 infoBool rfl (by decide) per_bool zk_bool BG9.st hA9 hownA rfl rfl (by simp) hcell (by simp [Value.oneCell']) (kin_bool _) (by omega) (by decide) (by omega) ?_; intro v2 w10 D10 hi10 hs10 ht10 hA10 hownA10 hgr10; obtain ⟨a10, c10, rfl⟩ := hA10.shape; have BG10 := BG9.drawn (by omega) hi10 ht10 (c' := 4) hs10; have gc2 := BG10.blk.cell 2 rfl; have gf2 := BG10.blk.fr 2)
    have BR10 := BR9.drawn (by omega) hi10 ht10 (c' := 4) hs10
    have oG := BG10.out
    have hN10 := hN9.tr' hi10 ht10
    have hown10 := own_grown hown9 hownA hgr10 (by decide)
    have BG11 := BG10.set (by omega) hd (by omega) 2 (.slice a10 (m + 1) c10)
    have BR11 := BR10.other (b' := G) (by omega) hd (by omega) (by omega) oG 2 (.slice a10 (m + 1) c10)
    have hA11 := hA10.tr (fun _ h => h) (Shp.box (j := 2) (u := .slice a10 (m + 1) c10) oG)
    have hN11 := hN10.tr (fun _ h => h) (Shp.box (j := 2) (u := .slice a10 (m + 1) c10) oG)
    have hown11 := own_store hown10 BG10.blk (by decide) 2 (.slice a10 (m + 1) c10)
    clear hown10 hN10 hA10 BG10 BR10 hownA10 hgr10 ht10 hs10 hi10 gc2 gf2 oG BG9 BR9 hA9 hN9 hown9 hownA hcell
    generalize w10.setCell ⟨G, 2, none⟩ (.slice a10 (m + 1) c10) = w11 at BG11 BR11 hA11 hN11 hown11 ⊢
    obtain ⟨g8, cap8, e8, gn⟩ := own_at hown11 HXK8.out
    cases e8
    obtain ⟨b2, cap2, r2, rc2, rm2, hv2, hb2, hc2, hf2, hrm2, hrow2, -⟩ := hN11.store_row BG11.st (i := k) (by omega)
    cases hv2
    rw [gn] at hc2
    cases hc2
    obtain ⟨b3, cap3, u3, hv3, hb3, hc3, hf3, hst3⟩ := hrow2.store_int BG11.st hr0
    cases hv3
    obtain ⟨s12, t12⟩ := hst3 (n : Int)
    have hk9 : (k : Int) < (n : Int) + 1 := by omega
    have gc1 := BG11.blk.cell 1 rfl
    have BR12 := BR11.drawn (by omega) (Inc.refl _ _) t12 s12
    have BG12 := BG11.drawn (by omega) (Inc.refl _ _) t12 s12
    have hN12 := hN11.tr' (Inc.refl _ _) t12
    have hA12 := hA11.tr' (Inc.refl _ _) t12
    have gc0 := BG12.blk.cell 0 rfl; have gf0 := BG12.blk.fr 0; have gc1 := BG12.blk.cell 1 rfl; have gf1 := BG12.blk.fr 1; have gc2 := BG12.blk.cell 2 rfl; have gf2 := BG12.blk.fr 2; have rc0 := BR12.blk.cell 0 rfl; have rf0 := BR12.blk.fr 0; have rc1 := BR12.blk.cell 1 rfl; have rf1 := BR12.blk.fr 1; have rc2 := BR12.blk.cell 2 rfl; have rf2 := BR12.blk.fr 2
    go_wp2_with fail
    clear gc0 gc1 gc2 gf0 gf1 gf2 rc0 rc1 rc2 rf0 rf1 rf2
    clear gc1 hc3 hf3 gn hf2 hst3 s12 t12
    generalize w11.setCell ⟨b3, 0, none⟩ (.int .i64 (n : Int)) = w12 at BR12 BG12 hN12 hA12 ⊢
    have zc0 := BR12.blk.cell 0 rfl; have zf0 := BR12.blk.fr 0; have zc1 := BR12.blk.cell 1 rfl; have zf1 := BR12.blk.fr 1; have zc2 := BR12.blk.cell 2 rfl; have zf2 := BR12.blk.fr 2
    refine bodyPost_ret (v := .agg #[.int .i64 al, .slice (some ⟨g8, 0, none⟩) (n + 1) c8, .slice a10 (m + 1) c10]) (by simp [results, Tryz.results30, go_sem, zc0, zc1, zc2, zf0, zf1, zf2]) rfl ?_
    have BZ := ((BR12.set (by omega) hd (by omega) 0 (.int .i64 al)).set (by omega) hd (by omega) 1 (.slice (some ⟨g8, 0, none⟩) (n + 1) c8)).set (by omega) hd (by omega) 2 (.slice a10 (m + 1) c10)
    have oZ := BR12.out
    exact ⟨_, _, rfl, BZ.inc, BZ.st.up (by omega), BZ.tr, _, _, _, _, _, rfl, by omega, by omega, (((hN12.tr (fun _ h => h) (Shp.box oZ)).tr (fun _ h => h) (Shp.box oZ)).tr (fun _ h => h) (Shp.box oZ)), (((hA12.tr (fun _ h => h) (Shp.box oZ)).tr (fun _ h => h) (Shp.box oZ)).tr (fun _ h => h) (Shp.box oZ))⟩
  · have g0 : ((x : Int) == 0) = false := beq_eq_false_iff_ne.2 (by omega)
    have g1 : ((x : Int) == 1) = false := beq_eq_false_iff_ne.2 (by omega)
    have g2 : ((x : Int) == 2) = false := beq_eq_false_iff_ne.2 (by omega)
    have gc0 := BG.blk.cell 0 rfl; have gf0 := BG.blk.fr 0; have gc1 := BG.blk.cell 1 rfl; have gf1 := BG.blk.fr 1; have gc2 := BG.blk.cell 2 rfl; have gf2 := BG.blk.fr 2; have rc0 := BR.blk.cell 0 rfl; have rf0 := BR.blk.fr 0; have rc1 := BR.blk.cell 1 rfl; have rf1 := BR.blk.fr 1; have rc2 := BR.blk.cell 2 rfl; have rf2 := BR.blk.fr 2
    go_wp2_with fail
    clear gc0 gc1 gc2 gf0 gf1 gf2 rc0 rc1 rc2 rf0 rf1 rf2
    have zc0 := BR.blk.cell 0 rfl; have zf0 := BR.blk.fr 0; have zc1 := BR.blk.cell 1 rfl; have zf1 := BR.blk.fr 1; have zc2 := BR.blk.cell 2 rfl; have zf2 := BR.blk.fr 2
    refine bodyPost_ret (v := .agg #[.int .i64 al, .slice aN n cN, .slice aA m cA]) (by simp [results, Tryz.results30, go_sem, zc0, zc1, zc2, zf0, zf1, zf2]) rfl ?_
    have BZ := ((BR.set (by omega) hd (by omega) 0 (.int .i64 al)).set (by omega) hd (by omega) 1 (.slice aN n cN)).set (by omega) hd (by omega) 2 (.slice aA m cA)
    have oZ := BR.out
    exact ⟨_, _, rfl, BZ.inc, BZ.st.up (by omega), BZ.tr, _, _, _, _, _, rfl, by omega, by omega, (((hN.tr (fun _ h => h) (Shp.box oZ)).tr (fun _ h => h) (Shp.box oZ)).tr (fun _ h => h) (Shp.box oZ)), (((hA.tr (fun _ h => h) (Shp.box oZ)).tr (fun _ h => h) (Shp.box oZ)).tr (fun _ h => h) (Shp.box oZ))⟩
end Go.Proofs.YtanekmfifmkbmaaGreatDoor

namespace Go.Proofs.YtanekmfifmkbmaaGreatDoor
set_option linter.unusedSimpArgs false
set_option linter.unusedVariables false
open Go.RowKit
set_option maxHeartbeats 4000000
set_option maxRecDepth 100000
attribute [local go_sem ↓] Go.wp_at_zero Go.wp_at_succ

variable {D D' : Nat → Prop} {g q q' : Nat} {w w' : World}

theorem l4Change_x (v : Value) (x : Auto) (base : Nat) (hO : AutoOwn base w v x) (hD : ∀ b, D b → b < base) (hgb : g < base) (hn : x.next.length ≤ q) (hm : x.accept.length ≤ q) (hrl : ∀ r ∈ x.next, r.length ≤ q) (h : St D g q w) (hq : q + 50 ≤ 1000000) :
    Calls Tryz.prog 30 #[.pointer (some ⟨g, 0, none⟩), v] w (Drawn D g q 50 w AutoT) := by
  obtain ⟨vn, va, rfl, ⟨vs, h1, h2, h4⟩, h3⟩ := hO
  obtain ⟨aN, cN, rfl⟩ := own_any' h1
  obtain ⟨aA, cA, rfl⟩ := h3.shape
  exact l4Change_g x.alphabet x.next.length x.accept.length aN aA cN cA hn hm h hq fun w' he => l3Copy_x x base vs aN aA cN cA (own_ext h1 he) (h2.ext he) (h3.ext he) hD hgb hn hm hrl (h.ext he) (by omega)
theorem subset_bounds {s : Sys} {a H : Int} {nodes : List Nat} (h12 : nodes.length ≤ 12) : (subsetA s a H nodes).next.length ≤ 12 ∧ (subsetA s a H nodes).accept.length ≤ 12 ∧ ∀ r ∈ (subsetA s a H nodes).next, r.length ≤ 12 := by
  refine ⟨by simpa [subsetA, autoN] using h12, by simpa [subsetA, autoN] using h12, fun r hr => ?_⟩
  obtain ⟨n, -, rfl⟩ := List.mem_map.1 (show r ∈ nodes.map (rowN _ (letters a) nodes) from hr)
  have := lettersTo_len a 6
  simp only [rowN, List.length_map]
  unfold letters; omega

def KPx (g : Nat) (w1 : World) (z G6 G7 c : Nat) (al1 st1 : Int) (n1 : Nat) (a1 : Option Addr) (c1 : Nat) (wc : World) : Prop :=
  ∃ (D' : Nat → Prop) (al3 : Int) (n3 m3 : Nat) (aN3 : Option Addr) (cN3 : Nat) (aA3 : Option Addr) (cA3 : Nat),
    Box (fun _ => False) g 2000 w1 G6 c #[.int .i64 al1, .int .i64 st1, .slice a1 n1 c1] 25 wc D' ∧ Box (fun _ => False) g 2000 w1 G7 c #[.int .i64 al3, .slice aN3 n3 cN3, .slice aA3 m3 cA3] 31 wc D' ∧
    SlOk D' wc 87 3 (.slice a1 n1 c1) n1 ∧ SlOk D' wc 80 1 (.slice aN3 n3 cN3) n3 ∧ SlOk D' wc 4 1 (.slice aA3 m3 cA3) m3 ∧ n3 ≤ 2000 + c ∧ m3 ≤ 2000 + c ∧
    Blk wc z #[.int .i64 0, .int .i64 0, .slice none 0 0] 25 ∧ Blk wc (z + 1) #[.int .i64 0, .slice none 0 0, .slice none 0 0] 31
theorem six_of' {G5 G6 : Nat} {x1 x2 x3 y1 y2 y3 : Value} {t1 t2 : TypeId} (h5 : Blk w G5 #[x1, x2, x3] t1) (h6 : Blk w G6 #[y1, y2, y3] t2) :
    w.cell? ⟨G5, 0, none⟩ = some x1 ∧ w.cell? ⟨G5, 1, none⟩ = some x2 ∧ w.cell? ⟨G5, 2, none⟩ = some x3 ∧ w.cell? ⟨G6, 0, none⟩ = some y1 ∧ w.cell? ⟨G6, 1, none⟩ = some y2 ∧ w.cell? ⟨G6, 2, none⟩ = some y3 :=
  ⟨h5.cell 0 rfl, h5.cell 1 rfl, h5.cell 2 rfl, h6.cell 0 rfl, h6.cell 1 rfl, h6.cell 2 rfl⟩

theorem DrawKeepsProperty_t (v : Value) (l : List UInt8) (w : World) (hv : BytesV w v l) (hl : l.length ≤ 1048576) :
    Calls Tryz.prog 6 #[v] w (Drew 7500 w TwoT) := by
  obtain ⟨wo, hwo⟩ : ∃ wo, wo = (w.alloc (.cells #[.int .i64 0, .int .i64 0, .slice none 0 0] 25)).alloc (.cells #[.int .i64 0, .slice none 0 0, .slice none 0 0] 31) := ⟨_, rfl⟩
  have he : Ext w wo := by rw [hwo]; exact (Ext.alloc _ _).trans (Ext.alloc _ _)
  have b0 : Blk wo w.heap.size #[.int .i64 0, .int .i64 0, .slice none 0 0] 25 := by rw [hwo]; exact Ext.blk (Ext.alloc _ _)
  have b1 : Blk wo (w.heap.size + 1) #[.int .i64 0, .slice none 0 0, .slice none 0 0] 31 := by rw [hwo]; exact Ext.blk1 (Ext.refl _)
  have hso : wo.heap.size = w.heap.size + 2 := by rw [hwo]; simp
  go_enter Tryz.func6, Tryz.ntmps6
  go_wp2_with fail
  rw [← hwo]
  clear hwo
  refine (l19Open_t v l wo (hv.mono (fun b o x _ h => he.cell h) he.size) hl).mono ?_
  rintro e w1 ⟨g, rfl, hgb, he1, hs1⟩
  have b0 := b0.ext he1
  have b1 := b1.ext he1
  have hw1 : w.heap.size + 2 ≤ w1.heap.size := by have := he1.size; omega
  have hb1 : Ext w w1 := he.trans he1
  clear he he1 hv
  have N0 := Bare.new hs1
  have hd : ∀ x, (fun _ => False : Nat → Prop) x → x < w1.heap.size := fun x hx => hx.elim
  go_wp2_with fail
  refine (l8Draw_t hs1 (by omega)).mono ?_
  rintro e w2 ⟨r, D2, rfl, hi2, hs2, ht2, hR⟩
  obtain ⟨s, p, rfl, hS, hP⟩ := hR
  obtain ⟨al1, st1, n1, a1, c1, rfl, hn1, hE1⟩ := hS.boxed
  obtain ⟨al2, n2, m2, aN, cN, aA, cA, rfl, hn2, hm2, hN, hA⟩ := hP.boxed
  have hw2 := ht2.size
  have b0 := b0.tr ht2 (fun h => h) (by omega)
  have b1 := b1.tr ht2 (fun h => h) (by omega)
  have N2 := N0.drawn (c' := 5400) hi2 ht2 hs2
  clear N0 hi2 ht2 hs2
  go_wp2_with fail
  have B6 := N2.box #[.int .i64 al1, .int .i64 st1, .slice a1 n1 c1] 25
  have B7 := B6.bare.box #[.int .i64 al2, .slice aN n2 cN, .slice aA m2 cA] 31
  rw [World.size_alloc] at B7
  have hx3 : Ext w2 ((w2.alloc (.cells #[.int .i64 al1, .int .i64 st1, .slice a1 n1 c1] 25)).alloc (.cells #[.int .i64 al2, .slice aN n2 cN, .slice aA m2 cA] 31)) := (Ext.alloc _ _).trans (Ext.alloc _ _)
  have B6 := B6.ext (Ext.alloc _ (.cells #[.int .i64 al2, .slice aN n2 cN, .slice aA m2 cA] 31))
  have hE1 := hE1.tr' (Inc.refl _ _) (Tr.ext N2.st hx3)
  have hN := hN.tr' (Inc.refl _ _) (Tr.ext N2.st hx3)
  have hA := hA.tr' (Inc.refl _ _) (Tr.ext N2.st hx3)
  have b0 := b0.ext hx3; have b1 := b1.ext hx3
  have hgG : g < w2.heap.size := N2.st.g_lt
  clear hx3 N2 hS hP
  generalize ((w2.alloc (.cells #[.int .i64 al1, .int .i64 st1, .slice a1 n1 c1] 25)).alloc (.cells #[.int .i64 al2, .slice aN n2 cN, .slice aA m2 cA] 31)) = w3 at B6 B7 hE1 hN hA b0 b1 ⊢
  generalize w2.heap.size = G6 at B6 B7 hgG hw2 ⊢
  obtain ⟨G7, hG7, hG76⟩ : ∃ G7, G7 = G6 + 1 ∧ G6 < G7 := ⟨_, rfl, by omega⟩
  rw [← hG7] at B7 ⊢
  clear hG7
  refine (pick_t 3 B6.st (by omega) (by omega)).mono ?_
  rintro e w4 ⟨x, rfl, -, -, hs4, hk4⟩
  have b0 := b0.kept hk4 (by omega); have b1 := b1.kept hk4 (by omega)
  have hE1 := hE1.tr' (Inc.refl _ _) (Tr.kept B6.st hk4)
  have hN := hN.tr' (Inc.refl _ _) (Tr.kept B6.st hk4)
  have hA := hA.tr' (Inc.refl _ _) (Tr.kept B6.st hk4)
  have B6 := B6.kept (by omega) hk4 (c' := 5401) (hs4.up (by omega))
  have B7 := B7.kept (by omega) hk4 (c' := 5401) (hs4.up (by omega))
  clear hs4 hk4
  go_upto_if 18 with fail
  go_cut [] (fun wc => KPx g w1 w.heap.size G6 G7 5451 al1 st1 n1 a1 c1 wc)
  case first =>
    by_cases hx : x = 0
    · have hx' : ((x : Int) == 0) = true := by simp [hx]
      clear hx
      obtain ⟨S, hSe, hSV⟩ := SysT.sys (q := 2000 + 5401) (⟨al1, st1, _, n1, rfl, by omega, hE1⟩ : SysT _ _ w4 (.agg #[.int .i64 al1, .int .i64 st1, .slice a1 n1 c1])) B6.st.typ
      have gc0 := B6.blk.cell 0 rfl; have gf0 := B6.blk.fr 0; have gc1 := B6.blk.cell 1 rfl; have gf1 := B6.blk.fr 1; have gc2 := B6.blk.cell 2 rfl; have gf2 := B6.blk.fr 2
      go_wp2_with fail
      refine (Determinize_s _ S _ hSV (by omega)).mono ?_
      rintro e w5 ⟨v', b, rfl, he5, hend⟩
      have hsh : ∃ (x : Int) (aN : Option Addr) (n cN : Nat) (aA : Option Addr) (m cA : Nat), v' = .agg #[.int .i64 x, .slice aN n cN, .slice aA m cA] := by
        rcases hend with ⟨-, ⟨-, _, -, -, vn, va, e, h4, h5⟩ | ⟨-, e, -⟩⟩ | ⟨-, -, e⟩
        · obtain ⟨a1, c1, rfl⟩ := h4.shape
          obtain ⟨a2, c2, rfl⟩ := h5.shape
          exact ⟨_, _, _, _, _, _, _, e⟩
        · exact ⟨_, _, _, _, _, _, _, e⟩
        · exact ⟨_, _, _, _, _, _, _, e⟩
      obtain ⟨xa, xN, xn, xc, xA, xm, xd, rfl⟩ := hsh
      clear gc0 gc1 gc2 gf0 gf1 gf2 hSV
      have hbt : b = true → ∃ A, AutoOwn w4.heap.size w5 (.agg #[.int .i64 xa, .slice xN xn xc, .slice xA xm xd]) A ∧ A.next.length ≤ 12 ∧ A.accept.length ≤ 12 ∧ ∀ r ∈ A.next, r.length ≤ 12 := by
        rintro rfl
        rcases hend with ⟨-, ⟨-, nds, -, h12, hO⟩ | ⟨h, -⟩⟩ | ⟨-, h, -⟩
        · obtain ⟨k1, k2, k3⟩ := subset_bounds (s := S) (a := S.alphabet) (H := hidS S S.alphabet) h12
          exact ⟨_, hO, k1, k2, k3⟩
        · cases h
        · cases h
      have hdm : ∀ b, D2 b → b < w4.heap.size := fun b hb => (B6.st.dom b hb).2
      have hg4 := B6.st.g_lt
      clear hend
      have hx5 := he5.trans (Ext.alloc w5 (.cells #[.int .i64 xa, .slice xN xn xc, .slice xA xm xd] 31))
      have b0 := b0.ext hx5; have b1 := b1.ext hx5
      have hE1 := hE1.tr' (Inc.refl _ _) (Tr.ext B6.st hx5)
      have hN := hN.tr' (Inc.refl _ _) (Tr.ext B6.st hx5)
      have hA := hA.tr' (Inc.refl _ _) (Tr.ext B6.st hx5)
      have B6 := B6.ext hx5
      have B7 := B7.ext hx5
      cases b with
      | false =>
        go_wp2_with fail
        go_meet
        case rel => exact ⟨_, _, _, _, _, _, _, _, B6.up (by omega), B7.up (by omega), hE1, hN, hA, by omega, by omega, b0, b1⟩
      | true =>
        obtain ⟨A, hO, k1, k2, k3⟩ := hbt rfl
        have hO := hO.ext (Ext.alloc w5 (.cells #[.int .i64 xa, .slice xN xn xc, .slice xA xm xd] 31))
        go_wp2_with fail
        refine (l4Change_x _ A w4.heap.size hO hdm hg4 (by omega) (by omega) (fun r hr => by have := k3 r hr; omega) B6.st (by omega)).mono ?_
        rintro e w8 ⟨v8, D8, rfl, hi8, hs8, ht8, hS8⟩
        obtain ⟨al3, n3, m3, aN3, cN3, aA3, cA3, rfl, hn3, hm3, hN3, hA3⟩ := hS8.boxed
        have b0 := b0.tr ht8 (fun h => by have := (B6.st.dom _ h).1; omega) (by omega); have b1 := b1.tr ht8 (fun h => by have := (B6.st.dom _ h).1; omega) (by omega)
        have hE1 := hE1.tr' hi8 ht8
        have B6 := B6.drawn (by omega) hi8 ht8 (c' := 5451) (hs8.up (by omega))
        have B7 := B7.drawn (by omega) hi8 ht8 (c' := 5451) (hs8.up (by omega))
        clear hs8 ht8 hi8 hO hbt
        have gc0 := B7.blk.cell 0 rfl; have gf0 := B7.blk.fr 0; have gc1 := B7.blk.cell 1 rfl; have gf1 := B7.blk.fr 1; have gc2 := B7.blk.cell 2 rfl; have gf2 := B7.blk.fr 2
        go_wp2_with fail
        have o := B7.out
        go_meet
        case rel => exact ⟨_, _, _, _, _, _, _, _, B6.other3 (by omega) hd (by omega) (by omega) o _ _ _, B7.set3 (by omega) hd (by omega) _ _ _, hE1.box3 o _ _ _, hN3.box3 o _ _ _, hA3.box3 o _ _ _, by omega, by omega, b0.other3 (by omega) _ _ _, b1.other3 (by omega) _ _ _⟩
    · have hx' : ((x : Int) == 0) = false := beq_eq_false_iff_ne.2 (by omega)
      go_wp2_with fail
      go_meet
      case rel => exact ⟨_, _, _, _, _, _, _, _, B6.up (by omega), B7.up (by omega), hE1, hN, hA, by omega, by omega, b0, b1⟩
  case rest =>
  clear B6 B7 hE1 hN hA b0 b1
  obtain ⟨D9, al2, n2, m2, aN, cN, aA, cA, B6, B7, hE1, hN, hA, hn2, hm2, b0, b1⟩ := hcut
  go_wp2_with fail
  have b6 := B6.blk
  have b7 := B7.blk
  have pc0 := b0.cell 0 rfl; have pf0 := b0.fr 0; have pc1 := b0.cell 1 rfl; have pf1 := b0.fr 1; have pc2 := b0.cell 2 rfl; have pf2 := b0.fr 2
  have qc0 := b1.cell 0 rfl; have qf0 := b1.fr 0; have qc1 := b1.cell 1 rfl; have qf1 := b1.fr 1; have qc2 := b1.cell 2 rfl; have qf2 := b1.fr 2
  have hbn : Below w.heap.size w wc := Below.trans hb1 (B6.tr.tnd.below (lo := w.heap.size) (by omega) (fun b hb => by rcases hb with hb | hb; exact hb.elim; omega))
  have hX : TwoT D9 7500 wc (.tuple #[.agg #[.int .i64 al1, .int .i64 st1, .slice a1 n1 c1], .agg #[.int .i64 al2, .slice aN n2 cN, .slice aA m2 cA]]) :=
    ⟨_, _, rfl, ⟨_, _, _, n1, rfl, by omega, hE1⟩, ⟨_, _, _, _, _, rfl, by omega, by omega, hN, hA⟩⟩
  have hsn : St D9 g 7500 wc := B6.st.up (by omega)
  clear B6 B7 hE1 hN hA
  have e00 : G6 ≠ w.heap.size := by omega
  have e01 : G6 ≠ w.heap.size + 1 := by omega
  have e10 : G7 ≠ w.heap.size := by omega
  have e11 : G7 ≠ w.heap.size + 1 := by omega
  have hst0 := Lib.hid (show World.cell? (World.drew wc) ⟨G6, 0, none⟩ = some (.int .i64 al1) ∧ World.cell? (World.drew wc) ⟨G6, 1, none⟩ = some (.int .i64 st1) ∧ World.cell? (World.drew wc) ⟨G6, 2, none⟩ = some (.slice a1 n1 c1) ∧ World.cell? (World.drew wc) ⟨G7, 0, none⟩ = some (.int .i64 al2) ∧ World.cell? (World.drew wc) ⟨G7, 1, none⟩ = some (.slice aN n2 cN) ∧ World.cell? (World.drew wc) ⟨G7, 2, none⟩ = some (.slice aA m2 cA) from six_of' ((b6).ext (Ext.drew _)) ((b7).ext (Ext.drew _)))
  have hst1 := Lib.hid (show World.cell? (World.drew (((wc.setCell ⟨w.heap.size, 0, none⟩ (.int .i64 al1)).setCell ⟨w.heap.size, 1, none⟩ (.int .i64 st1)).setCell ⟨w.heap.size, 2, none⟩ (.slice a1 n1 c1))) ⟨G6, 0, none⟩ = some (.int .i64 al1) ∧ World.cell? (World.drew (((wc.setCell ⟨w.heap.size, 0, none⟩ (.int .i64 al1)).setCell ⟨w.heap.size, 1, none⟩ (.int .i64 st1)).setCell ⟨w.heap.size, 2, none⟩ (.slice a1 n1 c1))) ⟨G6, 1, none⟩ = some (.int .i64 st1) ∧ World.cell? (World.drew (((wc.setCell ⟨w.heap.size, 0, none⟩ (.int .i64 al1)).setCell ⟨w.heap.size, 1, none⟩ (.int .i64 st1)).setCell ⟨w.heap.size, 2, none⟩ (.slice a1 n1 c1))) ⟨G6, 2, none⟩ = some (.slice a1 n1 c1) ∧ World.cell? (World.drew (((wc.setCell ⟨w.heap.size, 0, none⟩ (.int .i64 al1)).setCell ⟨w.heap.size, 1, none⟩ (.int .i64 st1)).setCell ⟨w.heap.size, 2, none⟩ (.slice a1 n1 c1))) ⟨G7, 0, none⟩ = some (.int .i64 al2) ∧ World.cell? (World.drew (((wc.setCell ⟨w.heap.size, 0, none⟩ (.int .i64 al1)).setCell ⟨w.heap.size, 1, none⟩ (.int .i64 st1)).setCell ⟨w.heap.size, 2, none⟩ (.slice a1 n1 c1))) ⟨G7, 1, none⟩ = some (.slice aN n2 cN) ∧ World.cell? (World.drew (((wc.setCell ⟨w.heap.size, 0, none⟩ (.int .i64 al1)).setCell ⟨w.heap.size, 1, none⟩ (.int .i64 st1)).setCell ⟨w.heap.size, 2, none⟩ (.slice a1 n1 c1))) ⟨G7, 2, none⟩ = some (.slice aA m2 cA) from six_of' (((b6.other3 e00 (.int .i64 al1) (.int .i64 st1) (.slice a1 n1 c1))).ext (Ext.drew _)) (((b7.other3 e10 (.int .i64 al1) (.int .i64 st1) (.slice a1 n1 c1))).ext (Ext.drew _)))
  have hst2 := Lib.hid (show World.cell? (World.drew ((((((wc.setCell ⟨w.heap.size, 0, none⟩ (.int .i64 al1)).setCell ⟨w.heap.size, 1, none⟩ (.int .i64 st1)).setCell ⟨w.heap.size, 2, none⟩ (.slice a1 n1 c1)).setCell ⟨w.heap.size + 1, 0, none⟩ (.int .i64 al2)).setCell ⟨w.heap.size + 1, 1, none⟩ (.slice aN n2 cN)).setCell ⟨w.heap.size + 1, 2, none⟩ (.slice aA m2 cA))) ⟨G6, 0, none⟩ = some (.int .i64 al1) ∧ World.cell? (World.drew ((((((wc.setCell ⟨w.heap.size, 0, none⟩ (.int .i64 al1)).setCell ⟨w.heap.size, 1, none⟩ (.int .i64 st1)).setCell ⟨w.heap.size, 2, none⟩ (.slice a1 n1 c1)).setCell ⟨w.heap.size + 1, 0, none⟩ (.int .i64 al2)).setCell ⟨w.heap.size + 1, 1, none⟩ (.slice aN n2 cN)).setCell ⟨w.heap.size + 1, 2, none⟩ (.slice aA m2 cA))) ⟨G6, 1, none⟩ = some (.int .i64 st1) ∧ World.cell? (World.drew ((((((wc.setCell ⟨w.heap.size, 0, none⟩ (.int .i64 al1)).setCell ⟨w.heap.size, 1, none⟩ (.int .i64 st1)).setCell ⟨w.heap.size, 2, none⟩ (.slice a1 n1 c1)).setCell ⟨w.heap.size + 1, 0, none⟩ (.int .i64 al2)).setCell ⟨w.heap.size + 1, 1, none⟩ (.slice aN n2 cN)).setCell ⟨w.heap.size + 1, 2, none⟩ (.slice aA m2 cA))) ⟨G6, 2, none⟩ = some (.slice a1 n1 c1) ∧ World.cell? (World.drew ((((((wc.setCell ⟨w.heap.size, 0, none⟩ (.int .i64 al1)).setCell ⟨w.heap.size, 1, none⟩ (.int .i64 st1)).setCell ⟨w.heap.size, 2, none⟩ (.slice a1 n1 c1)).setCell ⟨w.heap.size + 1, 0, none⟩ (.int .i64 al2)).setCell ⟨w.heap.size + 1, 1, none⟩ (.slice aN n2 cN)).setCell ⟨w.heap.size + 1, 2, none⟩ (.slice aA m2 cA))) ⟨G7, 0, none⟩ = some (.int .i64 al2) ∧ World.cell? (World.drew ((((((wc.setCell ⟨w.heap.size, 0, none⟩ (.int .i64 al1)).setCell ⟨w.heap.size, 1, none⟩ (.int .i64 st1)).setCell ⟨w.heap.size, 2, none⟩ (.slice a1 n1 c1)).setCell ⟨w.heap.size + 1, 0, none⟩ (.int .i64 al2)).setCell ⟨w.heap.size + 1, 1, none⟩ (.slice aN n2 cN)).setCell ⟨w.heap.size + 1, 2, none⟩ (.slice aA m2 cA))) ⟨G7, 1, none⟩ = some (.slice aN n2 cN) ∧ World.cell? (World.drew ((((((wc.setCell ⟨w.heap.size, 0, none⟩ (.int .i64 al1)).setCell ⟨w.heap.size, 1, none⟩ (.int .i64 st1)).setCell ⟨w.heap.size, 2, none⟩ (.slice a1 n1 c1)).setCell ⟨w.heap.size + 1, 0, none⟩ (.int .i64 al2)).setCell ⟨w.heap.size + 1, 1, none⟩ (.slice aN n2 cN)).setCell ⟨w.heap.size + 1, 2, none⟩ (.slice aA m2 cA))) ⟨G7, 2, none⟩ = some (.slice aA m2 cA) from six_of' ((((b6.other3 e00 (.int .i64 al1) (.int .i64 st1) (.slice a1 n1 c1)).other3 e01 (.int .i64 al2) (.slice aN n2 cN) (.slice aA m2 cA))).ext (Ext.drew _)) ((((b7.other3 e10 (.int .i64 al1) (.int .i64 st1) (.slice a1 n1 c1)).other3 e11 (.int .i64 al2) (.slice aN n2 cN) (.slice aA m2 cA))).ext (Ext.drew _)))
  clear e00 e01 e10 e11
  go_region_held3 (fun v => World.cell? v ⟨G6, 0, none⟩ = some (.int .i64 al1) ∧ World.cell? v ⟨G6, 1, none⟩ = some (.int .i64 st1) ∧ World.cell? v ⟨G6, 2, none⟩ = some (.slice a1 n1 c1) ∧ World.cell? v ⟨G7, 0, none⟩ = some (.int .i64 al2) ∧ World.cell? v ⟨G7, 1, none⟩ = some (.slice aN n2 cN) ∧ World.cell? v ⟨G7, 2, none⟩ = some (.slice aA m2 cA))
    (first | with_reducible exact Hid.out hst0 | with_reducible exact Hid.out hst1 | with_reducible exact Hid.out hst2)
    (fail)
  clear pc0 pc1 pc2 qc0 qc1 qc2 pf0 pf1 pf2 qf0 qf1 qf2
  have y4 : Tnd (fun b => w.heap.size ≤ b ∧ b < w.heap.size + 2) wc ((((((wc.setCell ⟨w.heap.size, 0, none⟩ (.int .i64 al1)).setCell ⟨w.heap.size, 1, none⟩ (.int .i64 st1)).setCell ⟨w.heap.size, 2, none⟩ (.slice a1 n1 c1)).setCell ⟨w.heap.size + 1, 0, none⟩ (.int .i64 al2)).setCell ⟨w.heap.size + 1, 1, none⟩ (.slice aN n2 cN)).setCell ⟨w.heap.size + 1, 2, none⟩ (.slice aA m2 cA)) := (Tnd.set3 (b := w.heap.size) (by omega) _ _ _).trans (Tnd.set3 (b := w.heap.size + 1) (by omega) _ _ _)
  have y5 := y4.trans (Tnd.ext (Ext.drew _))
  have p0 := ((b0.set3 (.int .i64 al1) (.int .i64 st1) (.slice a1 n1 c1)).other3 (b' := w.heap.size + 1) (by omega) (.int .i64 al2) (.slice aN n2 cN) (.slice aA m2 cA)).ext (Ext.drew _)
  have p1 := ((b1.other3 (b' := w.heap.size) (by omega) (.int .i64 al1) (.int .i64 st1) (.slice a1 n1 c1)).set3 (.int .i64 al2) (.slice aN n2 cN) (.slice aA m2 cA)).ext (Ext.drew _)
  clear y4 b0 b1 b6 b7
  generalize ((((((wc.setCell ⟨w.heap.size, 0, none⟩ (.int .i64 al1)).setCell ⟨w.heap.size, 1, none⟩ (.int .i64 st1)).setCell ⟨w.heap.size, 2, none⟩ (.slice a1 n1 c1)).setCell ⟨w.heap.size + 1, 0, none⟩ (.int .i64 al2)).setCell ⟨w.heap.size + 1, 1, none⟩ (.slice aN n2 cN)).setCell ⟨w.heap.size + 1, 2, none⟩ (.slice aA m2 cA)).drew = wz at y5 p0 p1 ⊢
  have pc0 := p0.cell 0 rfl; have pf0 := p0.fr 0; have pc1 := p0.cell 1 rfl; have pf1 := p0.fr 1; have pc2 := p0.cell 2 rfl; have pf2 := p0.fr 2
  have qc0 := p1.cell 0 rfl; have qf0 := p1.fr 0; have qc1 := p1.cell 1 rfl; have qf1 := p1.fr 1; have qc2 := p1.cell 2 rfl; have qf2 := p1.fr 2
  go_wp2_with fail
  refine bodyPost_ret (v := .tuple #[.agg #[.int .i64 al1, .int .i64 st1, .slice a1 n1 c1], .agg #[.int .i64 al2, .slice aN n2 cN, .slice aA m2 cA]]) (by simp [results, Tryz.results6, go_sem, pc0, pc1, pc2, qc0, qc1, qc2, pf0, pf1, pf2, qf0, qf1, qf2]) rfl ?_
  exact Drew.mk' (fun w' hw' => hX.tr (fun _ h => h) hw' (by omega)) hbn (fun b hb => by have := (hsn.dom b hb).1; omega) hsn.typ y5
end Go.Proofs.YtanekmfifmkbmaaGreatDoor
