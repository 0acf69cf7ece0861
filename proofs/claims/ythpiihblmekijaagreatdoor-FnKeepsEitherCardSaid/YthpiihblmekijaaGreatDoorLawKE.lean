/- FnKeepsEither: for all bytes, a drawn system that keeps a drawn property keeps either product with another one: the law answers true. -/
import Derived.Test.YthpiihblmekijaaGreatDoorDrawC
import Derived.Test.YthpiihblmekijaaGreatDoorProd
import Derived.Test.YthpiihblmekijaaGreatDoorDet
import Derived.Test.YthpiihblmekijaaGreatDoorCard
import Derived.Test.YthpiihblmekijaaGreatDoorDrawL
namespace Go.Proofs.YthpiihblmekijaaGreatDoor.lawFnKeepsEither
open Go.ChangeShapes Go.WideShapes Go.ChangeAt Go.RowKit
open Go.Proofs.YthpiihblmekijaaGreatDoor
open Go.ChangeMaps (open_string shut_string)
set_option linter.unusedVariables false
set_option linter.unusedSimpArgs false
set_option maxHeartbeats 1600000
set_option maxRecDepth 100000

theorem walk (v0 : Value) (t0 : List UInt8) (v1 : Value) (t1 : List UInt8) (w : World) (hv0 : BytesV w v0 t0) (hv1 : BytesV w v1 t1) (hD : Deb w) : Calls Tryz.prog 8 #[v0, v1] w (Grows (.bool true) w) := by
  have HV1 := Lib.hid (show ∀ w', Ext w w' → BytesV w' v1 t1 from fun w' h => hv1.mono (fun b o x _ k => h.cell k) h.size)
  obtain ⟨aB, cB, rfl, hleB, -⟩ := hv0.open
  obtain ⟨aM, cM, rfl, hleM, -⟩ := hv1.open
  clear hv1
  have HDb := Lib.hid hD
  clear hD
  by_cases hz0 : 1048576 < t0.length
  · go_enter Tryz.func8, Tryz.ntmps8
    go_wp2_with fail
    go_ret
    exact Grows.mk rfl (Ext.refl _)
  by_cases hz1 : 1048576 < t1.length
  · go_enter Tryz.func8, Tryz.ntmps8
    go_wp2_with fail
    go_ret
    exact Grows.mk rfl (Ext.refl _)
  go_enter Tryz.func8, Tryz.ntmps8
  go_wp2_with fail
  refine (DrawKeepsProperty_t _ t0 _ hv0 (by omega)).mono ?_
  rintro e w1 ⟨r, D, rfl, he1, hD1, hT1, s, p, rfl, hS, hP⟩
  obtain ⟨S, hSe1, hSV1⟩ := hS.sys hT1
  obtain ⟨vE1, rfl, hE1⟩ := hSV1
  obtain ⟨aE1, cE1, rfl, -, -⟩ := hE1.open
  obtain ⟨P, hPn2, hPa2, hPV2⟩ := hP.auto hT1
  obtain ⟨vN2, vA2, rfl, hN2, hA2⟩ := hPV2
  obtain ⟨aN2, cN2, rfl, -, -⟩ := hN2.open
  obtain ⟨aA2, cA2, rfl, -, -⟩ := hA2.open
  have HS := Lib.hid (show ∀ w', Ext w1 w' → SysV w' (.agg #[.int .i64 S.alphabet, .int .i64 S.states, .slice aE1 S.edges.length cE1]) S from fun w' h => ⟨_, rfl, hE1.mono h⟩)
  have HP := Lib.hid (show ∀ w', Ext w1 w' → AutoV w' (.agg #[.int .i64 P.alphabet, .slice aN2 P.next.length cN2, .slice aA2 P.accept.length cA2]) P from fun w' h => ⟨_, _, rfl, hN2.mono h, hA2.mono h⟩)
  have HD := Lib.hid (show ∀ w', Ext w1 w' → Deb w' from fun w' h => HDb.out.ext (he1.trans h))
  clear hE1 hN2 hA2 hS hP hT1 hD1
  have hx : Ext w1 ((w1.alloc (.cells #[.int .i64 S.alphabet, .int .i64 S.states, .slice aE1 S.edges.length cE1] 25)).alloc (.cells #[.int .i64 P.alphabet, .slice aN2 P.next.length cN2, .slice aA2 P.accept.length cA2] 29)) := (Ext.alloc _ _).trans (Ext.alloc _ _)
  have b3 : Blk ((w1.alloc (.cells #[.int .i64 S.alphabet, .int .i64 S.states, .slice aE1 S.edges.length cE1] 25)).alloc (.cells #[.int .i64 P.alphabet, .slice aN2 P.next.length cN2, .slice aA2 P.accept.length cA2] 29)) w1.heap.size #[.int .i64 S.alphabet, .int .i64 S.states, .slice aE1 S.edges.length cE1] 25 := Ext.blk (Ext.alloc _ _)
  have b4 : Blk ((w1.alloc (.cells #[.int .i64 S.alphabet, .int .i64 S.states, .slice aE1 S.edges.length cE1] 25)).alloc (.cells #[.int .i64 P.alphabet, .slice aN2 P.next.length cN2, .slice aA2 P.accept.length cA2] 29)) (w1.heap.size + 1) #[.int .i64 P.alphabet, .slice aN2 P.next.length cN2, .slice aA2 P.accept.length cA2] 29 := Ext.blk1 (Ext.refl _)
  go_wp2_with fail
  generalize ((w1.alloc (.cells #[.int .i64 S.alphabet, .int .i64 S.states, .slice aE1 S.edges.length cE1] 25)).alloc (.cells #[.int .i64 P.alphabet, .slice aN2 P.next.length cN2, .slice aA2 P.accept.length cA2] 29)) = w2 at hx b3 b4 ⊢
  have b3_0 := b3.cell 0 rfl; have b3_1 := b3.cell 1 rfl; have b3_2 := b3.cell 2 rfl; have b4_0 := b4.cell 0 rfl; have b4_1 := b4.cell 1 rfl; have b4_2 := b4.cell 2 rfl
  refine (DrawKeepsProperty_t _ t1 _ (HV1.out _ (he1.trans hx)) (by omega)).mono ?_
  rintro e wk ⟨r, D, rfl, hewk, -, hTwk, s, p, rfl, hSS, hPP⟩
  obtain ⟨T, hSe4, hSV4⟩ := hSS.sys hTwk
  obtain ⟨vE4, rfl, hE4⟩ := hSV4
  obtain ⟨aE4, cE4, rfl, -, -⟩ := hE4.open
  obtain ⟨Q, hPn5, hPa5, hPV5⟩ := hPP.auto hTwk
  obtain ⟨vN5, vA5, rfl, hN5, hA5⟩ := hPV5
  obtain ⟨aN5, cN5, rfl, -, -⟩ := hN5.open
  obtain ⟨aA5, cA5, rfl, -, -⟩ := hA5.open
  have HT := Lib.hid (show ∀ w', Ext wk w' → SysV w' (.agg #[.int .i64 T.alphabet, .int .i64 T.states, .slice aE4 T.edges.length cE4]) T from fun w' h => ⟨_, rfl, hE4.mono h⟩)
  have HQ := Lib.hid (show ∀ w', Ext wk w' → AutoV w' (.agg #[.int .i64 Q.alphabet, .slice aN5 Q.next.length cN5, .slice aA5 Q.accept.length cA5]) Q from fun w' h => ⟨_, _, rfl, hN5.mono h, hA5.mono h⟩)
  clear hE4 hN5 hA5 hSS hPP hTwk
  have HS := Lib.hid (show ∀ w', Ext wk w' → SysV w' (.agg #[.int .i64 S.alphabet, .int .i64 S.states, .slice aE1 S.edges.length cE1]) S from fun w' h => HS.out _ (hx.trans (hewk.trans h)))
  have HP := Lib.hid (show ∀ w', Ext wk w' → AutoV w' (.agg #[.int .i64 P.alphabet, .slice aN2 P.next.length cN2, .slice aA2 P.accept.length cA2]) P from fun w' h => HP.out _ (hx.trans (hewk.trans h)))
  have HD := Lib.hid (show ∀ w', Ext wk w' → Deb w' from fun w' h => HD.out _ (hx.trans (hewk.trans h)))
  replace he1 := he1.trans (hx.trans hewk)
  clear b3_0 b3_1 b3_2 b4_0 b4_1 b4_2
  have hxn : Ext wk ((wk.alloc (.cells #[.int .i64 T.alphabet, .int .i64 T.states, .slice aE4 T.edges.length cE4] 25)).alloc (.cells #[.int .i64 Q.alphabet, .slice aN5 Q.next.length cN5, .slice aA5 Q.accept.length cA5] 29)) := (Ext.alloc _ _).trans (Ext.alloc _ _)
  replace b3 := b3.ext (hewk.trans hxn)
  replace b4 := b4.ext (hewk.trans hxn)
  have b6 : Blk ((wk.alloc (.cells #[.int .i64 T.alphabet, .int .i64 T.states, .slice aE4 T.edges.length cE4] 25)).alloc (.cells #[.int .i64 Q.alphabet, .slice aN5 Q.next.length cN5, .slice aA5 Q.accept.length cA5] 29)) wk.heap.size #[.int .i64 T.alphabet, .int .i64 T.states, .slice aE4 T.edges.length cE4] 25 := Ext.blk (Ext.alloc _ _)
  have b7 : Blk ((wk.alloc (.cells #[.int .i64 T.alphabet, .int .i64 T.states, .slice aE4 T.edges.length cE4] 25)).alloc (.cells #[.int .i64 Q.alphabet, .slice aN5 Q.next.length cN5, .slice aA5 Q.accept.length cA5] 29)) (wk.heap.size + 1) #[.int .i64 Q.alphabet, .slice aN5 Q.next.length cN5, .slice aA5 Q.accept.length cA5] 29 := Ext.blk1 (Ext.refl _)
  clear hx hewk
  go_upto_region 5 with fail
  generalize ((wk.alloc (.cells #[.int .i64 T.alphabet, .int .i64 T.states, .slice aE4 T.edges.length cE4] 25)).alloc (.cells #[.int .i64 Q.alphabet, .slice aN5 Q.next.length cN5, .slice aA5 Q.accept.length cA5] 29)) = wl at hxn b3 b4 b6 b7 ⊢
  have hx := hxn
  clear hxn
  have b3_0 := b3.cell 0 rfl; have b3_1 := b3.cell 1 rfl; have b3_2 := b3.cell 2 rfl; have b4_0 := b4.cell 0 rfl; have b4_1 := b4.cell 1 rfl; have b4_2 := b4.cell 2 rfl; have b6_0 := b6.cell 0 rfl; have b6_1 := b6.cell 1 rfl; have b6_2 := b6.cell 2 rfl; have b7_0 := b7.cell 0 rfl; have b7_1 := b7.cell 1 rfl; have b7_2 := b7.cell 2 rfl
  obtain ⟨k1, hk1⟩ : ∃ k1, keepsB [S] P = k1 := ⟨_, rfl⟩
  have HK1 := Lib.hid hk1
  have C1 := Lib.hid (show ∀ w', Ext wk w' → Calls Tryz.prog 23 #[.agg #[.int .i64 S.alphabet, .int .i64 S.states, .slice aE1 S.edges.length cE1], .agg #[.int .i64 P.alphabet, .slice aN2 P.next.length cN2, .slice aA2 P.accept.length cA2]] w' (Grows (.bool k1) w') from fun w' h => by have := KeepsProperty_cd _ _ S P _ (HS.out _ h) (HP.out _ h) (HD.out _ h); rwa [hk1] at this)
  have C3 := Lib.hid (show ∀ w', Ext wk w' → Calls Tryz.prog 30 #[.agg #[.int .i64 S.alphabet, .int .i64 S.states, .slice aE1 S.edges.length cE1], .agg #[.int .i64 P.alphabet, .slice aN2 P.next.length cN2, .slice aA2 P.accept.length cA2]] w' (Grows (.bool k1) w') from fun w' h => by have := KeepsProperty_sd _ _ S P _ (HS.out _ h) (HP.out _ h) (by omega); rwa [hk1] at this)
  clear hk1
  have hkk : (k1 != k1) = false := by simp
  have hkk2 : (k1 == k1) = true := by simp
  go_wp2_with fail
  refine (C1.out _ hx).mono ?_
  rintro e wz1 ⟨rfl, hez1⟩
  clear b3_0 b3_1 b3_2 b4_0 b4_1 b4_2 b6_0 b6_1 b6_2 b7_0 b7_1 b7_2
  replace b3 := b3.ext hez1
  replace b4 := b4.ext hez1
  replace b6 := b6.ext hez1
  replace b7 := b7.ext hez1
  replace hx := hx.trans hez1
  have b3_0 := b3.cell 0 rfl; have b3_1 := b3.cell 1 rfl; have b3_2 := b3.cell 2 rfl; have b4_0 := b4.cell 0 rfl; have b4_1 := b4.cell 1 rfl; have b4_2 := b4.cell 2 rfl; have b6_0 := b6.cell 0 rfl; have b6_1 := b6.cell 1 rfl; have b6_2 := b6.cell 2 rfl; have b7_0 := b7.cell 0 rfl; have b7_1 := b7.cell 1 rfl; have b7_2 := b7.cell 2 rfl
  by_cases hv : autoValid P = true ∧ autoValid Q = true
  case neg =>
    have hv' : autoValid P = false ∨ autoValid Q = false := by
      cases h1 : autoValid P with
      | false => exact .inl rfl
      | true => exact .inr (by simpa [h1] using hv)
    go_wp2_with fail
    refine (ProductAutomaton_bad _ _ P Q 1 _ (HP.out _ hx) (HQ.out _ hx) hv').mono ?_
    rintro e wq ⟨rfl, hq⟩
    clear b3_0 b3_1 b3_2 b4_0 b4_1 b4_2 b6_0 b6_1 b6_2 b7_0 b7_1 b7_2
    have hxa := hx.trans (hq.trans (Ext.alloc wq (.cells #[.int .i64 0, .slice none 0 0, .slice none 0 0] 29)))
    replace b3 := (b3.ext hq).ext (Ext.alloc wq (.cells #[.int .i64 0, .slice none 0 0, .slice none 0 0] 29))
    replace b4 := (b4.ext hq).ext (Ext.alloc wq (.cells #[.int .i64 0, .slice none 0 0, .slice none 0 0] 29))
    go_upto_region 7 with fail
    generalize wq.alloc (.cells #[.int .i64 0, .slice none 0 0, .slice none 0 0] 29) = wr at hxa b3 b4 ⊢
    clear hx
    have hx := hxa
    clear hxa
    have b3_0 := b3.cell 0 rfl; have b3_1 := b3.cell 1 rfl; have b3_2 := b3.cell 2 rfl; have b4_0 := b4.cell 0 rfl; have b4_1 := b4.cell 1 rfl; have b4_2 := b4.cell 2 rfl
    go_wp2_with fail
    refine (C3.out _ hx).mono ?_
    rintro e wz2 ⟨rfl, hez2⟩
    clear b3_0 b3_1 b3_2 b4_0 b4_1 b4_2
    replace b3 := b3.ext hez2
    replace b4 := b4.ext hez2
    replace hx := hx.trans hez2
    have b3_0 := b3.cell 0 rfl; have b3_1 := b3.cell 1 rfl; have b3_2 := b3.cell 2 rfl; have b4_0 := b4.cell 0 rfl; have b4_1 := b4.cell 1 rfl; have b4_2 := b4.cell 2 rfl
    go_wp2_with fail
    refine (C3.out _ hx).mono ?_
    rintro e wz3 ⟨rfl, hez3⟩
    clear b3_0 b3_1 b3_2 b4_0 b4_1 b4_2
    replace b3 := b3.ext hez3
    replace b4 := b4.ext hez3
    replace hx := hx.trans hez3
    have b3_0 := b3.cell 0 rfl; have b3_1 := b3.cell 1 rfl; have b3_2 := b3.cell 2 rfl; have b4_0 := b4.cell 0 rfl; have b4_1 := b4.cell 1 rfl; have b4_2 := b4.cell 2 rfl
    go_wp2_with fail
    go_ret
    exact Grows.mk rfl (he1.trans hx)
  obtain ⟨hp, hq⟩ := hv
  go_wp2_with fail
  refine (ProductAutomaton_c _ _ P Q 1 _ (HP.out _ hx) (HQ.out _ hx) hp hq (by omega)).mono ?_
  rintro e wq ⟨v9, g, rfl, hq9, hend⟩
  clear b3_0 b3_1 b3_2 b4_0 b4_1 b4_2 b6_0 b6_1 b6_2 b7_0 b7_1 b7_2
  replace hx := hx.trans hq9
  replace b3 := b3.ext hq9
  replace b4 := b4.ext hq9
  replace b7 := b7.ext hq9
  rcases hend with ⟨rfl, nodes, hnum, h12, hO⟩ | ⟨rfl, rfl, -⟩
  case inr =>
    have hxa := hx.trans (Ext.alloc wq (.cells #[.int .i64 0, .slice none 0 0, .slice none 0 0] 29))
    replace b3 := b3.ext (Ext.alloc wq (.cells #[.int .i64 0, .slice none 0 0, .slice none 0 0] 29))
    replace b4 := b4.ext (Ext.alloc wq (.cells #[.int .i64 0, .slice none 0 0, .slice none 0 0] 29))
    clear hq9
    go_upto_region 7 with fail
    generalize wq.alloc (.cells #[.int .i64 0, .slice none 0 0, .slice none 0 0] 29) = wr at hxa b3 b4 ⊢
    clear hx
    have hx := hxa
    clear hxa
    have b3_0 := b3.cell 0 rfl; have b3_1 := b3.cell 1 rfl; have b3_2 := b3.cell 2 rfl; have b4_0 := b4.cell 0 rfl; have b4_1 := b4.cell 1 rfl; have b4_2 := b4.cell 2 rfl
    go_wp2_with fail
    refine (C3.out _ hx).mono ?_
    rintro e wz4 ⟨rfl, hez4⟩
    clear b3_0 b3_1 b3_2 b4_0 b4_1 b4_2
    replace b3 := b3.ext hez4
    replace b4 := b4.ext hez4
    replace hx := hx.trans hez4
    have b3_0 := b3.cell 0 rfl; have b3_1 := b3.cell 1 rfl; have b3_2 := b3.cell 2 rfl; have b4_0 := b4.cell 0 rfl; have b4_1 := b4.cell 1 rfl; have b4_2 := b4.cell 2 rfl
    go_wp2_with fail
    refine (C3.out _ hx).mono ?_
    rintro e wz5 ⟨rfl, hez5⟩
    clear b3_0 b3_1 b3_2 b4_0 b4_1 b4_2
    replace b3 := b3.ext hez5
    replace b4 := b4.ext hez5
    replace hx := hx.trans hez5
    have b3_0 := b3.cell 0 rfl; have b3_1 := b3.cell 1 rfl; have b3_2 := b3.cell 2 rfl; have b4_0 := b4.cell 0 rfl; have b4_1 := b4.cell 1 rfl; have b4_2 := b4.cell 2 rfl
    go_wp2_with fail
    go_ret
    exact Grows.mk rfl (he1.trans hx)
  cases k1 with
  | false =>
    obtain ⟨vN8, vA8, rfl, hN8, hA8⟩ := hO.auto
    obtain ⟨aN8, cN8, rfl, -, -⟩ := hN8.open
    obtain ⟨aA8, cA8, rfl, -, -⟩ := hA8.open
    generalize autoN (nxP P Q) (alP P Q) (accP P Q 1) nodes = X at *
    have hxa := hx.trans (Ext.alloc wq (.cells #[.int .i64 X.alphabet, .slice aN8 X.next.length cN8, .slice aA8 X.accept.length cA8] 29))
    replace b3 := b3.ext (Ext.alloc wq (.cells #[.int .i64 X.alphabet, .slice aN8 X.next.length cN8, .slice aA8 X.accept.length cA8] 29))
    replace b4 := b4.ext (Ext.alloc wq (.cells #[.int .i64 X.alphabet, .slice aN8 X.next.length cN8, .slice aA8 X.accept.length cA8] 29))
    clear hq9 hnum h12 hO hN8 hA8
    go_upto_region 7 with fail
    generalize wq.alloc (.cells #[.int .i64 X.alphabet, .slice aN8 X.next.length cN8, .slice aA8 X.accept.length cA8] 29) = wr at hxa b3 b4 ⊢
    clear hx
    have hx := hxa
    clear hxa
    have b3_0 := b3.cell 0 rfl; have b3_1 := b3.cell 1 rfl; have b3_2 := b3.cell 2 rfl; have b4_0 := b4.cell 0 rfl; have b4_1 := b4.cell 1 rfl; have b4_2 := b4.cell 2 rfl
    go_wp2_with fail
    refine (C3.out _ hx).mono ?_
    rintro e wz6 ⟨rfl, hez6⟩
    clear b3_0 b3_1 b3_2 b4_0 b4_1 b4_2
    replace b3 := b3.ext hez6
    replace b4 := b4.ext hez6
    replace hx := hx.trans hez6
    have b3_0 := b3.cell 0 rfl; have b3_1 := b3.cell 1 rfl; have b3_2 := b3.cell 2 rfl; have b4_0 := b4.cell 0 rfl; have b4_1 := b4.cell 1 rfl; have b4_2 := b4.cell 2 rfl
    go_wp2_with fail
    refine (C3.out _ hx).mono ?_
    rintro e wz7 ⟨rfl, hez7⟩
    clear b3_0 b3_1 b3_2 b4_0 b4_1 b4_2
    replace b3 := b3.ext hez7
    replace b4 := b4.ext hez7
    replace hx := hx.trans hez7
    have b3_0 := b3.cell 0 rfl; have b3_1 := b3.cell 1 rfl; have b3_2 := b3.cell 2 rfl; have b4_0 := b4.cell 0 rfl; have b4_1 := b4.cell 1 rfl; have b4_2 := b4.cell 2 rfl
    go_wp2_with fail
    go_ret
    exact Grows.mk rfl (he1.trans hx)
  | true =>
  have hfacts := alP_facts hp hq
  have hfacts2 := alP_facts hq hp
  have hXv := autoN_valid (acc := accP P Q 1) (by unfold isAlpha; simp [hfacts.1, hfacts.2.1]) hnum h12
  have hXa := fun v => prod_accepts (kind := 1) hp hq hnum v
  have hEq : keepsB [S] (autoN (nxP P Q) (alP P Q) (accP P Q 1) nodes) = true :=
    keeps_more hXv (fun v h => by rw [hXa v, if_neg (by decide), if_pos rfl, h]; rfl) HK1.out
  have HFEW := Lib.hid (show ¬ TooMany (nxP Q P) (letters (alP Q P)) 0 12 from fun h => hnum.few h12 (prod_swap hp hq h))
  clear hXv hXa hfacts hnum h12
  generalize autoN (nxP P Q) (alP P Q) (accP P Q 1) nodes = X at hO hEq
  obtain ⟨vN8, vA8, rfl, hN8, hA8⟩ := hO.auto
  obtain ⟨aN8, cN8, rfl, -, -⟩ := hN8.open
  obtain ⟨aA8, cA8, rfl, -, -⟩ := hA8.open
  have C4 := Lib.hid (show ∀ w', Ext wq w' → Calls Tryz.prog 23 #[.agg #[.int .i64 S.alphabet, .int .i64 S.states, .slice aE1 S.edges.length cE1], .agg #[.int .i64 X.alphabet, .slice aN8 X.next.length cN8, .slice aA8 X.accept.length cA8]] w' (Grows (.bool true) w') from fun w' h => by
    have := KeepsProperty_cd _ _ S X _ (HS.out _ (hx.trans h)) ⟨_, _, rfl, hN8.mono h, hA8.mono h⟩ (HD.out _ (hx.trans h))
    rwa [hEq] at this)
  clear hO hN8 hA8 hEq hq9
  have hxa : Ext wq (wq.alloc (.cells #[.int .i64 X.alphabet, .slice aN8 X.next.length cN8, .slice aA8 X.accept.length cA8] 29)) := Ext.alloc _ _
  have b9 : Blk (wq.alloc (.cells #[.int .i64 X.alphabet, .slice aN8 X.next.length cN8, .slice aA8 X.accept.length cA8] 29)) wq.heap.size #[.int .i64 X.alphabet, .slice aN8 X.next.length cN8, .slice aA8 X.accept.length cA8] 29 := Blk.new _ _ _
  replace b3 := b3.ext hxa
  replace b4 := b4.ext hxa
  replace b7 := b7.ext hxa
  go_upto_region 7 with fail
  generalize wq.alloc (.cells #[.int .i64 X.alphabet, .slice aN8 X.next.length cN8, .slice aA8 X.accept.length cA8] 29) = wr at hxa b3 b4 b7 b9 ⊢
  have hy := hx
  clear hx
  have hx := hxa
  clear hxa
  have b3_0 := b3.cell 0 rfl; have b3_1 := b3.cell 1 rfl; have b3_2 := b3.cell 2 rfl; have b4_0 := b4.cell 0 rfl; have b4_1 := b4.cell 1 rfl; have b4_2 := b4.cell 2 rfl; have b7_0 := b7.cell 0 rfl; have b7_1 := b7.cell 1 rfl; have b7_2 := b7.cell 2 rfl; have b9_0 := b9.cell 0 rfl; have b9_1 := b9.cell 1 rfl; have b9_2 := b9.cell 2 rfl
  go_wp2_with fail
  refine (C3.out _ (hy.trans hx)).mono ?_
  rintro e wz8 ⟨rfl, hez8⟩
  clear b3_0 b3_1 b3_2 b4_0 b4_1 b4_2 b7_0 b7_1 b7_2 b9_0 b9_1 b9_2
  replace b3 := b3.ext hez8
  replace b4 := b4.ext hez8
  replace b7 := b7.ext hez8
  replace b9 := b9.ext hez8
  replace hx := hx.trans hez8
  have b3_0 := b3.cell 0 rfl; have b3_1 := b3.cell 1 rfl; have b3_2 := b3.cell 2 rfl; have b4_0 := b4.cell 0 rfl; have b4_1 := b4.cell 1 rfl; have b4_2 := b4.cell 2 rfl; have b7_0 := b7.cell 0 rfl; have b7_1 := b7.cell 1 rfl; have b7_2 := b7.cell 2 rfl; have b9_0 := b9.cell 0 rfl; have b9_1 := b9.cell 1 rfl; have b9_2 := b9.cell 2 rfl
  go_wp2_with fail
  refine (ProductAutomaton_c _ _ Q P 1 _ (HQ.out _ (hy.trans hx)) (HP.out _ (hy.trans hx)) hq hp (by omega)).mono ?_
  rintro e wu ⟨v9, g, rfl, hu9, hend⟩
  rcases hend with ⟨rfl, nodes2, hnum2, h122, hO2⟩ | ⟨-, -, htm⟩
  case inr => exact absurd htm HFEW.out
  have hYv := autoN_valid (acc := accP Q P 1) (by unfold isAlpha; simp [hfacts2.1, hfacts2.2.1]) hnum2 h122
  have hYa := fun v => prod_accepts (kind := 1) hq hp hnum2 v
  have hEq2 : keepsB [S] (autoN (nxP Q P) (alP Q P) (accP Q P 1) nodes2) = true :=
    keeps_more hYv (fun v h => by rw [hYa v, if_neg (by decide), if_pos rfl, h, Bool.or_true]) HK1.out
  clear hYv hYa hfacts2 hnum2 h122 HFEW
  generalize autoN (nxP Q P) (alP Q P) (accP Q P 1) nodes2 = Y at hO2 hEq2
  obtain ⟨vN7, vA7, rfl, hN7, hA7⟩ := hO2.auto
  obtain ⟨aN7, cN7, rfl, -, -⟩ := hN7.open
  obtain ⟨aA7, cA7, rfl, -, -⟩ := hA7.open
  have C5 := Lib.hid (show ∀ w', Ext wu w' → Calls Tryz.prog 23 #[.agg #[.int .i64 S.alphabet, .int .i64 S.states, .slice aE1 S.edges.length cE1], .agg #[.int .i64 Y.alphabet, .slice aN7 Y.next.length cN7, .slice aA7 Y.accept.length cA7]] w' (Grows (.bool true) w') from fun w' h => by
    have := KeepsProperty_cd _ _ S Y _ (HS.out _ ((hy.trans hx).trans (hu9.trans h))) ⟨_, _, rfl, hN7.mono h, hA7.mono h⟩ (HD.out _ ((hy.trans hx).trans (hu9.trans h)))
    rwa [hEq2] at this)
  clear hO2 hN7 hA7 hEq2 b3_0 b3_1 b3_2 b4_0 b4_1 b4_2 b7_0 b7_1 b7_2 b9_0 b9_1 b9_2
  have hxb : Ext wu (wu.alloc (.cells #[.int .i64 Y.alphabet, .slice aN7 Y.next.length cN7, .slice aA7 Y.accept.length cA7] 29)) := Ext.alloc _ _
  have b8 : Blk (wu.alloc (.cells #[.int .i64 Y.alphabet, .slice aN7 Y.next.length cN7, .slice aA7 Y.accept.length cA7] 29)) wu.heap.size #[.int .i64 Y.alphabet, .slice aN7 Y.next.length cN7, .slice aA7 Y.accept.length cA7] 29 := Blk.new _ _ _
  replace b3 := b3.ext (hu9.trans hxb)
  replace b9 := b9.ext (hu9.trans hxb)
  go_upto_region 10 with fail
  generalize wu.alloc (.cells #[.int .i64 Y.alphabet, .slice aN7 Y.next.length cN7, .slice aA7 Y.accept.length cA7] 29) = ws at hxb b3 b8 b9 ⊢
  have hz := hx.trans hu9
  clear hx
  have hx := hxb
  clear hxb
  have b3_0 := b3.cell 0 rfl; have b3_1 := b3.cell 1 rfl; have b3_2 := b3.cell 2 rfl; have b8_0 := b8.cell 0 rfl; have b8_1 := b8.cell 1 rfl; have b8_2 := b8.cell 2 rfl; have b9_0 := b9.cell 0 rfl; have b9_1 := b9.cell 1 rfl; have b9_2 := b9.cell 2 rfl
  go_wp2_with fail
  refine (C4.out _ (hz.trans hx)).mono ?_
  rintro e wz9 ⟨rfl, hez9⟩
  clear b3_0 b3_1 b3_2 b8_0 b8_1 b8_2 b9_0 b9_1 b9_2
  replace b3 := b3.ext hez9
  replace b8 := b8.ext hez9
  replace b9 := b9.ext hez9
  replace hx := hx.trans hez9
  have b3_0 := b3.cell 0 rfl; have b3_1 := b3.cell 1 rfl; have b3_2 := b3.cell 2 rfl; have b8_0 := b8.cell 0 rfl; have b8_1 := b8.cell 1 rfl; have b8_2 := b8.cell 2 rfl; have b9_0 := b9.cell 0 rfl; have b9_1 := b9.cell 1 rfl; have b9_2 := b9.cell 2 rfl
  go_wp2_with fail
  refine (C5.out _ hx).mono ?_
  rintro e wz10 ⟨rfl, hez10⟩
  clear b3_0 b3_1 b3_2 b8_0 b8_1 b8_2 b9_0 b9_1 b9_2
  replace b3 := b3.ext hez10
  replace b8 := b8.ext hez10
  replace b9 := b9.ext hez10
  replace hx := hx.trans hez10
  have b3_0 := b3.cell 0 rfl; have b3_1 := b3.cell 1 rfl; have b3_2 := b3.cell 2 rfl; have b8_0 := b8.cell 0 rfl; have b8_1 := b8.cell 1 rfl; have b8_2 := b8.cell 2 rfl; have b9_0 := b9.cell 0 rfl; have b9_1 := b9.cell 1 rfl; have b9_2 := b9.cell 2 rfl
  go_wp2_with fail
  go_ret
  exact Grows.mk rfl ((he1.trans hy).trans (hz.trans hx))

theorem own : ownKnob Tryz.prog.godebug = none := by kernel_rfl
theorem laidOut : laidOutB Tryz.prog = true := by kernel_rfl
theorem deb_of_laid {W : World} (h : laidMetH Tryz.prog Rows.fnKeepsEitherRow.laid W) : Deb W := debOfLaid h
theorem laid_met (os : Os) (args : Array Value) : laidMetH Tryz.prog Rows.fnKeepsEitherRow.laid ((laidWorld os).forCall (fun _ _ => 0) ⟨#[], args, []⟩).memory :=
  (LaidIn.of_run [0, 1] 8 (by kernel_rfl) (by kernel_rfl) (by kernel_rfl) (by kernel_rfl)).met
set_option maxRecDepth 100000 in
theorem lifted (os : Os) (started : os.Started) (H : Type) (enc : TypeId × Value → H) :
    ReturnsInHanded {} Tryz.checked os 8 .any (fun w args => (Rows.fnKeepsEitherSpec.pre enc Tryz.prog Tryz.f8 [] false w args ∧ laidMetH Tryz.prog Rows.fnKeepsEitherRow.laid w) ∧ sizedMet enc Tryz.prog Tryz.f8 (OpenSpec.ofChange Rows.fnKeepsEitherSpec) false w args)
      (Rows.fnKeepsEitherSpec.post enc Tryz.prog Tryz.f8 false true false false) := by
  refine returnsInHanded_of_change_and (C := Tryz.checked) (X := fun w _ => laidMetH Tryz.prog Rows.fnKeepsEitherRow.laid w) (fun _ _ _ hh h => h.of_heap hh) own started (by kernel_rfl) Tryz.func8
    (ChangeSpec.witness_at (enc := enc) (C := Tryz.checked) (os := os) (X := fun w _ => laidMetH Tryz.prog Rows.fnKeepsEitherRow.laid w) false (laidWorld os) #[.slice none 0 0, .slice none 0 0] 8 rfl (by kernel_rfl) (by kernel_rfl) (by kernel_rfl) (by kernel_rfl) (by kernel_rfl) (laid_met os _)) ?_
  intro W base args ds gs before hval0 hW _ _ hL _
  have hval : ∀ (j : Nat) t v, Tryz.f8.params[j]? = some t → args[j]? = some v → Value.okWide Tryz.prog W .any base t v := hval0
  have hW' := hW
  obtain ⟨p, q, hA0, hV, rfl, hfz, hnd⟩ := hW
  have hA : DataW.TrodAll enc Tryz.prog W 0 (fun _ => true) true Tryz.f8.params.toList args.toList ds p := hA0
  rw [Tryz.params8] at hA hval
  obtain ⟨v0, vs0, d0, ds0, p0, q0, hargs, rfl, rfl, h0, r0⟩ := trodAll_cons hA
  obtain ⟨v1, vs1, d1, ds1, p1, q1, rfl, rfl, rfl, h1, r1⟩ := trodAll_cons r0
  obtain ⟨rfl, rfl, rfl⟩ := trodAll_nil r1
  obtain rfl : args = #[v0, v1] := by cases args; simp_all
  obtain ⟨rfl, rfl⟩ := trodVars_none hV
  have k0 := h0
  have lt0 : ∀ x ∈ p0, x.block < W.heap.size := by obtain ⟨m, hm⟩ := k0; exact DataW.trod_lt m _ _ _ hm
  obtain ⟨a0, len0, cap0, rfl⟩ := okWide_slice Tryz.underlying22 (hval 0 _ v0 rfl rfl)
  obtain ⟨t0, w0⟩ : ∃ t, BytesV W (.slice a0 len0 cap0) t := by
    obtain ⟨fuel, hf⟩ := h0
    obtain ⟨v, t, hv, ht⟩ := read_bytes hf
    simp [Value.cells] at hv
    subst hv
    exact ⟨t, ht⟩
  have k1 := h1
  have lt1 : ∀ x ∈ p1, x.block < W.heap.size := by obtain ⟨m, hm⟩ := k1; exact DataW.trod_lt m _ _ _ hm
  obtain ⟨a1, len1, cap1, rfl⟩ := okWide_slice Tryz.underlying22 (hval 1 _ v1 rfl rfl)
  obtain ⟨t1, w1⟩ : ∃ t, BytesV W (.slice a1 len1 cap1) t := by
    obtain ⟨fuel, hf⟩ := h1
    obtain ⟨v, t, hv, ht⟩ := read_bytes hf
    simp [Value.cells] at hv
    subst hv
    exact ⟨t, ht⟩
  clear hA0 hval0
  refine (walk (.slice a0 len0 cap0) t0 (.slice a1 len1 cap1) t1 W w0 w1 (deb_of_laid hL)).mono fun e W' ⟨he, bel⟩ => ?_
  subst he
  exact ⟨_, rfl, _, _, _, [], _, [], hW', trodAll_mk1 (shut_bool Tryz.underlying4 _), (trodAll_cons_mk (Below.trod laidOut (by kernel_rfl) (of_decide_eq_true (by kernel_rfl)) k0 bel lt0) (trodAll_cons_mk (Below.trod laidOut (by kernel_rfl) (of_decide_eq_true (by kernel_rfl)) k1 bel lt1) trodAll_mk0)), rfl, bel.frame _, fun h => by cases h⟩

theorem over : Rows.fnKeepsEitherRow.holds Tryz.pinned (OpenSpec.ofChange Rows.fnKeepsEitherSpec) :=
  OpenClaim.holds_of_wide 8 Tryz.f8 rfl rfl rfl rfl rfl rfl rfl ⟨rfl, rfl, rfl, rfl, rfl⟩ rfl rfl rfl rfl rfl (by kernel_rfl) Tryz.func8 (by kernel_rfl)
    (of_decide_eq_true (by kernel_rfl)) (by unfold Func.isWrapper; first | (rw [if_pos (by decide +kernel)]; kernel_rfl) | (rw [if_neg (by decide +kernel)]; exact ⟨rfl, rfl⟩))
    (fun os started H enc _ => lifted os started H enc)

theorem card_holds : Rows.FnKeepsEitherCardSaid :=
  Claim7.holds_tied_plain_at .later [] [.data, .data] true (true, "9a077bff846fc9286c140de7f5544c1180e5c39865adca5fef709ebff2f37226") true
    over (fun _ h => by cases h) (by kernel_rfl) (fun _ h => by cases h) fnKeepsEither_row_tie rfl ⟨rfl, rfl⟩ (by kernel_rfl) rfl
    (fun f fn hf hfn => by
      obtain rfl : f = 8 := Option.some.inj ((show Tryz.prog.funcNamed "loop.example/assumeguarantee/laws.FnKeepsEither" = some 8 by kernel_rfl).symm.trans hf) |>.symm
      obtain rfl : fn = Tryz.f8 := (Option.some.inj (Tryz.func8.symm.trans hfn)).symm
      refine ⟨by kernel_rfl, fun j t ht => ?_⟩
      rw [Tryz.params8] at ht
      match j, ht with
      | 0, ht =>
        have h0 : t = 22 := by simpa using ht.symm
        subst h0
        exact (show Tryz.prog.wantsStandIn 22 = false by kernel_rfl)
      | 1, ht =>
        have h1 : t = 22 := by simpa using ht.symm
        subst h1
        exact (show Tryz.prog.wantsStandIn 22 = false by kernel_rfl)
      | j + 2, ht => simp at ht)
    (by kernel_rfl)
#print axioms card_holds
end Go.Proofs.YthpiihblmekijaaGreatDoor.lawFnKeepsEither
