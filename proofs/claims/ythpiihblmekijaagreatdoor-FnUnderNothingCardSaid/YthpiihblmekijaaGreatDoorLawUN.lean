/- FnUnderNothing: for all bytes, under an assumption that accepts nothing a valid system keeps every property, and under one that accepts everything what it keeps alone: the law answers true. -/
import Derived.Test.YthpiihblmekijaaGreatDoorDrawB
import Derived.Test.YthpiihblmekijaaGreatDoorPlainC
import Derived.Test.YthpiihblmekijaaGreatDoorLit
import Derived.Test.YthpiihblmekijaaGreatDoorDet
import Derived.Test.YthpiihblmekijaaGreatDoorCardW
import Derived.Test.YthpiihblmekijaaGreatDoorDrawL
namespace Go.Proofs.YthpiihblmekijaaGreatDoor.lawFnUnderNothing
open Go.ChangeShapes Go.WideShapes Go.ChangeAt Go.RowKit
open Go.Proofs.YthpiihblmekijaaGreatDoor
open Go.ChangeMaps (open_string shut_string)
set_option linter.unusedVariables false
set_option linter.unusedSimpArgs false
set_option maxHeartbeats 1600000
set_option maxRecDepth 100000

theorem Parse_none (w : World) : Calls Tryz.prog 21 #[.string ⟨#[45, 32, 45]⟩] w (fun e w' => ∃ v', e = .returned (.tuple #[v', .bool true]) ∧ Ext w w' ∧ AutoOwn w.heap.size w' v' noneAuto) := ParseAutomaton_lit false w
theorem Parse_all (w : World) : Calls Tryz.prog 21 #[.string ⟨#[45, 32, 43]⟩] w (fun e w' => ∃ v', e = .returned (.tuple #[v', .bool true]) ∧ Ext w w' ∧ AutoOwn w.heap.size w' v' trivAuto) := ParseAutomaton_lit true w

theorem walk (v0 : Value) (t0 : List UInt8) (w : World) (hv0 : BytesV w v0 t0) (hD : Deb w) : Calls Tryz.prog 4 #[v0] w (Grows (.bool true) w) := by
  obtain ⟨aB, cB, rfl, hleB, -⟩ := hv0.open
  have HDb := Lib.hid hD
  clear hD
  by_cases hz0 : 1048576 < t0.length
  · go_enter Tryz.func4, Tryz.ntmps4
    go_wp2_with fail
    go_ret
    exact Grows.mk rfl (Ext.refl _)
  go_enter Tryz.func4, Tryz.ntmps4
  go_wp2_with fail
  refine (DrawKeepsUnder_t _ t0 _ hv0 (by omega)).mono ?_
  rintro e w1 ⟨r, D, rfl, he1, hD1, hT1, s, a, p, rfl, hS, hA, hP⟩
  obtain ⟨S, hSe1, hSV1⟩ := hS.sys hT1
  obtain ⟨vE1, rfl, hE1⟩ := hSV1
  obtain ⟨aE1, cE1, rfl, -, -⟩ := hE1.open
  obtain ⟨A, hPn2, hPa2, hPV2⟩ := hA.auto hT1
  obtain ⟨vN2, vA2, rfl, hN2, hA2⟩ := hPV2
  obtain ⟨aN2, cN2, rfl, -, -⟩ := hN2.open
  obtain ⟨aA2, cA2, rfl, -, -⟩ := hA2.open
  obtain ⟨P, hPn3, hPa3, hPV3⟩ := hP.auto hT1
  obtain ⟨vN3, vA3, rfl, hN3, hA3⟩ := hPV3
  obtain ⟨aN3, cN3, rfl, -, -⟩ := hN3.open
  obtain ⟨aA3, cA3, rfl, -, -⟩ := hA3.open
  have HS := Lib.hid (show ∀ w', Ext w1 w' → SysV w' (.agg #[.int .i64 S.alphabet, .int .i64 S.states, .slice aE1 S.edges.length cE1]) S from fun w' h => ⟨_, rfl, hE1.mono h⟩)
  have HA := Lib.hid (show ∀ w', Ext w1 w' → AutoV w' (.agg #[.int .i64 A.alphabet, .slice aN2 A.next.length cN2, .slice aA2 A.accept.length cA2]) A from fun w' h => ⟨_, _, rfl, hN2.mono h, hA2.mono h⟩)
  have HP := Lib.hid (show ∀ w', Ext w1 w' → AutoV w' (.agg #[.int .i64 P.alphabet, .slice aN3 P.next.length cN3, .slice aA3 P.accept.length cA3]) P from fun w' h => ⟨_, _, rfl, hN3.mono h, hA3.mono h⟩)
  have HD := Lib.hid (show ∀ w', Ext w1 w' → Deb w' from fun w' h => HDb.out.ext (he1.trans h))
  clear hE1 hN2 hA2 hN3 hA3 hS hA hP hT1 hD1
  have hx : Ext w1 (((w1.alloc (.cells #[.int .i64 S.alphabet, .int .i64 S.states, .slice aE1 S.edges.length cE1] 25)).alloc (.cells #[.int .i64 A.alphabet, .slice aN2 A.next.length cN2, .slice aA2 A.accept.length cA2] 29)).alloc (.cells #[.int .i64 P.alphabet, .slice aN3 P.next.length cN3, .slice aA3 P.accept.length cA3] 29)) := ((Ext.alloc _ _).trans (Ext.alloc _ _)).trans (Ext.alloc _ _)
  have b3 : Blk (((w1.alloc (.cells #[.int .i64 S.alphabet, .int .i64 S.states, .slice aE1 S.edges.length cE1] 25)).alloc (.cells #[.int .i64 A.alphabet, .slice aN2 A.next.length cN2, .slice aA2 A.accept.length cA2] 29)).alloc (.cells #[.int .i64 P.alphabet, .slice aN3 P.next.length cN3, .slice aA3 P.accept.length cA3] 29)) w1.heap.size #[.int .i64 S.alphabet, .int .i64 S.states, .slice aE1 S.edges.length cE1] 25 := Ext.blk ((Ext.alloc _ _).trans (Ext.alloc _ _))
  have b4 : Blk (((w1.alloc (.cells #[.int .i64 S.alphabet, .int .i64 S.states, .slice aE1 S.edges.length cE1] 25)).alloc (.cells #[.int .i64 A.alphabet, .slice aN2 A.next.length cN2, .slice aA2 A.accept.length cA2] 29)).alloc (.cells #[.int .i64 P.alphabet, .slice aN3 P.next.length cN3, .slice aA3 P.accept.length cA3] 29)) (w1.heap.size + 1) #[.int .i64 A.alphabet, .slice aN2 A.next.length cN2, .slice aA2 A.accept.length cA2] 29 := Ext.blk1 (Ext.alloc _ _)
  have b5 : Blk (((w1.alloc (.cells #[.int .i64 S.alphabet, .int .i64 S.states, .slice aE1 S.edges.length cE1] 25)).alloc (.cells #[.int .i64 A.alphabet, .slice aN2 A.next.length cN2, .slice aA2 A.accept.length cA2] 29)).alloc (.cells #[.int .i64 P.alphabet, .slice aN3 P.next.length cN3, .slice aA3 P.accept.length cA3] 29)) (w1.heap.size + 1 + 1) #[.int .i64 P.alphabet, .slice aN3 P.next.length cN3, .slice aA3 P.accept.length cA3] 29 := Ext.blk2 (Ext.refl _)
  go_wp2_with fail
  generalize (((w1.alloc (.cells #[.int .i64 S.alphabet, .int .i64 S.states, .slice aE1 S.edges.length cE1] 25)).alloc (.cells #[.int .i64 A.alphabet, .slice aN2 A.next.length cN2, .slice aA2 A.accept.length cA2] 29)).alloc (.cells #[.int .i64 P.alphabet, .slice aN3 P.next.length cN3, .slice aA3 P.accept.length cA3] 29)) = w2 at hx b3 b4 b5 ⊢
  have b3_0 := b3.cell 0 rfl; have b3_1 := b3.cell 1 rfl; have b3_2 := b3.cell 2 rfl; have b4_0 := b4.cell 0 rfl; have b4_1 := b4.cell 1 rfl; have b4_2 := b4.cell 2 rfl; have b5_0 := b5.cell 0 rfl; have b5_1 := b5.cell 1 rfl; have b5_2 := b5.cell 2 rfl
  obtain ⟨u, hu⟩ : ∃ u, underB S A P = u := ⟨_, rfl⟩
  have HU := Lib.hid hu
  have C1 := Lib.hid (show ∀ w', Ext w1 w' → Calls Tryz.prog 17 #[.agg #[.int .i64 S.alphabet, .int .i64 S.states, .slice aE1 S.edges.length cE1], .agg #[.int .i64 A.alphabet, .slice aN2 A.next.length cN2, .slice aA2 A.accept.length cA2], .agg #[.int .i64 P.alphabet, .slice aN3 P.next.length cN3, .slice aA3 P.accept.length cA3]] w' (Grows (.bool u) w') from fun w' h => by have := KeepsUnder_cd _ _ _ S A P _ (HS.out _ h) (HA.out _ h) (HP.out _ h) (HD.out _ h); rwa [hu] at this)
  have C2 := Lib.hid (show ∀ w', Ext w1 w' → Calls Tryz.prog 18 #[.agg #[.int .i64 S.alphabet, .int .i64 S.states, .slice aE1 S.edges.length cE1], .agg #[.int .i64 A.alphabet, .slice aN2 A.next.length cN2, .slice aA2 A.accept.length cA2], .agg #[.int .i64 P.alphabet, .slice aN3 P.next.length cN3, .slice aA3 P.accept.length cA3]] w' (Grows (.bool u) w') from fun w' h => by have := KeepsUnder_sd _ _ _ S A P _ (HS.out _ h) (HA.out _ h) (HP.out _ h) (by omega); rwa [hu] at this)
  clear hu
  have heq2 : (u != u) = false := by simp
  have heq3 : (u == u) = true := by simp
  go_wp2_with fail
  refine (C1.out _ hx).mono ?_
  rintro e wz1 ⟨rfl, hez1⟩
  clear b3_0 b3_1 b3_2 b4_0 b4_1 b4_2 b5_0 b5_1 b5_2
  replace b3 := b3.ext hez1
  replace b4 := b4.ext hez1
  replace b5 := b5.ext hez1
  replace hx := hx.trans hez1
  have b3_0 := b3.cell 0 rfl; have b3_1 := b3.cell 1 rfl; have b3_2 := b3.cell 2 rfl; have b4_0 := b4.cell 0 rfl; have b4_1 := b4.cell 1 rfl; have b4_2 := b4.cell 2 rfl; have b5_0 := b5.cell 0 rfl; have b5_1 := b5.cell 1 rfl; have b5_2 := b5.cell 2 rfl
  go_wp2_with fail
  refine (C2.out _ hx).mono ?_
  rintro e wz2 ⟨rfl, hez2⟩
  clear b3_0 b3_1 b3_2 b4_0 b4_1 b4_2 b5_0 b5_1 b5_2
  replace b3 := b3.ext hez2
  replace b4 := b4.ext hez2
  replace b5 := b5.ext hez2
  replace hx := hx.trans hez2
  have b3_0 := b3.cell 0 rfl; have b3_1 := b3.cell 1 rfl; have b3_2 := b3.cell 2 rfl; have b4_0 := b4.cell 0 rfl; have b4_1 := b4.cell 1 rfl; have b4_2 := b4.cell 2 rfl; have b5_0 := b5.cell 0 rfl; have b5_1 := b5.cell 1 rfl; have b5_2 := b5.cell 2 rfl
  by_cases hs : sysValid S = true
  case neg =>
    have hs : sysValid S = false := by simpa using hs
    have hu : u = false := by rw [← HU.out]; unfold underB; rw [hs]; rfl
    clear HU
    subst hu
    go_wp2_with fail
    refine (SystemValid_b hs (HS.out _ hx)).mono ?_
    rintro e wz3 ⟨rfl, hez3⟩
    clear b3_0 b3_1 b3_2 b4_0 b4_1 b4_2 b5_0 b5_1 b5_2
    replace b3 := b3.ext hez3
    replace b4 := b4.ext hez3
    replace b5 := b5.ext hez3
    replace hx := hx.trans hez3
    have b3_0 := b3.cell 0 rfl; have b3_1 := b3.cell 1 rfl; have b3_2 := b3.cell 2 rfl; have b4_0 := b4.cell 0 rfl; have b4_1 := b4.cell 1 rfl; have b4_2 := b4.cell 2 rfl; have b5_0 := b5.cell 0 rfl; have b5_1 := b5.cell 1 rfl; have b5_2 := b5.cell 2 rfl
    go_wp2_with fail
    refine (C2.out _ hx).mono ?_
    rintro e wz4 ⟨rfl, hez4⟩
    clear b3_0 b3_1 b3_2 b4_0 b4_1 b4_2 b5_0 b5_1 b5_2
    replace b3 := b3.ext hez4
    replace b4 := b4.ext hez4
    replace b5 := b5.ext hez4
    replace hx := hx.trans hez4
    have b3_0 := b3.cell 0 rfl; have b3_1 := b3.cell 1 rfl; have b3_2 := b3.cell 2 rfl; have b4_0 := b4.cell 0 rfl; have b4_1 := b4.cell 1 rfl; have b4_2 := b4.cell 2 rfl; have b5_0 := b5.cell 0 rfl; have b5_1 := b5.cell 1 rfl; have b5_2 := b5.cell 2 rfl
    go_wp2_with fail
    go_ret
    exact Grows.mk rfl (he1.trans hx)
  go_wp2_with fail
  refine (SystemValid_b hs (HS.out _ hx)).mono ?_
  rintro e wz5 ⟨rfl, hez5⟩
  clear b3_0 b3_1 b3_2 b4_0 b4_1 b4_2 b5_0 b5_1 b5_2
  replace b3 := b3.ext hez5
  replace b4 := b4.ext hez5
  replace b5 := b5.ext hez5
  replace hx := hx.trans hez5
  have b3_0 := b3.cell 0 rfl; have b3_1 := b3.cell 1 rfl; have b3_2 := b3.cell 2 rfl; have b4_0 := b4.cell 0 rfl; have b4_1 := b4.cell 1 rfl; have b4_2 := b4.cell 2 rfl; have b5_0 := b5.cell 0 rfl; have b5_1 := b5.cell 1 rfl; have b5_2 := b5.cell 2 rfl
  by_cases hp : autoValid P = true
  case neg =>
    have hp : autoValid P = false := by simpa using hp
    have hu : u = false := by rw [← HU.out]; unfold underB; rw [hp]; simp
    clear HU
    subst hu
    go_wp2_with fail
    refine (AutomatonValid_b hp (HP.out _ hx)).mono ?_
    rintro e wz6 ⟨rfl, hez6⟩
    clear b3_0 b3_1 b3_2 b4_0 b4_1 b4_2 b5_0 b5_1 b5_2
    replace b3 := b3.ext hez6
    replace b4 := b4.ext hez6
    replace b5 := b5.ext hez6
    replace hx := hx.trans hez6
    have b3_0 := b3.cell 0 rfl; have b3_1 := b3.cell 1 rfl; have b3_2 := b3.cell 2 rfl; have b4_0 := b4.cell 0 rfl; have b4_1 := b4.cell 1 rfl; have b4_2 := b4.cell 2 rfl; have b5_0 := b5.cell 0 rfl; have b5_1 := b5.cell 1 rfl; have b5_2 := b5.cell 2 rfl
    go_wp2_with fail
    refine (C2.out _ hx).mono ?_
    rintro e wz7 ⟨rfl, hez7⟩
    clear b3_0 b3_1 b3_2 b4_0 b4_1 b4_2 b5_0 b5_1 b5_2
    replace b3 := b3.ext hez7
    replace b4 := b4.ext hez7
    replace b5 := b5.ext hez7
    replace hx := hx.trans hez7
    have b3_0 := b3.cell 0 rfl; have b3_1 := b3.cell 1 rfl; have b3_2 := b3.cell 2 rfl; have b4_0 := b4.cell 0 rfl; have b4_1 := b4.cell 1 rfl; have b4_2 := b4.cell 2 rfl; have b5_0 := b5.cell 0 rfl; have b5_1 := b5.cell 1 rfl; have b5_2 := b5.cell 2 rfl
    go_wp2_with fail
    go_ret
    exact Grows.mk rfl (he1.trans hx)
  go_wp2_with fail
  refine (AutomatonValid_b hp (HP.out _ hx)).mono ?_
  rintro e wz8 ⟨rfl, hez8⟩
  clear b3_0 b3_1 b3_2 b4_0 b4_1 b4_2 b5_0 b5_1 b5_2
  replace b3 := b3.ext hez8
  replace b4 := b4.ext hez8
  replace b5 := b5.ext hez8
  replace hx := hx.trans hez8
  have b3_0 := b3.cell 0 rfl; have b3_1 := b3.cell 1 rfl; have b3_2 := b3.cell 2 rfl; have b4_0 := b4.cell 0 rfl; have b4_1 := b4.cell 1 rfl; have b4_2 := b4.cell 2 rfl; have b5_0 := b5.cell 0 rfl; have b5_1 := b5.cell 1 rfl; have b5_2 := b5.cell 2 rfl
  clear HU heq2 heq3
  have h0 : underB S noneAuto P = true := under_none hs hp
  obtain ⟨kb, hkb⟩ : ∃ kb, keepsB [S] P = kb := ⟨_, rfl⟩
  have h1 : underB S trivAuto P = kb := by rw [under_all hs hp, hkb]
  obtain ⟨rr, hrr⟩ : ∃ rr, pvOf [S] P = rr := ⟨_, rfl⟩
  have h2 : vuOf S trivAuto P = rr := by rw [vu_all hs hp, hrr]
  have H0 := Lib.hid h0
  have H1 := Lib.hid h1
  have H2 := Lib.hid h2
  have H3 := Lib.hid hkb
  have H4 := Lib.hid hrr
  clear h0 h1 h2 hkb hrr hs hp
  go_wp2_with fail
  refine (Parse_none _).mono ?_
  rintro e w5 ⟨v5, rfl, he5, hO⟩
  clear b3_0 b3_1 b3_2 b4_0 b4_1 b4_2 b5_0 b5_1 b5_2
  generalize noneAuto = X at hO H0
  obtain ⟨vN7, vA7, rfl, hN7, hA7⟩ := hO.auto
  obtain ⟨aN7, cN7, rfl, -, -⟩ := hN7.open
  obtain ⟨aA7, cA7, rfl, -, -⟩ := hA7.open
  have HX := Lib.hid (show ∀ w', Ext w5 w' → AutoV w' (.agg #[.int .i64 X.alphabet, .slice aN7 X.next.length cN7, .slice aA7 X.accept.length cA7]) X from fun w' h => ⟨_, _, rfl, hN7.mono h, hA7.mono h⟩)
  clear hO hN7 hA7
  replace hx := hx.trans he5
  replace b3 := b3.ext (he5.trans (Ext.alloc w5 (.cells #[.int .i64 X.alphabet, .slice aN7 X.next.length cN7, .slice aA7 X.accept.length cA7] 29)))
  replace b5 := b5.ext (he5.trans (Ext.alloc w5 (.cells #[.int .i64 X.alphabet, .slice aN7 X.next.length cN7, .slice aA7 X.accept.length cA7] 29)))
  have b7 : Blk (w5.alloc (.cells #[.int .i64 X.alphabet, .slice aN7 X.next.length cN7, .slice aA7 X.accept.length cA7] 29)) w5.heap.size #[.int .i64 X.alphabet, .slice aN7 X.next.length cN7, .slice aA7 X.accept.length cA7] 29 := Blk.new _ _ _
  have hxa := Ext.alloc w5 (.cells #[.int .i64 X.alphabet, .slice aN7 X.next.length cN7, .slice aA7 X.accept.length cA7] 29)
  clear b4 he5
  go_wp2_with fail
  generalize w5.alloc (.cells #[.int .i64 X.alphabet, .slice aN7 X.next.length cN7, .slice aA7 X.accept.length cA7] 29) = w6 at hxa b3 b5 b7 ⊢
  refine (Parse_all _).mono ?_
  rintro e w8 ⟨v8, rfl, he8, hO⟩
  generalize trivAuto = Y at hO H1 H2
  obtain ⟨vN8, vA8, rfl, hN8, hA8⟩ := hO.auto
  obtain ⟨aN8, cN8, rfl, -, -⟩ := hN8.open
  obtain ⟨aA8, cA8, rfl, -, -⟩ := hA8.open
  have HY := Lib.hid (show ∀ w', Ext w8 w' → AutoV w' (.agg #[.int .i64 Y.alphabet, .slice aN8 Y.next.length cN8, .slice aA8 Y.accept.length cA8]) Y from fun w' h => ⟨_, _, rfl, hN8.mono h, hA8.mono h⟩)
  clear hO hN8 hA8
  have hx8 := hxa.trans he8
  have CX := Lib.hid (show ∀ w', Ext w8 w' → Calls Tryz.prog 17 #[.agg #[.int .i64 S.alphabet, .int .i64 S.states, .slice aE1 S.edges.length cE1], .agg #[.int .i64 X.alphabet, .slice aN7 X.next.length cN7, .slice aA7 X.accept.length cA7], .agg #[.int .i64 P.alphabet, .slice aN3 P.next.length cN3, .slice aA3 P.accept.length cA3]] w' (Grows (.bool true) w') from fun w' h => by
    have := KeepsUnder_cd _ _ _ S X P _ (HS.out _ (hx.trans (hx8.trans h))) (HX.out _ (hx8.trans h)) (HP.out _ (hx.trans (hx8.trans h))) (HD.out _ (hx.trans (hx8.trans h))); rwa [H0.out] at this)
  have CY := Lib.hid (show ∀ w', Ext w8 w' → Calls Tryz.prog 17 #[.agg #[.int .i64 S.alphabet, .int .i64 S.states, .slice aE1 S.edges.length cE1], .agg #[.int .i64 Y.alphabet, .slice aN8 Y.next.length cN8, .slice aA8 Y.accept.length cA8], .agg #[.int .i64 P.alphabet, .slice aN3 P.next.length cN3, .slice aA3 P.accept.length cA3]] w' (Grows (.bool kb) w') from fun w' h => by
    have := KeepsUnder_cd _ _ _ S Y P _ (HS.out _ (hx.trans (hx8.trans h))) (HY.out _ h) (HP.out _ (hx.trans (hx8.trans h))) (HD.out _ (hx.trans (hx8.trans h))); rwa [H1.out] at this)
  obtain ⟨tx, htx⟩ : ∃ tx, rtext rr = tx := ⟨_, rfl⟩
  obtain ⟨bx, hbx⟩ : ∃ bx, rr.isSome = bx := ⟨_, rfl⟩
  have CV := Lib.hid (show ∀ w', Ext w8 w' → Calls Tryz.prog 11 #[.agg #[.int .i64 S.alphabet, .int .i64 S.states, .slice aE1 S.edges.length cE1], .agg #[.int .i64 Y.alphabet, .slice aN8 Y.next.length cN8, .slice aA8 Y.accept.length cA8], .agg #[.int .i64 P.alphabet, .slice aN3 P.next.length cN3, .slice aA3 P.accept.length cA3]] w' (Grows (.tuple #[.string tx, .bool bx]) w') from fun w' h => by
    have := ViolationUnder_cd _ _ _ S Y P _ (HS.out _ (hx.trans (hx8.trans h))) (HY.out _ h) (HP.out _ (hx.trans (hx8.trans h))) (HD.out _ (hx.trans (hx8.trans h))); rwa [H2.out, htx, hbx] at this)
  have CF := Lib.hid (show ∀ w', Ext w8 w' → Calls Tryz.prog 22 #[.agg #[.int .i64 S.alphabet, .int .i64 S.states, .slice aE1 S.edges.length cE1], .agg #[.int .i64 P.alphabet, .slice aN3 P.next.length cN3, .slice aA3 P.accept.length cA3]] w' (Grows (.tuple #[.string tx, .bool bx]) w') from fun w' h => by
    have := FirstViolation_cd _ _ S P _ (HS.out _ (hx.trans (hx8.trans h))) (HP.out _ (hx.trans (hx8.trans h))) (HD.out _ (hx.trans (hx8.trans h))); rwa [H4.out, htx, hbx] at this)
  have CKP := Lib.hid (show ∀ w', Ext w8 w' → Calls Tryz.prog 23 #[.agg #[.int .i64 S.alphabet, .int .i64 S.states, .slice aE1 S.edges.length cE1], .agg #[.int .i64 P.alphabet, .slice aN3 P.next.length cN3, .slice aA3 P.accept.length cA3]] w' (Grows (.bool kb) w') from fun w' h => by
    have := KeepsProperty_cd _ _ S P _ (HS.out _ (hx.trans (hx8.trans h))) (HP.out _ (hx.trans (hx8.trans h))) (HD.out _ (hx.trans (hx8.trans h))); rwa [H3.out] at this)
  have hy := hx.trans hx8
  have hxb := Ext.alloc w8 (.cells #[.int .i64 Y.alphabet, .slice aN8 Y.next.length cN8, .slice aA8 Y.accept.length cA8] 29)
  replace b3 := b3.ext (he8.trans hxb)
  replace b5 := b5.ext (he8.trans hxb)
  replace b7 := b7.ext (he8.trans hxb)
  have b8 : Blk (w8.alloc (.cells #[.int .i64 Y.alphabet, .slice aN8 Y.next.length cN8, .slice aA8 Y.accept.length cA8] 29)) w8.heap.size #[.int .i64 Y.alphabet, .slice aN8 Y.next.length cN8, .slice aA8 Y.accept.length cA8] 29 := Blk.new _ _ _
  clear H0 H1 H2 H3 H4 HX HY htx hbx hx hx8 hxa he8
  go_upto_region 9 with fail
  generalize w8.alloc (.cells #[.int .i64 Y.alphabet, .slice aN8 Y.next.length cN8, .slice aA8 Y.accept.length cA8] 29) = w9 at hxb b3 b5 b7 b8 ⊢
  have hx := hxb
  clear hxb
  have b3_0 := b3.cell 0 rfl; have b3_1 := b3.cell 1 rfl; have b3_2 := b3.cell 2 rfl; have b5_0 := b5.cell 0 rfl; have b5_1 := b5.cell 1 rfl; have b5_2 := b5.cell 2 rfl; have b7_0 := b7.cell 0 rfl; have b7_1 := b7.cell 1 rfl; have b7_2 := b7.cell 2 rfl; have b8_0 := b8.cell 0 rfl; have b8_1 := b8.cell 1 rfl; have b8_2 := b8.cell 2 rfl
  go_wp2_with fail
  refine (CV.out _ hx).mono ?_
  rintro e wz9 ⟨rfl, hez9⟩
  clear b3_0 b3_1 b3_2 b5_0 b5_1 b5_2 b7_0 b7_1 b7_2 b8_0 b8_1 b8_2
  replace b3 := b3.ext hez9
  replace b5 := b5.ext hez9
  replace b7 := b7.ext hez9
  replace b8 := b8.ext hez9
  replace hx := hx.trans hez9
  have b3_0 := b3.cell 0 rfl; have b3_1 := b3.cell 1 rfl; have b3_2 := b3.cell 2 rfl; have b5_0 := b5.cell 0 rfl; have b5_1 := b5.cell 1 rfl; have b5_2 := b5.cell 2 rfl; have b7_0 := b7.cell 0 rfl; have b7_1 := b7.cell 1 rfl; have b7_2 := b7.cell 2 rfl; have b8_0 := b8.cell 0 rfl; have b8_1 := b8.cell 1 rfl; have b8_2 := b8.cell 2 rfl
  go_wp2_with fail
  refine (CF.out _ hx).mono ?_
  rintro e wz10 ⟨rfl, hez10⟩
  clear b3_0 b3_1 b3_2 b5_0 b5_1 b5_2 b7_0 b7_1 b7_2 b8_0 b8_1 b8_2
  replace b3 := b3.ext hez10
  replace b5 := b5.ext hez10
  replace b7 := b7.ext hez10
  replace b8 := b8.ext hez10
  replace hx := hx.trans hez10
  have b3_0 := b3.cell 0 rfl; have b3_1 := b3.cell 1 rfl; have b3_2 := b3.cell 2 rfl; have b5_0 := b5.cell 0 rfl; have b5_1 := b5.cell 1 rfl; have b5_2 := b5.cell 2 rfl; have b7_0 := b7.cell 0 rfl; have b7_1 := b7.cell 1 rfl; have b7_2 := b7.cell 2 rfl; have b8_0 := b8.cell 0 rfl; have b8_1 := b8.cell 1 rfl; have b8_2 := b8.cell 2 rfl
  have e1 : (kb == kb) = true := by simp
  have e2 : (tx == tx) = true := by
    cases tx with
    | mk d =>
      show (d == d) = true
      simp
  have e3 : (bx == bx) = true := by simp
  go_upto_region 11 with fail
  clear b3_0 b3_1 b3_2 b5_0 b5_1 b5_2 b7_0 b7_1 b7_2 b8_0 b8_1 b8_2
  have Db30 := fun d os => cell_regrown (b3.cell 0 rfl) d os
  have Db31 := fun d os => cell_regrown (b3.cell 1 rfl) d os
  have Db32 := fun d os => cell_regrown (b3.cell 2 rfl) d os
  have Db50 := fun d os => cell_regrown (b5.cell 0 rfl) d os
  have Db51 := fun d os => cell_regrown (b5.cell 1 rfl) d os
  have Db52 := fun d os => cell_regrown (b5.cell 2 rfl) d os
  have Db70 := fun d os => cell_regrown (b7.cell 0 rfl) d os
  have Db71 := fun d os => cell_regrown (b7.cell 1 rfl) d os
  have Db72 := fun d os => cell_regrown (b7.cell 2 rfl) d os
  have Db80 := fun d os => cell_regrown (b8.cell 0 rfl) d os
  have Db81 := fun d os => cell_regrown (b8.cell 1 rfl) d os
  have Db82 := fun d os => cell_regrown (b8.cell 2 rfl) d os
  refine wp_region_quiet_below (by kernel_rfl) (by kernel_rfl) ?_
  repeat (go_big_quiet_step ((first | (go_at_call 17; with_reducible exact Grows.quiet (CX.out _ (hx.trans (below_regrown _ _ _)))) | (go_at_call 17; with_reducible exact Grows.quiet (CY.out _ (hx.trans (below_regrown _ _ _)))) | (go_at_call 23; exact Grows.quiet (CKP.out _ (hx.trans (below_regrown _ _ _)))))))
  refine wpQuiet_nil ?_
  intro _ hw'
  obtain ⟨⟨dq, osq⟩, hw''⟩ := hw'
  subst hw''
  have hq2 : Ext wz10 (Go.Sort.grow (redrawn wz10 dq) osq) := below_regrown wz10 dq osq
  generalize Go.Sort.grow (redrawn wz10 dq) osq = wq at hq2 ⊢
  go_wp2_with fail
  go_ret
  exact Grows.mk rfl (he1.trans (hy.trans (hx.trans hq2)))

theorem own : ownKnob Tryz.prog.godebug = none := by kernel_rfl
theorem laidOut : laidOutB Tryz.prog = true := by kernel_rfl
theorem deb_of_laid {W : World} (h : laidMetH Tryz.prog Rows.fnUnderNothingRow.laid W) : Deb W := debOfLaid7 h
theorem laid_met (os : Os) (args : Array Value) : laidMetH Tryz.prog Rows.fnUnderNothingRow.laid ((laidWorld7 os).forCall (fun _ _ => 0) ⟨#[], args, []⟩).memory := laid_met7 os args
set_option maxRecDepth 100000 in
theorem lifted (os : Os) (started : os.Started) (H : Type) (enc : TypeId × Value → H) :
    ReturnsInHanded {} Tryz.checked os 4 .any (fun w args => (Rows.fnUnderNothingSpec.pre enc Tryz.prog Tryz.f4 [] false w args ∧ laidMetH Tryz.prog Rows.fnUnderNothingRow.laid w) ∧ sizedMet enc Tryz.prog Tryz.f4 (OpenSpec.ofChange Rows.fnUnderNothingSpec) false w args)
      (Rows.fnUnderNothingSpec.post enc Tryz.prog Tryz.f4 false true false false) := by
  refine returnsInHanded_of_change_and (C := Tryz.checked) (X := fun w _ => laidMetH Tryz.prog Rows.fnUnderNothingRow.laid w) (fun _ _ _ hh h => h.of_heap hh) own started (by kernel_rfl) Tryz.func4
    (ChangeSpec.witness_at (enc := enc) (C := Tryz.checked) (os := os) (X := fun w _ => laidMetH Tryz.prog Rows.fnUnderNothingRow.laid w) false (laidWorld7 os) #[.slice none 0 0] 8 rfl (by kernel_rfl) (by kernel_rfl) (by kernel_rfl) (by kernel_rfl) (by kernel_rfl) (laid_met os _)) ?_
  intro W base args ds gs before hval0 hW _ _ hL _
  have hval : ∀ (j : Nat) t v, Tryz.f4.params[j]? = some t → args[j]? = some v → Value.okWide Tryz.prog W .any base t v := hval0
  have hW' := hW
  obtain ⟨p, q, hA0, hV, rfl, hfz, hnd⟩ := hW
  have hA : DataW.TrodAll enc Tryz.prog W 0 (fun _ => true) true Tryz.f4.params.toList args.toList ds p := hA0
  rw [Tryz.params4] at hA hval
  obtain ⟨v0, vs0, d0, ds0, p0, q0, hargs, rfl, rfl, h0, r0⟩ := trodAll_cons hA
  obtain ⟨rfl, rfl, rfl⟩ := trodAll_nil r0
  obtain rfl : args = #[v0] := by cases args; simp_all
  obtain ⟨rfl, rfl⟩ := trodVars_none hV
  have k0 := h0
  have lt0 : ∀ x ∈ p0, x.block < W.heap.size := by obtain ⟨m, hm⟩ := k0; exact DataW.trod_lt m _ _ _ hm
  obtain ⟨a0, len0, cap0, rfl⟩ := okWide_slice Tryz.underlying22 (hval 0 _ v0 rfl rfl)
  obtain ⟨t0, w0⟩ : ∃ t, BytesV W (.slice a0 len0 cap0) t := by
    obtain ⟨fuel, hf⟩ := h0
    obtain ⟨v, t, hv, ht⟩ := read_bytes hf
    simp [Value.cells] at hv
    subst hv
    exact ⟨t, ht⟩
  clear hA0 hval0
  refine (walk (.slice a0 len0 cap0) t0 W w0 (deb_of_laid hL)).mono fun e W' ⟨he, bel⟩ => ?_
  subst he
  exact ⟨_, rfl, _, _, _, [], _, [], hW', trodAll_mk1 (shut_bool Tryz.underlying4 _), (trodAll_cons_mk (Below.trod laidOut (by kernel_rfl) (of_decide_eq_true (by kernel_rfl)) k0 bel lt0) trodAll_mk0), rfl, bel.frame _, fun h => by cases h⟩

theorem over : Rows.fnUnderNothingRow.holds Tryz.pinned (OpenSpec.ofChange Rows.fnUnderNothingSpec) :=
  OpenClaim.holds_of_wide 4 Tryz.f4 rfl rfl rfl rfl rfl rfl rfl ⟨rfl, rfl, rfl, rfl, rfl⟩ rfl rfl rfl rfl rfl (by kernel_rfl) Tryz.func4 (by kernel_rfl)
    (of_decide_eq_true (by kernel_rfl)) (by unfold Func.isWrapper; first | (rw [if_pos (by decide +kernel)]; kernel_rfl) | (rw [if_neg (by decide +kernel)]; exact ⟨rfl, rfl⟩))
    (fun os started H enc _ => lifted os started H enc)

theorem card_holds : Rows.FnUnderNothingCardSaid :=
  Claim7.holds_tied_plain_at .later [] [.data, .data, .data, .data, .sentinel, .sentinel, .pinned] true (true, "9a077bff846fc9286c140de7f5544c1180e5c39865adca5fef709ebff2f37226") true
    over (fun _ h => by cases h) (by kernel_rfl) (fun _ h => by cases h) fnUnderNothing_row_tie rfl ⟨rfl, rfl⟩ (by kernel_rfl) rfl
    (fun f fn hf hfn => by
      obtain rfl : f = 4 := Option.some.inj ((show Tryz.prog.funcNamed "loop.example/assumeguarantee/laws.FnUnderNothing" = some 4 by kernel_rfl).symm.trans hf) |>.symm
      obtain rfl : fn = Tryz.f4 := (Option.some.inj (Tryz.func4.symm.trans hfn)).symm
      refine ⟨by kernel_rfl, fun j t ht => ?_⟩
      rw [Tryz.params4] at ht
      match j, ht with
      | 0, ht =>
        have h0 : t = 22 := by simpa using ht.symm
        subst h0
        exact (show Tryz.prog.wantsStandIn 22 = false by kernel_rfl)
      | j + 1, ht => simp at ht)
    (by kernel_rfl)
#print axioms card_holds
end Go.Proofs.YthpiihblmekijaaGreatDoor.lawFnUnderNothing
