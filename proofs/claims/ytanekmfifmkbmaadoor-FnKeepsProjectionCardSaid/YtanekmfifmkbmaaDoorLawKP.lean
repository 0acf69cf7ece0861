/- Part of this seat's proofs, cut to what its law needs. -/

import Derived.Test.YtanekmfifmkbmaaDoorDrawPj
import Derived.Test.YtanekmfifmkbmaaDoorWalkPq
import Derived.Test.YtanekmfifmkbmaaDoorAgD
import Derived.Test.YtanekmfifmkbmaaDoorDet
import Derived.Test.YtanekmfifmkbmaaDoorDrawL
namespace Go.Proofs.YtanekmfifmkbmaaDoor.lawFnKeepsProjection
open Go.ChangeShapes Go.WideShapes Go.ChangeAt Go.RowKit
open Go.Proofs.YtanekmfifmkbmaaDoor
open Go.ChangeMaps (open_string shut_string)
set_option linter.unusedVariables false
set_option linter.unusedSimpArgs false
set_option maxHeartbeats 1600000
set_option maxRecDepth 100000

theorem walk (v0 : Value) (t0 : List UInt8) (w : World) (hv0 : BytesV w v0 t0) (hD : Deb w) : Calls Tryd.prog 4 #[v0] w (Grows (.bool true) w) := by
  obtain ⟨aB, cB, rfl, hleB, -⟩ := hv0.open
  have HDb := Lib.hid hD
  clear hD
  by_cases hz0 : 1048576 < t0.length
  · go_enter Tryd.func4, Tryd.ntmps4
    go_wp2_with fail
    go_ret
    exact Grows.mk rfl (Ext.refl _)
  go_enter Tryd.func4, Tryd.ntmps4
  go_wp2_with fail
  refine (DrawProjectSystem_t _ t0 _ hv0 (by omega)).mono ?_
  rintro e w1 ⟨r, D, rfl, he1, hD1, hT1, s, al, rfl, hS⟩
  obtain ⟨S, hSe1, hSV1⟩ := hS.sys hT1
  obtain ⟨vE1, rfl, hE1⟩ := hSV1
  obtain ⟨aE1, cE1, rfl, -, -⟩ := hE1.open
  have HS := Lib.hid (show ∀ w', Ext w1 w' → SysV w' (.agg #[.int .i64 S.alphabet, .int .i64 S.states, .slice aE1 S.edges.length cE1]) S from fun w' h => ⟨_, rfl, hE1.mono h⟩)
  have HD := Lib.hid (show ∀ w', Ext w1 w' → Deb w' from fun w' h => HDb.out.ext (he1.trans h))
  clear hE1 hS hT1 hD1
  have hx : Ext w1 (w1.alloc (.cells #[.int .i64 S.alphabet, .int .i64 S.states, .slice aE1 S.edges.length cE1] 25)) := Ext.alloc _ _
  have b3 : Blk (w1.alloc (.cells #[.int .i64 S.alphabet, .int .i64 S.states, .slice aE1 S.edges.length cE1] 25)) w1.heap.size #[.int .i64 S.alphabet, .int .i64 S.states, .slice aE1 S.edges.length cE1] 25 := Blk.new _ _ _
  have b3_0 := b3.cell 0 rfl; have b3_1 := b3.cell 1 rfl; have b3_2 := b3.cell 2 rfl
  go_upto_region 4 with fail
  generalize w1.alloc (.cells #[.int .i64 S.alphabet, .int .i64 S.states, .slice aE1 S.edges.length cE1] 25) = w2 at hx b3 b3_0 b3_1 b3_2 ⊢
  go_wp2_with fail
  refine (ProjectSystem_c _ S al _ (HS.out _ hx) (HD.out _ hx)).mono ?_
  rintro e w3 ⟨v3, g, rfl, he3, hend⟩
  clear b3_0 b3_1 b3_2
  have hend := hend.val
  obtain ⟨X, hXV, hXT, hXF⟩ := hend
  replace hx := hx.trans he3
  replace b3 := b3.ext he3
  clear he3
  obtain ⟨vN8, vA8, rfl, hN8, hA8⟩ := hXV
  obtain ⟨aN8, cN8, rfl, -, -⟩ := hN8.open
  obtain ⟨aA8, cA8, rfl, -, -⟩ := hA8.open
  have HX := Lib.hid (show ∀ w', Ext w3 w' → AutoV w' (.agg #[.int .i64 X.alphabet, .slice aN8 X.next.length cN8, .slice aA8 X.accept.length cA8]) X from fun w' h => ⟨_, _, rfl, hN8.mono h, hA8.mono h⟩)
  have HXT := Lib.hid hXT
  have HXF := Lib.hid hXF
  clear hN8 hA8 hXT hXF
  have hy : Ext w3 (w3.alloc (.cells #[.int .i64 X.alphabet, .slice aN8 X.next.length cN8, .slice aA8 X.accept.length cA8] 32)) := Ext.alloc _ _
  have b5 : Blk (w3.alloc (.cells #[.int .i64 X.alphabet, .slice aN8 X.next.length cN8, .slice aA8 X.accept.length cA8] 32)) w3.heap.size #[.int .i64 X.alphabet, .slice aN8 X.next.length cN8, .slice aA8 X.accept.length cA8] 32 := Blk.new _ _ _
  replace b3 := b3.ext hy
  go_upto_region 5 with fail
  generalize w3.alloc (.cells #[.int .i64 X.alphabet, .slice aN8 X.next.length cN8, .slice aA8 X.accept.length cA8] 32) = w4 at hy b3 b5 ⊢
  have b3_0 := b3.cell 0 rfl; have b3_1 := b3.cell 1 rfl; have b3_2 := b3.cell 2 rfl; have b5_0 := b5.cell 0 rfl; have b5_1 := b5.cell 1 rfl; have b5_2 := b5.cell 2 rfl
  go_wp2_with fail
  refine (ProjectSystem_s _ S al _ (HS.out _ (hx.trans hy)) (by omega)).mono ?_
  rintro e w5 ⟨v5, g2, rfl, he5, hend⟩
  clear b3_0 b3_1 b3_2 b5_0 b5_1 b5_2
  have hend := hend.val
  obtain ⟨Y, hYV, hYT, hYF⟩ := hend
  replace hy := hy.trans he5
  replace b3 := b3.ext he5
  replace b5 := b5.ext he5
  clear he5
  obtain ⟨vN9, vA9, rfl, hN9, hA9⟩ := hYV
  obtain ⟨aN9, cN9, rfl, -, -⟩ := hN9.open
  obtain ⟨aA9, cA9, rfl, -, -⟩ := hA9.open
  have hgg : g2 = g ∧ Y = X := ProjIs.unique hYT hYF HXT.out HXF.out
  obtain ⟨rfl, rfl⟩ := hgg
  have HY := Lib.hid (show ∀ w', Ext w5 w' → AutoV w' (.agg #[.int .i64 Y.alphabet, .slice aN9 Y.next.length cN9, .slice aA9 Y.accept.length cA9]) Y from fun w' h => ⟨_, _, rfl, hN9.mono h, hA9.mono h⟩)
  clear hN9 hA9 hYT hYF
  have hz : Ext w5 (w5.alloc (.cells #[.int .i64 Y.alphabet, .slice aN9 Y.next.length cN9, .slice aA9 Y.accept.length cA9] 32)) := Ext.alloc _ _
  have b7 : Blk (w5.alloc (.cells #[.int .i64 Y.alphabet, .slice aN9 Y.next.length cN9, .slice aA9 Y.accept.length cA9] 32)) w5.heap.size #[.int .i64 Y.alphabet, .slice aN9 Y.next.length cN9, .slice aA9 Y.accept.length cA9] 32 := Blk.new _ _ _
  replace b3 := b3.ext hz
  replace b5 := b5.ext hz
  go_upto_region 6 with fail
  generalize w5.alloc (.cells #[.int .i64 Y.alphabet, .slice aN9 Y.next.length cN9, .slice aA9 Y.accept.length cA9] 32) = w6 at hz b3 b5 b7 ⊢
  have hq := hx.trans hy
  clear hx
  have hx := hz
  clear hz
  have C1 := Lib.hid (show ∀ w', Ext w5 w' → Calls Tryd.prog 16 #[.agg #[.int .i64 Y.alphabet, .slice aN8 Y.next.length cN8, .slice aA8 Y.accept.length cA8], .agg #[.int .i64 Y.alphabet, .slice aN9 Y.next.length cN9, .slice aA9 Y.accept.length cA9]] w' (Grows (.bool true) w') from fun w' h => by
    have := agAutomata_c _ _ Y Y w' (HX.out _ (hy.trans h)) (HY.out _ h)
    simpa using this)
  have b3_0 := b3.cell 0 rfl; have b3_1 := b3.cell 1 rfl; have b3_2 := b3.cell 2 rfl; have b5_0 := b5.cell 0 rfl; have b5_1 := b5.cell 1 rfl; have b5_2 := b5.cell 2 rfl; have b7_0 := b7.cell 0 rfl; have b7_1 := b7.cell 1 rfl; have b7_2 := b7.cell 2 rfl
  go_wp2_with fail
  refine (C1.out _ hx).mono ?_
  rintro e wz1 ⟨rfl, hez1⟩
  clear b3_0 b3_1 b3_2 b5_0 b5_1 b5_2 b7_0 b7_1 b7_2
  replace b3 := b3.ext hez1
  replace b5 := b5.ext hez1
  replace b7 := b7.ext hez1
  replace hx := hx.trans hez1
  have b3_0 := b3.cell 0 rfl; have b3_1 := b3.cell 1 rfl; have b3_2 := b3.cell 2 rfl; have b5_0 := b5.cell 0 rfl; have b5_1 := b5.cell 1 rfl; have b5_2 := b5.cell 2 rfl; have b7_0 := b7.cell 0 rfl; have b7_1 := b7.cell 1 rfl; have b7_2 := b7.cell 2 rfl
  have hgg : (g2 != g2) = false := by simp
  have hgg2 : (g2 == g2) = true := by simp
  cases g2 with
  | false =>
    go_wp2_with fail
    refine (C1.out _ hx).mono ?_
    rintro e wz2 ⟨rfl, hez2⟩
    clear b3_0 b3_1 b3_2 b5_0 b5_1 b5_2 b7_0 b7_1 b7_2
    replace b3 := b3.ext hez2
    replace b5 := b5.ext hez2
    replace b7 := b7.ext hez2
    replace hx := hx.trans hez2
    have b3_0 := b3.cell 0 rfl; have b3_1 := b3.cell 1 rfl; have b3_2 := b3.cell 2 rfl; have b5_0 := b5.cell 0 rfl; have b5_1 := b5.cell 1 rfl; have b5_2 := b5.cell 2 rfl; have b7_0 := b7.cell 0 rfl; have b7_1 := b7.cell 1 rfl; have b7_2 := b7.cell 2 rfl
    go_wp2_with fail
    go_ret
    exact Grows.mk (by simp) ((he1.trans hq).trans hx)
  | true =>
    obtain ⟨hSv, a0, a63, hno, hYe⟩ := HXT.out rfl
    obtain ⟨nodes, hnum, h12, hYeq⟩ := hYe
    have hval : autoValid Y = true := by rw [hYeq]; exact autoN_valid (by simp [isAlpha, a0, a63]) hnum h12
    have hkeep : keepsB [S] Y = true := by rw [hYeq]; exact proj_keeps hSv a0 a63 (fun l h1 h2 => hidS_bit hSv a0 a63 h1 h2) hnum h12
    have hemp : pvOf [S] (compA Y) = some [] := by rw [hYeq]; exact proj_empty hSv a0 a63 hnum h12
    have hsz := szAuto_fine hval
    have HV := Lib.hid hval
    have HK := Lib.hid hkeep
    have HE := Lib.hid hemp
    clear hnum h12 hYeq hno hkeep hemp hval
    go_wp2_with fail
    refine (ComplementAutomaton_c _ Y _ (HX.out _ (hy.trans hx)) HV.out hsz).mono ?_
    rintro e w8 ⟨v8, rfl, he8, hO⟩
    obtain ⟨vN7, vA7, rfl, hN7, hA7⟩ := hO.auto
    obtain ⟨Z, hZ⟩ : ∃ Z, compA Y = Z := ⟨_, rfl⟩
    rw [hZ] at hN7 hA7 hO
    have HZ := Lib.hid hZ
    obtain ⟨aN7, cN7, rfl, -, -⟩ := hN7.open
    obtain ⟨aA7, cA7, rfl, -, -⟩ := hA7.open
    have eal : (compA Y).alphabet = Z.alphabet := by rw [hZ]
    rw [eal]
    have HZV := Lib.hid (show ∀ w', Ext w8 w' → AutoV w' (.agg #[.int .i64 Z.alphabet, .slice aN7 Z.next.length cN7, .slice aA7 Z.accept.length cA7]) Z from fun w' h => ⟨_, _, rfl, hN7.mono h, hA7.mono h⟩)
    clear hO hN7 hA7 hZ eal
    clear b3_0 b3_1 b3_2 b5_0 b5_1 b5_2 b7_0 b7_1 b7_2
    have hu : Ext w8 (w8.alloc (.cells #[.int .i64 Z.alphabet, .slice aN7 Z.next.length cN7, .slice aA7 Z.accept.length cA7] 32)) := Ext.alloc _ _
    have b9 : Blk (w8.alloc (.cells #[.int .i64 Z.alphabet, .slice aN7 Z.next.length cN7, .slice aA7 Z.accept.length cA7] 32)) w8.heap.size #[.int .i64 Z.alphabet, .slice aN7 Z.next.length cN7, .slice aA7 Z.accept.length cA7] 32 := Blk.new _ _ _
    replace b3 := (b3.ext he8).ext hu
    replace b5 := (b5.ext he8).ext hu
    go_upto_region 9 with fail
    generalize w8.alloc (.cells #[.int .i64 Z.alphabet, .slice aN7 Z.next.length cN7, .slice aA7 Z.accept.length cA7] 32) = w9 at hu b3 b5 b9 ⊢
    have hp := hx.trans he8
    clear hx he8
    have hx := hu
    clear hu
    have C2 := Lib.hid (show ∀ w', Ext w8 w' → Calls Tryd.prog 11 #[.agg #[.int .i64 S.alphabet, .int .i64 S.states, .slice aE1 S.edges.length cE1], .agg #[.int .i64 Z.alphabet, .slice aN7 Z.next.length cN7, .slice aA7 Z.accept.length cA7]] w' (Grows (.tuple #[.string ByteArray.empty, .bool true]) w') from fun w' h => by
      have := FirstViolation_cd _ _ S Z w' (HS.out _ (hq.trans (hp.trans h))) (HZV.out _ h) (HD.out _ (hq.trans (hp.trans h)))
      rw [← HZ.out, HE.out, show rtext (some []) = ByteArray.empty from rfl] at this
      rw [← HZ.out]
      exact this)
    have C3 := Lib.hid (show ∀ w', Ext w8 w' → Calls Tryd.prog 12 #[.agg #[.int .i64 S.alphabet, .int .i64 S.states, .slice aE1 S.edges.length cE1], .agg #[.int .i64 Y.alphabet, .slice aN8 Y.next.length cN8, .slice aA8 Y.accept.length cA8]] w' (Grows (.bool true) w') from fun w' h => by
      have := KeepsProperty_cd _ _ S Y w' (HS.out _ (hq.trans (hp.trans h))) (HX.out _ (hy.trans (hp.trans h))) (HD.out _ (hq.trans (hp.trans h)))
      rwa [HK.out] at this)
    have b3_0 := b3.cell 0 rfl; have b3_1 := b3.cell 1 rfl; have b3_2 := b3.cell 2 rfl; have b5_0 := b5.cell 0 rfl; have b5_1 := b5.cell 1 rfl; have b5_2 := b5.cell 2 rfl; have b9_0 := b9.cell 0 rfl; have b9_1 := b9.cell 1 rfl; have b9_2 := b9.cell 2 rfl
    go_wp2_with fail
    refine (C2.out _ hx).mono ?_
    rintro e wz3 ⟨rfl, hez3⟩
    clear b3_0 b3_1 b3_2 b5_0 b5_1 b5_2 b9_0 b9_1 b9_2
    replace b3 := b3.ext hez3
    replace b5 := b5.ext hez3
    replace b9 := b9.ext hez3
    replace hx := hx.trans hez3
    have b3_0 := b3.cell 0 rfl; have b3_1 := b3.cell 1 rfl; have b3_2 := b3.cell 2 rfl; have b5_0 := b5.cell 0 rfl; have b5_1 := b5.cell 1 rfl; have b5_2 := b5.cell 2 rfl; have b9_0 := b9.cell 0 rfl; have b9_1 := b9.cell 1 rfl; have b9_2 := b9.cell 2 rfl
    go_wp2_with fail
    refine (C3.out _ hx).mono ?_
    rintro e wz4 ⟨rfl, hez4⟩
    clear b3_0 b3_1 b3_2 b5_0 b5_1 b5_2 b9_0 b9_1 b9_2
    replace b3 := b3.ext hez4
    replace b5 := b5.ext hez4
    replace b9 := b9.ext hez4
    replace hx := hx.trans hez4
    have b3_0 := b3.cell 0 rfl; have b3_1 := b3.cell 1 rfl; have b3_2 := b3.cell 2 rfl; have b5_0 := b5.cell 0 rfl; have b5_1 := b5.cell 1 rfl; have b5_2 := b5.cell 2 rfl; have b9_0 := b9.cell 0 rfl; have b9_1 := b9.cell 1 rfl; have b9_2 := b9.cell 2 rfl
    go_wp2_with fail
    go_ret
    exact Grows.mk (by first | rfl | simp | decide) (((he1.trans hq).trans hp).trans hx)
end Go.Proofs.YtanekmfifmkbmaaDoor.lawFnKeepsProjection
