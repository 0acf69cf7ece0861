/- Part of this seat's proofs, cut to what its law needs. -/

import Derived.Test.YtanekmfifmkbmaaDoorDrawTx
import Derived.Test.YtanekmfifmkbmaaDoorWalkTf
import Derived.Test.YtanekmfifmkbmaaDoorWalkDt
import Derived.Test.YtanekmfifmkbmaaDoorDet
import Derived.Test.YtanekmfifmkbmaaDoorDrawL
namespace Go.Proofs.YtanekmfifmkbmaaDoor.lawFnKeepsTraces
open Go.ChangeShapes Go.WideShapes Go.ChangeAt Go.RowKit
open Go.Proofs.YtanekmfifmkbmaaDoor
open Go.ChangeMaps (open_string shut_string)
set_option linter.unusedVariables false
set_option linter.unusedSimpArgs false
set_option maxHeartbeats 1600000
set_option maxRecDepth 100000

theorem walk (v0 : Value) (t0 : List UInt8) (w : World) (hv0 : BytesV w v0 t0) (hD : Deb w) : Calls Tryd.prog 3 #[v0] w (Grows (.bool true) w) := by
  obtain ⟨aB, cB, rfl, hleB, -⟩ := hv0.open
  have HDb := Lib.hid hD
  clear hD
  by_cases hz0 : 1048576 < t0.length
  · go_enter Tryd.func3, Tryd.ntmps3
    go_wp2_with fail
    go_ret
    exact Grows.mk rfl (Ext.refl _)
  go_enter Tryd.func3, Tryd.ntmps3
  go_wp2_with fail
  refine (DrawTracesWithin_t _ t0 _ hv0 (by omega)).mono ?_
  rintro e w1 ⟨r, D, rfl, he1, hD1, hT1, s, p, rfl, hS, hP⟩
  obtain ⟨S, hSe1, hSV1⟩ := hS.sys hT1
  obtain ⟨vE1, rfl, hE1⟩ := hSV1
  obtain ⟨aE1, cE1, rfl, -, -⟩ := hE1.open
  obtain ⟨U, hSe2, hSV2⟩ := hP.sys hT1
  obtain ⟨vE2, rfl, hE2⟩ := hSV2
  obtain ⟨aE2, cE2, rfl, -, -⟩ := hE2.open
  have HS := Lib.hid (show ∀ w', Ext w1 w' → SysV w' (.agg #[.int .i64 S.alphabet, .int .i64 S.states, .slice aE1 S.edges.length cE1]) S from fun w' h => ⟨_, rfl, hE1.mono h⟩)
  have HU := Lib.hid (show ∀ w', Ext w1 w' → SysV w' (.agg #[.int .i64 U.alphabet, .int .i64 U.states, .slice aE2 U.edges.length cE2]) U from fun w' h => ⟨_, rfl, hE2.mono h⟩)
  have HD := Lib.hid (show ∀ w', Ext w1 w' → Deb w' from fun w' h => HDb.out.ext (he1.trans h))
  clear hE1 hE2 hS hP hT1 hD1
  have hx : Ext w1 ((w1.alloc (.cells #[.int .i64 S.alphabet, .int .i64 S.states, .slice aE1 S.edges.length cE1] 25)).alloc (.cells #[.int .i64 U.alphabet, .int .i64 U.states, .slice aE2 U.edges.length cE2] 25)) := (Ext.alloc _ _).trans (Ext.alloc _ _)
  have b3 : Blk ((w1.alloc (.cells #[.int .i64 S.alphabet, .int .i64 S.states, .slice aE1 S.edges.length cE1] 25)).alloc (.cells #[.int .i64 U.alphabet, .int .i64 U.states, .slice aE2 U.edges.length cE2] 25)) w1.heap.size #[.int .i64 S.alphabet, .int .i64 S.states, .slice aE1 S.edges.length cE1] 25 := Ext.blk (Ext.alloc _ _)
  have b4 : Blk ((w1.alloc (.cells #[.int .i64 S.alphabet, .int .i64 S.states, .slice aE1 S.edges.length cE1] 25)).alloc (.cells #[.int .i64 U.alphabet, .int .i64 U.states, .slice aE2 U.edges.length cE2] 25)) (w1.heap.size + 1) #[.int .i64 U.alphabet, .int .i64 U.states, .slice aE2 U.edges.length cE2] 25 := Ext.blk1 (Ext.refl _)
  go_wp2_with fail
  generalize ((w1.alloc (.cells #[.int .i64 S.alphabet, .int .i64 S.states, .slice aE1 S.edges.length cE1] 25)).alloc (.cells #[.int .i64 U.alphabet, .int .i64 U.states, .slice aE2 U.edges.length cE2] 25)) = w2 at hx b3 b4 ⊢
  have b3_0 := b3.cell 0 rfl; have b3_1 := b3.cell 1 rfl; have b3_2 := b3.cell 2 rfl; have b4_0 := b4.cell 0 rfl; have b4_1 := b4.cell 1 rfl; have b4_2 := b4.cell 2 rfl
  obtain ⟨wi, hwi⟩ : ∃ wi, tracesB S U = wi := ⟨_, rfl⟩
  have HWI := Lib.hid hwi
  obtain ⟨cm, hcm⟩ : ∃ cm, same2 S U = cm := ⟨_, rfl⟩
  have HCM := Lib.hid hcm
  have C1 := Lib.hid (show ∀ w', Ext w1 w' → Calls Tryd.prog 6 #[.agg #[.int .i64 S.alphabet, .int .i64 S.states, .slice aE1 S.edges.length cE1], .agg #[.int .i64 U.alphabet, .int .i64 U.states, .slice aE2 U.edges.length cE2]] w' (Grows (.bool wi) w') from fun w' h => by have := TracesWithin_c _ _ S U _ (HS.out _ h) (HU.out _ h) (HD.out _ h); rwa [hwi] at this)
  have C2 := Lib.hid (show ∀ w', Ext w1 w' → Calls Tryd.prog 8 #[.agg #[.int .i64 S.alphabet, .int .i64 S.states, .slice aE1 S.edges.length cE1], .agg #[.int .i64 U.alphabet, .int .i64 U.states, .slice aE2 U.edges.length cE2]] w' (Grows (.bool wi) w') from fun w' h => by have := TracesWithin_s _ _ S U _ (HS.out _ h) (HU.out _ h) (by omega) (by omega); rwa [hwi] at this)
  have C3 := Lib.hid (show ∀ w', Ext w1 w' → Calls Tryd.prog 9 #[.agg #[.int .i64 S.alphabet, .int .i64 S.states, .slice aE1 S.edges.length cE1], .agg #[.int .i64 U.alphabet, .int .i64 U.states, .slice aE2 U.edges.length cE2]] w' (Grows (.bool cm) w') from fun w' h => by have := agComparable_c _ _ S U _ (HS.out _ h) (HU.out _ h); rwa [hcm] at this)
  clear hwi hcm
  have hww : (wi != wi) = false := by simp
  have hww2 : (wi == wi) = true := by simp
  go_wp2_with fail
  refine (C1.out _ hx).mono ?_
  rintro e wz1 ⟨rfl, hez1⟩
  clear b3_0 b3_1 b3_2 b4_0 b4_1 b4_2
  replace b3 := b3.ext hez1
  replace b4 := b4.ext hez1
  replace hx := hx.trans hez1
  have b3_0 := b3.cell 0 rfl; have b3_1 := b3.cell 1 rfl; have b3_2 := b3.cell 2 rfl; have b4_0 := b4.cell 0 rfl; have b4_1 := b4.cell 1 rfl; have b4_2 := b4.cell 2 rfl
  go_wp2_with fail
  refine (Determinize_c _ U _ (HU.out _ hx) (HD.out _ hx)).mono ?_
  rintro e wq ⟨v9, g, rfl, hq9, hend⟩
  clear b3_0 b3_1 b3_2 b4_0 b4_1 b4_2
  replace hx := hx.trans hq9
  replace b3 := b3.ext hq9
  replace b4 := b4.ext hq9
  have hsplit : (g = true ∧ sysValid U = true ∧ ∃ X, AutoV wq v9 X ∧ autoValid X = true ∧ ∀ v, accepts X (run X 0 v) = true ↔ TraceV U v) ∨ (g = false ∧ v9 = .agg #[.int .i64 0, .slice none 0 0, .slice none 0 0]) := by
    rcases hend with ⟨hv, ⟨rfl, nodes, hnum, h12, hO⟩ | ⟨rfl, rfl, -⟩⟩ | ⟨-, rfl, rfl⟩
    · rw [hidS_self hv] at hnum hO
      exact .inl ⟨rfl, hv, _, hO.auto, det_valid hv hnum h12, det_acc hv hnum⟩
    · exact .inr ⟨rfl, rfl⟩
    · exact .inr ⟨rfl, rfl⟩
  clear hend hq9
  rcases hsplit with ⟨rfl, hUv, X, hXV, hXv, hXa⟩ | ⟨rfl, rfl⟩
  case inr =>
    have hxa := hx.trans (Ext.alloc wq (.cells #[.int .i64 0, .slice none 0 0, .slice none 0 0] 32))
    replace b3 := b3.ext (Ext.alloc wq (.cells #[.int .i64 0, .slice none 0 0, .slice none 0 0] 32))
    replace b4 := b4.ext (Ext.alloc wq (.cells #[.int .i64 0, .slice none 0 0, .slice none 0 0] 32))
    go_upto_region 6 with fail
    generalize wq.alloc (.cells #[.int .i64 0, .slice none 0 0, .slice none 0 0] 32) = wr at hxa b3 b4 ⊢
    clear hx
    have hx := hxa
    clear hxa
    have b3_0 := b3.cell 0 rfl; have b3_1 := b3.cell 1 rfl; have b3_2 := b3.cell 2 rfl; have b4_0 := b4.cell 0 rfl; have b4_1 := b4.cell 1 rfl; have b4_2 := b4.cell 2 rfl
    go_wp2_with fail
    refine (C2.out _ hx).mono ?_
    rintro e wz2 ⟨rfl, hez2⟩
    clear b3_0 b3_1 b3_2 b4_0 b4_1 b4_2
    replace b3 := b3.ext hez2
    replace b4 := b4.ext hez2
    replace hx := hx.trans hez2
    have b3_0 := b3.cell 0 rfl; have b3_1 := b3.cell 1 rfl; have b3_2 := b3.cell 2 rfl; have b4_0 := b4.cell 0 rfl; have b4_1 := b4.cell 1 rfl; have b4_2 := b4.cell 2 rfl
    go_wp2_with fail
    refine (C2.out _ hx).mono ?_
    rintro e wz3 ⟨rfl, hez3⟩
    clear b3_0 b3_1 b3_2 b4_0 b4_1 b4_2
    replace b3 := b3.ext hez3
    replace b4 := b4.ext hez3
    replace hx := hx.trans hez3
    have b3_0 := b3.cell 0 rfl; have b3_1 := b3.cell 1 rfl; have b3_2 := b3.cell 2 rfl; have b4_0 := b4.cell 0 rfl; have b4_1 := b4.cell 1 rfl; have b4_2 := b4.cell 2 rfl
    go_wp2_with fail
    go_ret
    exact Grows.mk rfl (he1.trans hx)
  obtain ⟨vN8, vA8, rfl, hN8, hA8⟩ := hXV
  obtain ⟨aN8, cN8, rfl, -, -⟩ := hN8.open
  obtain ⟨aA8, cA8, rfl, -, -⟩ := hA8.open
  have HXV := Lib.hid (show ∀ w', Ext wq w' → AutoV w' (.agg #[.int .i64 X.alphabet, .slice aN8 X.next.length cN8, .slice aA8 X.accept.length cA8]) X from fun w' h => ⟨_, _, rfl, hN8.mono h, hA8.mono h⟩)
  have HXA := Lib.hid hXa
  have HXF := Lib.hid hXv
  clear hN8 hA8 hXa hXv hUv
  have hxa : Ext wq (wq.alloc (.cells #[.int .i64 X.alphabet, .slice aN8 X.next.length cN8, .slice aA8 X.accept.length cA8] 32)) := Ext.alloc _ _
  have b9 : Blk (wq.alloc (.cells #[.int .i64 X.alphabet, .slice aN8 X.next.length cN8, .slice aA8 X.accept.length cA8] 32)) wq.heap.size #[.int .i64 X.alphabet, .slice aN8 X.next.length cN8, .slice aA8 X.accept.length cA8] 32 := Blk.new _ _ _
  replace b3 := b3.ext hxa
  replace b4 := b4.ext hxa
  go_upto_region 6 with fail
  generalize wq.alloc (.cells #[.int .i64 X.alphabet, .slice aN8 X.next.length cN8, .slice aA8 X.accept.length cA8] 32) = wr at hxa b3 b4 b9 ⊢
  have hy := hx
  clear hx
  have hx := hxa
  clear hxa
  have b3_0 := b3.cell 0 rfl; have b3_1 := b3.cell 1 rfl; have b3_2 := b3.cell 2 rfl; have b4_0 := b4.cell 0 rfl; have b4_1 := b4.cell 1 rfl; have b4_2 := b4.cell 2 rfl; have b9_0 := b9.cell 0 rfl; have b9_1 := b9.cell 1 rfl; have b9_2 := b9.cell 2 rfl
  go_wp2_with fail
  refine (C2.out _ (hy.trans hx)).mono ?_
  rintro e wz4 ⟨rfl, hez4⟩
  clear b3_0 b3_1 b3_2 b4_0 b4_1 b4_2 b9_0 b9_1 b9_2
  replace b3 := b3.ext hez4
  replace b4 := b4.ext hez4
  replace b9 := b9.ext hez4
  replace hx := hx.trans hez4
  have b3_0 := b3.cell 0 rfl; have b3_1 := b3.cell 1 rfl; have b3_2 := b3.cell 2 rfl; have b4_0 := b4.cell 0 rfl; have b4_1 := b4.cell 1 rfl; have b4_2 := b4.cell 2 rfl; have b9_0 := b9.cell 0 rfl; have b9_1 := b9.cell 1 rfl; have b9_2 := b9.cell 2 rfl
  go_wp2_with fail
  refine (C3.out _ (hy.trans hx)).mono ?_
  rintro e wz5 ⟨rfl, hez5⟩
  clear b3_0 b3_1 b3_2 b4_0 b4_1 b4_2 b9_0 b9_1 b9_2
  replace b3 := b3.ext hez5
  replace b4 := b4.ext hez5
  replace b9 := b9.ext hez5
  replace hx := hx.trans hez5
  have b3_0 := b3.cell 0 rfl; have b3_1 := b3.cell 1 rfl; have b3_2 := b3.cell 2 rfl; have b4_0 := b4.cell 0 rfl; have b4_1 := b4.cell 1 rfl; have b4_2 := b4.cell 2 rfl; have b9_0 := b9.cell 0 rfl; have b9_1 := b9.cell 1 rfl; have b9_2 := b9.cell 2 rfl
  cases cm with
  | false =>
    go_wp2_with fail
    refine (C2.out _ (hy.trans hx)).mono ?_
    rintro e wz6 ⟨rfl, hez6⟩
    clear b3_0 b3_1 b3_2 b4_0 b4_1 b4_2 b9_0 b9_1 b9_2
    replace b3 := b3.ext hez6
    replace b4 := b4.ext hez6
    replace b9 := b9.ext hez6
    replace hx := hx.trans hez6
    have b3_0 := b3.cell 0 rfl; have b3_1 := b3.cell 1 rfl; have b3_2 := b3.cell 2 rfl; have b4_0 := b4.cell 0 rfl; have b4_1 := b4.cell 1 rfl; have b4_2 := b4.cell 2 rfl; have b9_0 := b9.cell 0 rfl; have b9_1 := b9.cell 1 rfl; have b9_2 := b9.cell 2 rfl
    go_wp2_with fail
    go_ret
    exact Grows.mk rfl ((he1.trans hy).trans hx)
  | true =>
    go_wp2_with fail
    refine (FirstTraceOutside_c _ _ S U _ (HS.out _ (hy.trans hx)) (HU.out _ (hy.trans hx)) (HD.out _ (hy.trans hx))).mono ?_
    rintro e wt ⟨r, hr, rfl, het⟩
    clear b3_0 b3_1 b3_2 b4_0 b4_1 b4_2 b9_0 b9_1 b9_2
    replace b3 := b3.ext het
    replace b4 := b4.ext het
    replace b9 := b9.ext het
    replace hx := hx.trans het
    have HP := Lib.hid (pv_traces hr HCM.out HXF.out HXA.out)
    have HK := Lib.hid ((keeps_traces hr HCM.out HXF.out HXA.out).trans HWI.out)
    clear hr het
    have b3_0 := b3.cell 0 rfl; have b3_1 := b3.cell 1 rfl; have b3_2 := b3.cell 2 rfl; have b4_0 := b4.cell 0 rfl; have b4_1 := b4.cell 1 rfl; have b4_2 := b4.cell 2 rfl; have b9_0 := b9.cell 0 rfl; have b9_1 := b9.cell 1 rfl; have b9_2 := b9.cell 2 rfl
    have C4 := Lib.hid (show ∀ w', Ext wq w' → Calls Tryd.prog 11 #[.agg #[.int .i64 S.alphabet, .int .i64 S.states, .slice aE1 S.edges.length cE1], .agg #[.int .i64 X.alphabet, .slice aN8 X.next.length cN8, .slice aA8 X.accept.length cA8]] w' (Grows (.tuple #[.string (rtext r), .bool r.isSome]) w') from fun w' h => by
      have := FirstViolation_cd _ _ S X _ (HS.out _ (hy.trans h)) (HXV.out _ h) (HD.out _ (hy.trans h))
      rwa [HP.out] at this)
    have C5 := Lib.hid (show ∀ w', Ext wq w' → Calls Tryd.prog 12 #[.agg #[.int .i64 S.alphabet, .int .i64 S.states, .slice aE1 S.edges.length cE1], .agg #[.int .i64 X.alphabet, .slice aN8 X.next.length cN8, .slice aA8 X.accept.length cA8]] w' (Grows (.bool wi) w') from fun w' h => by
      have := KeepsProperty_cd _ _ S X _ (HS.out _ (hy.trans h)) (HXV.out _ h) (HD.out _ (hy.trans h))
      rwa [HK.out] at this)
    go_wp2_with fail
    refine (C4.out _ hx).mono ?_
    rintro e wz7 ⟨rfl, hez7⟩
    clear b3_0 b3_1 b3_2 b4_0 b4_1 b4_2 b9_0 b9_1 b9_2
    replace b3 := b3.ext hez7
    replace b4 := b4.ext hez7
    replace b9 := b9.ext hez7
    replace hx := hx.trans hez7
    have b3_0 := b3.cell 0 rfl; have b3_1 := b3.cell 1 rfl; have b3_2 := b3.cell 2 rfl; have b4_0 := b4.cell 0 rfl; have b4_1 := b4.cell 1 rfl; have b4_2 := b4.cell 2 rfl; have b9_0 := b9.cell 0 rfl; have b9_1 := b9.cell 1 rfl; have b9_2 := b9.cell 2 rfl
    go_wp2_with fail
    refine (C5.out _ hx).mono ?_
    rintro e wz8 ⟨rfl, hez8⟩
    clear b3_0 b3_1 b3_2 b4_0 b4_1 b4_2 b9_0 b9_1 b9_2
    replace b3 := b3.ext hez8
    replace b4 := b4.ext hez8
    replace b9 := b9.ext hez8
    replace hx := hx.trans hez8
    have b3_0 := b3.cell 0 rfl; have b3_1 := b3.cell 1 rfl; have b3_2 := b3.cell 2 rfl; have b4_0 := b4.cell 0 rfl; have b4_1 := b4.cell 1 rfl; have b4_2 := b4.cell 2 rfl; have b9_0 := b9.cell 0 rfl; have b9_1 := b9.cell 1 rfl; have b9_2 := b9.cell 2 rfl
    go_wp2_with fail
    go_ret
    exact Grows.mk (by simp) ((he1.trans hy).trans hx)
end Go.Proofs.YtanekmfifmkbmaaDoor.lawFnKeepsTraces
