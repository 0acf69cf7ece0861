/- Part of this seat's proofs, cut to what its law needs. -/

import Derived.Test.YtadplnbadfnlfaaDoorDrawTx
import Derived.Test.YtadplnbadfnlfaaDoorWalkTf
import Derived.Test.YtadplnbadfnlfaaDoorDrawC
import Derived.Test.YtadplnbadfnlfaaDoorDet
import Derived.Test.YtadplnbadfnlfaaDoorDrawL
namespace Go.Proofs.YtadplnbadfnlfaaDoor.lawFnKeepsFewer
open Go.ChangeShapes Go.WideShapes Go.ChangeAt Go.RowKit
open Go.Proofs.YtadplnbadfnlfaaDoor
open Go.ChangeMaps (open_string shut_string)
set_option linter.unusedVariables false
set_option linter.unusedSimpArgs false
set_option maxHeartbeats 1600000
set_option maxRecDepth 100000

theorem walk (v0 : Value) (t0 : List UInt8) (v1 : Value) (t1 : List UInt8) (w : World) (hv0 : BytesV w v0 t0) (hv1 : BytesV w v1 t1) (hD : Deb w) : Calls Tryd.prog 5 #[v0, v1] w (Grows (.bool true) w) := by
  have HV1 := Lib.hid (show ∀ w', Ext w w' → BytesV w' v1 t1 from fun w' h => hv1.mono (fun b o x _ k => h.cell k) h.size)
  obtain ⟨aB, cB, rfl, hleB, -⟩ := hv0.open
  obtain ⟨aM, cM, rfl, hleM, -⟩ := hv1.open
  clear hv1
  have HDb := Lib.hid hD
  clear hD
  by_cases hz0 : 1048576 < t0.length
  · go_enter Tryd.func5, Tryd.ntmps5
    go_wp2_with fail
    go_ret
    exact Grows.mk rfl (Ext.refl _)
  by_cases hz1 : 1048576 < t1.length
  · go_enter Tryd.func5, Tryd.ntmps5
    go_wp2_with fail
    go_ret
    exact Grows.mk rfl (Ext.refl _)
  go_enter Tryd.func5, Tryd.ntmps5
  go_wp2_with fail
  refine (DrawTracesWithin_t _ t0 _ hv0 (by omega)).mono ?_
  rintro e w1 ⟨r, D, rfl, he1, hD1, hT1, s, p, rfl, hS, hP⟩
  obtain ⟨S, hSe1, hSV1⟩ := hS.sys hT1
  obtain ⟨vE1, rfl, hE1⟩ := hSV1
  obtain ⟨aE1, cE1, rfl, -, -⟩ := hE1.open
  obtain ⟨U, hSe2, hSV2⟩ := hP.sys hT1
  obtain ⟨vE2, rfl, hE2⟩ := hSV2
  obtain ⟨aE2, cE2, rfl, -, -⟩ := hE2.open
  have HS := Lib.hid (show ∀ w', Ext w1 w' → SysV w' (.agg #[.int .i64 S.alphabet, .int .i64 S.states, .slice aE1 S.edges.length cE1]) S from fun w' h => ⟨_, rfl, hE1.mono h⟩)
  have HU := Lib.hid (show ∀ w', Ext w1 w' → SysV w' (.agg #[.int .i64 U.alphabet, .int .i64 U.states, .slice aE2 U.edges.length cE2]) U from fun w' h => ⟨_, rfl, hE2.mono h⟩)
  have HD := Lib.hid (show ∀ w', Ext w1 w' → Deb w' from fun w' h => HDb.out.ext (he1.trans h))
  clear hE1 hE2 hS hP hT1 hD1
  have hx : Ext w1 ((w1.alloc (.cells #[.int .i64 S.alphabet, .int .i64 S.states, .slice aE1 S.edges.length cE1] 25)).alloc (.cells #[.int .i64 U.alphabet, .int .i64 U.states, .slice aE2 U.edges.length cE2] 25)) := (Ext.alloc _ _).trans (Ext.alloc _ _)
  have b3 : Blk ((w1.alloc (.cells #[.int .i64 S.alphabet, .int .i64 S.states, .slice aE1 S.edges.length cE1] 25)).alloc (.cells #[.int .i64 U.alphabet, .int .i64 U.states, .slice aE2 U.edges.length cE2] 25)) w1.heap.size #[.int .i64 S.alphabet, .int .i64 S.states, .slice aE1 S.edges.length cE1] 25 := Ext.blk (Ext.alloc _ _)
  have b4 : Blk ((w1.alloc (.cells #[.int .i64 S.alphabet, .int .i64 S.states, .slice aE1 S.edges.length cE1] 25)).alloc (.cells #[.int .i64 U.alphabet, .int .i64 U.states, .slice aE2 U.edges.length cE2] 25)) (w1.heap.size + 1) #[.int .i64 U.alphabet, .int .i64 U.states, .slice aE2 U.edges.length cE2] 25 := Ext.blk1 (Ext.refl _)
  go_wp2_with fail
  generalize ((w1.alloc (.cells #[.int .i64 S.alphabet, .int .i64 S.states, .slice aE1 S.edges.length cE1] 25)).alloc (.cells #[.int .i64 U.alphabet, .int .i64 U.states, .slice aE2 U.edges.length cE2] 25)) = w2 at hx b3 b4 ⊢
  have b3_0 := b3.cell 0 rfl; have b3_1 := b3.cell 1 rfl; have b3_2 := b3.cell 2 rfl; have b4_0 := b4.cell 0 rfl; have b4_1 := b4.cell 1 rfl; have b4_2 := b4.cell 2 rfl
  refine (DrawKeepsProperty_t _ t1 _ (HV1.out _ (he1.trans hx)) (by omega)).mono ?_
  rintro e wk ⟨r, D, rfl, hewk, -, hTwk, s, p, rfl, hSS, hPP⟩
  obtain ⟨R, hSe4, hSV4⟩ := hSS.sys hTwk
  obtain ⟨vE4, rfl, hE4⟩ := hSV4
  obtain ⟨aE4, cE4, rfl, -, -⟩ := hE4.open
  have HR := Lib.hid (show ∀ w', Ext wk w' → SysV w' (.agg #[.int .i64 R.alphabet, .int .i64 R.states, .slice aE4 R.edges.length cE4]) R from fun w' h => ⟨_, rfl, hE4.mono h⟩)
  clear hE4 hSS
  obtain ⟨P, hPn5, hPa5, hPV5⟩ := hPP.auto hTwk
  obtain ⟨vN5, vA5, rfl, hN5, hA5⟩ := hPV5
  obtain ⟨aN5, cN5, rfl, -, -⟩ := hN5.open
  obtain ⟨aA5, cA5, rfl, -, -⟩ := hA5.open
  have HP := Lib.hid (show ∀ w', Ext wk w' → AutoV w' (.agg #[.int .i64 P.alphabet, .slice aN5 P.next.length cN5, .slice aA5 P.accept.length cA5]) P from fun w' h => ⟨_, _, rfl, hN5.mono h, hA5.mono h⟩)
  clear hN5 hA5 hPP
  have HS := Lib.hid (show ∀ w', Ext wk w' → SysV w' (.agg #[.int .i64 S.alphabet, .int .i64 S.states, .slice aE1 S.edges.length cE1]) S from fun w' h => HS.out _ (hx.trans (hewk.trans h)))
  have HU := Lib.hid (show ∀ w', Ext wk w' → SysV w' (.agg #[.int .i64 U.alphabet, .int .i64 U.states, .slice aE2 U.edges.length cE2]) U from fun w' h => HU.out _ (hx.trans (hewk.trans h)))
  have HD := Lib.hid (show ∀ w', Ext wk w' → Deb w' from fun w' h => HD.out _ (hx.trans (hewk.trans h)))
  clear hTwk
  replace he1 := he1.trans (hx.trans hewk)
  clear b3_0 b3_1 b3_2 b4_0 b4_1 b4_2
  have hxn : Ext wk ((wk.alloc (.cells #[.int .i64 R.alphabet, .int .i64 R.states, .slice aE4 R.edges.length cE4] 25)).alloc (.cells #[.int .i64 P.alphabet, .slice aN5 P.next.length cN5, .slice aA5 P.accept.length cA5] 32)) := ((Ext.alloc _ _).trans (Ext.alloc _ _))
  replace b3 := b3.ext (hewk.trans hxn)
  replace b4 := b4.ext (hewk.trans hxn)
  have b5 : Blk ((wk.alloc (.cells #[.int .i64 R.alphabet, .int .i64 R.states, .slice aE4 R.edges.length cE4] 25)).alloc (.cells #[.int .i64 P.alphabet, .slice aN5 P.next.length cN5, .slice aA5 P.accept.length cA5] 32)) (wk.heap.size) #[.int .i64 R.alphabet, .int .i64 R.states, .slice aE4 R.edges.length cE4] 25 := Ext.blk (Ext.alloc _ _)
  have b6 : Blk ((wk.alloc (.cells #[.int .i64 R.alphabet, .int .i64 R.states, .slice aE4 R.edges.length cE4] 25)).alloc (.cells #[.int .i64 P.alphabet, .slice aN5 P.next.length cN5, .slice aA5 P.accept.length cA5] 32)) (wk.heap.size + 1) #[.int .i64 P.alphabet, .slice aN5 P.next.length cN5, .slice aA5 P.accept.length cA5] 32 := Ext.blk1 (Ext.refl _)
  clear hx hewk
  go_upto_region 5 with fail
  generalize ((wk.alloc (.cells #[.int .i64 R.alphabet, .int .i64 R.states, .slice aE4 R.edges.length cE4] 25)).alloc (.cells #[.int .i64 P.alphabet, .slice aN5 P.next.length cN5, .slice aA5 P.accept.length cA5] 32)) = wl at hxn b3 b4 b5 b6 ⊢
  have hx := hxn
  clear hxn
  have b3_0 := b3.cell 0 rfl; have b3_1 := b3.cell 1 rfl; have b3_2 := b3.cell 2 rfl; have b4_0 := b4.cell 0 rfl; have b4_1 := b4.cell 1 rfl; have b4_2 := b4.cell 2 rfl; have b5_0 := b5.cell 0 rfl; have b5_1 := b5.cell 1 rfl; have b5_2 := b5.cell 2 rfl; have b6_0 := b6.cell 0 rfl; have b6_1 := b6.cell 1 rfl; have b6_2 := b6.cell 2 rfl
  obtain ⟨wi, hwi⟩ : ∃ wi, tracesB S U = wi := ⟨_, rfl⟩
  have HWI := Lib.hid hwi
  obtain ⟨k1, hk1⟩ : ∃ k1, keepsB [U] P = k1 := ⟨_, rfl⟩
  have HK1 := Lib.hid hk1
  obtain ⟨k2, hk2⟩ : ∃ k2, keepsB [S] P = k2 := ⟨_, rfl⟩
  have HK2 := Lib.hid hk2
  have C1 := Lib.hid (show ∀ w', Ext wk w' → Calls Tryd.prog 8 #[.agg #[.int .i64 S.alphabet, .int .i64 S.states, .slice aE1 S.edges.length cE1], .agg #[.int .i64 U.alphabet, .int .i64 U.states, .slice aE2 U.edges.length cE2]] w' (Grows (.bool wi) w') from fun w' h => by have := TracesWithin_c _ _ S U _ (HS.out _ h) (HU.out _ h) (HD.out _ h); rwa [hwi] at this)
  have C2 := Lib.hid (show ∀ w', Ext wk w' → Calls Tryd.prog 10 #[.agg #[.int .i64 S.alphabet, .int .i64 S.states, .slice aE1 S.edges.length cE1], .agg #[.int .i64 U.alphabet, .int .i64 U.states, .slice aE2 U.edges.length cE2]] w' (Grows (.bool wi) w') from fun w' h => by have := TracesWithin_s _ _ S U _ (HS.out _ h) (HU.out _ h) (by omega) (by omega); rwa [hwi] at this)
  have C3 := Lib.hid (show ∀ w', Ext wk w' → Calls Tryd.prog 14 #[.agg #[.int .i64 U.alphabet, .int .i64 U.states, .slice aE2 U.edges.length cE2], .agg #[.int .i64 P.alphabet, .slice aN5 P.next.length cN5, .slice aA5 P.accept.length cA5]] w' (Grows (.bool k1) w') from fun w' h => by have := KeepsProperty_cd _ _ U P _ (HU.out _ h) (HP.out _ h) (HD.out _ h); rwa [hk1] at this)
  have C4 := Lib.hid (show ∀ w', Ext wk w' → Calls Tryd.prog 14 #[.agg #[.int .i64 S.alphabet, .int .i64 S.states, .slice aE1 S.edges.length cE1], .agg #[.int .i64 P.alphabet, .slice aN5 P.next.length cN5, .slice aA5 P.accept.length cA5]] w' (Grows (.bool k2) w') from fun w' h => by have := KeepsProperty_cd _ _ S P _ (HS.out _ h) (HP.out _ h) (HD.out _ h); rwa [hk2] at this)
  clear hwi hk1 hk2
  have hww : (wi != wi) = false := by simp
  have hww2 : (wi == wi) = true := by simp
  go_wp2_with fail
  refine (C1.out _ hx).mono ?_
  rintro e wz1 ⟨rfl, hez1⟩
  clear b3_0 b3_1 b3_2 b4_0 b4_1 b4_2 b6_0 b6_1 b6_2
  replace b3 := b3.ext hez1
  replace b4 := b4.ext hez1
  replace b6 := b6.ext hez1
  replace hx := hx.trans hez1
  have b3_0 := b3.cell 0 rfl; have b3_1 := b3.cell 1 rfl; have b3_2 := b3.cell 2 rfl; have b4_0 := b4.cell 0 rfl; have b4_1 := b4.cell 1 rfl; have b4_2 := b4.cell 2 rfl; have b6_0 := b6.cell 0 rfl; have b6_1 := b6.cell 1 rfl; have b6_2 := b6.cell 2 rfl
  go_wp2_with fail
  refine (C2.out _ hx).mono ?_
  rintro e wz2 ⟨rfl, hez2⟩
  clear b3_0 b3_1 b3_2 b4_0 b4_1 b4_2 b6_0 b6_1 b6_2
  replace b3 := b3.ext hez2
  replace b4 := b4.ext hez2
  replace b6 := b6.ext hez2
  replace hx := hx.trans hez2
  have b3_0 := b3.cell 0 rfl; have b3_1 := b3.cell 1 rfl; have b3_2 := b3.cell 2 rfl; have b4_0 := b4.cell 0 rfl; have b4_1 := b4.cell 1 rfl; have b4_2 := b4.cell 2 rfl; have b6_0 := b6.cell 0 rfl; have b6_1 := b6.cell 1 rfl; have b6_2 := b6.cell 2 rfl
  cases wi with
  | false =>
    go_wp2_with fail
    refine (C2.out _ hx).mono ?_
    rintro e wz3 ⟨rfl, hez3⟩
    clear b3_0 b3_1 b3_2 b4_0 b4_1 b4_2 b6_0 b6_1 b6_2
    replace b3 := b3.ext hez3
    replace b4 := b4.ext hez3
    replace b6 := b6.ext hez3
    replace hx := hx.trans hez3
    have b3_0 := b3.cell 0 rfl; have b3_1 := b3.cell 1 rfl; have b3_2 := b3.cell 2 rfl; have b4_0 := b4.cell 0 rfl; have b4_1 := b4.cell 1 rfl; have b4_2 := b4.cell 2 rfl; have b6_0 := b6.cell 0 rfl; have b6_1 := b6.cell 1 rfl; have b6_2 := b6.cell 2 rfl
    go_wp2_with fail
    go_ret
    exact Grows.mk (by simp) (he1.trans hx)
  | true =>
    go_wp2_with fail
    refine (C3.out _ hx).mono ?_
    rintro e wz4 ⟨rfl, hez4⟩
    clear b3_0 b3_1 b3_2 b4_0 b4_1 b4_2 b6_0 b6_1 b6_2
    replace b3 := b3.ext hez4
    replace b4 := b4.ext hez4
    replace b6 := b6.ext hez4
    replace hx := hx.trans hez4
    have b3_0 := b3.cell 0 rfl; have b3_1 := b3.cell 1 rfl; have b3_2 := b3.cell 2 rfl; have b4_0 := b4.cell 0 rfl; have b4_1 := b4.cell 1 rfl; have b4_2 := b4.cell 2 rfl; have b6_0 := b6.cell 0 rfl; have b6_1 := b6.cell 1 rfl; have b6_2 := b6.cell 2 rfl
    cases k1 with
    | false =>
      go_wp2_with fail
      go_ret
      exact Grows.mk (by simp) (he1.trans hx)
    | true =>
      obtain rfl : k2 = true := by rw [← HK2.out]; exact keeps_fewer HWI.out HK1.out
      go_wp2_with fail
      refine (C4.out _ hx).mono ?_
      rintro e wz5 ⟨rfl, hez5⟩
      clear b3_0 b3_1 b3_2 b4_0 b4_1 b4_2 b6_0 b6_1 b6_2
      replace b3 := b3.ext hez5
      replace b4 := b4.ext hez5
      replace b6 := b6.ext hez5
      replace hx := hx.trans hez5
      have b3_0 := b3.cell 0 rfl; have b3_1 := b3.cell 1 rfl; have b3_2 := b3.cell 2 rfl; have b4_0 := b4.cell 0 rfl; have b4_1 := b4.cell 1 rfl; have b4_2 := b4.cell 2 rfl; have b6_0 := b6.cell 0 rfl; have b6_1 := b6.cell 1 rfl; have b6_2 := b6.cell 2 rfl
      go_wp2_with fail
      go_ret
      exact Grows.mk (by first | rfl | simp) (he1.trans hx)

end Go.Proofs.YtadplnbadfnlfaaDoor.lawFnKeepsFewer
