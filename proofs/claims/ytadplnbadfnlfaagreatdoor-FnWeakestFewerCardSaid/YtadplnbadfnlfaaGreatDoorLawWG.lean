/- Part of this seat's proofs, cut to what its law needs. -/

import Derived.Test.YtadplnbadfnlfaaGreatDoorDrawTx
import Derived.Test.YtadplnbadfnlfaaGreatDoorWalkTf
import Derived.Test.YtadplnbadfnlfaaGreatDoorDrawV
import Derived.Test.YtadplnbadfnlfaaGreatDoorWalkLw
import Derived.Test.YtadplnbadfnlfaaGreatDoorDrawL
namespace Go.Proofs.YtadplnbadfnlfaaGreatDoor.lawFnWeakestFewer
open Go.ChangeShapes Go.WideShapes Go.ChangeAt Go.RowKit
open Go.Proofs.YtadplnbadfnlfaaGreatDoor
open Go.ChangeMaps (open_string shut_string)
set_option linter.unusedVariables false
set_option linter.unusedSimpArgs false
set_option maxHeartbeats 1600000
set_option maxRecDepth 100000

theorem taskV_mk {w : World} {a : Value} {vn va : Value} {S : Sys} {P : Auto} {n : Int} (h : SysV w (.agg #[.int .i64 S.alphabet, .int .i64 S.states, a]) S) (k : AutoV w (.agg #[.int .i64 P.alphabet, vn, va]) P) :
    TaskV w (.agg #[.int .i64 S.alphabet, .int .i64 S.states, a, .int .i64 P.alphabet, vn, va, .int .i64 n]) ⟨S, P, n⟩ := by
  obtain ⟨ve, e, h1⟩ := h
  obtain ⟨vn', va', e', k1, k2⟩ := k
  simp at e e'
  obtain ⟨rfl, rfl⟩ := e'
  subst e
  exact ⟨_, _, _, rfl, h1, k1, k2⟩
theorem some_of {o : Option Auto} {R : Auto} (h1 : o.getD zeroA = R) (h2 : o.isSome = true) : o = some R := by
  cases o with
  | none => cases h2
  | some B => cases h1; rfl

theorem walk (v0 : Value) (t0 : List UInt8) (v1 : Value) (t1 : List UInt8) (w : World) (hv0 : BytesV w v0 t0) (hv1 : BytesV w v1 t1) (hD : Deb w) : Calls Tryz.prog 8 #[v0, v1] w (Grows (.bool true) w) := by
  have HV1 := Lib.hid (show ∀ w', Ext w w' → BytesV w' v1 t1 from fun w' h => hv1.mono (fun b o x _ k => h.cell k) h.size)
  obtain ⟨aB, cB, rfl, hleB, -⟩ := hv0.open
  obtain ⟨aM, cM, rfl, hleM, -⟩ := hv1.open
  clear hv1
  have HDb := Lib.hid hD
  clear hD
  by_cases hz0 : 1048576 < t0.length
  · go_enter Tryz.func8, Tryz.ntmps8
    go_wp2_with fail
    go_ret
    exact Grows.mk rfl (Ext.refl _)
  by_cases hz1 : 1048576 < t1.length
  · go_enter Tryz.func8, Tryz.ntmps8
    go_wp2_with fail
    go_ret
    exact Grows.mk rfl (Ext.refl _)
  go_enter Tryz.func8, Tryz.ntmps8
  go_wp2_with fail
  refine (DrawTracesWithin_t _ t0 _ hv0 (by omega)).mono ?_
  rintro e w1 ⟨r, D, rfl, he1, hD1, hT1, s, p, rfl, hS, hP⟩
  obtain ⟨S, hSe1, hSV1⟩ := hS.sys hT1
  obtain ⟨vE1, rfl, hE1⟩ := hSV1
  obtain ⟨aE1, cE1, rfl, -, -⟩ := hE1.open
  obtain ⟨U, hSe2, hSV2⟩ := hP.sys hT1
  obtain ⟨vE2, rfl, hE2⟩ := hSV2
  obtain ⟨aE2, cE2, rfl, -, -⟩ := hE2.open
  have HS := Lib.hid (show ∀ w', Ext w1 w' → SysV w' (.agg #[.int .i64 S.alphabet, .int .i64 S.states, .slice aE1 S.edges.length cE1]) S from fun w' h => ⟨_, rfl, hE1.mono h⟩)
  have HU := Lib.hid (show ∀ w', Ext w1 w' → SysV w' (.agg #[.int .i64 U.alphabet, .int .i64 U.states, .slice aE2 U.edges.length cE2]) U from fun w' h => ⟨_, rfl, hE2.mono h⟩)
  have HD := Lib.hid (show ∀ w', Ext w1 w' → Deb w' from fun w' h => HDb.out.ext (he1.trans h))
  clear hE1 hE2 hS hP hT1 hD1
  have hx : Ext w1 ((w1.alloc (.cells #[.int .i64 S.alphabet, .int .i64 S.states, .slice aE1 S.edges.length cE1] 25)).alloc (.cells #[.int .i64 U.alphabet, .int .i64 U.states, .slice aE2 U.edges.length cE2] 25)) := (Ext.alloc _ _).trans (Ext.alloc _ _)
  have b3 : Blk ((w1.alloc (.cells #[.int .i64 S.alphabet, .int .i64 S.states, .slice aE1 S.edges.length cE1] 25)).alloc (.cells #[.int .i64 U.alphabet, .int .i64 U.states, .slice aE2 U.edges.length cE2] 25)) w1.heap.size #[.int .i64 S.alphabet, .int .i64 S.states, .slice aE1 S.edges.length cE1] 25 := Ext.blk (Ext.alloc _ _)
  have b4 : Blk ((w1.alloc (.cells #[.int .i64 S.alphabet, .int .i64 S.states, .slice aE1 S.edges.length cE1] 25)).alloc (.cells #[.int .i64 U.alphabet, .int .i64 U.states, .slice aE2 U.edges.length cE2] 25)) (w1.heap.size + 1) #[.int .i64 U.alphabet, .int .i64 U.states, .slice aE2 U.edges.length cE2] 25 := Ext.blk1 (Ext.refl _)
  go_wp2_with fail
  generalize ((w1.alloc (.cells #[.int .i64 S.alphabet, .int .i64 S.states, .slice aE1 S.edges.length cE1] 25)).alloc (.cells #[.int .i64 U.alphabet, .int .i64 U.states, .slice aE2 U.edges.length cE2] 25)) = w2 at hx b3 b4 ⊢
  have b3_0 := b3.cell 0 rfl; have b3_1 := b3.cell 1 rfl; have b3_2 := b3.cell 2 rfl; have b4_0 := b4.cell 0 rfl; have b4_1 := b4.cell 1 rfl; have b4_2 := b4.cell 2 rfl
  refine (DrawWeakestAssumption_t _ t1 _ (HV1.out _ (he1.trans hx)) (by omega)).mono ?_
  rintro e wk ⟨vt, T, rfl, hewk, hTV, hed⟩
  obtain ⟨vE5, vN5, vA5, rfl, hE5, hN5, hA5⟩ := hTV
  obtain ⟨aE5, cE5, rfl, -, -⟩ := hE5.open
  obtain ⟨aN5, cN5, rfl, -, -⟩ := hN5.open
  obtain ⟨aA5, cA5, rfl, -, -⟩ := hA5.open
  have HTS := Lib.hid (show ∀ w', Ext wk w' → SysV w' (.agg #[.int .i64 T.sys.alphabet, .int .i64 T.sys.states, .slice aE5 T.sys.edges.length cE5]) T.sys from fun w' h => ⟨_, rfl, hE5.mono h⟩)
  have HTP := Lib.hid (show ∀ w', Ext wk w' → AutoV w' (.agg #[.int .i64 T.prop.alphabet, .slice aN5 T.prop.next.length cN5, .slice aA5 T.prop.accept.length cA5]) T.prop from fun w' h => ⟨_, _, rfl, hN5.mono h, hA5.mono h⟩)
  clear hE5 hN5 hA5
  have HS := Lib.hid (show ∀ w', Ext wk w' → SysV w' (.agg #[.int .i64 S.alphabet, .int .i64 S.states, .slice aE1 S.edges.length cE1]) S from fun w' h => HS.out _ (hx.trans (hewk.trans h)))
  have HU := Lib.hid (show ∀ w', Ext wk w' → SysV w' (.agg #[.int .i64 U.alphabet, .int .i64 U.states, .slice aE2 U.edges.length cE2]) U from fun w' h => HU.out _ (hx.trans (hewk.trans h)))
  have HD := Lib.hid (show ∀ w', Ext wk w' → Deb w' from fun w' h => HD.out _ (hx.trans (hewk.trans h)))
  replace he1 := he1.trans (hx.trans hewk)
  clear b3_0 b3_1 b3_2 b4_0 b4_1 b4_2
  have hxn : Ext wk (wk.alloc (.cells #[.int .i64 T.sys.alphabet, .int .i64 T.sys.states, .slice aE5 T.sys.edges.length cE5, .int .i64 T.prop.alphabet, .slice aN5 T.prop.next.length cN5, .slice aA5 T.prop.accept.length cA5, .int .i64 T.alphabet] 57)) := Ext.alloc _ _
  replace b3 := b3.ext (hewk.trans hxn)
  replace b4 := b4.ext (hewk.trans hxn)
  have bT : Blk (wk.alloc (.cells #[.int .i64 T.sys.alphabet, .int .i64 T.sys.states, .slice aE5 T.sys.edges.length cE5, .int .i64 T.prop.alphabet, .slice aN5 T.prop.next.length cN5, .slice aA5 T.prop.accept.length cA5, .int .i64 T.alphabet] 57)) wk.heap.size #[.int .i64 T.sys.alphabet, .int .i64 T.sys.states, .slice aE5 T.sys.edges.length cE5, .int .i64 T.prop.alphabet, .slice aN5 T.prop.next.length cN5, .slice aA5 T.prop.accept.length cA5, .int .i64 T.alphabet] 57 := Blk.new _ _ _
  clear hx hewk
  go_upto_region 5 with fail
  generalize (wk.alloc (.cells #[.int .i64 T.sys.alphabet, .int .i64 T.sys.states, .slice aE5 T.sys.edges.length cE5, .int .i64 T.prop.alphabet, .slice aN5 T.prop.next.length cN5, .slice aA5 T.prop.accept.length cA5, .int .i64 T.alphabet] 57)) = wl at hxn b3 b4 bT ⊢
  have hx := hxn
  clear hxn
  have b3_0 := b3.cell 0 rfl; have b3_1 := b3.cell 1 rfl; have b3_2 := b3.cell 2 rfl; have b4_0 := b4.cell 0 rfl; have b4_1 := b4.cell 1 rfl; have b4_2 := b4.cell 2 rfl; have bT_0 := bT.cell 0 rfl; have bT_1 := bT.cell 1 rfl; have bT_2 := bT.cell 2 rfl; have bT_3 := bT.cell 3 rfl; have bT_4 := bT.cell 4 rfl; have bT_5 := bT.cell 5 rfl; have bT_6 := bT.cell 6 rfl
  obtain ⟨wi, hwi⟩ : ∃ wi, tracesB S U = wi := ⟨_, rfl⟩
  have HWI := Lib.hid hwi
  obtain ⟨R1, hR1⟩ : ∃ R, (weakOf ⟨S, T.prop, T.alphabet⟩).getD zeroA = R := ⟨_, rfl⟩
  obtain ⟨q1, hq1⟩ : ∃ q, (weakOf ⟨S, T.prop, T.alphabet⟩).isSome = q := ⟨_, rfl⟩
  obtain ⟨R2, hR2⟩ : ∃ R, (weakOf ⟨U, T.prop, T.alphabet⟩).getD zeroA = R := ⟨_, rfl⟩
  obtain ⟨q2, hq2⟩ : ∃ q, (weakOf ⟨U, T.prop, T.alphabet⟩).isSome = q := ⟨_, rfl⟩
  have C1 := Lib.hid (show ∀ w', Ext wk w' → Calls Tryz.prog 37 #[.agg #[.int .i64 S.alphabet, .int .i64 S.states, .slice aE1 S.edges.length cE1], .agg #[.int .i64 U.alphabet, .int .i64 U.states, .slice aE2 U.edges.length cE2]] w' (Grows (.bool wi) w') from fun w' h => by have := TracesWithin_c _ _ S U _ (HS.out _ h) (HU.out _ h) (HD.out _ h); rwa [hwi] at this)
  have C2 := Lib.hid (show ∀ w', Ext wk w' → Calls Tryz.prog 38 #[.agg #[.int .i64 S.alphabet, .int .i64 S.states, .slice aE1 S.edges.length cE1], .agg #[.int .i64 U.alphabet, .int .i64 U.states, .slice aE2 U.edges.length cE2]] w' (Grows (.bool wi) w') from fun w' h => by have := TracesWithin_s _ _ S U _ (HS.out _ h) (HU.out _ h) (by omega) (by omega); rwa [hwi] at this)
  have CW1 := Lib.hid (show ∀ w', Ext wk w' → Calls Tryz.prog 39 #[.agg #[.int .i64 S.alphabet, .int .i64 S.states, .slice aE1 S.edges.length cE1, .int .i64 T.prop.alphabet, .slice aN5 T.prop.next.length cN5, .slice aA5 T.prop.accept.length cA5, .int .i64 T.alphabet]] w' (fun e w'' => ∃ u, e = .returned (.tuple #[u, .bool q1]) ∧ Ext w' w'' ∧ AutoOwn w'.heap.size w'' u R1) from fun w' h => (by have := WeakestAssumption_cd _ (⟨S, T.prop, T.alphabet⟩) w' (taskV_mk (HS.out _ h) (HTP.out _ h)) (HD.out _ h); unfold WeakDet at this; rwa [hR1, hq1] at this))
  have CW2 := Lib.hid (show ∀ w', Ext wk w' → Calls Tryz.prog 39 #[.agg #[.int .i64 U.alphabet, .int .i64 U.states, .slice aE2 U.edges.length cE2, .int .i64 T.prop.alphabet, .slice aN5 T.prop.next.length cN5, .slice aA5 T.prop.accept.length cA5, .int .i64 T.alphabet]] w' (fun e w'' => ∃ u, e = .returned (.tuple #[u, .bool q2]) ∧ Ext w' w'' ∧ AutoOwn w'.heap.size w'' u R2) from fun w' h => (by have := WeakestAssumption_cd _ (⟨U, T.prop, T.alphabet⟩) w' (taskV_mk (HU.out _ h) (HTP.out _ h)) (HD.out _ h); unfold WeakDet at this; rwa [hR2, hq2] at this))
  have HW1 := Lib.hid (show q1 = true → weakOf ⟨S, T.prop, T.alphabet⟩ = some R1 from fun h => some_of hR1 (hq1.trans h))
  have HW2 := Lib.hid (show q2 = true → weakOf ⟨U, T.prop, T.alphabet⟩ = some R2 from fun h => some_of hR2 (hq2.trans h))
  clear hwi hR1 hR2 hq1 hq2
  have hww : (wi != wi) = false := by simp
  go_wp2_with fail
  refine (C1.out _ hx).mono ?_
  rintro e wz1 ⟨rfl, hez1⟩
  clear b3_0 b3_1 b3_2 b4_0 b4_1 b4_2 bT_0 bT_1 bT_2 bT_3 bT_4 bT_5 bT_6
  replace b3 := b3.ext hez1
  replace b4 := b4.ext hez1
  replace bT := bT.ext hez1
  replace hx := hx.trans hez1
  have b3_0 := b3.cell 0 rfl; have b3_1 := b3.cell 1 rfl; have b3_2 := b3.cell 2 rfl; have b4_0 := b4.cell 0 rfl; have b4_1 := b4.cell 1 rfl; have b4_2 := b4.cell 2 rfl; have bT_0 := bT.cell 0 rfl; have bT_1 := bT.cell 1 rfl; have bT_2 := bT.cell 2 rfl; have bT_3 := bT.cell 3 rfl; have bT_4 := bT.cell 4 rfl; have bT_5 := bT.cell 5 rfl; have bT_6 := bT.cell 6 rfl
  go_wp2_with fail
  refine (C2.out _ hx).mono ?_
  rintro e wz2 ⟨rfl, hez2⟩
  clear b3_0 b3_1 b3_2 b4_0 b4_1 b4_2 bT_0 bT_1 bT_2 bT_3 bT_4 bT_5 bT_6
  replace b3 := b3.ext hez2
  replace b4 := b4.ext hez2
  replace bT := bT.ext hez2
  replace hx := hx.trans hez2
  have b3_0 := b3.cell 0 rfl; have b3_1 := b3.cell 1 rfl; have b3_2 := b3.cell 2 rfl; have b4_0 := b4.cell 0 rfl; have b4_1 := b4.cell 1 rfl; have b4_2 := b4.cell 2 rfl; have bT_0 := bT.cell 0 rfl; have bT_1 := bT.cell 1 rfl; have bT_2 := bT.cell 2 rfl; have bT_3 := bT.cell 3 rfl; have bT_4 := bT.cell 4 rfl; have bT_5 := bT.cell 5 rfl; have bT_6 := bT.cell 6 rfl
  cases wi with
  | false =>
    go_wp2_with fail
    refine (C2.out _ hx).mono ?_
    rintro e wz3 ⟨rfl, hez3⟩
    clear b3_0 b3_1 b3_2 b4_0 b4_1 b4_2 bT_0 bT_1 bT_2 bT_3 bT_4 bT_5 bT_6
    replace b3 := b3.ext hez3
    replace b4 := b4.ext hez3
    replace bT := bT.ext hez3
    replace hx := hx.trans hez3
    have b3_0 := b3.cell 0 rfl; have b3_1 := b3.cell 1 rfl; have b3_2 := b3.cell 2 rfl; have b4_0 := b4.cell 0 rfl; have b4_1 := b4.cell 1 rfl; have b4_2 := b4.cell 2 rfl; have bT_0 := bT.cell 0 rfl; have bT_1 := bT.cell 1 rfl; have bT_2 := bT.cell 2 rfl; have bT_3 := bT.cell 3 rfl; have bT_4 := bT.cell 4 rfl; have bT_5 := bT.cell 5 rfl; have bT_6 := bT.cell 6 rfl
    go_wp2_with fail
    go_ret
    exact Grows.mk (by simp) (he1.trans hx)
  | true =>
    go_wp2_with fail
    refine (CW1.out _ hx).mono ?_
    rintro e wa ⟨u8, rfl, he8, hO8⟩
    clear b3_0 b3_1 b3_2 b4_0 b4_1 b4_2 bT_0 bT_1 bT_2 bT_3 bT_4 bT_5 bT_6
    obtain ⟨vN8, vA8, rfl, hO8'⟩ := hO8
    obtain ⟨aN8, cN8, rfl⟩ := hO8'.1.shape
    obtain ⟨aA8, cA8, rfl⟩ := hO8'.2.shape
    have hN8 := hO8'.1.intss
    have hA8 := hO8'.2.bools
    have HW8 := Lib.hid (show ∀ w', Ext wa w' → AutoV w' (.agg #[.int .i64 R1.alphabet, .slice aN8 R1.next.length cN8, .slice aA8 R1.accept.length cA8]) R1 from fun w' h => ⟨_, _, rfl, hN8.mono h, hA8.mono h⟩)
    clear hO8' hN8 hA8
    have db3_0 := fun o => ((b3.ext he8).ext (Ext.alloc wa o)).cell 0 rfl; have db3_1 := fun o => ((b3.ext he8).ext (Ext.alloc wa o)).cell 1 rfl; have db3_2 := fun o => ((b3.ext he8).ext (Ext.alloc wa o)).cell 2 rfl
    replace b3 := (b3.ext he8).ext (Ext.alloc wa (.cells #[.int .i64 R1.alphabet, .slice aN8 R1.next.length cN8, .slice aA8 R1.accept.length cA8] 31))
    have db4_0 := fun o => ((b4.ext he8).ext (Ext.alloc wa o)).cell 0 rfl; have db4_1 := fun o => ((b4.ext he8).ext (Ext.alloc wa o)).cell 1 rfl; have db4_2 := fun o => ((b4.ext he8).ext (Ext.alloc wa o)).cell 2 rfl
    replace b4 := (b4.ext he8).ext (Ext.alloc wa (.cells #[.int .i64 R1.alphabet, .slice aN8 R1.next.length cN8, .slice aA8 R1.accept.length cA8] 31))
    have dbT_0 := fun o => ((bT.ext he8).ext (Ext.alloc wa o)).cell 0 rfl; have dbT_1 := fun o => ((bT.ext he8).ext (Ext.alloc wa o)).cell 1 rfl; have dbT_2 := fun o => ((bT.ext he8).ext (Ext.alloc wa o)).cell 2 rfl; have dbT_3 := fun o => ((bT.ext he8).ext (Ext.alloc wa o)).cell 3 rfl; have dbT_4 := fun o => ((bT.ext he8).ext (Ext.alloc wa o)).cell 4 rfl; have dbT_5 := fun o => ((bT.ext he8).ext (Ext.alloc wa o)).cell 5 rfl; have dbT_6 := fun o => ((bT.ext he8).ext (Ext.alloc wa o)).cell 6 rfl
    replace bT := (bT.ext he8).ext (Ext.alloc wa (.cells #[.int .i64 R1.alphabet, .slice aN8 R1.next.length cN8, .slice aA8 R1.accept.length cA8] 31))
    replace hx := (hx.trans he8).trans (Ext.alloc wa (.cells #[.int .i64 R1.alphabet, .slice aN8 R1.next.length cN8, .slice aA8 R1.accept.length cA8] 31))
    have h8 : Ext wa (wa.alloc (.cells #[.int .i64 R1.alphabet, .slice aN8 R1.next.length cN8, .slice aA8 R1.accept.length cA8] 31)) := Ext.alloc _ _
    clear he8
    have b8 : Blk (wa.alloc (.cells #[.int .i64 R1.alphabet, .slice aN8 R1.next.length cN8, .slice aA8 R1.accept.length cA8] 31)) wa.heap.size #[.int .i64 R1.alphabet, .slice aN8 R1.next.length cN8, .slice aA8 R1.accept.length cA8] 31 := Ext.blk (Ext.refl _)
    go_wp2_with fail
    clear db3_0 db3_1 db3_2 db4_0 db4_1 db4_2 dbT_0 dbT_1 dbT_2 dbT_3 dbT_4 dbT_5 dbT_6
    generalize (wa.alloc (.cells #[.int .i64 R1.alphabet, .slice aN8 R1.next.length cN8, .slice aA8 R1.accept.length cA8] 31)) = wb at hx h8 b8 b3 b4 bT ⊢
    have b3_0 := b3.cell 0 rfl; have b3_1 := b3.cell 1 rfl; have b3_2 := b3.cell 2 rfl; have b4_0 := b4.cell 0 rfl; have b4_1 := b4.cell 1 rfl; have b4_2 := b4.cell 2 rfl; have bT_0 := bT.cell 0 rfl; have bT_1 := bT.cell 1 rfl; have bT_2 := bT.cell 2 rfl; have bT_3 := bT.cell 3 rfl; have bT_4 := bT.cell 4 rfl; have bT_5 := bT.cell 5 rfl; have bT_6 := bT.cell 6 rfl; have b8_0 := b8.cell 0 rfl; have b8_1 := b8.cell 1 rfl; have b8_2 := b8.cell 2 rfl
    refine (CW2.out _ hx).mono ?_
    rintro e wc ⟨u9, rfl, he9, hO9⟩
    clear b3_0 b3_1 b3_2 b4_0 b4_1 b4_2 bT_0 bT_1 bT_2 bT_3 bT_4 bT_5 bT_6
    clear b8_0 b8_1 b8_2
    obtain ⟨vN9, vA9, rfl, hO9'⟩ := hO9
    obtain ⟨aN9, cN9, rfl⟩ := hO9'.1.shape
    obtain ⟨aA9, cA9, rfl⟩ := hO9'.2.shape
    have hN9 := hO9'.1.intss
    have hA9 := hO9'.2.bools
    have HW9 := Lib.hid (show ∀ w', Ext wc w' → AutoV w' (.agg #[.int .i64 R2.alphabet, .slice aN9 R2.next.length cN9, .slice aA9 R2.accept.length cA9]) R2 from fun w' h => ⟨_, _, rfl, hN9.mono h, hA9.mono h⟩)
    clear hO9' hN9 hA9
    have db8_0 := fun o => ((b8.ext he9).ext (Ext.alloc wc o)).cell 0 rfl; have db8_1 := fun o => ((b8.ext he9).ext (Ext.alloc wc o)).cell 1 rfl; have db8_2 := fun o => ((b8.ext he9).ext (Ext.alloc wc o)).cell 2 rfl
    replace b8 := (b8.ext he9).ext (Ext.alloc wc (.cells #[.int .i64 R2.alphabet, .slice aN9 R2.next.length cN9, .slice aA9 R2.accept.length cA9] 31))
    replace hx := (hx.trans he9).trans (Ext.alloc wc (.cells #[.int .i64 R2.alphabet, .slice aN9 R2.next.length cN9, .slice aA9 R2.accept.length cA9] 31))
    replace h8 := (h8.trans he9).trans (Ext.alloc wc (.cells #[.int .i64 R2.alphabet, .slice aN9 R2.next.length cN9, .slice aA9 R2.accept.length cA9] 31))
    have h9 : Ext wc (wc.alloc (.cells #[.int .i64 R2.alphabet, .slice aN9 R2.next.length cN9, .slice aA9 R2.accept.length cA9] 31)) := Ext.alloc _ _
    clear he9
    have b9 : Blk (wc.alloc (.cells #[.int .i64 R2.alphabet, .slice aN9 R2.next.length cN9, .slice aA9 R2.accept.length cA9] 31)) wc.heap.size #[.int .i64 R2.alphabet, .slice aN9 R2.next.length cN9, .slice aA9 R2.accept.length cA9] 31 := Ext.blk (Ext.refl _)
    go_upto_region 10 with fail
    clear db8_0 db8_1 db8_2
    generalize (wc.alloc (.cells #[.int .i64 R2.alphabet, .slice aN9 R2.next.length cN9, .slice aA9 R2.accept.length cA9] 31)) = wd at hx h8 h9 b9 b8 ⊢
    have b8_0 := b8.cell 0 rfl; have b8_1 := b8.cell 1 rfl; have b8_2 := b8.cell 2 rfl; have b9_0 := b9.cell 0 rfl; have b9_1 := b9.cell 1 rfl; have b9_2 := b9.cell 2 rfl
    cases q1 with
    | false =>
      go_wp2_with fail
      go_ret
      exact Grows.mk rfl (he1.trans hx)
    | true =>
      cases q2 with
      | false =>
        go_wp2_with fail
        go_ret
        exact Grows.mk rfl (he1.trans hx)
      | true =>
        have hw1 := HW1.out
        have hw2 := HW2.out
        go_wp2_with fail
        refine (LanguageWithin_c _ _ R2 R1 _ (HW9.out _ h9) (HW8.out _ h8)).mono ?_
        rw [weak_fewer HWI.out (hw1 trivial) (hw2 trivial)]
        rintro e we ⟨rfl, hee⟩
        go_wp2_with fail
        go_ret
        exact Grows.mk rfl ((he1.trans hx).trans hee)

end Go.Proofs.YtadplnbadfnlfaaGreatDoor.lawFnWeakestFewer
