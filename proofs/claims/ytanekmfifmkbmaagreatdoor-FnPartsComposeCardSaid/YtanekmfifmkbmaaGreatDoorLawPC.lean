/- Part of this seat's proofs, cut to what its law needs. -/

import Derived.Test.YtanekmfifmkbmaaGreatDoorDrawCs
import Derived.Test.YtanekmfifmkbmaaGreatDoorCpS
import Derived.Test.YtanekmfifmkbmaaGreatDoorAgD
import Derived.Test.YtanekmfifmkbmaaGreatDoorDet
import Derived.Test.YtanekmfifmkbmaaGreatDoorDrawL
namespace Go.Proofs.YtanekmfifmkbmaaGreatDoor.lawFnPartsCompose
open Go.ChangeShapes Go.WideShapes Go.ChangeAt Go.RowKit
open Go.Proofs.YtanekmfifmkbmaaGreatDoor
open Go.ChangeMaps (open_string shut_string)
set_option linter.unusedVariables false
set_option linter.unusedSimpArgs false
set_option maxHeartbeats 1600000
set_option maxRecDepth 100000

def CompT (a b X : Sys) : Prop := sysValid a = true ∧ sysValid b = true ∧ ∃ nodes, Pairs a b (alC a b) nodes ∧ nodes.length ≤ 16 ∧ X = compS a b (alC a b) nodes
def CompF (a b X : Sys) : Prop := X = ⟨0, 0, []⟩ ∧ (sysValid a = false ∨ sysValid b = false ∨ (sysValid a = true ∧ sysValid b = true ∧ FullP a b (alC a b)))
theorem comp_val {a b : Sys} {base : Nat} {w' : World} {v' : Value} {f : Bool} (h : CompIs a b base w' v' f) : ∃ X, SysV w' v' X ∧ (f = true → CompT a b X) ∧ (f = false → CompF a b X) := by
  rcases h with ⟨h1, h2, h3, nodes, h4, h5, ve, rfl, h6⟩ | ⟨h1, rfl, h3⟩
  · exact ⟨compS a b (alC a b) nodes, ⟨ve, rfl, EdgesOwn.edges h6⟩, fun _ => ⟨h2, h3, nodes, h4, h5, rfl⟩, fun h => by rw [h1] at h; cases h⟩
  · exact ⟨⟨0, 0, []⟩, ⟨_, rfl, slv_nil _⟩, (fun h => by rw [h1] at h; cases h), fun _ => ⟨rfl, h3⟩⟩
theorem comp_clash {a b X : Sys} (h : CompT a b X) (k : sysValid a = false ∨ sysValid b = false ∨ (sysValid a = true ∧ sysValid b = true ∧ FullP a b (alC a b))) : False := by
  obtain ⟨h1, h2, nodes, h3, h4, -⟩ := h
  rcases k with k | k | ⟨-, -, L, k1, k2, k3⟩
  · rw [h1] at k; cases k
  · rw [h2] at k; cases k
  · have := nodup_le k1 (m := nodes) fun x hx => (h3.mem x).2 (k3 x hx)
    omega
theorem comp_unique {a b X Y : Sys} {g f : Bool} (h1 : g = true → CompT a b X) (h2 : g = false → CompF a b X) (k1 : f = true → CompT a b Y) (k2 : f = false → CompF a b Y) : g = f ∧ X = Y := by
  cases g <;> cases f
  · exact ⟨rfl, by rw [(h2 rfl).1, (k2 rfl).1]⟩
  · exact (comp_clash (k1 rfl) (h2 rfl).2).elim
  · exact (comp_clash (h1 rfl) (k2 rfl).2).elim
  · obtain ⟨-, -, n1, h3, -, e1⟩ := h1 rfl
    obtain ⟨-, -, n2, k3, -, e2⟩ := k1 rfl
    exact ⟨rfl, by rw [e1, e2, h3.unique k3]⟩

theorem walk (v0 : Value) (t0 : List UInt8) (v1 : Value) (t1 : List UInt8) (w : World) (hv0 : BytesV w v0 t0) (hv1 : BytesV w v1 t1) (hD : Deb w) : Calls Tryz.prog 3 #[v0, v1] w (Grows (.bool true) w) := by
  have HV1 := Lib.hid (show ∀ w', Ext w w' → BytesV w' v1 t1 from fun w' h => hv1.mono (fun b o x _ k => h.cell k) h.size)
  obtain ⟨aB, cB, rfl, hleB, -⟩ := hv0.open
  obtain ⟨aM, cM, rfl, hleM, -⟩ := hv1.open
  clear hv1
  have HDb := Lib.hid hD
  clear hD
  by_cases hz0 : 1048576 < t0.length
  · go_enter Tryz.func3, Tryz.ntmps3
    go_wp2_with fail
    go_ret
    exact Grows.mk rfl (Ext.refl _)
  by_cases hz1 : 1048576 < t1.length
  · go_enter Tryz.func3, Tryz.ntmps3
    go_wp2_with fail
    go_ret
    exact Grows.mk rfl (Ext.refl _)
  go_enter Tryz.func3, Tryz.ntmps3
  go_wp2_with fail
  refine (DrawComposeSystems_t _ t0 _ hv0 (by omega)).mono ?_
  rintro e w1 ⟨r, D, rfl, he1, hD1, hT1, s, p, rfl, hS, hP⟩
  obtain ⟨S, hSe1, hSV1⟩ := hS.sys hT1
  obtain ⟨vE1, rfl, hE1⟩ := hSV1
  obtain ⟨aE1, cE1, rfl, -, -⟩ := hE1.open
  obtain ⟨U, hSe2, hSV2⟩ := hP.sys hT1
  obtain ⟨vE2, rfl, hE2⟩ := hSV2
  obtain ⟨aE2, cE2, rfl, -, -⟩ := hE2.open
  have HS := Lib.hid (show ∀ w', Ext w1 w' → SysV w' (.agg #[.int .i64 S.alphabet, .int .i64 S.states, .slice aE1 S.edges.length cE1]) S from fun w' h => ⟨_, rfl, hE1.mono h⟩)
  have HU := Lib.hid (show ∀ w', Ext w1 w' → SysV w' (.agg #[.int .i64 U.alphabet, .int .i64 U.states, .slice aE2 U.edges.length cE2]) U from fun w' h => ⟨_, rfl, hE2.mono h⟩)
  have HD := Lib.hid (show ∀ w', Ext w1 w' → Deb w' from fun w' h => HDb.out.ext (he1.trans h))
  clear hE1 hE2 hS hP hT1 hD1
  have hx : Ext w1 ((w1.alloc (.cells #[.int .i64 S.alphabet, .int .i64 S.states, .slice aE1 S.edges.length cE1] 25)).alloc (.cells #[.int .i64 U.alphabet, .int .i64 U.states, .slice aE2 U.edges.length cE2] 25)) := (Ext.alloc _ _).trans (Ext.alloc _ _)
  have b3 : Blk ((w1.alloc (.cells #[.int .i64 S.alphabet, .int .i64 S.states, .slice aE1 S.edges.length cE1] 25)).alloc (.cells #[.int .i64 U.alphabet, .int .i64 U.states, .slice aE2 U.edges.length cE2] 25)) w1.heap.size #[.int .i64 S.alphabet, .int .i64 S.states, .slice aE1 S.edges.length cE1] 25 := Ext.blk (Ext.alloc _ _)
  have b4 : Blk ((w1.alloc (.cells #[.int .i64 S.alphabet, .int .i64 S.states, .slice aE1 S.edges.length cE1] 25)).alloc (.cells #[.int .i64 U.alphabet, .int .i64 U.states, .slice aE2 U.edges.length cE2] 25)) (w1.heap.size + 1) #[.int .i64 U.alphabet, .int .i64 U.states, .slice aE2 U.edges.length cE2] 25 := Ext.blk1 (Ext.refl _)
  go_wp2_with fail
  generalize ((w1.alloc (.cells #[.int .i64 S.alphabet, .int .i64 S.states, .slice aE1 S.edges.length cE1] 25)).alloc (.cells #[.int .i64 U.alphabet, .int .i64 U.states, .slice aE2 U.edges.length cE2] 25)) = w2 at hx b3 b4 ⊢
  have b3_0 := b3.cell 0 rfl; have b3_1 := b3.cell 1 rfl; have b3_2 := b3.cell 2 rfl; have b4_0 := b4.cell 0 rfl; have b4_1 := b4.cell 1 rfl; have b4_2 := b4.cell 2 rfl
  refine (DrawKeepsProperty_t _ t1 _ (HV1.out _ (he1.trans hx)) (by omega)).mono ?_
  rintro e wk ⟨r, D, rfl, hewk, -, hTwk, s, p, rfl, hSS, hPP⟩
  obtain ⟨R, hSe4, hSV4⟩ := hSS.sys hTwk
  obtain ⟨vE4, rfl, hE4⟩ := hSV4
  obtain ⟨aE4, cE4, rfl, -, -⟩ := hE4.open
  have HR := Lib.hid (show ∀ w', Ext wk w' → SysV w' (.agg #[.int .i64 R.alphabet, .int .i64 R.states, .slice aE4 R.edges.length cE4]) R from fun w' h => ⟨_, rfl, hE4.mono h⟩)
  clear hE4 hSS
  obtain ⟨P, hPn5, hPa5, hPV5⟩ := hPP.auto hTwk
  obtain ⟨vN5, vA5, rfl, hN5, hA5⟩ := hPV5
  obtain ⟨aN5, cN5, rfl, -, -⟩ := hN5.open
  obtain ⟨aA5, cA5, rfl, -, -⟩ := hA5.open
  have HP := Lib.hid (show ∀ w', Ext wk w' → AutoV w' (.agg #[.int .i64 P.alphabet, .slice aN5 P.next.length cN5, .slice aA5 P.accept.length cA5]) P from fun w' h => ⟨_, _, rfl, hN5.mono h, hA5.mono h⟩)
  clear hN5 hA5 hPP
  have HS := Lib.hid (show ∀ w', Ext wk w' → SysV w' (.agg #[.int .i64 S.alphabet, .int .i64 S.states, .slice aE1 S.edges.length cE1]) S from fun w' h => HS.out _ (hx.trans (hewk.trans h)))
  have HU := Lib.hid (show ∀ w', Ext wk w' → SysV w' (.agg #[.int .i64 U.alphabet, .int .i64 U.states, .slice aE2 U.edges.length cE2]) U from fun w' h => HU.out _ (hx.trans (hewk.trans h)))
  have HD := Lib.hid (show ∀ w', Ext wk w' → Deb w' from fun w' h => HD.out _ (hx.trans (hewk.trans h)))
  clear hTwk
  replace he1 := he1.trans (hx.trans hewk)
  clear b3_0 b3_1 b3_2 b4_0 b4_1 b4_2
  have hxn : Ext wk ((wk.alloc (.cells #[.int .i64 R.alphabet, .int .i64 R.states, .slice aE4 R.edges.length cE4] 25)).alloc (.cells #[.int .i64 P.alphabet, .slice aN5 P.next.length cN5, .slice aA5 P.accept.length cA5] 31)) := ((Ext.alloc _ _).trans (Ext.alloc _ _))
  replace b3 := b3.ext (hewk.trans hxn)
  replace b4 := b4.ext (hewk.trans hxn)
  have b5 : Blk ((wk.alloc (.cells #[.int .i64 R.alphabet, .int .i64 R.states, .slice aE4 R.edges.length cE4] 25)).alloc (.cells #[.int .i64 P.alphabet, .slice aN5 P.next.length cN5, .slice aA5 P.accept.length cA5] 31)) (wk.heap.size) #[.int .i64 R.alphabet, .int .i64 R.states, .slice aE4 R.edges.length cE4] 25 := Ext.blk (Ext.alloc _ _)
  have b6 : Blk ((wk.alloc (.cells #[.int .i64 R.alphabet, .int .i64 R.states, .slice aE4 R.edges.length cE4] 25)).alloc (.cells #[.int .i64 P.alphabet, .slice aN5 P.next.length cN5, .slice aA5 P.accept.length cA5] 31)) (wk.heap.size + 1) #[.int .i64 P.alphabet, .slice aN5 P.next.length cN5, .slice aA5 P.accept.length cA5] 31 := Ext.blk1 (Ext.refl _)
  clear hx hewk
  go_upto_region 5 with fail
  generalize ((wk.alloc (.cells #[.int .i64 R.alphabet, .int .i64 R.states, .slice aE4 R.edges.length cE4] 25)).alloc (.cells #[.int .i64 P.alphabet, .slice aN5 P.next.length cN5, .slice aA5 P.accept.length cA5] 31)) = wl at hxn b3 b4 b5 b6 ⊢
  have hx := hxn
  clear hxn
  have b3_0 := b3.cell 0 rfl; have b3_1 := b3.cell 1 rfl; have b3_2 := b3.cell 2 rfl; have b4_0 := b4.cell 0 rfl; have b4_1 := b4.cell 1 rfl; have b4_2 := b4.cell 2 rfl; have b5_0 := b5.cell 0 rfl; have b5_1 := b5.cell 1 rfl; have b5_2 := b5.cell 2 rfl; have b6_0 := b6.cell 0 rfl; have b6_1 := b6.cell 1 rfl; have b6_2 := b6.cell 2 rfl
  clear b5 b5_0 b5_1 b5_2
  go_wp2_with fail
  refine (ComposeSystems_c _ _ S U _ (HS.out _ hx) (HU.out _ hx) (HD.out _ hx)).mono ?_
  rintro e w3 ⟨v3, g, rfl, he3, hend⟩
  clear b3_0 b3_1 b3_2 b4_0 b4_1 b4_2 b6_0 b6_1 b6_2
  obtain ⟨X, hXV, hXT, hXF⟩ := comp_val hend
  replace hx := hx.trans he3
  replace b3 := b3.ext he3
  replace b4 := b4.ext he3
  replace b6 := b6.ext he3
  clear he3 hend
  obtain ⟨vE8, rfl, hE8⟩ := hXV
  obtain ⟨aE8, cE8, rfl, -, -⟩ := hE8.open
  have HX := Lib.hid (show ∀ w', Ext w3 w' → SysV w' (.agg #[.int .i64 X.alphabet, .int .i64 X.states, .slice aE8 X.edges.length cE8]) X from fun w' h => ⟨_, rfl, hE8.mono h⟩)
  have HXT := Lib.hid hXT
  have HXF := Lib.hid hXF
  clear hE8 hXT hXF
  have hy : Ext w3 (w3.alloc (.cells #[.int .i64 X.alphabet, .int .i64 X.states, .slice aE8 X.edges.length cE8] 25)) := Ext.alloc _ _
  have b7 : Blk (w3.alloc (.cells #[.int .i64 X.alphabet, .int .i64 X.states, .slice aE8 X.edges.length cE8] 25)) w3.heap.size #[.int .i64 X.alphabet, .int .i64 X.states, .slice aE8 X.edges.length cE8] 25 := Blk.new _ _ _
  replace b3 := b3.ext hy
  replace b4 := b4.ext hy
  replace b6 := b6.ext hy
  go_upto_region 6 with fail
  generalize w3.alloc (.cells #[.int .i64 X.alphabet, .int .i64 X.states, .slice aE8 X.edges.length cE8] 25) = w4 at hy b3 b4 b6 b7 ⊢
  have b3_0 := b3.cell 0 rfl; have b3_1 := b3.cell 1 rfl; have b3_2 := b3.cell 2 rfl; have b4_0 := b4.cell 0 rfl; have b4_1 := b4.cell 1 rfl; have b4_2 := b4.cell 2 rfl
  go_wp2_with fail
  refine (ComposeSystems_s _ _ S U _ (HS.out _ (hx.trans hy)) (HU.out _ (hx.trans hy)) (by omega) (by omega)).mono ?_
  rintro e w5 ⟨v5, g2, rfl, he5, hend⟩
  clear b3_0 b3_1 b3_2 b4_0 b4_1 b4_2
  obtain ⟨Y, hYV, hYT, hYF⟩ := comp_val hend
  replace hy := hy.trans he5
  replace b3 := b3.ext he5
  replace b4 := b4.ext he5
  replace b6 := b6.ext he5
  replace b7 := b7.ext he5
  clear he5 hend
  obtain ⟨vE9, rfl, hE9⟩ := hYV
  obtain ⟨aE9, cE9, rfl, -, -⟩ := hE9.open
  have hgg : g2 = g ∧ Y = X := comp_unique hYT hYF HXT.out HXF.out
  obtain ⟨rfl, rfl⟩ := hgg
  have HY := Lib.hid (show ∀ w', Ext w5 w' → SysV w' (.agg #[.int .i64 Y.alphabet, .int .i64 Y.states, .slice aE9 Y.edges.length cE9]) Y from fun w' h => ⟨_, rfl, hE9.mono h⟩)
  clear hE9 hYT hYF
  have hz : Ext w5 (w5.alloc (.cells #[.int .i64 Y.alphabet, .int .i64 Y.states, .slice aE9 Y.edges.length cE9] 25)) := Ext.alloc _ _
  have b8 : Blk (w5.alloc (.cells #[.int .i64 Y.alphabet, .int .i64 Y.states, .slice aE9 Y.edges.length cE9] 25)) w5.heap.size #[.int .i64 Y.alphabet, .int .i64 Y.states, .slice aE9 Y.edges.length cE9] 25 := Blk.new _ _ _
  replace b3 := b3.ext hz
  replace b4 := b4.ext hz
  replace b6 := b6.ext hz
  replace b7 := b7.ext hz
  go_upto_region 7 with fail
  generalize w5.alloc (.cells #[.int .i64 Y.alphabet, .int .i64 Y.states, .slice aE9 Y.edges.length cE9] 25) = w6 at hz b3 b4 b6 b7 b8 ⊢
  have hq := hx.trans hy
  clear hx
  have hx := hz
  clear hz
  have C1 := Lib.hid (show ∀ w', Ext w5 w' → Calls Tryz.prog 9 #[.agg #[.int .i64 Y.alphabet, .int .i64 Y.states, .slice aE8 Y.edges.length cE8], .agg #[.int .i64 Y.alphabet, .int .i64 Y.states, .slice aE9 Y.edges.length cE9]] w' (Grows (.bool true) w') from fun w' h => by
    have := agSystems_c _ _ Y Y w' (HX.out _ (hy.trans h)) (HY.out _ h)
    simpa using this)
  have b3_0 := b3.cell 0 rfl; have b3_1 := b3.cell 1 rfl; have b3_2 := b3.cell 2 rfl; have b4_0 := b4.cell 0 rfl; have b4_1 := b4.cell 1 rfl; have b4_2 := b4.cell 2 rfl; have b6_0 := b6.cell 0 rfl; have b6_1 := b6.cell 1 rfl; have b6_2 := b6.cell 2 rfl; have b7_0 := b7.cell 0 rfl; have b7_1 := b7.cell 1 rfl; have b7_2 := b7.cell 2 rfl; have b8_0 := b8.cell 0 rfl; have b8_1 := b8.cell 1 rfl; have b8_2 := b8.cell 2 rfl
  go_wp2_with fail
  refine (C1.out _ hx).mono ?_
  rintro e wz1 ⟨rfl, hez1⟩
  clear b3_0 b3_1 b3_2 b4_0 b4_1 b4_2 b6_0 b6_1 b6_2 b7_0 b7_1 b7_2 b8_0 b8_1 b8_2
  replace b3 := b3.ext hez1
  replace b4 := b4.ext hez1
  replace b6 := b6.ext hez1
  replace b7 := b7.ext hez1
  replace b8 := b8.ext hez1
  replace hx := hx.trans hez1
  have b3_0 := b3.cell 0 rfl; have b3_1 := b3.cell 1 rfl; have b3_2 := b3.cell 2 rfl; have b4_0 := b4.cell 0 rfl; have b4_1 := b4.cell 1 rfl; have b4_2 := b4.cell 2 rfl; have b6_0 := b6.cell 0 rfl; have b6_1 := b6.cell 1 rfl; have b6_2 := b6.cell 2 rfl; have b7_0 := b7.cell 0 rfl; have b7_1 := b7.cell 1 rfl; have b7_2 := b7.cell 2 rfl; have b8_0 := b8.cell 0 rfl; have b8_1 := b8.cell 1 rfl; have b8_2 := b8.cell 2 rfl
  have hgg : (g2 != g2) = false := by simp
  have hgg2 : (g2 == g2) = true := by simp
  cases g2 with
  | false =>
    go_wp2_with fail
    refine (C1.out _ hx).mono ?_
    rintro e wz2 ⟨rfl, hez2⟩
    clear b3_0 b3_1 b3_2 b4_0 b4_1 b4_2 b6_0 b6_1 b6_2 b7_0 b7_1 b7_2 b8_0 b8_1 b8_2
    replace b3 := b3.ext hez2
    replace b4 := b4.ext hez2
    replace b6 := b6.ext hez2
    replace b7 := b7.ext hez2
    replace b8 := b8.ext hez2
    replace hx := hx.trans hez2
    have b3_0 := b3.cell 0 rfl; have b3_1 := b3.cell 1 rfl; have b3_2 := b3.cell 2 rfl; have b4_0 := b4.cell 0 rfl; have b4_1 := b4.cell 1 rfl; have b4_2 := b4.cell 2 rfl; have b6_0 := b6.cell 0 rfl; have b6_1 := b6.cell 1 rfl; have b6_2 := b6.cell 2 rfl; have b7_0 := b7.cell 0 rfl; have b7_1 := b7.cell 1 rfl; have b7_2 := b7.cell 2 rfl; have b8_0 := b8.cell 0 rfl; have b8_1 := b8.cell 1 rfl; have b8_2 := b8.cell 2 rfl
    go_wp2_with fail
    go_ret
    exact Grows.mk (by simp) ((he1.trans hq).trans hx)
  | true =>
    obtain ⟨hSv, hUv, nodes, hpr, h16, hYe⟩ := HXT.out rfl
    obtain ⟨a0, a63, hal⟩ := alC_facts hSv hUv
    obtain ⟨rr, hrr⟩ : ∃ rr, pvOf [S, U] P = rr := ⟨_, rfl⟩
    have HR := Lib.hid hrr
    have HRY := Lib.hid (show pvOf [Y] P = rr from by rw [hYe, pv_comp hSv hUv a0 a63 hal hpr h16]; exact hrr)
    clear hSv hUv hpr h16 hYe a0 a63 hal hrr
    obtain ⟨vf1, ef1, hf1⟩ := HS.out _ (hq.trans hx)
    cases ef1
    obtain ⟨vf2, ef2, hf2⟩ := HU.out _ (hq.trans hx)
    cases ef2
    have hxl := Ext.alloc wz1 (.cells #[.int .i64 S.alphabet, .int .i64 S.states, .slice aE1 S.edges.length cE1, .int .i64 U.alphabet, .int .i64 U.states, .slice aE2 U.edges.length cE2] 25)
    have hSY := Lib.hid (SyssV.lit2 (s := S) (t := U) (Blk.new wz1 #[.int .i64 S.alphabet, .int .i64 S.states, .slice aE1 S.edges.length cE1, .int .i64 U.alphabet, .int .i64 U.states, .slice aE2 U.edges.length cE2] 25) (hf1.mono hxl) (hf2.mono hxl))
    have d60 := fun o => (b6.ext (Ext.alloc wz1 o)).cell 0 rfl; have d61 := fun o => (b6.ext (Ext.alloc wz1 o)).cell 1 rfl; have d62 := fun o => (b6.ext (Ext.alloc wz1 o)).cell 2 rfl
    clear hf1 hf2
    go_wp2_with fail
    refine (PartsViolation_cd _ _ [S, U] P _ hSY.out (by simp) (HP.out _ ((hq.trans hx).trans hxl)) (HD.out _ ((hq.trans hx).trans hxl))).mono ?_
    rw [HR.out]
    rintro e w8 ⟨rfl, he8⟩
    clear d60 d61 d62 hSY
    clear b3_0 b3_1 b3_2 b4_0 b4_1 b4_2 b6_0 b6_1 b6_2 b7_0 b7_1 b7_2 b8_0 b8_1 b8_2
    replace b6 := (b6.ext hxl).ext he8
    replace b7 := (b7.ext hxl).ext he8
    replace hx := (hx.trans hxl).trans he8
    clear hxl he8
    have b6_0 := b6.cell 0 rfl; have b6_1 := b6.cell 1 rfl; have b6_2 := b6.cell 2 rfl; have b7_0 := b7.cell 0 rfl; have b7_1 := b7.cell 1 rfl; have b7_2 := b7.cell 2 rfl
    go_wp2_with fail
    refine (FirstViolation_cd _ _ Y P _ (HX.out _ (hy.trans hx)) (HP.out _ (hq.trans hx)) (HD.out _ (hq.trans hx))).mono ?_
    rw [HRY.out]
    rintro e w9 ⟨rfl, he9⟩
    go_wp2_with fail
    go_ret
    exact Grows.mk (by simp) ((he1.trans hq).trans (hx.trans he9))
end Go.Proofs.YtanekmfifmkbmaaGreatDoor.lawFnPartsCompose
