/- FnSafeTrace: for all bytes, if both drawn systems keep the property, the restrictions of the other one's traces are safe words of the task: the law answers true. -/
import Derived.Test.YtnahccghglglfaaGreatDoorDrawO
import Derived.Test.YtnahccghglglfaaGreatDoorTaskC
import Derived.Test.YtnahccghglglfaaGreatDoorAgD
import Derived.Test.YtnahccghglglfaaGreatDoorSafeN
import Derived.Test.YtnahccghglglfaaGreatDoorWalkT
import Derived.Test.YtnahccghglglfaaGreatDoorWalkWA
import Derived.Test.YtnahccghglglfaaGreatDoorCard
import Derived.Test.YtnahccghglglfaaGreatDoorDrawL
namespace Go.Proofs.YtnahccghglglfaaGreatDoor.lawFnSafeTrace
open Go.ChangeShapes Go.WideShapes Go.ChangeAt Go.RowKit
open Go.Proofs.YtnahccghglglfaaGreatDoor
open Go.ChangeMaps (open_string shut_string)
set_option linter.unusedVariables false
set_option linter.unusedSimpArgs false
set_option maxHeartbeats 1600000
set_option maxRecDepth 100000

theorem SyssV.two {w : World} {s t : Sys} {ve vf : Value} (h : EdgesV w ve s.edges) (k : EdgesV w vf t.edges) :
    SyssV (w.alloc (.cells #[.int .i64 s.alphabet, .int .i64 s.states, ve, .int .i64 t.alphabet, .int .i64 t.states, vf] 25)) (.slice (some ⟨w.heap.size, 0, none⟩) 2 2) [s, t] := by
  refine ⟨_, 2, rfl, Nat.le_refl _, by decide, fun _ => ⟨w.heap.size, 0, rfl, by simp, fun i x hi => ?_⟩⟩
  have hb := Blk.new w #[.int .i64 s.alphabet, .int .i64 s.states, ve, .int .i64 t.alphabet, .int .i64 t.states, vf] 25
  match i, hi with
  | 0, hi => simp at hi; subst hi; exact ⟨ve, hb.cell 0 rfl, hb.cell 1 rfl, hb.cell 2 rfl, h.mono (Ext.alloc _ _)⟩
  | 1, hi => simp at hi; subst hi; exact ⟨vf, hb.cell 3 rfl, hb.cell 4 rfl, hb.cell 5 rfl, k.mono (Ext.alloc _ _)⟩
  | i + 2, hi => simp at hi
/-- What the law says of a trace. -/
theorem safe_fine {S O : Sys} {P : Auto} {u : List Int} (hneg : ¬ interfaceOf S P O < 0) (hk : keepsB [S, O] P = true) (h : hasTrace O (wtext u) = true) :
    safeWord ⟨S, P, interfaceOf S P O⟩ (restrictW (wtext u) (interfaceOf S P O)) = true := by
  obtain ⟨vS, vP, vO⟩ := interface_valid hneg
  obtain ⟨hI, hIa⟩ := interfaceOf_is vS vP vO
  obtain ⟨-, hw, ht⟩ := hasTrace_iff.1 h
  have hw' := hw
  simp only [wordIn, Bool.and_eq_true, List.all_eq_true, decide_eq_true_eq] at hw
  have hI2 := hIa
  simp only [isAlpha, Bool.and_eq_true, decide_eq_true_eq] at hI2
  have hv : wordValid (wtext u) = true := wordIn_more (a := O.alphabet) (by omega) (by omega) hw' fun l hl => by
    have h1 := hw.1.1
    simp only [isAlpha, Bool.and_eq_true, decide_eq_true_eq] at h1
    have := bit_range h1.2 hl; rw [bit63]; simp; omega
  have r2 : restrictW (wtext u) (interfaceOf S P O) = restrict (wtext u) (interfaceOf S P O) := by unfold restrictW; rw [hv, hIa]; rfl
  rw [r2, safeWord_iff, chars_restrict]
  refine ⟨?_, wordIn_restrict hI2.1 hI2.2 hw.1.2, safe_trace hI hk hw.2 ht⟩
  unfold taskValid
  rw [vS, vP, hIa]; rfl

theorem walk (v0 : Value) (t0 : List UInt8) (w : World) (hv0 : BytesV w v0 t0) (hD : Deb w) : Calls Tryz.prog 6 #[v0] w (Grows (.bool true) w) := by
  obtain ⟨aB, cB, rfl, hleB, -⟩ := hv0.open
  have HDb := Lib.hid hD
  clear hD
  by_cases hz0 : 1048576 < t0.length
  · go_enter Tryz.func6, Tryz.ntmps6
    go_wp2_with fail
    go_ret
    exact Grows.mk rfl (Ext.refl _)
  go_enter Tryz.func6, Tryz.ntmps6
  go_wp2_with fail
  refine (DrawTaskOf_t _ t0 _ hv0 (by omega)).mono ?_
  rintro e w1 ⟨r, D, rfl, he1, hD1, hT1, s, p, t, rfl, hS, hP, hO⟩
  obtain ⟨S, hSe1, hSV1⟩ := hS.sys hT1
  obtain ⟨vE1, rfl, hE1⟩ := hSV1
  obtain ⟨aE1, cE1, rfl, -, -⟩ := hE1.open
  obtain ⟨P, hPn2, hPa2, hPV2⟩ := hP.auto hT1
  obtain ⟨vN2, vA2, rfl, hN2, hA2⟩ := hPV2
  obtain ⟨aN2, cN2, rfl, -, -⟩ := hN2.open
  obtain ⟨aA2, cA2, rfl, -, -⟩ := hA2.open
  obtain ⟨O, hSe3, hSV3⟩ := hO.sys hT1
  obtain ⟨vE3, rfl, hE3⟩ := hSV3
  obtain ⟨aE3, cE3, rfl, -, -⟩ := hE3.open
  have HS := Lib.hid (show ∀ w', Ext w1 w' → SysV w' (.agg #[.int .i64 S.alphabet, .int .i64 S.states, .slice aE1 S.edges.length cE1]) S from fun w' h => ⟨_, rfl, hE1.mono h⟩)
  have HP := Lib.hid (show ∀ w', Ext w1 w' → AutoV w' (.agg #[.int .i64 P.alphabet, .slice aN2 P.next.length cN2, .slice aA2 P.accept.length cA2]) P from fun w' h => ⟨_, _, rfl, hN2.mono h, hA2.mono h⟩)
  have HO := Lib.hid (show ∀ w', Ext w1 w' → SysV w' (.agg #[.int .i64 O.alphabet, .int .i64 O.states, .slice aE3 O.edges.length cE3]) O from fun w' h => ⟨_, rfl, hE3.mono h⟩)
  have hSl : S.edges.length ≤ 1048576 := by omega
  clear hE1 hN2 hA2 hE3 hS hP hO hT1 hD1
  obtain ⟨T, hT⟩ : ∃ T, taskOf S P O = T := ⟨_, rfl⟩
  have HT := Lib.hid hT
  obtain ⟨n, hn⟩ : ∃ n, interfaceOf S P O = n := ⟨_, rfl⟩
  have HN := Lib.hid hn
  clear hn hT
  have hx : Ext w1 (((w1.alloc (.cells #[.int .i64 S.alphabet, .int .i64 S.states, .slice aE1 S.edges.length cE1] 25)).alloc (.cells #[.int .i64 P.alphabet, .slice aN2 P.next.length cN2, .slice aA2 P.accept.length cA2] 29)).alloc (.cells #[.int .i64 O.alphabet, .int .i64 O.states, .slice aE3 O.edges.length cE3] 25)) := ((Ext.alloc _ _).trans (Ext.alloc _ _)).trans (Ext.alloc _ _)
  have b3 : Blk (((w1.alloc (.cells #[.int .i64 S.alphabet, .int .i64 S.states, .slice aE1 S.edges.length cE1] 25)).alloc (.cells #[.int .i64 P.alphabet, .slice aN2 P.next.length cN2, .slice aA2 P.accept.length cA2] 29)).alloc (.cells #[.int .i64 O.alphabet, .int .i64 O.states, .slice aE3 O.edges.length cE3] 25)) w1.heap.size #[.int .i64 S.alphabet, .int .i64 S.states, .slice aE1 S.edges.length cE1] 25 := Ext.blk ((Ext.alloc _ _).trans (Ext.alloc _ _))
  have b4 : Blk (((w1.alloc (.cells #[.int .i64 S.alphabet, .int .i64 S.states, .slice aE1 S.edges.length cE1] 25)).alloc (.cells #[.int .i64 P.alphabet, .slice aN2 P.next.length cN2, .slice aA2 P.accept.length cA2] 29)).alloc (.cells #[.int .i64 O.alphabet, .int .i64 O.states, .slice aE3 O.edges.length cE3] 25)) (w1.heap.size + 1) #[.int .i64 P.alphabet, .slice aN2 P.next.length cN2, .slice aA2 P.accept.length cA2] 29 := Ext.blk1 (Ext.alloc _ _)
  have b5 : Blk (((w1.alloc (.cells #[.int .i64 S.alphabet, .int .i64 S.states, .slice aE1 S.edges.length cE1] 25)).alloc (.cells #[.int .i64 P.alphabet, .slice aN2 P.next.length cN2, .slice aA2 P.accept.length cA2] 29)).alloc (.cells #[.int .i64 O.alphabet, .int .i64 O.states, .slice aE3 O.edges.length cE3] 25)) (w1.heap.size + 1 + 1) #[.int .i64 O.alphabet, .int .i64 O.states, .slice aE3 O.edges.length cE3] 25 := Ext.blk2 (Ext.refl _)
  go_wp2_with fail
  generalize (((w1.alloc (.cells #[.int .i64 S.alphabet, .int .i64 S.states, .slice aE1 S.edges.length cE1] 25)).alloc (.cells #[.int .i64 P.alphabet, .slice aN2 P.next.length cN2, .slice aA2 P.accept.length cA2] 29)).alloc (.cells #[.int .i64 O.alphabet, .int .i64 O.states, .slice aE3 O.edges.length cE3] 25)) = w2 at hx b3 b4 b5 ⊢
  have b3_0 := b3.cell 0 rfl; have b3_1 := b3.cell 1 rfl; have b3_2 := b3.cell 2 rfl
  have b4_0 := b4.cell 0 rfl; have b4_1 := b4.cell 1 rfl; have b4_2 := b4.cell 2 rfl
  have b5_0 := b5.cell 0 rfl; have b5_1 := b5.cell 1 rfl; have b5_2 := b5.cell 2 rfl
  go_wp2_with fail
  refine (TaskOf_c2 _ _ _ S P O _ (HS.out _ hx) (HP.out _ hx) (HO.out _ hx) hSl).mono ?_
  rintro e w3 ⟨vt, rfl, he3, ho⟩
  rw [HT.out] at ho
  rw [HN.out]
  replace ho := ho.task
  obtain ⟨vE6, vN6, vA6, rfl, hE6, hN6, hA6⟩ := ho
  obtain ⟨aE6, cE6, rfl, -, -⟩ := hE6.open
  obtain ⟨aN6, cN6, rfl, -, -⟩ := hN6.open
  obtain ⟨aA6, cA6, rfl, -, -⟩ := hA6.open
  clear b3_0 b3_1 b3_2 b4_0 b4_1 b4_2 b5_0 b5_1 b5_2
  have hx3 := he3.trans (Ext.alloc w3 (.cells #[.int .i64 T.sys.alphabet, .int .i64 T.sys.states, .slice aE6 T.sys.edges.length cE6, .int .i64 T.prop.alphabet, .slice aN6 T.prop.next.length cN6, .slice aA6 T.prop.accept.length cA6, .int .i64 T.alphabet] 31))
  replace b3 := b3.ext hx3
  replace b4 := b4.ext hx3
  replace b5 := b5.ext hx3
  replace hx := hx.trans hx3
  have b6 : Blk (w3.alloc (.cells #[.int .i64 T.sys.alphabet, .int .i64 T.sys.states, .slice aE6 T.sys.edges.length cE6, .int .i64 T.prop.alphabet, .slice aN6 T.prop.next.length cN6, .slice aA6 T.prop.accept.length cA6, .int .i64 T.alphabet] 31)) w3.heap.size #[.int .i64 T.sys.alphabet, .int .i64 T.sys.states, .slice aE6 T.sys.edges.length cE6, .int .i64 T.prop.alphabet, .slice aN6 T.prop.next.length cN6, .slice aA6 T.prop.accept.length cA6, .int .i64 T.alphabet] 31 := Blk.new _ _ _
  have HT6 := Lib.hid (show ∀ w', Ext (w3.alloc (.cells #[.int .i64 T.sys.alphabet, .int .i64 T.sys.states, .slice aE6 T.sys.edges.length cE6, .int .i64 T.prop.alphabet, .slice aN6 T.prop.next.length cN6, .slice aA6 T.prop.accept.length cA6, .int .i64 T.alphabet] 31)) w' → TaskV w' (.agg #[.int .i64 T.sys.alphabet, .int .i64 T.sys.states, .slice aE6 T.sys.edges.length cE6, .int .i64 T.prop.alphabet, .slice aN6 T.prop.next.length cN6, .slice aA6 T.prop.accept.length cA6, .int .i64 T.alphabet]) T from fun w' h => ⟨_, _, _, rfl, (hE6.mono (Ext.alloc _ _)).mono h, (hN6.mono (Ext.alloc _ _)).mono h, (hA6.mono (Ext.alloc _ _)).mono h⟩)
  clear hE6 hN6 hA6 he3 hx3
  have b3_0 := b3.cell 0 rfl; have b3_1 := b3.cell 1 rfl; have b3_2 := b3.cell 2 rfl
  have b4_0 := b4.cell 0 rfl; have b4_1 := b4.cell 1 rfl; have b4_2 := b4.cell 2 rfl
  have b5_0 := b5.cell 0 rfl; have b5_1 := b5.cell 1 rfl; have b5_2 := b5.cell 2 rfl
  have b6_0 := b6.cell 0 rfl; have b6_1 := b6.cell 1 rfl; have b6_2 := b6.cell 2 rfl; have b6_3 := b6.cell 3 rfl; have b6_4 := b6.cell 4 rfl; have b6_5 := b6.cell 5 rfl; have b6_6 := b6.cell 6 rfl
  go_wp2_with fail
  clear b3_0 b3_1 b3_2 b4_0 b4_1 b4_2 b5_0 b5_1 b5_2 b6_0 b6_1 b6_2 b6_3 b6_4 b6_5 b6_6
  generalize w3.alloc (.cells #[.int .i64 T.sys.alphabet, .int .i64 T.sys.states, .slice aE6 T.sys.edges.length cE6, .int .i64 T.prop.alphabet, .slice aN6 T.prop.next.length cN6, .slice aA6 T.prop.accept.length cA6, .int .i64 T.alphabet] 31) = w4 at hx b3 b4 b5 b6 HT6 ⊢
  generalize w3.heap.size = G6 at b6 ⊢
  refine (TaskOf_s _ _ _ S P O _ (HS.out _ hx) (HP.out _ hx) (HO.out _ hx) hSl).mono ?_
  rintro e w5 ⟨vt, rfl, he5, ho⟩
  rw [HT.out] at ho
  rw [HN.out]
  replace ho := ho.task
  obtain ⟨vE8, vN8, vA8, rfl, hE8, hN8, hA8⟩ := ho
  obtain ⟨aE8, cE8, rfl, -, -⟩ := hE8.open
  obtain ⟨aN8, cN8, rfl, -, -⟩ := hN8.open
  obtain ⟨aA8, cA8, rfl, -, -⟩ := hA8.open
  have hx5 := he5.trans (Ext.alloc w5 (.cells #[.int .i64 T.sys.alphabet, .int .i64 T.sys.states, .slice aE8 T.sys.edges.length cE8, .int .i64 T.prop.alphabet, .slice aN8 T.prop.next.length cN8, .slice aA8 T.prop.accept.length cA8, .int .i64 T.alphabet] 31))
  replace b3 := b3.ext hx5
  replace b4 := b4.ext hx5
  replace b5 := b5.ext hx5
  replace b6 := b6.ext hx5
  replace hx := hx.trans hx5
  have b8 : Blk (w5.alloc (.cells #[.int .i64 T.sys.alphabet, .int .i64 T.sys.states, .slice aE8 T.sys.edges.length cE8, .int .i64 T.prop.alphabet, .slice aN8 T.prop.next.length cN8, .slice aA8 T.prop.accept.length cA8, .int .i64 T.alphabet] 31)) w5.heap.size #[.int .i64 T.sys.alphabet, .int .i64 T.sys.states, .slice aE8 T.sys.edges.length cE8, .int .i64 T.prop.alphabet, .slice aN8 T.prop.next.length cN8, .slice aA8 T.prop.accept.length cA8, .int .i64 T.alphabet] 31 := Blk.new _ _ _
  have HT8 := Lib.hid (show ∀ w', Ext (w5.alloc (.cells #[.int .i64 T.sys.alphabet, .int .i64 T.sys.states, .slice aE8 T.sys.edges.length cE8, .int .i64 T.prop.alphabet, .slice aN8 T.prop.next.length cN8, .slice aA8 T.prop.accept.length cA8, .int .i64 T.alphabet] 31)) w' → TaskV w' (.agg #[.int .i64 T.sys.alphabet, .int .i64 T.sys.states, .slice aE8 T.sys.edges.length cE8, .int .i64 T.prop.alphabet, .slice aN8 T.prop.next.length cN8, .slice aA8 T.prop.accept.length cA8, .int .i64 T.alphabet]) T from fun w' h => ⟨_, _, _, rfl, (hE8.mono (Ext.alloc _ _)).mono h, (hN8.mono (Ext.alloc _ _)).mono h, (hA8.mono (Ext.alloc _ _)).mono h⟩)
  replace HT6 := Lib.hid (show ∀ w', Ext (w5.alloc (.cells #[.int .i64 T.sys.alphabet, .int .i64 T.sys.states, .slice aE8 T.sys.edges.length cE8, .int .i64 T.prop.alphabet, .slice aN8 T.prop.next.length cN8, .slice aA8 T.prop.accept.length cA8, .int .i64 T.alphabet] 31)) w' → TaskV w' (.agg #[.int .i64 T.sys.alphabet, .int .i64 T.sys.states, .slice aE6 T.sys.edges.length cE6, .int .i64 T.prop.alphabet, .slice aN6 T.prop.next.length cN6, .slice aA6 T.prop.accept.length cA6, .int .i64 T.alphabet]) T from fun w' h => HT6.out _ (hx5.trans h))
  clear hE8 hN8 hA8 he5 hx5
  have b3_0 := b3.cell 0 rfl; have b3_1 := b3.cell 1 rfl; have b3_2 := b3.cell 2 rfl
  have b4_0 := b4.cell 0 rfl; have b4_1 := b4.cell 1 rfl; have b4_2 := b4.cell 2 rfl
  have b5_0 := b5.cell 0 rfl; have b5_1 := b5.cell 1 rfl; have b5_2 := b5.cell 2 rfl
  have b6_0 := b6.cell 0 rfl; have b6_1 := b6.cell 1 rfl; have b6_2 := b6.cell 2 rfl; have b6_3 := b6.cell 3 rfl; have b6_4 := b6.cell 4 rfl; have b6_5 := b6.cell 5 rfl; have b6_6 := b6.cell 6 rfl
  have b8_0 := b8.cell 0 rfl; have b8_1 := b8.cell 1 rfl; have b8_2 := b8.cell 2 rfl; have b8_3 := b8.cell 3 rfl; have b8_4 := b8.cell 4 rfl; have b8_5 := b8.cell 5 rfl; have b8_6 := b8.cell 6 rfl
  go_wp2_with fail
  clear b3_0 b3_1 b3_2 b4_0 b4_1 b4_2 b5_0 b5_1 b5_2 b6_0 b6_1 b6_2 b6_3 b6_4 b6_5 b6_6 b8_0 b8_1 b8_2 b8_3 b8_4 b8_5 b8_6
  generalize w5.alloc (.cells #[.int .i64 T.sys.alphabet, .int .i64 T.sys.states, .slice aE8 T.sys.edges.length cE8, .int .i64 T.prop.alphabet, .slice aN8 T.prop.next.length cN8, .slice aA8 T.prop.accept.length cA8, .int .i64 T.alphabet] 31) = w6 at hx b3 b4 b5 b6 b8 HT6 HT8 ⊢
  generalize w5.heap.size = G8 at b8 ⊢
  have hy : Ext w6 w6 := Ext.refl _
  have HD := Lib.hid (show ∀ w', Ext w1 w' → Deb w' from fun w' h => HDb.out.ext (he1.trans h))
  have b3_0 := b3.cell 0 rfl; have b3_1 := b3.cell 1 rfl; have b3_2 := b3.cell 2 rfl
  have b4_0 := b4.cell 0 rfl; have b4_1 := b4.cell 1 rfl; have b4_2 := b4.cell 2 rfl
  have b5_0 := b5.cell 0 rfl; have b5_1 := b5.cell 1 rfl; have b5_2 := b5.cell 2 rfl
  have b6_0 := b6.cell 0 rfl; have b6_1 := b6.cell 1 rfl; have b6_2 := b6.cell 2 rfl; have b6_3 := b6.cell 3 rfl; have b6_4 := b6.cell 4 rfl; have b6_5 := b6.cell 5 rfl; have b6_6 := b6.cell 6 rfl
  have b8_0 := b8.cell 0 rfl; have b8_1 := b8.cell 1 rfl; have b8_2 := b8.cell 2 rfl; have b8_3 := b8.cell 3 rfl; have b8_4 := b8.cell 4 rfl; have b8_5 := b8.cell 5 rfl; have b8_6 := b8.cell 6 rfl
  have CAG := Lib.hid (show ∀ w', Ext w6 w' → Calls Tryz.prog 18 #[.agg #[.int .i64 T.sys.alphabet, .int .i64 T.sys.states, .slice aE6 T.sys.edges.length cE6, .int .i64 T.prop.alphabet, .slice aN6 T.prop.next.length cN6, .slice aA6 T.prop.accept.length cA6, .int .i64 T.alphabet], .agg #[.int .i64 T.sys.alphabet, .int .i64 T.sys.states, .slice aE8 T.sys.edges.length cE8, .int .i64 T.prop.alphabet, .slice aN8 T.prop.next.length cN8, .slice aA8 T.prop.accept.length cA8, .int .i64 T.alphabet]] w' (Grows (.bool true) w') from fun w' h => by have := agTasks_c _ _ T T w' (HT6.out _ h) (HT8.out _ h); simpa using this)
  go_wp2_with fail
  refine (CAG.out _ hy).mono ?_
  rintro e w8 ⟨rfl, he8⟩
  clear b3_0 b3_1 b3_2 b4_0 b4_1 b4_2 b5_0 b5_1 b5_2 b6_0 b6_1 b6_2 b6_3 b6_4 b6_5 b6_6 b8_0 b8_1 b8_2 b8_3 b8_4 b8_5 b8_6
  replace b3 := b3.ext he8
  replace b4 := b4.ext he8
  replace b5 := b5.ext he8
  replace b6 := b6.ext he8
  replace b8 := b8.ext he8
  replace hx := hx.trans he8
  replace hy := hy.trans he8
  clear he8
  have b3_0 := b3.cell 0 rfl; have b3_1 := b3.cell 1 rfl; have b3_2 := b3.cell 2 rfl
  have b4_0 := b4.cell 0 rfl; have b4_1 := b4.cell 1 rfl; have b4_2 := b4.cell 2 rfl
  have b5_0 := b5.cell 0 rfl; have b5_1 := b5.cell 1 rfl; have b5_2 := b5.cell 2 rfl
  have b6_0 := b6.cell 0 rfl; have b6_1 := b6.cell 1 rfl; have b6_2 := b6.cell 2 rfl; have b6_3 := b6.cell 3 rfl; have b6_4 := b6.cell 4 rfl; have b6_5 := b6.cell 5 rfl; have b6_6 := b6.cell 6 rfl
  have b8_0 := b8.cell 0 rfl; have b8_1 := b8.cell 1 rfl; have b8_2 := b8.cell 2 rfl; have b8_3 := b8.cell 3 rfl; have b8_4 := b8.cell 4 rfl; have b8_5 := b8.cell 5 rfl; have b8_6 := b8.cell 6 rfl
  by_cases h0 : 0 ≤ n
  case neg =>
    rw [show decide (0 ≤ n) = false from decide_eq_false h0]
    go_wp2_with fail
    refine (CAG.out _ hy).mono ?_
    rintro e w9 ⟨rfl, he9⟩
    go_wp2_with fail
    go_ret
    exact Grows.mk rfl ((he1.trans hx).trans he9)
  rw [show decide (0 ≤ n) = true from decide_eq_true h0]
  have hneg : ¬ interfaceOf S P O < 0 := by rw [HN.out]; omega
  have hTe : T = ⟨S, P, n⟩ := by rw [← HT.out]; unfold taskOf; rw [if_neg hneg, HN.out]
  have HNEG := Lib.hid hneg
  have HTE := Lib.hid hTe
  clear CAG hneg hTe
  obtain ⟨kb, hkb⟩ : ∃ kb, keepsB [S, O] P = kb := ⟨_, rfl⟩
  have HR := Lib.hid hkb
  clear hkb
  obtain ⟨vf1, ef1, hf1⟩ := HS.out _ hx
  cases ef1
  obtain ⟨vf4, ef4, hf4⟩ := HO.out _ hx
  cases ef4
  have hSY := Lib.hid (SyssV.two hf1 hf4)
  clear hf1 hf4
  have hxa := Ext.alloc w8 (.cells #[.int .i64 S.alphabet, .int .i64 S.states, .slice aE1 S.edges.length cE1, .int .i64 O.alphabet, .int .i64 O.states, .slice aE3 O.edges.length cE3] 25)
  have d0 := fun o => (b4.ext (Ext.alloc w8 o)).cell 0 rfl
  have d1 := fun o => (b4.ext (Ext.alloc w8 o)).cell 1 rfl
  have d2 := fun o => (b4.ext (Ext.alloc w8 o)).cell 2 rfl
  go_wp2_with fail
  refine (PartsKeep_cd _ _ [S, O] P _ hSY.out (by simp) (HP.out _ (hx.trans hxa)) (HD.out _ (hx.trans hxa))).mono ?_
  rw [HR.out]
  rintro e w9 ⟨rfl, he9⟩
  clear d0 d1 d2
  clear b3_0 b3_1 b3_2 b4_0 b4_1 b4_2 b5_0 b5_1 b5_2 b6_0 b6_1 b6_2 b6_3 b6_4 b6_5 b6_6 b8_0 b8_1 b8_2 b8_3 b8_4 b8_5 b8_6
  have hz := hxa.trans he9
  replace b3 := b3.ext hz
  replace b4 := b4.ext hz
  replace b5 := b5.ext hz
  replace b6 := b6.ext hz
  replace b8 := b8.ext hz
  replace hx := hx.trans hz
  replace hy := hy.trans hz
  clear hz hxa he9 hSY
  have HAL := Lib.hid (show T.alphabet = n by rw [HTE.out])
  go_wp2_with fail
  go_loopw [11, 78, 79, 80, 83, 84, 85, 86, 87, 88, 89] (fun i _ _ _ _ _ _ _ _ _ _ wr => ∃ k : Nat, k ≤ 40 ∧ i = .int .i64 k ∧ Ext w1 wr ∧ Ext w6 wr ∧ Blk wr (w1.heap.size + 1 + 1) #[.int .i64 O.alphabet, .int .i64 O.states, .slice aE3 O.edges.length cE3] 25 ∧ Blk wr G6 #[.int .i64 T.sys.alphabet, .int .i64 T.sys.states, .slice aE6 T.sys.edges.length cE6, .int .i64 T.prop.alphabet, .slice aN6 T.prop.next.length cN6, .slice aA6 T.prop.accept.length cA6, .int .i64 T.alphabet] 31) (fun i _ _ _ _ _ _ _ _ _ _ _ => 40 - (intOf i).toNat)
  case atStart => exact ⟨0, by omega, rfl, hx, hy, b5, b6⟩
  case round =>
    clear hx hy b3 b4 b5 b6 b8
    obtain ⟨k, hk, rfl, hx, hy, b5, b6⟩ := hrel
    have b5_0 := b5.cell 0 rfl; have b5_1 := b5.cell 1 rfl; have b5_2 := b5.cell 2 rfl; have b6_0 := b6.cell 0 rfl; have b6_1 := b6.cell 1 rfl; have b6_2 := b6.cell 2 rfl; have b6_3 := b6.cell 3 rfl; have b6_4 := b6.cell 4 rfl; have b6_5 := b6.cell 5 rfl; have b6_6 := b6.cell 6 rfl
    by_cases hlt : k < 40
    · go_wp2_with fail
      refine (WordAt_c k O.alphabet _ (by omega)).mono ?_
      rintro e wa ⟨ru, rfl, hru, hea⟩
      have HRU := Lib.hid hru
      clear b5_0 b5_1 b5_2 b6_0 b6_1 b6_2 b6_3 b6_4 b6_5 b6_6
      clear hru
      replace b5 := b5.ext hea
      replace b6 := b6.ext hea
      replace hx := hx.trans hea
      replace hy := hy.trans hea
      clear hea
      rcases ru with _ | u
      · go_wp2_with fail
        go_ret
        exact Grows.mk rfl (he1.trans hx)
      · have hsz : (wtext u).size ≤ 1048576 := by
          have := (HRU.out u rfl).2.2
          rw [size_wtext]; omega
        clear HRU
        go_wp2_with fail
        have D50 := fun d os => cell_regrown (b5.cell 0 rfl) d os; have D51 := fun d os => cell_regrown (b5.cell 1 rfl) d os; have D52 := fun d os => cell_regrown (b5.cell 2 rfl) d os
        have D60 := fun d os => cell_regrown (b6.cell 0 rfl) d os; have D61 := fun d os => cell_regrown (b6.cell 1 rfl) d os; have D62 := fun d os => cell_regrown (b6.cell 2 rfl) d os; have D63 := fun d os => cell_regrown (b6.cell 3 rfl) d os; have D64 := fun d os => cell_regrown (b6.cell 4 rfl) d os; have D65 := fun d os => cell_regrown (b6.cell 5 rfl) d os; have D66 := fun d os => cell_regrown (b6.cell 6 rfl) d os
        rcases kb with _ | _
        · refine wp_region_quiet_below (by kernel_rfl) (by kernel_rfl) ?_
          repeat (go_big_quiet_step ((fail)))
          refine wpQuiet_nil ?_
          intro _ hw'
          obtain ⟨⟨dq, osq⟩, hw''⟩ := hw'
          subst hw''
          have hq2 : Ext wa (Go.Sort.grow (redrawn wa dq) osq) := below_regrown wa dq osq
          generalize Go.Sort.grow (redrawn wa dq) osq = wq at hq2 ⊢
          go_wp2_with fail
          exact ⟨⟨k + 1, by omega, by go_num, hx.trans hq2, hy.trans hq2, b5.ext hq2, b6.ext hq2⟩, by simp [intOf]; omega⟩
        obtain ⟨hb, hhb⟩ : ∃ hb, hasTrace O (rtext (some u)) = hb := ⟨_, rfl⟩
        have HTB := Lib.hid hhb
        have CH := Lib.hid (show ∀ w', Ext w1 w' → Calls Tryz.prog 20 #[.agg #[.int .i64 O.alphabet, .int .i64 O.states, .slice aE3 O.edges.length cE3], .string (rtext (some u))] w' (Grows (.bool hb) w') from fun w' h => by have := HasTrace_c _ O (rtext (some u)) w' (HO.out _ h) hsz (HD.out _ h); rwa [hhb] at this)
        clear hhb
        rcases hb with _ | _
        · refine wp_region_quiet_below (by kernel_rfl) (by kernel_rfl) ?_
          repeat (go_big_quiet_step ((go_at_call 20; exact Grows.quiet (CH.out _ (hx.trans (below_regrown _ _ _))))))
          refine wpQuiet_nil ?_
          intro _ hw'
          obtain ⟨⟨dq, osq⟩, hw''⟩ := hw'
          subst hw''
          have hq2 : Ext wa (Go.Sort.grow (redrawn wa dq) osq) := below_regrown wa dq osq
          generalize Go.Sort.grow (redrawn wa dq) osq = wq at hq2 ⊢
          go_wp2_with fail
          exact ⟨⟨k + 1, by omega, by go_num, hx.trans hq2, hy.trans hq2, b5.ext hq2, b6.ext hq2⟩, by simp [intOf]; omega⟩
        · have f2 := safe_fine (by have := HNEG.out; omega) HR.out HTB.out
          rw [HN.out] at f2
          have hr2 : (restrictW (rtext (some u)) n).size ≤ 1048576 := by have h1 := restrictW_size (rtext (some u)) n; have h2 : (rtext (some u)).size ≤ 1048576 := hsz; omega
          have f3 : safeWord T (restrictW (rtext (some u)) n) = true := by rw [HTE.out]; exact f2
          have CR2 := Lib.hid (show ∀ w', Ext w6 w' → Calls Tryz.prog 21 #[.string (rtext (some u)), .int .i64 T.alphabet] w' (Grows (.string (restrictW (rtext (some u)) n)) w') from fun w' h => by rw [HAL.out]; exact RestrictWord_c (rtext (some u)) n w' (by have h2 : (rtext (some u)).size ≤ 1048576 := hsz; omega))
          have CW := Lib.hid (show ∀ w', Ext w1 w' → Ext w6 w' → Calls Tryz.prog 10 #[.agg #[.int .i64 T.sys.alphabet, .int .i64 T.sys.states, .slice aE6 T.sys.edges.length cE6, .int .i64 T.prop.alphabet, .slice aN6 T.prop.next.length cN6, .slice aA6 T.prop.accept.length cA6, .int .i64 T.alphabet], .string (restrictW (rtext (some u)) n)] w' (Grows (.bool true) w') from fun w' h h' => by have := SafeWord_c _ T (restrictW (rtext (some u)) n) w' (HT6.out _ h') hr2 (HD.out _ h); rwa [f3] at this)
          clear f2 f3 hr2 HTB
          generalize restrictW (rtext (some u)) n = x2 at CR2 CW
          refine wp_region_quiet_below (by kernel_rfl) (by kernel_rfl) ?_
          repeat (go_big_quiet_step ((first | (go_at_call 21; exact Grows.quiet (CR2.out _ (hy.trans (below_regrown _ _ _)))) | (go_at_call 20; exact Grows.quiet (CH.out _ (hx.trans (below_regrown _ _ _)))) | (go_at_call 10; exact Grows.quiet (CW.out _ (hx.trans (below_regrown _ _ _)) (hy.trans (below_regrown _ _ _)))))))
          refine wpQuiet_nil ?_
          intro _ hw'
          obtain ⟨⟨dq, osq⟩, hw''⟩ := hw'
          subst hw''
          have hq2 : Ext wa (Go.Sort.grow (redrawn wa dq) osq) := below_regrown wa dq osq
          generalize Go.Sort.grow (redrawn wa dq) osq = wq at hq2 ⊢
          go_wp2_with fail
          exact ⟨⟨k + 1, by omega, by go_num, hx.trans hq2, hy.trans hq2, b5.ext hq2, b6.ext hq2⟩, by simp [intOf]; omega⟩
    · obtain rfl : k = 40 := by omega
      clear b5_0 b5_1 b5_2 b6_0 b6_1 b6_2 b6_3 b6_4 b6_5 b6_6
      go_wp2_with fail
      go_ret
      exact Grows.mk rfl (he1.trans hx)

theorem own : ownKnob Tryz.prog.godebug = none := by kernel_rfl
theorem laidOut : laidOutB Tryz.prog = true := by kernel_rfl
theorem deb_of_laid {W : World} (h : laidMetH Tryz.prog Rows.fnSafeTraceRow.laid W) : Deb W := debOfLaid h
theorem laid_met (os : Os) (args : Array Value) : laidMetH Tryz.prog Rows.fnSafeTraceRow.laid ((laidWorld os).forCall (fun _ _ => 0) ⟨#[], args, []⟩).memory :=
  (LaidIn.of_run [0, 1] 8 (by kernel_rfl) (by kernel_rfl) (by kernel_rfl) (by kernel_rfl)).met
set_option maxRecDepth 100000 in
theorem lifted (os : Os) (started : os.Started) (H : Type) (enc : TypeId × Value → H) :
    ReturnsInHanded {} Tryz.checked os 6 .any (fun w args => (Rows.fnSafeTraceSpec.pre enc Tryz.prog Tryz.f6 [] false w args ∧ laidMetH Tryz.prog Rows.fnSafeTraceRow.laid w) ∧ sizedMet enc Tryz.prog Tryz.f6 (OpenSpec.ofChange Rows.fnSafeTraceSpec) false w args)
      (Rows.fnSafeTraceSpec.post enc Tryz.prog Tryz.f6 false true false false) := by
  refine returnsInHanded_of_change_and (C := Tryz.checked) (X := fun w _ => laidMetH Tryz.prog Rows.fnSafeTraceRow.laid w) (fun _ _ _ hh h => h.of_heap hh) own started (by kernel_rfl) Tryz.func6
    (ChangeSpec.witness_at (enc := enc) (C := Tryz.checked) (os := os) (X := fun w _ => laidMetH Tryz.prog Rows.fnSafeTraceRow.laid w) false (laidWorld os) #[.slice none 0 0] 8 rfl (by kernel_rfl) (by kernel_rfl) (by kernel_rfl) (by kernel_rfl) (by kernel_rfl) (laid_met os _)) ?_
  intro W base args ds gs before hval0 hW _ _ hL _
  have hval : ∀ (j : Nat) t v, Tryz.f6.params[j]? = some t → args[j]? = some v → Value.okWide Tryz.prog W .any base t v := hval0
  have hW' := hW
  obtain ⟨p, q, hA0, hV, rfl, hfz, hnd⟩ := hW
  have hA : DataW.TrodAll enc Tryz.prog W 0 (fun _ => true) true Tryz.f6.params.toList args.toList ds p := hA0
  rw [Tryz.params6] at hA hval
  obtain ⟨v0, vs0, d0, ds0, p0, q0, hargs, rfl, rfl, h0, r0⟩ := trodAll_cons hA
  obtain ⟨rfl, rfl, rfl⟩ := trodAll_nil r0
  obtain rfl : args = #[v0] := by cases args; simp_all
  obtain ⟨rfl, rfl⟩ := trodVars_none hV
  have k0 := h0
  have lt0 : ∀ x ∈ p0, x.block < W.heap.size := by obtain ⟨m, hm⟩ := k0; exact DataW.trod_lt m _ _ _ hm
  obtain ⟨a0, len0, cap0, rfl⟩ := okWide_slice Tryz.underlying22 (hval 0 _ v0 rfl rfl)
  obtain ⟨t0, w0⟩ : ∃ t, BytesV W (.slice a0 len0 cap0) t := by
    obtain ⟨fuel, hf⟩ := h0
    obtain ⟨v, t, hv, ht⟩ := read_bytes hf
    simp [Value.cells] at hv
    subst hv
    exact ⟨t, ht⟩
  clear hA0 hval0
  refine (walk (.slice a0 len0 cap0) t0 W w0 (deb_of_laid hL)).mono fun e W' ⟨he, bel⟩ => ?_
  subst he
  exact ⟨_, rfl, _, _, _, [], _, [], hW', trodAll_mk1 (shut_bool Tryz.underlying4 _), (trodAll_cons_mk (Below.trod laidOut (by kernel_rfl) (of_decide_eq_true (by kernel_rfl)) k0 bel lt0) trodAll_mk0), rfl, bel.frame _, fun h => by cases h⟩

theorem over : Rows.fnSafeTraceRow.holds Tryz.pinned (OpenSpec.ofChange Rows.fnSafeTraceSpec) :=
  OpenClaim.holds_of_wide 6 Tryz.f6 rfl rfl rfl rfl rfl rfl rfl ⟨rfl, rfl, rfl, rfl, rfl⟩ rfl rfl rfl rfl rfl (by kernel_rfl) Tryz.func6 (by kernel_rfl)
    (of_decide_eq_true (by kernel_rfl)) (by unfold Func.isWrapper; first | (rw [if_pos (by decide +kernel)]; kernel_rfl) | (rw [if_neg (by decide +kernel)]; exact ⟨rfl, rfl⟩))
    (fun os started H enc _ => lifted os started H enc)

theorem card_holds : Rows.FnSafeTraceCardSaid :=
  Claim7.holds_tied_plain_at .later [] [.data, .data] true (true, "741764b550b8ab83034003a71969cfa28334938bba6d608f5e98862d6258d41e") false
    over (fun _ h => by cases h) (by kernel_rfl) (fun _ h => by cases h) fnSafeTrace_row_tie rfl ⟨rfl, rfl⟩ (by kernel_rfl) rfl
    (fun f fn hf hfn => by
      obtain rfl : f = 6 := Option.some.inj ((show Tryz.prog.funcNamed "loop.example/assumeguarantee/laws.FnSafeTrace" = some 6 by kernel_rfl).symm.trans hf) |>.symm
      obtain rfl : fn = Tryz.f6 := (Option.some.inj (Tryz.func6.symm.trans hfn)).symm
      refine ⟨by kernel_rfl, fun j t ht => ?_⟩
      rw [Tryz.params6] at ht
      match j, ht with
      | 0, ht =>
        have h0 : t = 22 := by simpa using ht.symm
        subst h0
        exact (show Tryz.prog.wantsStandIn 22 = false by kernel_rfl)
      | j + 1, ht => simp at ht)
    (by kernel_rfl)
#print axioms card_holds
end Go.Proofs.YtnahccghglglfaaGreatDoor.lawFnSafeTrace
