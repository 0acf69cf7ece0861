/- Part of this seat's proofs, cut to what its law needs. -/

import Derived.Test.YtanekmfifmkbmaaGreatDoorMkU
import Derived.Test.YtanekmfifmkbmaaGreatDoorTeX
import Derived.Test.YtanekmfifmkbmaaGreatDoorTabL
import Derived.Test.YtanekmfifmkbmaaGreatDoorWalkE
import Derived.Test.YtanekmfifmkbmaaGreatDoorWalkA
namespace Go.Proofs.YtanekmfifmkbmaaGreatDoor.lawFnExactNewTable
open Go.ChangeShapes Go.WideShapes Go.ChangeAt Go.RowKit
open Go.Proofs.YtanekmfifmkbmaaGreatDoor
open Go.ChangeMaps (open_string shut_string)
set_option linter.unusedVariables false
set_option linter.unusedSimpArgs false
set_option maxHeartbeats 1600000
set_option maxRecDepth 100000

theorem ext_up {S : Nat → Prop} {w0 w w' : World} (h : Ext w0 w) (ht : Tnd S w w') (hS : ∀ b, S b → w0.heap.size ≤ b) : Ext w0 w' := Below.trans h (ht.below h.size hS)
theorem walk (v : Value) (t : Teacher) (w : World) (hT : TeacherV w v t) (hD : Deb w) : Calls Tryz.prog 4 #[v] w (Grows (.bool true) w) := by
  have HDb := Lib.hid hD
  clear hD
  obtain ⟨ax1, ax2, ax3, ax4, ax5, rfl, ah1, ah2, ah3, ah4, ah5⟩ := hT
  obtain ⟨aa1, ac1, rfl, -, -⟩ := ah1.open
  obtain ⟨aa2, ac2, rfl, -, -⟩ := ah2.open
  obtain ⟨aa3, ac3, rfl, -, -⟩ := ah3.open
  obtain ⟨aa4, ac4, rfl, -, -⟩ := ah4.open
  obtain ⟨aa5, ac5, rfl, -, -⟩ := ah5.open
  have HT := Lib.hid (show ∀ w', Ext w w' → TeacherV w' (.agg #[.bool t.known, .int .i64 t.target.alphabet, .slice aa1 t.target.next.length ac1, .slice aa2 t.target.accept.length ac2, .int .i64 t.task.sys.alphabet, .int .i64 t.task.sys.states, .slice aa3 t.task.sys.edges.length ac3, .int .i64 t.task.prop.alphabet, .slice aa4 t.task.prop.next.length ac4, .slice aa5 t.task.prop.accept.length ac5, .int .i64 t.task.alphabet]) t from fun w' h => ⟨_, _, _, _, _, rfl, ah1.mono h, ah2.mono h, ah3.mono h, ah4.mono h, ah5.mono h⟩)
  clear ah1 ah2 ah3 ah4 ah5
  go_enter Tryz.func4, Tryz.ntmps4
  go_wp2_with fail
  refine (szTeacher_s _ t _ _ (HT.out _ (Ext.alloc _ _)) (by omega) (by omega)).mono ?_
  rintro e w1 ⟨r, rfl, he1, hr⟩
  have b0 := he1.blk
  have hw := he1.peel
  rcases hr with rfl | ⟨hr0, hr⟩
  · go_wp2_with fail
    go_ret
    exact Grows.mk rfl hw
  have hsz : szTch t ≤ 1048576 := by have := hr.out; omega
  have hel : t.task.sys.edges.length ≤ 1048576 := by unfold szTch szTsk szSys at hsz; omega
  have HSZ := Lib.hid hsz
  have HSM := Lib.hid (newO_small t)
  obtain ⟨R, hR⟩ : ∃ R, (newO t).getD zeroT = R := ⟨_, rfl⟩
  obtain ⟨bb, hbb⟩ : ∃ bb, (newO t).isSome = bb := ⟨_, rfl⟩
  rw [hR] at HSM
  have CS := Lib.hid (fun w' v' (h : TeacherV w' v' t) => (by
    refine (NewTable_s v' t w' h hel).mono fun e w'' hW => ?_
    have h9 := tab_det hW
    rwa [hR, hbb] at h9 : Calls Tryz.prog 13 #[v'] w' (fun e w'' => ∃ u, e = .returned (.tuple #[u, .bool bb]) ∧ Ext w' w'' ∧ TabO w'.heap.size w'' u R)))
  have CP := Lib.hid (fun w' v' (h : TeacherV w' v' t) (h' : Ext w w') => (by
    refine (NewTable_c v' t w' h (HDb.out.ext h')).mono fun e w'' hW => ?_
    have h9 := tab_det hW
    rwa [hR, hbb] at h9 : Calls Tryz.prog 15 #[v'] w' (fun e w'' => ∃ u, e = .returned (.tuple #[u, .bool bb]) ∧ Ext w' w'' ∧ TabO w'.heap.size w'' u R)))
  clear hR hbb hsz hel hr
  have hq : (bb != bb) = false := by simp
  have hkr := HSM.out.2
  have b0_0 := b0.cell 0 rfl; have b0_1 := b0.cell 1 rfl; have b0_2 := b0.cell 2 rfl; have b0_3 := b0.cell 3 rfl; have b0_4 := b0.cell 4 rfl; have b0_5 := b0.cell 5 rfl; have b0_6 := b0.cell 6 rfl; have b0_7 := b0.cell 7 rfl; have b0_8 := b0.cell 8 rfl; have b0_9 := b0.cell 9 rfl; have b0_10 := b0.cell 10 rfl
  go_wp2_with fail
  refine (toTeacher_c _ t _ (HT.out _ hw) HSZ.out).mono ?_
  rintro e w2 ⟨vt, rfl, he2, ht2⟩
  replace hw := hw.trans he2
  replace b0 := b0.ext he2
  clear b0_0 b0_1 b0_2 b0_3 b0_4 b0_5 b0_6 b0_7 b0_8 b0_9 b0_10
  go_wp2_with fail
  refine (CS.out _ _ ht2.teacher).mono ?_
  rintro e w3 ⟨v3, rfl, he3, vr3, vc3, rfl, hP3⟩
  replace hw := hw.trans he3
  replace b0 := b0.ext he3
  obtain ⟨aR3, cR3, rfl⟩ : ∃ a c, vr3 = .slice a R.rows.length c := own_any' (hP3.own (slT vr3 R.rows) (by simp))
  obtain ⟨aC3, cC3, rfl⟩ : ∃ a c, vc3 = .slice a R.cols.length c := own_any' (hP3.own (slT vc3 R.cols) (by simp))
  have hO3 : TabO w2.heap.size w3 (.agg #[.slice aR3 R.rows.length cR3, .slice aC3 R.cols.length cC3]) R := ⟨_, _, rfl, hP3⟩
  clear ht2 he2 he3 hP3
  go_upto_region 6 with fail
  obtain ⟨w4, hw4⟩ : ∃ w4, w4 = w3.alloc (.cells #[.slice aR3 R.rows.length cR3, .slice aC3 R.cols.length cC3] 53) := ⟨_, rfl⟩
  have x4 : Ext w3 w4 := by rw [hw4]; exact Ext.alloc _ _
  have b4 : Blk w4 w3.heap.size #[.slice aR3 R.rows.length cR3, .slice aC3 R.cols.length cC3] 53 := by rw [hw4]; exact Blk.new _ _ _
  rw [← hw4]
  clear hw4
  replace hw := hw.trans x4
  replace b0 := b0.ext x4
  have l0 := b0.lt
  have l4 := b4.lt
  have HR4 := Lib.hid (show ∀ w', Ext w4 w' → TableL w' (.agg #[.slice aR3 R.rows.length cR3, .slice aC3 R.cols.length cC3]) R from fun w' h => (hO3.ext (x4.trans h)).tl HSM.out.1)
  have y4 : Ext w4 w4 := Ext.refl _
  clear x4 hO3
  generalize w3.heap.size = p4 at b4 l4 ⊢
  have b0_0 := b0.cell 0 rfl; have b0_1 := b0.cell 1 rfl; have b0_2 := b0.cell 2 rfl; have b0_3 := b0.cell 3 rfl; have b0_4 := b0.cell 4 rfl; have b0_5 := b0.cell 5 rfl; have b0_6 := b0.cell 6 rfl; have b0_7 := b0.cell 7 rfl; have b0_8 := b0.cell 8 rfl; have b0_9 := b0.cell 9 rfl; have b0_10 := b0.cell 10 rfl
  go_wp2_with fail
  refine (toTeacher_x _ t _ (HT.out _ hw) HSZ.out).mono ?_
  rintro e w5 ⟨vt5, rfl, he5, ht5⟩
  obtain ⟨mid, q1, q2, q3, q4, q5, vs, rfl, k1, k2, k3, k4, k5, k6, k7, k8⟩ := ht5
  obtain ⟨xa1, xc1, rfl⟩ := k4.shape
  obtain ⟨xa2, xc2, rfl⟩ := k5.shape
  obtain ⟨xa3, xc3, rfl⟩ := k6.shape
  obtain ⟨xa4, xc4, rfl⟩ := k7.shape
  obtain ⟨xa5, xc5, rfl⟩ := k8.shape
  have HO5 : Hid (TeacherOwn2 (w4.heap.size + 3) w5 (.agg #[.bool t.known, .int .i64 t.target.alphabet, .slice xa1 t.target.next.length xc1, .slice xa2 t.target.accept.length xc2, .int .i64 t.task.sys.alphabet, .int .i64 t.task.sys.states, .slice xa3 t.task.sys.edges.length xc3, .int .i64 t.task.prop.alphabet, .slice xa4 t.task.prop.next.length xc4, .slice xa5 t.task.prop.accept.length xc5, .int .i64 t.task.alphabet]) t) := Lib.hid ⟨mid, _, _, _, _, _, vs, rfl, k1, k2, k3, k4, k5, k6, k7, k8⟩
  have HX5 := Lib.hid (show ∀ w', Ext w5 w' → TeacherV w' (.agg #[.bool t.known, .int .i64 t.target.alphabet, .slice xa1 t.target.next.length xc1, .slice xa2 t.target.accept.length xc2, .int .i64 t.task.sys.alphabet, .int .i64 t.task.sys.states, .slice xa3 t.task.sys.edges.length xc3, .int .i64 t.task.prop.alphabet, .slice xa4 t.task.prop.next.length xc4, .slice xa5 t.task.prop.accept.length xc5, .int .i64 t.task.alphabet]) t from fun w' h => ⟨_, _, _, _, _, rfl, k4.intss.mono h, k5.bools.mono h, k6.edges.mono h, k7.intss.mono h, k8.bools.mono h⟩)
  replace hw := hw.trans he5
  replace b0 := b0.ext he5
  replace b4 := b4.ext he5
  replace y4 := y4.trans he5
  have n45 := he5.size
  clear b0_0 b0_1 b0_2 b0_3 b0_4 b0_5 b0_6 b0_7 b0_8 b0_9 b0_10 k1 k2 k3 k4 k5 k6 k7 k8 he5
  go_upto_region 7 with fail
  obtain ⟨w6, hw6⟩ : ∃ w6, w6 = w5.alloc (.cells #[.bool t.known, .int .i64 t.target.alphabet, .slice xa1 t.target.next.length xc1, .slice xa2 t.target.accept.length xc2, .int .i64 t.task.sys.alphabet, .int .i64 t.task.sys.states, .slice xa3 t.task.sys.edges.length xc3, .int .i64 t.task.prop.alphabet, .slice xa4 t.task.prop.next.length xc4, .slice xa5 t.task.prop.accept.length xc5, .int .i64 t.task.alphabet] 59) := ⟨_, rfl⟩
  have x6 : Ext w5 w6 := by rw [hw6]; exact Ext.alloc _ _
  have b6 : Blk w6 w5.heap.size #[.bool t.known, .int .i64 t.target.alphabet, .slice xa1 t.target.next.length xc1, .slice xa2 t.target.accept.length xc2, .int .i64 t.task.sys.alphabet, .int .i64 t.task.sys.states, .slice xa3 t.task.sys.edges.length xc3, .int .i64 t.task.prop.alphabet, .slice xa4 t.task.prop.next.length xc4, .slice xa5 t.task.prop.accept.length xc5, .int .i64 t.task.alphabet] 59 := by rw [hw6]; exact Blk.new _ _ _
  rw [← hw6]
  clear hw6
  replace hw := hw.trans x6
  replace b0 := b0.ext x6
  replace b4 := b4.ext x6
  replace y4 := y4.trans x6
  have y5 := x6
  have l6 := b6.lt
  have n56 := x6.size
  obtain ⟨p6, hp6⟩ : ∃ p6, w5.heap.size = p6 := ⟨_, rfl⟩
  rw [hp6] at b6 l6 n45 n56 ⊢
  clear x6
  have b6_0 := b6.cell 0 rfl; have b6_1 := b6.cell 1 rfl; have b6_2 := b6.cell 2 rfl; have b6_3 := b6.cell 3 rfl; have b6_4 := b6.cell 4 rfl; have b6_5 := b6.cell 5 rfl; have b6_6 := b6.cell 6 rfl; have b6_7 := b6.cell 7 rfl; have b6_8 := b6.cell 8 rfl; have b6_9 := b6.cell 9 rfl; have b6_10 := b6.cell 10 rfl
  go_wp2_with fail
  refine (CP.out _ _ (HX5.out _ y5) hw).mono ?_
  rintro e w7 ⟨v7, rfl, he7, vr7, vc7, rfl, hP7⟩
  obtain ⟨aR7, cR7, rfl⟩ : ∃ a c, vr7 = .slice a R.rows.length c := own_any' (hP7.own (slT vr7 R.rows) (by simp))
  obtain ⟨aC7, cC7, rfl⟩ : ∃ a c, vc7 = .slice a R.cols.length c := own_any' (hP7.own (slT vc7 R.cols) (by simp))
  replace b0 := b0.ext he7
  replace b4 := b4.ext he7
  replace b6 := b6.ext he7
  replace hw := hw.trans he7
  replace y4 := y4.trans he7
  replace y5 := y5.trans he7
  have n67 := he7.size
  have hS7 : ∀ b, (SlB (.slice aR7 R.rows.length cR7) b ∨ SlB (.slice aC7 R.cols.length cC7) b) → w6.heap.size ≤ b ∧ b < w7.heap.size := fun b hb => hb.elim (fun h => own_lt (hP7.own (slT (.slice aR7 R.rows.length cR7) R.rows) (by simp)) h) (fun h => own_lt (hP7.own (slT (.slice aC7 R.cols.length cC7) R.cols) (by simp)) h)
  have hO7 : TabO w6.heap.size w7 (.agg #[.slice aR7 R.rows.length cR7, .slice aC7 R.cols.length cC7]) R := ⟨_, _, rfl, hP7⟩
  clear b6_0 b6_1 b6_2 b6_3 b6_4 b6_5 b6_6 b6_7 b6_8 b6_9 b6_10 he7 hP7
  go_upto_region 8 with fail
  obtain ⟨w8, hw8⟩ : ∃ w8, w8 = w7.alloc (.cells #[.slice aR7 R.rows.length cR7, .slice aC7 R.cols.length cC7] 53) := ⟨_, rfl⟩
  have x8 : Ext w7 w8 := by rw [hw8]; exact Ext.alloc _ _
  have b7 : Blk w8 w7.heap.size #[.slice aR7 R.rows.length cR7, .slice aC7 R.cols.length cC7] 53 := by rw [hw8]; exact Blk.new _ _ _
  rw [← hw8]
  clear hw8
  replace b0 := b0.ext x8
  replace b4 := b4.ext x8
  replace b6 := b6.ext x8
  replace hw := hw.trans x8
  replace y4 := y4.trans x8
  replace y5 := y5.trans x8
  replace hO7 := hO7.ext x8
  have l7 := b7.lt
  obtain ⟨p7, hp7⟩ : ∃ p7, w7.heap.size = p7 := ⟨_, rfl⟩
  rw [hp7] at b7 l7 hS7 n67 ⊢
  clear x8 hp7
  have c0 := b7.cell 0 rfl; have c1 := b7.cell 1 rfl; have d0 := b4.cell 0 rfl; have d1 := b4.cell 1 rfl
  go_wp2_with fail
  refine (eqTable_t (hO7.tl HSM.out.1) (HR4.out _ y4)).mono ?_
  rintro e w9 ⟨rfl, he9⟩
  replace b0 := b0.ext he9
  replace b4 := b4.ext he9
  replace b6 := b6.ext he9
  replace b7 := b7.ext he9
  replace hw := hw.trans he9
  replace y4 := y4.trans he9
  replace y5 := y5.trans he9
  replace hO7 := hO7.ext he9
  clear c0 c1 d0 d1 he9
  go_wp2_with fail
  have c0 := fun d os => cell_regrown (b0.cell 0 rfl) d os; have d0 := fun d os => cell_regrown (b6.cell 0 rfl) d os; have c1 := fun d os => cell_regrown (b0.cell 1 rfl) d os; have d1 := fun d os => cell_regrown (b6.cell 1 rfl) d os; have c2 := fun d os => cell_regrown (b0.cell 2 rfl) d os; have d2 := fun d os => cell_regrown (b6.cell 2 rfl) d os; have c3 := fun d os => cell_regrown (b0.cell 3 rfl) d os; have d3 := fun d os => cell_regrown (b6.cell 3 rfl) d os; have c4 := fun d os => cell_regrown (b0.cell 4 rfl) d os; have d4 := fun d os => cell_regrown (b6.cell 4 rfl) d os; have c5 := fun d os => cell_regrown (b0.cell 5 rfl) d os; have d5 := fun d os => cell_regrown (b6.cell 5 rfl) d os; have c6 := fun d os => cell_regrown (b0.cell 6 rfl) d os; have d6 := fun d os => cell_regrown (b6.cell 6 rfl) d os; have c7 := fun d os => cell_regrown (b0.cell 7 rfl) d os; have d7 := fun d os => cell_regrown (b6.cell 7 rfl) d os; have c8 := fun d os => cell_regrown (b0.cell 8 rfl) d os; have d8 := fun d os => cell_regrown (b6.cell 8 rfl) d os; have c9 := fun d os => cell_regrown (b0.cell 9 rfl) d os; have d9 := fun d os => cell_regrown (b6.cell 9 rfl) d os; have c10 := fun d os => cell_regrown (b0.cell 10 rfl) d os; have d10 := fun d os => cell_regrown (b6.cell 10 rfl) d os
  obtain ⟨Kc, HKc⟩ : ∃ Kc : FuncId → Array Value → World → Value → World → Prop, Hid (Kc = fun f _ w0 v w' => Ext w0 w' ∧ (f = 14 → TeacherV w' v t) ∧ (f = 17 → v = .bool true)) := ⟨_, rfl⟩
  refine wp_region_ext (Kc := Kc) 5 (by kernel_rfl) (by kernel_rfl) ?_
  simp only [List.take_succ_cons, List.take_zero]
  repeat (refine WalkE.pure rfl (fun K hK => ?_); simp only [PureDo]; go_simp; refine hK _ ?_; clear hK K)
  refine WalkE.step (fun K hK wc hwc hdc => ?_)
  simp only [OpDo, OpSafe, OpOut]
  go_simp
  refine ⟨(toTeacher_c _ t _ (HT.out _ (hw.trans ((Ext.drew _).trans hwc))) HSZ.out).mono ?_, ?_⟩
  · rintro e w' ⟨v, rfl, he, hv⟩
    exact ⟨v, rfl, by rw [HKc.out]; exact ⟨he, fun _ => hv.teacher, fun h => by cases h⟩⟩
  intro v1 wx hk1
  rw [HKc.out] at hk1
  obtain ⟨hex, hv1, -⟩ := hk1
  have hv1 := hv1 rfl
  refine ⟨hex, hK _ _ ?_⟩
  clear hK K hdc
  refine WalkE.step (fun K hK wd hwd hdd => ?_)
  simp only [OpDo, OpSafe, OpOut]
  go_simp
  refine ⟨(eqTeacher_c _ _ t t _ (HX5.out _ (y5.trans ((Ext.drew _).trans hwd))) (hv1.mono (hdd ⟨2, .data⟩ (by simp) rfl))).mono ?_, ?_⟩
  · rintro e w' ⟨rfl, he⟩
    exact ⟨_, rfl, by rw [HKc.out]; exact ⟨he, (fun h => by cases h), fun _ => by simp⟩⟩
  intro v2 wy hk2
  rw [HKc.out] at hk2
  obtain ⟨hey, -, hv2⟩ := hk2
  obtain rfl := hv2 rfl
  refine ⟨hey, hK _ _ ?_⟩
  clear hK K hdd hv2
  repeat (refine WalkE.pure rfl (fun K hK => ?_); simp only [PureDo]; go_simp; refine hK _ ?_; clear hK K)
  refine WalkE.nil (fun wn hwn hm => ?_)
  simp only [List.drop_succ_cons, List.drop_zero, List.drop_nil]
  have xn10 : Ext w9 wn := (Ext.drew _).trans hwn
  replace b0 := b0.ext xn10
  replace b4 := b4.ext xn10
  replace b6 := b6.ext xn10
  replace b7 := b7.ext xn10
  replace hw := hw.trans xn10
  replace y4 := y4.trans xn10
  replace y5 := y5.trans xn10
  replace hO7 := hO7.ext xn10
  clear hm HKc hwn hwd hwc hex hey hv1 xn10 c0 d0 c1 d1 c2 d2 c3 d3 c4 d4 c5 d5 c6 d6 c7 d7 c8 d8 c9 d9 c10 d10
  have b6_0 := b6.cell 0 rfl; have b6_1 := b6.cell 1 rfl; have b6_2 := b6.cell 2 rfl; have b6_3 := b6.cell 3 rfl; have b6_4 := b6.cell 4 rfl; have b6_5 := b6.cell 5 rfl; have b6_6 := b6.cell 6 rfl; have b6_7 := b6.cell 7 rfl; have b6_8 := b6.cell 8 rfl; have b6_9 := b6.cell 9 rfl; have b6_10 := b6.cell 10 rfl
  go_wp2_with fail
  refine (markTeacher_x _ t _ w5 wn HO5.out y5 HSZ.out).mono ?_
  rintro e w11 ⟨rk, hrk, rfl, hg⟩
  clear b6_0 b6_1 b6_2 b6_3 b6_4 b6_5 b6_6 b6_7 b6_8 b6_9 b6_10
  replace b0 := b0.tnd hg (fun h => by unfold Span at h; omega)
  replace b4 := b4.tnd hg (fun h => by unfold Span at h; omega)
  replace b7 := b7.tnd hg (fun h => by unfold Span at h; omega)
  replace hw := ext_up hw hg (fun b h => by unfold Span at h; omega)
  replace y4 := ext_up y4 hg (fun b h => by unfold Span at h; omega)
  replace hO7 := hO7.up hg (fun b h => by unfold Span at h; omega)
  have hrk' : ¬ rk < 0 := by omega
  clear hg b6 y5 hrk
  have c0 := b7.cell 0 rfl; have c1 := b7.cell 1 rfl; have d0 := b4.cell 0 rfl; have d1 := b4.cell 1 rfl
  go_wp2_with fail
  refine (eqTable_t (hO7.tl HSM.out.1) (HR4.out _ y4)).mono ?_
  rintro e w12 ⟨rfl, he12⟩
  replace b0 := b0.ext he12
  replace b4 := b4.ext he12
  replace b7 := b7.ext he12
  replace hw := hw.trans he12
  replace y4 := y4.trans he12
  replace hO7 := hO7.ext he12
  clear c0 c1 d0 d1 he12
  have c0 := b7.cell 0 rfl; have c1 := b7.cell 1 rfl
  obtain ⟨_, _, e7, hP7⟩ := hO7
  simp only [Value.agg.injEq, Array.mk.injEq, List.cons.injEq, and_true] at e7
  obtain ⟨rfl, rfl⟩ := e7
  go_wp2_with fail
  refine (markTable_x _ _ R _ _ hP7 hkr).mono ?_
  rintro e w13 ⟨rfl, hg2, hMk⟩
  clear c0 c1 hP7
  replace b0 := b0.tnd hg2 (fun h => by have := hS7 _ h; omega)
  replace b4 := b4.tnd hg2 (fun h => by have := hS7 _ h; omega)
  replace b7 := b7.tnd hg2 (fun h => by have := hS7 _ h; omega)
  replace hw := ext_up hw hg2 (fun b h => by have := hS7 _ h; omega)
  replace y4 := ext_up y4 hg2 (fun b h => by have := hS7 _ h; omega)
  obtain ⟨kn, hkn⟩ : ∃ kn : Int, (1 : Int) + (R.rows.length : Nat) + (R.cols.length : Nat) = kn := ⟨_, rfl⟩
  have HHT := Lib.hid (fun w' (h : Ext w13 w') => by have := heldTable_c _ _ _ _ w' (hMk.ext h) hkr; rw [hkn] at this; exact this)
  have hkn0 : ¬ kn < 0 := by omega
  have hkk : (kn != kn) = false := by simp
  rw [hkn]
  clear hg2 hMk hkn
  have x13 : Ext w13 w13 := Ext.refl _
  have c0 := b7.cell 0 rfl; have c1 := b7.cell 1 rfl
  go_wp2_with fail
  refine (HHT.out _ x13).mono ?_
  rintro e w14 ⟨rfl, he14⟩
  replace b0 := b0.ext he14
  replace b4 := b4.ext he14
  replace b7 := b7.ext he14
  replace hw := hw.trans he14
  replace y4 := y4.trans he14
  replace x13 := x13.trans he14
  clear c0 c1 he14
  have b0_0 := b0.cell 0 rfl; have b0_1 := b0.cell 1 rfl; have b0_2 := b0.cell 2 rfl; have b0_3 := b0.cell 3 rfl; have b0_4 := b0.cell 4 rfl; have b0_5 := b0.cell 5 rfl; have b0_6 := b0.cell 6 rfl; have b0_7 := b0.cell 7 rfl; have b0_8 := b0.cell 8 rfl; have b0_9 := b0.cell 9 rfl; have b0_10 := b0.cell 10 rfl
  go_wp2_with fail
  refine (toTeacher_c _ t _ (HT.out _ hw) HSZ.out).mono ?_
  rintro e w15 ⟨vt, rfl, he15, ht15⟩
  replace hw := hw.trans he15
  replace b4 := b4.ext he15
  replace b7 := b7.ext he15
  replace y4 := y4.trans he15
  replace x13 := x13.trans he15
  clear b0_0 b0_1 b0_2 b0_3 b0_4 b0_5 b0_6 b0_7 b0_8 b0_9 b0_10 he15 b0
  go_wp2_with fail
  refine (CP.out _ _ ht15.teacher hw).mono ?_
  rintro e w16 ⟨v12, rfl, he16, vr9, vc9, rfl, hP9⟩
  obtain ⟨aR9, cR9, rfl⟩ : ∃ a c, vr9 = .slice a R.rows.length c := own_any' (hP9.own (slT vr9 R.rows) (by simp))
  obtain ⟨aC9, cC9, rfl⟩ : ∃ a c, vc9 = .slice a R.cols.length c := own_any' (hP9.own (slT vc9 R.cols) (by simp))
  have hO9 : TabO w15.heap.size w16 (.agg #[.slice aR9 R.rows.length cR9, .slice aC9 R.cols.length cC9]) R := ⟨_, _, rfl, hP9⟩
  replace hw := hw.trans he16
  replace b4 := b4.ext he16
  replace b7 := b7.ext he16
  replace y4 := y4.trans he16
  replace x13 := x13.trans he16
  clear ht15 he16 hP9
  go_upto_region 25 with fail
  obtain ⟨w17, hw17⟩ : ∃ w17, w17 = w16.alloc (.cells #[.slice aR9 R.rows.length cR9, .slice aC9 R.cols.length cC9] 53) := ⟨_, rfl⟩
  have x17 : Ext w16 w17 := by rw [hw17]; exact Ext.alloc _ _
  have b12 : Blk w17 w16.heap.size #[.slice aR9 R.rows.length cR9, .slice aC9 R.cols.length cC9] 53 := by rw [hw17]; exact Blk.new _ _ _
  rw [← hw17]
  clear hw17
  replace hw := hw.trans x17
  replace b4 := b4.ext x17
  replace b7 := b7.ext x17
  replace y4 := y4.trans x17
  replace x13 := x13.trans x17
  replace hO9 := hO9.ext x17
  clear x17
  generalize w16.heap.size = p12 at b12 ⊢
  have c0 := b12.cell 0 rfl; have c1 := b12.cell 1 rfl; have d0 := b4.cell 0 rfl; have d1 := b4.cell 1 rfl
  go_wp2_with fail
  refine (eqTable_t (hO9.tl HSM.out.1) (HR4.out _ y4)).mono ?_
  rintro e w18 ⟨rfl, he18⟩
  replace hw := hw.trans he18
  replace b7 := b7.ext he18
  replace x13 := x13.trans he18
  clear c0 c1 d0 d1 he18 b4 b12 hO9
  have c0 := b7.cell 0 rfl; have c1 := b7.cell 1 rfl
  go_wp2_with fail
  refine (HHT.out _ x13).mono ?_
  rintro e w19 ⟨rfl, he19⟩
  replace hw := hw.trans he19
  go_wp2_with fail
  go_ret
  exact Grows.mk rfl hw
end Go.Proofs.YtanekmfifmkbmaaGreatDoor.lawFnExactNewTable
