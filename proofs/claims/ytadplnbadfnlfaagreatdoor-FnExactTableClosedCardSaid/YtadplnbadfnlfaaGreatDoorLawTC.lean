/- Part of this seat's proofs, cut to what its law needs. -/

import Derived.Test.YtadplnbadfnlfaaGreatDoorOpr
import Derived.Test.YtadplnbadfnlfaaGreatDoorTabL
import Derived.Test.YtadplnbadfnlfaaGreatDoorTabR
import Derived.Test.YtadplnbadfnlfaaGreatDoorWalkE
import Derived.Test.YtadplnbadfnlfaaGreatDoorWalkA
namespace Go.Proofs.YtadplnbadfnlfaaGreatDoor.lawFnExactTableClosed
open Go.ChangeShapes Go.WideShapes Go.ChangeAt Go.RowKit
open Go.Proofs.YtadplnbadfnlfaaGreatDoor
open Go.ChangeMaps (open_string shut_string)
set_option linter.unusedVariables false
set_option linter.unusedSimpArgs false
set_option maxHeartbeats 1600000
set_option maxRecDepth 100000

theorem walk (v0 : Value) (t0 : Teacher) (v1 : Value) (t1 : Table) (w : World) (hv0 : TeacherV w v0 t0) (hv1 : TableL w v1 t1) (hD : Deb w) : Calls Tryz.prog 6 #[v0, v1] w (Grows (.bool true) w) := by
  have HDeb := Lib.hid hD
  clear hD
  obtain ⟨c0n, c0a, c0e, c0m, c0b, rfl, g00, g01, g02, g03, g04⟩ := hv0
  have hT0 : ∀ w', Ext w w' → TeacherV w' (.agg #[.bool t0.known, .int .i64 t0.target.alphabet, c0n, c0a, .int .i64 t0.task.sys.alphabet, .int .i64 t0.task.sys.states, c0e, .int .i64 t0.task.prop.alphabet, c0m, c0b, .int .i64 t0.task.alphabet]) t0 := fun w' he => ⟨_, _, _, _, _, rfl, g00.mono he, g01.mono he, g02.mono he, g03.mono he, g04.mono he⟩
  have HT0 := Lib.hid hT0
  clear hT0 g00 g01 g02 g03 g04
  obtain ⟨c1r, c1c, rfl, g10, g11⟩ := hv1
  have hT1 : ∀ w', Ext w w' → TableL w' (.agg #[c1r, c1c]) t1 := fun w' he => ⟨_, _, rfl, g10.mono he, g11.mono he⟩
  have HT1 := Lib.hid hT1
  clear hT1 g10 g11
  go_enter Tryz.func6, Tryz.ntmps6
  go_wp2_with fail
  refine (szTeacher_s _ t0 _ _ (HT0.out _ ((Ext.alloc _ _).trans (Ext.alloc _ _))) (by omega) (by omega)).mono ?_
  rintro e w1 ⟨r0, rfl, he1, hr0⟩
  have B0 := he1.peel.blk
  have B1 := he1.blk1
  have hw := he1.peel.peel
  rcases hr0 with rfl | ⟨hz0, hr0⟩
  · go_wp2_with fail
    go_ret
    exact Grows.mk rfl hw
  have hs0 : szTch t0 ≤ 1048576 := by have := hr0.out; omega
  have hl0 : r0 ≤ 1048576 := by have := hr0.out; omega
  have B1_0 := B1.cell 0 rfl
  have B1_1 := B1.cell 1 rfl
  go_wp2_with fail
  refine (szTable_s _ t1 _ _ (HT1.out _ hw) hz0 hl0).mono ?_
  rintro e w2 ⟨r1, rfl, he2, hr1⟩
  clear B1_0 B1_1
  replace B0 := B0.ext he2
  replace B1 := B1.ext he2
  replace hw := hw.trans he2
  rcases hr1 with rfl | ⟨hz1, hr1⟩
  · go_wp2_with fail
    go_ret
    exact Grows.mk rfl hw
  have hs1 : szTab t1 ≤ 1048576 := by have := hr1.out; omega
  have hl1 : r1 ≤ 1048576 := by have := hr1.out; omega
  go_wp2_with fail
  have D0_0 := fun d os => cell_regrown (B0.cell 0 rfl) d os
  have D0_1 := fun d os => cell_regrown (B0.cell 1 rfl) d os
  have D0_2 := fun d os => cell_regrown (B0.cell 2 rfl) d os
  have D0_3 := fun d os => cell_regrown (B0.cell 3 rfl) d os
  have D0_4 := fun d os => cell_regrown (B0.cell 4 rfl) d os
  have D0_5 := fun d os => cell_regrown (B0.cell 5 rfl) d os
  have D0_6 := fun d os => cell_regrown (B0.cell 6 rfl) d os
  have D0_7 := fun d os => cell_regrown (B0.cell 7 rfl) d os
  have D0_8 := fun d os => cell_regrown (B0.cell 8 rfl) d os
  have D0_9 := fun d os => cell_regrown (B0.cell 9 rfl) d os
  have D0_10 := fun d os => cell_regrown (B0.cell 10 rfl) d os
  have D1_0 := fun d os => cell_regrown (B1.cell 0 rfl) d os
  have D1_1 := fun d os => cell_regrown (B1.cell 1 rfl) d os
  obtain ⟨Kc, HKc⟩ : ∃ Kc : FuncId → Array Value → World → Value → World → Prop, Hid (Kc = fun f args w0 v w' => Ext w0 w' ∧ (f = 21 → TeacherV w' v t0) ∧ (f = 22 → TableL w' v t1) ∧ (f = 28 → v = .bool (closedB t0 t1))) := ⟨_, rfl⟩
  refine wp_region_ext (Kc := Kc) 5 (by kernel_rfl) (by kernel_rfl) ?_
  simp only [List.take_succ_cons, List.take_zero]
  repeat (refine WalkE.pure rfl (fun K hK => ?_); simp only [PureDo]; go_simp; refine hK _ ?_; clear hK K)
  refine WalkE.step (fun K hK wc4 hwc4 hdc4 => ?_)
  simp only [OpDo, OpSafe, OpOut]
  go_simp
  refine ⟨(toTeacher_c _ t0 _ (HT0.out _ (hw.trans ((Ext.drew _).trans hwc4))) hs0).mono ?_, ?_⟩
  · rintro e w' ⟨v, rfl, he, hv⟩
    exact ⟨v, rfl, by rw [HKc.out]; exact ⟨he, (fun _ => hv.teacher), (fun h => by cases h), fun h => by cases h⟩⟩
  intro u0 x0 hk0
  rw [HKc.out] at hk0
  have hy0 := hk0.2.1 rfl
  refine ⟨hk0.1, hK _ _ ?_⟩
  clear hK K hdc4 hk0
  repeat (refine WalkE.pure rfl (fun K hK => ?_); simp only [PureDo]; go_simp; refine hK _ ?_; clear hK K)
  refine WalkE.step (fun K hK wc5 hwc5 hdc5 => ?_)
  simp only [OpDo, OpSafe, OpOut]
  go_simp
  refine ⟨(toTable_c _ t1 _ (HT1.out _ (hw.trans ((Ext.drew _).trans hwc5))) hs1).mono ?_, ?_⟩
  · rintro e w' ⟨v, rfl, he, hv⟩
    exact ⟨v, rfl, by rw [HKc.out]; exact ⟨he, (fun h => by cases h), (fun _ => hv.table), fun h => by cases h⟩⟩
  intro u1 x1 hk1
  rw [HKc.out] at hk1
  have hy1 := hk1.2.2.1 rfl
  refine ⟨hk1.1, hK _ _ ?_⟩
  clear hK K hdc5 hk1
  repeat (refine WalkE.pure rfl (fun K hK => ?_); simp only [PureDo]; go_simp; refine hK _ ?_; clear hK K)
  refine WalkE.step (fun K hK wc6 hwc6 hdc6 => ?_)
  simp only [OpDo, OpSafe, OpOut]
  go_simp
  refine ⟨(TableClosed_s _ t0 _ t1 _ (hy0.mono (hdc6 ⟨1, .data⟩ (by simp) rfl)) (hy1.mono (hdc6 ⟨3, .data⟩ (by simp) rfl)).tab (szTab_fit hs1) (by have := hs0; unfold szTch szTsk szSys at this; omega)).mono ?_, ?_⟩
  · rintro e w' ⟨rfl, he⟩
    exact ⟨_, rfl, by rw [HKc.out]; exact ⟨he, (fun h => by cases h), (fun h => by cases h), fun _ => rfl⟩⟩
  intro uz xz hkz
  rw [HKc.out] at hkz
  obtain rfl := hkz.2.2.2 rfl
  refine ⟨hkz.1, hK _ _ ?_⟩
  clear hK K hdc6 hkz hy0 hy1
  repeat (refine WalkE.pure rfl (fun K hK => ?_); simp only [PureDo]; go_simp; refine hK _ ?_; clear hK K)
  refine WalkE.nil (fun wn hwn hmn => ?_)
  simp only [List.drop_succ_cons, List.drop_zero, List.drop_nil]
  clear hmn HKc
  clear D0_0 D0_1 D0_2 D0_3 D0_4 D0_5 D0_6 D0_7 D0_8 D0_9 D0_10 D1_0 D1_1
  replace B0 := B0.ext ((Ext.drew _).trans hwn)
  replace B1 := B1.ext ((Ext.drew _).trans hwn)
  replace hw := hw.trans ((Ext.drew _).trans hwn)
  have B0_0 := B0.cell 0 rfl
  have B0_1 := B0.cell 1 rfl
  have B0_2 := B0.cell 2 rfl
  have B0_3 := B0.cell 3 rfl
  have B0_4 := B0.cell 4 rfl
  have B0_5 := B0.cell 5 rfl
  have B0_6 := B0.cell 6 rfl
  have B0_7 := B0.cell 7 rfl
  have B0_8 := B0.cell 8 rfl
  have B0_9 := B0.cell 9 rfl
  have B0_10 := B0.cell 10 rfl
  go_wp2_with fail
  refine (toTeacher_c _ t0 _ (HT0.out _ hw) hs0).mono ?_
  rintro e w7 ⟨vx0, rfl, he7, ho0⟩
  clear B0_0 B0_1 B0_2 B0_3 B0_4 B0_5 B0_6 B0_7 B0_8 B0_9 B0_10
  replace B0 := B0.ext he7
  replace B1 := B1.ext he7
  replace hw := hw.trans he7
  have hX0 := ho0.teacher
  clear ho0
  obtain ⟨x0n, x0a, x0e, x0m, x0b, rfl, k00, k01, k02, k03, k04⟩ := hX0
  obtain ⟨yx0n, zx0n, rfl, -, -⟩ := k00.open
  obtain ⟨yx0a, zx0a, rfl, -, -⟩ := k01.open
  obtain ⟨yx0e, zx0e, rfl, -, -⟩ := k02.open
  obtain ⟨yx0m, zx0m, rfl, -, -⟩ := k03.open
  obtain ⟨yx0b, zx0b, rfl, -, -⟩ := k04.open
  have hX0 : TeacherV _ (.agg #[.bool t0.known, .int .i64 t0.target.alphabet, _, _, .int .i64 t0.task.sys.alphabet, .int .i64 t0.task.sys.states, _, .int .i64 t0.task.prop.alphabet, _, _, .int .i64 t0.task.alphabet]) t0 := ⟨_, _, _, _, _, rfl, k00, k01, k02, k03, k04⟩
  clear k00 k01 k02 k03 k04
  have B1_0 := fun o => (B1.ext (Ext.alloc _ o)).cell 0 rfl
  have B1_1 := fun o => (B1.ext (Ext.alloc _ o)).cell 1 rfl
  go_wp2_with fail
  refine (toTable_c _ t1 _ (HT1.out _ (hw.trans (Ext.alloc _ _))) hs1).mono ?_
  rintro e w8 ⟨vx1, rfl, he8, ho1⟩
  have X0 := he8.blk
  clear B1_0 B1_1
  replace B0 := B0.ext he8.peel
  replace B1 := B1.ext he8.peel
  replace hw := hw.trans he8.peel
  replace hX0 := hX0.mono he8.peel
  have hX1 := ho1.table
  clear ho1
  obtain ⟨x1r, x1c, rfl, k10, k11⟩ := hX1
  obtain ⟨yx1r, zx1r, rfl, -, -⟩ := k10.open
  obtain ⟨yx1c, zx1c, rfl, -, -⟩ := k11.open
  have hX1 : TableL _ (.agg #[_, _]) t1 := ⟨_, _, rfl, k10, k11⟩
  clear k10 k11
  have X0_0 := fun o => (X0.ext (Ext.alloc _ o)).cell 0 rfl
  have X0_1 := fun o => (X0.ext (Ext.alloc _ o)).cell 1 rfl
  have X0_2 := fun o => (X0.ext (Ext.alloc _ o)).cell 2 rfl
  have X0_3 := fun o => (X0.ext (Ext.alloc _ o)).cell 3 rfl
  have X0_4 := fun o => (X0.ext (Ext.alloc _ o)).cell 4 rfl
  have X0_5 := fun o => (X0.ext (Ext.alloc _ o)).cell 5 rfl
  have X0_6 := fun o => (X0.ext (Ext.alloc _ o)).cell 6 rfl
  have X0_7 := fun o => (X0.ext (Ext.alloc _ o)).cell 7 rfl
  have X0_8 := fun o => (X0.ext (Ext.alloc _ o)).cell 8 rfl
  have X0_9 := fun o => (X0.ext (Ext.alloc _ o)).cell 9 rfl
  have X0_10 := fun o => (X0.ext (Ext.alloc _ o)).cell 10 rfl
  go_wp2_with fail
  refine (TableClosed_c _ t0 _ t1 _ (hX0.mono (Ext.alloc _ _)) (hX1.mono (Ext.alloc _ _)).tab (szTab_fit hs1) (HDeb.out.ext (hw.trans (Ext.alloc _ _)))).mono ?_
  rintro e w9 ⟨rfl, he9⟩
  have X1 := he9.blk
  clear X0_0 X0_1 X0_2 X0_3 X0_4 X0_5 X0_6 X0_7 X0_8 X0_9 X0_10
  replace B0 := B0.ext he9.peel
  replace B1 := B1.ext he9.peel
  replace X0 := X0.ext he9.peel
  replace hw := hw.trans he9.peel
  replace hX0 := hX0.mono he9.peel
  replace hX1 := hX1.mono he9.peel
  have hq : (closedB t0 t1 != closedB t0 t1) = false := by simp
  go_wp2_with fail
  have DB0_0 := fun d os => cell_regrown (B0.cell 0 rfl) d os
  have DX0_0 := fun d os => cell_regrown (X0.cell 0 rfl) d os
  have DB0_1 := fun d os => cell_regrown (B0.cell 1 rfl) d os
  have DX0_1 := fun d os => cell_regrown (X0.cell 1 rfl) d os
  have DB0_2 := fun d os => cell_regrown (B0.cell 2 rfl) d os
  have DX0_2 := fun d os => cell_regrown (X0.cell 2 rfl) d os
  have DB0_3 := fun d os => cell_regrown (B0.cell 3 rfl) d os
  have DX0_3 := fun d os => cell_regrown (X0.cell 3 rfl) d os
  have DB0_4 := fun d os => cell_regrown (B0.cell 4 rfl) d os
  have DX0_4 := fun d os => cell_regrown (X0.cell 4 rfl) d os
  have DB0_5 := fun d os => cell_regrown (B0.cell 5 rfl) d os
  have DX0_5 := fun d os => cell_regrown (X0.cell 5 rfl) d os
  have DB0_6 := fun d os => cell_regrown (B0.cell 6 rfl) d os
  have DX0_6 := fun d os => cell_regrown (X0.cell 6 rfl) d os
  have DB0_7 := fun d os => cell_regrown (B0.cell 7 rfl) d os
  have DX0_7 := fun d os => cell_regrown (X0.cell 7 rfl) d os
  have DB0_8 := fun d os => cell_regrown (B0.cell 8 rfl) d os
  have DX0_8 := fun d os => cell_regrown (X0.cell 8 rfl) d os
  have DB0_9 := fun d os => cell_regrown (B0.cell 9 rfl) d os
  have DX0_9 := fun d os => cell_regrown (X0.cell 9 rfl) d os
  have DB0_10 := fun d os => cell_regrown (B0.cell 10 rfl) d os
  have DX0_10 := fun d os => cell_regrown (X0.cell 10 rfl) d os
  obtain ⟨Kc, HKc⟩ : ∃ Kc : FuncId → Array Value → World → Value → World → Prop, Hid (Kc = fun f _ w0 v w' => Ext w0 w' ∧ (f = 21 → TeacherV w' v t0) ∧ (f = 24 → v = .bool true)) := ⟨_, rfl⟩
  refine wp_region_ext (Kc := Kc) 5 (by kernel_rfl) (by kernel_rfl) ?_
  simp only [List.take_succ_cons, List.take_zero]
  repeat (refine WalkE.pure rfl (fun K hK => ?_); simp only [PureDo]; go_simp; refine hK _ ?_; clear hK K)
  refine WalkE.step (fun K hK wc10 hwc10 hdc10 => ?_)
  simp only [OpDo, OpSafe, OpOut]
  go_simp
  refine ⟨(toTeacher_c _ t0 _ (HT0.out _ (hw.trans ((Ext.drew _).trans hwc10))) hs0).mono ?_, ?_⟩
  · rintro e w' ⟨v, rfl, he, hv⟩
    exact ⟨v, rfl, by rw [HKc.out]; exact ⟨he, (fun _ => hv.teacher), fun h => by cases h⟩⟩
  intro u0 x0 hk0
  rw [HKc.out] at hk0
  have hy0 := hk0.2.1 rfl
  refine ⟨hk0.1, hK _ _ ?_⟩
  clear hK K hdc10 hk0
  refine WalkE.step (fun K hK wd10 hwd10 hdd10 => ?_)
  simp only [OpDo, OpSafe, OpOut]
  go_simp
  refine ⟨(eqTeacher_c _ _ t0 t0 _ (hX0.mono ((Ext.drew _).trans hwd10)) (hy0.mono (hdd10 ⟨2, .data⟩ (by simp) rfl))).mono ?_, ?_⟩
  · rintro e w' ⟨rfl, he⟩
    exact ⟨_, rfl, by rw [HKc.out]; exact ⟨he, (fun h => by cases h), fun _ => by simp⟩⟩
  intro uu0 xx0 hkk0
  rw [HKc.out] at hkk0
  obtain rfl := hkk0.2.2 rfl
  refine ⟨hkk0.1, hK _ _ ?_⟩
  clear hK K hdd10 hkk0 hy0
  repeat (refine WalkE.pure rfl (fun K hK => ?_); simp only [PureDo]; go_simp; refine hK _ ?_; clear hK K)
  refine WalkE.nil (fun wn10 hwn10 hmn10 => ?_)
  simp only [List.drop_succ_cons, List.drop_zero, List.drop_nil]
  clear hmn10 HKc
  clear DB0_0 DX0_0 DB0_1 DX0_1 DB0_2 DX0_2 DB0_3 DX0_3 DB0_4 DX0_4 DB0_5 DX0_5 DB0_6 DX0_6 DB0_7 DX0_7 DB0_8 DX0_8 DB0_9 DX0_9 DB0_10 DX0_10
  replace B0 := B0.ext ((Ext.drew _).trans hwn10)
  replace B1 := B1.ext ((Ext.drew _).trans hwn10)
  replace X0 := X0.ext ((Ext.drew _).trans hwn10)
  replace X1 := X1.ext ((Ext.drew _).trans hwn10)
  replace hw := hw.trans ((Ext.drew _).trans hwn10)
  replace hX0 := hX0.mono ((Ext.drew _).trans hwn10)
  replace hX1 := hX1.mono ((Ext.drew _).trans hwn10)
  go_wp2_with fail
  have DB1_0 := fun d os => cell_regrown (B1.cell 0 rfl) d os
  have DX1_0 := fun d os => cell_regrown (X1.cell 0 rfl) d os
  have DB1_1 := fun d os => cell_regrown (B1.cell 1 rfl) d os
  have DX1_1 := fun d os => cell_regrown (X1.cell 1 rfl) d os
  obtain ⟨Kc, HKc⟩ : ∃ Kc : FuncId → Array Value → World → Value → World → Prop, Hid (Kc = fun f _ w0 v w' => Ext w0 w' ∧ (f = 22 → TableL w' v t1) ∧ (f = 25 → v = .bool true)) := ⟨_, rfl⟩
  refine wp_region_ext (Kc := Kc) 5 (by kernel_rfl) (by kernel_rfl) ?_
  simp only [List.take_succ_cons, List.take_zero]
  repeat (refine WalkE.pure rfl (fun K hK => ?_); simp only [PureDo]; go_simp; refine hK _ ?_; clear hK K)
  refine WalkE.step (fun K hK wc11 hwc11 hdc11 => ?_)
  simp only [OpDo, OpSafe, OpOut]
  go_simp
  refine ⟨(toTable_c _ t1 _ (HT1.out _ (hw.trans ((Ext.drew _).trans hwc11))) hs1).mono ?_, ?_⟩
  · rintro e w' ⟨v, rfl, he, hv⟩
    exact ⟨v, rfl, by rw [HKc.out]; exact ⟨he, (fun _ => hv.table), fun h => by cases h⟩⟩
  intro u1 x1 hk1
  rw [HKc.out] at hk1
  have hy1 := hk1.2.1 rfl
  refine ⟨hk1.1, hK _ _ ?_⟩
  clear hK K hdc11 hk1
  refine WalkE.step (fun K hK wd11 hwd11 hdd11 => ?_)
  simp only [OpDo, OpSafe, OpOut]
  go_simp
  refine ⟨(eqTable_c _ _ t1 t1 _ (hX1.mono ((Ext.drew _).trans hwd11)) (hy1.mono (hdd11 ⟨2, .data⟩ (by simp) rfl))).mono ?_, ?_⟩
  · rintro e w' ⟨rfl, he⟩
    exact ⟨_, rfl, by rw [HKc.out]; exact ⟨he, (fun h => by cases h), fun _ => by simp⟩⟩
  intro uu1 xx1 hkk1
  rw [HKc.out] at hkk1
  obtain rfl := hkk1.2.2 rfl
  refine ⟨hkk1.1, hK _ _ ?_⟩
  clear hK K hdd11 hkk1 hy1
  repeat (refine WalkE.pure rfl (fun K hK => ?_); simp only [PureDo]; go_simp; refine hK _ ?_; clear hK K)
  refine WalkE.nil (fun wn11 hwn11 hmn11 => ?_)
  simp only [List.drop_succ_cons, List.drop_zero, List.drop_nil]
  clear hmn11 HKc
  clear DB1_0 DX1_0 DB1_1 DX1_1
  replace B0 := B0.ext ((Ext.drew _).trans hwn11)
  replace B1 := B1.ext ((Ext.drew _).trans hwn11)
  replace X0 := X0.ext ((Ext.drew _).trans hwn11)
  replace X1 := X1.ext ((Ext.drew _).trans hwn11)
  replace hw := hw.trans ((Ext.drew _).trans hwn11)
  replace hX0 := hX0.mono ((Ext.drew _).trans hwn11)
  replace hX1 := hX1.mono ((Ext.drew _).trans hwn11)
  go_wp2_with fail
  go_ret
  exact Grows.mk rfl hw
end Go.Proofs.YtadplnbadfnlfaaGreatDoor.lawFnExactTableClosed
