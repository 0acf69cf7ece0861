/- FnExactKeepsUnder: for every system and two automata the program's KeepsUnder returns what the reference's returns, and leaves its arguments as they were. No condition beyond what the given card bears. -/
import Derived.Test.YtkkligbobkmomaaDoorDet
import Derived.Test.YtkkligbobkmomaaDoorCard
import Derived.Test.YtkkligbobkmomaaDoorInj
namespace Go.Proofs.YtkkligbobkmomaaDoor.lawKeepsUnder
open Go.ChangeShapes Go.WideShapes Go.ChangeAt Go.RowKit
open Go.Proofs.YtkkligbobkmomaaDoor
open Go.ChangeMaps (open_string shut_string)
set_option linter.unusedVariables false
set_option linter.unusedSimpArgs false
set_option maxHeartbeats 1600000
set_option maxRecDepth 100000

theorem walk (v0 : Value) (t0 : Sys) (v1 : Value) (t1 : Auto) (v2 : Value) (t2 : Auto) (w : World) (hv0 : SysV w v0 t0) (hv1 : AutoV w v1 t1) (hv2 : AutoV w v2 t2) (hD : Deb w) : Calls Tryd.prog 6 #[v0, v1, v2] w (Grows (.bool true) w) := by
  have HDeb := Lib.hid hD
  clear hD
  obtain ⟨c0e, rfl, g00⟩ := hv0
  have hT0 : ∀ w', Ext w w' → SysV w' (.agg #[.int .i64 t0.alphabet, .int .i64 t0.states, c0e]) t0 := fun w' he => ⟨_, rfl, g00.mono he⟩
  have HT0 := Lib.hid hT0
  clear hT0 g00
  obtain ⟨c1n, c1a, rfl, g10, g11⟩ := hv1
  have hT1 : ∀ w', Ext w w' → AutoV w' (.agg #[.int .i64 t1.alphabet, c1n, c1a]) t1 := fun w' he => ⟨_, _, rfl, g10.mono he, g11.mono he⟩
  have HT1 := Lib.hid hT1
  clear hT1 g10 g11
  obtain ⟨c2n, c2a, rfl, g20, g21⟩ := hv2
  have hT2 : ∀ w', Ext w w' → AutoV w' (.agg #[.int .i64 t2.alphabet, c2n, c2a]) t2 := fun w' he => ⟨_, _, rfl, g20.mono he, g21.mono he⟩
  have HT2 := Lib.hid hT2
  clear hT2 g20 g21
  go_enter Tryd.func6, Tryd.ntmps6
  go_wp2_with fail
  refine (szSystem_s _ t0 _ _ (HT0.out _ (((Ext.alloc _ _).trans (Ext.alloc _ _)).trans (Ext.alloc _ _))) (by omega) (by omega)).mono ?_
  rintro e w1 ⟨r0, rfl, he1, hr0⟩
  have B0 := he1.peel.peel.blk
  have B1 := he1.peel.blk1
  have B2 := he1.blk2
  have hw := he1.peel.peel.peel
  rcases hr0 with rfl | ⟨hz0, hr0⟩
  · go_wp2_with fail
    go_ret
    exact Grows.mk rfl hw
  have hs0 : szSys t0 ≤ 1048576 := by have := hr0.out; omega
  have hl0 : r0 ≤ 1048576 := by have := hr0.out; omega
  have B1_0 := B1.cell 0 rfl
  have B1_1 := B1.cell 1 rfl
  have B1_2 := B1.cell 2 rfl
  go_wp2_with fail
  refine (szAutomaton_s _ t1 _ _ (HT1.out _ hw) hz0 hl0).mono ?_
  rintro e w2 ⟨r1, rfl, he2, hr1⟩
  clear B1_0 B1_1 B1_2
  replace B0 := B0.ext he2
  replace B1 := B1.ext he2
  replace B2 := B2.ext he2
  replace hw := hw.trans he2
  rcases hr1 with rfl | ⟨hz1, hr1⟩
  · go_wp2_with fail
    go_ret
    exact Grows.mk rfl hw
  have hs1 : szAuto t1 ≤ 1048576 := by have := hr1.out; omega
  have hl1 : r1 ≤ 1048576 := by have := hr1.out; omega
  have B2_0 := B2.cell 0 rfl
  have B2_1 := B2.cell 1 rfl
  have B2_2 := B2.cell 2 rfl
  go_wp2_with fail
  refine (szAutomaton_s _ t2 _ _ (HT2.out _ hw) hz1 hl1).mono ?_
  rintro e w3 ⟨r2, rfl, he3, hr2⟩
  clear B2_0 B2_1 B2_2
  replace B0 := B0.ext he3
  replace B1 := B1.ext he3
  replace B2 := B2.ext he3
  replace hw := hw.trans he3
  rcases hr2 with rfl | ⟨hz2, hr2⟩
  · go_wp2_with fail
    go_ret
    exact Grows.mk rfl hw
  have hs2 : szAuto t2 ≤ 1048576 := by have := hr2.out; omega
  have hl2 : r2 ≤ 1048576 := by have := hr2.out; omega
  go_wp2_with fail
  have D0_0 := fun d os => cell_regrown (B0.cell 0 rfl) d os
  have D0_1 := fun d os => cell_regrown (B0.cell 1 rfl) d os
  have D0_2 := fun d os => cell_regrown (B0.cell 2 rfl) d os
  have D1_0 := fun d os => cell_regrown (B1.cell 0 rfl) d os
  have D1_1 := fun d os => cell_regrown (B1.cell 1 rfl) d os
  have D1_2 := fun d os => cell_regrown (B1.cell 2 rfl) d os
  have D2_0 := fun d os => cell_regrown (B2.cell 0 rfl) d os
  have D2_1 := fun d os => cell_regrown (B2.cell 1 rfl) d os
  have D2_2 := fun d os => cell_regrown (B2.cell 2 rfl) d os
  obtain ⟨Kc, HKc⟩ : ∃ Kc : FuncId → Array Value → World → Value → World → Prop, Hid (Kc = fun f args w0 v w' => Ext w0 w' ∧ (f = 25 → ∀ u s, args = #[u] → SysV w0 u s → SysV w' v s) ∧ (f = 26 → ∀ u s, args = #[u] → AutoV w0 u s → AutoV w' v s) ∧ (f = 30 → v = .bool (underB t0 t1 t2))) := ⟨_, rfl⟩
  refine wp_region_ext (Kc := Kc) 7 (by kernel_rfl) (by kernel_rfl) ?_
  simp only [List.take_succ_cons, List.take_zero]
  repeat (refine WalkE.pure rfl (fun K hK => ?_); simp only [PureDo]; go_simp; refine hK _ ?_; clear hK K)
  refine WalkE.step (fun K hK wc5 hwc5 hdc5 => ?_)
  simp only [OpDo, OpSafe, OpOut]
  go_simp
  refine ⟨(toSystem_c _ t0 _ (HT0.out _ (hw.trans ((Ext.drew _).trans hwc5))) hs0).mono ?_, ?_⟩
  · rintro e w' ⟨v, rfl, he, hv⟩
    exact ⟨v, rfl, by rw [HKc.out]; exact ⟨he, (fun _ u s h hu => by simp only [Array.mk.injEq, List.cons.injEq, and_true] at h; subst h; rw [← (HT0.out _ (hw.trans ((Ext.drew _).trans hwc5))).inj hu]; exact hv.sys), (fun h => by cases h), fun h => by cases h⟩⟩
  intro u0 x0 hk0
  rw [HKc.out] at hk0
  have hy0 := hk0.2.1 rfl _ _ rfl (HT0.out _ (hw.trans ((Ext.drew _).trans hwc5)))
  refine ⟨hk0.1, hK _ _ ?_⟩
  clear hK K hdc5 hk0
  repeat (refine WalkE.pure rfl (fun K hK => ?_); simp only [PureDo]; go_simp; refine hK _ ?_; clear hK K)
  refine WalkE.step (fun K hK wc6 hwc6 hdc6 => ?_)
  simp only [OpDo, OpSafe, OpOut]
  go_simp
  refine ⟨(toAutomaton_c _ t1 _ (HT1.out _ (hw.trans ((Ext.drew _).trans hwc6))) hs1).mono ?_, ?_⟩
  · rintro e w' ⟨v, rfl, he, hv⟩
    exact ⟨v, rfl, by rw [HKc.out]; exact ⟨he, (fun h => by cases h), (fun _ u s h hu => by simp only [Array.mk.injEq, List.cons.injEq, and_true] at h; subst h; rw [← (HT1.out _ (hw.trans ((Ext.drew _).trans hwc6))).inj hu]; exact hv.auto), fun h => by cases h⟩⟩
  intro u1 x1 hk1
  rw [HKc.out] at hk1
  have hy1 := hk1.2.2.1 rfl _ _ rfl (HT1.out _ (hw.trans ((Ext.drew _).trans hwc6)))
  refine ⟨hk1.1, hK _ _ ?_⟩
  clear hK K hdc6 hk1
  repeat (refine WalkE.pure rfl (fun K hK => ?_); simp only [PureDo]; go_simp; refine hK _ ?_; clear hK K)
  refine WalkE.step (fun K hK wc7 hwc7 hdc7 => ?_)
  simp only [OpDo, OpSafe, OpOut]
  go_simp
  refine ⟨(toAutomaton_c _ t2 _ (HT2.out _ (hw.trans ((Ext.drew _).trans hwc7))) hs2).mono ?_, ?_⟩
  · rintro e w' ⟨v, rfl, he, hv⟩
    exact ⟨v, rfl, by rw [HKc.out]; exact ⟨he, (fun h => by cases h), (fun _ u s h hu => by simp only [Array.mk.injEq, List.cons.injEq, and_true] at h; subst h; rw [← (HT2.out _ (hw.trans ((Ext.drew _).trans hwc7))).inj hu]; exact hv.auto), fun h => by cases h⟩⟩
  intro u2 x2 hk2
  rw [HKc.out] at hk2
  have hy2 := hk2.2.2.1 rfl _ _ rfl (HT2.out _ (hw.trans ((Ext.drew _).trans hwc7)))
  refine ⟨hk2.1, hK _ _ ?_⟩
  clear hK K hdc7 hk2
  repeat (refine WalkE.pure rfl (fun K hK => ?_); simp only [PureDo]; go_simp; refine hK _ ?_; clear hK K)
  refine WalkE.step (fun K hK wc8 hwc8 hdc8 => ?_)
  simp only [OpDo, OpSafe, OpOut]
  go_simp
  refine ⟨(KeepsUnder_sd _ _ _ t0 t1 t2 _ (hy0.mono (hdc8 ⟨1, .data⟩ (by simp) rfl)) (hy1.mono (hdc8 ⟨3, .data⟩ (by simp) rfl)) (hy2.mono (hdc8 ⟨5, .data⟩ (by simp) rfl)) (by have := hs0; unfold szSys at this; omega)).mono ?_, ?_⟩
  · rintro e w' ⟨rfl, he⟩
    exact ⟨_, rfl, by rw [HKc.out]; exact ⟨he, (fun h => by cases h), (fun h => by cases h), fun _ => rfl⟩⟩
  intro uz xz hkz
  rw [HKc.out] at hkz
  obtain rfl := hkz.2.2.2 rfl
  refine ⟨hkz.1, hK _ _ ?_⟩
  clear hK K hdc8 hkz hy0 hy1 hy2
  repeat (refine WalkE.pure rfl (fun K hK => ?_); simp only [PureDo]; go_simp; refine hK _ ?_; clear hK K)
  refine WalkE.nil (fun wn hwn hmn => ?_)
  simp only [List.drop_succ_cons, List.drop_zero, List.drop_nil]
  clear hmn HKc
  clear D0_0 D0_1 D0_2 D1_0 D1_1 D1_2 D2_0 D2_1 D2_2
  replace B0 := B0.ext ((Ext.drew _).trans hwn)
  replace B1 := B1.ext ((Ext.drew _).trans hwn)
  replace B2 := B2.ext ((Ext.drew _).trans hwn)
  replace hw := hw.trans ((Ext.drew _).trans hwn)
  have B0_0 := B0.cell 0 rfl
  have B0_1 := B0.cell 1 rfl
  have B0_2 := B0.cell 2 rfl
  go_wp2_with fail
  refine (toSystem_c _ t0 _ (HT0.out _ hw) hs0).mono ?_
  rintro e w9 ⟨vx0, rfl, he9, ho0⟩
  clear B0_0 B0_1 B0_2
  replace B0 := B0.ext he9
  replace B1 := B1.ext he9
  replace B2 := B2.ext he9
  replace hw := hw.trans he9
  have hX0 := ho0.sys
  clear ho0
  obtain ⟨x0e, rfl, k00⟩ := hX0
  obtain ⟨yx0e, zx0e, rfl, -, -⟩ := k00.open
  have hX0 : SysV _ (.agg #[.int .i64 t0.alphabet, .int .i64 t0.states, _]) t0 := ⟨_, rfl, k00⟩
  clear k00
  have B1_0 := fun o => (B1.ext (Ext.alloc _ o)).cell 0 rfl
  have B1_1 := fun o => (B1.ext (Ext.alloc _ o)).cell 1 rfl
  have B1_2 := fun o => (B1.ext (Ext.alloc _ o)).cell 2 rfl
  go_wp2_with fail
  refine (toAutomaton_c _ t1 _ (HT1.out _ (hw.trans (Ext.alloc _ _))) hs1).mono ?_
  rintro e w10 ⟨vx1, rfl, he10, ho1⟩
  have X0 := he10.blk
  clear B1_0 B1_1 B1_2
  replace B0 := B0.ext he10.peel
  replace B1 := B1.ext he10.peel
  replace B2 := B2.ext he10.peel
  replace hw := hw.trans he10.peel
  replace hX0 := hX0.mono he10.peel
  have hX1 := ho1.auto
  clear ho1
  obtain ⟨x1n, x1a, rfl, k10, k11⟩ := hX1
  obtain ⟨yx1n, zx1n, rfl, -, -⟩ := k10.open
  obtain ⟨yx1a, zx1a, rfl, -, -⟩ := k11.open
  have hX1 : AutoV _ (.agg #[.int .i64 t1.alphabet, _, _]) t1 := ⟨_, _, rfl, k10, k11⟩
  clear k10 k11
  have B2_0 := fun o => (B2.ext (Ext.alloc _ o)).cell 0 rfl
  have B2_1 := fun o => (B2.ext (Ext.alloc _ o)).cell 1 rfl
  have B2_2 := fun o => (B2.ext (Ext.alloc _ o)).cell 2 rfl
  go_wp2_with fail
  refine (toAutomaton_c _ t2 _ (HT2.out _ (hw.trans (Ext.alloc _ _))) hs2).mono ?_
  rintro e w11 ⟨vx2, rfl, he11, ho2⟩
  have X1 := he11.blk
  clear B2_0 B2_1 B2_2
  replace B0 := B0.ext he11.peel
  replace B1 := B1.ext he11.peel
  replace B2 := B2.ext he11.peel
  replace X0 := X0.ext he11.peel
  replace hw := hw.trans he11.peel
  replace hX0 := hX0.mono he11.peel
  replace hX1 := hX1.mono he11.peel
  have hX2 := ho2.auto
  clear ho2
  obtain ⟨x2n, x2a, rfl, k20, k21⟩ := hX2
  obtain ⟨yx2n, zx2n, rfl, -, -⟩ := k20.open
  obtain ⟨yx2a, zx2a, rfl, -, -⟩ := k21.open
  have hX2 : AutoV _ (.agg #[.int .i64 t2.alphabet, _, _]) t2 := ⟨_, _, rfl, k20, k21⟩
  clear k20 k21
  have X0_0 := fun o => (X0.ext (Ext.alloc _ o)).cell 0 rfl
  have X0_1 := fun o => (X0.ext (Ext.alloc _ o)).cell 1 rfl
  have X0_2 := fun o => (X0.ext (Ext.alloc _ o)).cell 2 rfl
  have X1_0 := fun o => (X1.ext (Ext.alloc _ o)).cell 0 rfl
  have X1_1 := fun o => (X1.ext (Ext.alloc _ o)).cell 1 rfl
  have X1_2 := fun o => (X1.ext (Ext.alloc _ o)).cell 2 rfl
  go_wp2_with fail
  refine (KeepsUnder_cd _ _ _ t0 t1 t2 _ (hX0.mono (Ext.alloc _ _)) (hX1.mono (Ext.alloc _ _)) (hX2.mono (Ext.alloc _ _)) (HDeb.out.ext (hw.trans (Ext.alloc _ _)))).mono ?_
  rintro e w12 ⟨rfl, he12⟩
  have X2 := he12.blk
  clear X0_0 X0_1 X0_2 X1_0 X1_1 X1_2
  replace B0 := B0.ext he12.peel
  replace B1 := B1.ext he12.peel
  replace B2 := B2.ext he12.peel
  replace X0 := X0.ext he12.peel
  replace X1 := X1.ext he12.peel
  replace hw := hw.trans he12.peel
  replace hX0 := hX0.mono he12.peel
  replace hX1 := hX1.mono he12.peel
  replace hX2 := hX2.mono he12.peel
  have hq : (underB t0 t1 t2 != underB t0 t1 t2) = false := by simp
  go_wp2_with fail
  have DB0_0 := fun d os => cell_regrown (B0.cell 0 rfl) d os
  have DX0_0 := fun d os => cell_regrown (X0.cell 0 rfl) d os
  have DB0_1 := fun d os => cell_regrown (B0.cell 1 rfl) d os
  have DX0_1 := fun d os => cell_regrown (X0.cell 1 rfl) d os
  have DB0_2 := fun d os => cell_regrown (B0.cell 2 rfl) d os
  have DX0_2 := fun d os => cell_regrown (X0.cell 2 rfl) d os
  obtain ⟨Kc, HKc⟩ : ∃ Kc : FuncId → Array Value → World → Value → World → Prop, Hid (Kc = fun f _ w0 v w' => Ext w0 w' ∧ (f = 25 → SysV w' v t0) ∧ (f = 28 → v = .bool true)) := ⟨_, rfl⟩
  refine wp_region_ext (Kc := Kc) 5 (by kernel_rfl) (by kernel_rfl) ?_
  simp only [List.take_succ_cons, List.take_zero]
  repeat (refine WalkE.pure rfl (fun K hK => ?_); simp only [PureDo]; go_simp; refine hK _ ?_; clear hK K)
  refine WalkE.step (fun K hK wc13 hwc13 hdc13 => ?_)
  simp only [OpDo, OpSafe, OpOut]
  go_simp
  refine ⟨(toSystem_c _ t0 _ (HT0.out _ (hw.trans ((Ext.drew _).trans hwc13))) hs0).mono ?_, ?_⟩
  · rintro e w' ⟨v, rfl, he, hv⟩
    exact ⟨v, rfl, by rw [HKc.out]; exact ⟨he, (fun _ => hv.sys), fun h => by cases h⟩⟩
  intro u0 x0 hk0
  rw [HKc.out] at hk0
  have hy0 := hk0.2.1 rfl
  refine ⟨hk0.1, hK _ _ ?_⟩
  clear hK K hdc13 hk0
  refine WalkE.step (fun K hK wd13 hwd13 hdd13 => ?_)
  simp only [OpDo, OpSafe, OpOut]
  go_simp
  refine ⟨(eqSystem_c _ _ t0 t0 _ (hX0.mono ((Ext.drew _).trans hwd13)) (hy0.mono (hdd13 ⟨2, .data⟩ (by simp) rfl))).mono ?_, ?_⟩
  · rintro e w' ⟨rfl, he⟩
    exact ⟨_, rfl, by rw [HKc.out]; exact ⟨he, (fun h => by cases h), fun _ => by simp⟩⟩
  intro uu0 xx0 hkk0
  rw [HKc.out] at hkk0
  obtain rfl := hkk0.2.2 rfl
  refine ⟨hkk0.1, hK _ _ ?_⟩
  clear hK K hdd13 hkk0 hy0
  repeat (refine WalkE.pure rfl (fun K hK => ?_); simp only [PureDo]; go_simp; refine hK _ ?_; clear hK K)
  refine WalkE.nil (fun wn13 hwn13 hmn13 => ?_)
  simp only [List.drop_succ_cons, List.drop_zero, List.drop_nil]
  clear hmn13 HKc
  clear DB0_0 DX0_0 DB0_1 DX0_1 DB0_2 DX0_2
  replace B0 := B0.ext ((Ext.drew _).trans hwn13)
  replace B1 := B1.ext ((Ext.drew _).trans hwn13)
  replace B2 := B2.ext ((Ext.drew _).trans hwn13)
  replace X0 := X0.ext ((Ext.drew _).trans hwn13)
  replace X1 := X1.ext ((Ext.drew _).trans hwn13)
  replace X2 := X2.ext ((Ext.drew _).trans hwn13)
  replace hw := hw.trans ((Ext.drew _).trans hwn13)
  replace hX0 := hX0.mono ((Ext.drew _).trans hwn13)
  replace hX1 := hX1.mono ((Ext.drew _).trans hwn13)
  replace hX2 := hX2.mono ((Ext.drew _).trans hwn13)
  go_wp2_with fail
  have DB1_0 := fun d os => cell_regrown (B1.cell 0 rfl) d os
  have DX1_0 := fun d os => cell_regrown (X1.cell 0 rfl) d os
  have DB1_1 := fun d os => cell_regrown (B1.cell 1 rfl) d os
  have DX1_1 := fun d os => cell_regrown (X1.cell 1 rfl) d os
  have DB1_2 := fun d os => cell_regrown (B1.cell 2 rfl) d os
  have DX1_2 := fun d os => cell_regrown (X1.cell 2 rfl) d os
  obtain ⟨Kc, HKc⟩ : ∃ Kc : FuncId → Array Value → World → Value → World → Prop, Hid (Kc = fun f _ w0 v w' => Ext w0 w' ∧ (f = 26 → AutoV w' v t1) ∧ (f = 29 → v = .bool true)) := ⟨_, rfl⟩
  refine wp_region_ext (Kc := Kc) 5 (by kernel_rfl) (by kernel_rfl) ?_
  simp only [List.take_succ_cons, List.take_zero]
  repeat (refine WalkE.pure rfl (fun K hK => ?_); simp only [PureDo]; go_simp; refine hK _ ?_; clear hK K)
  refine WalkE.step (fun K hK wc14 hwc14 hdc14 => ?_)
  simp only [OpDo, OpSafe, OpOut]
  go_simp
  refine ⟨(toAutomaton_c _ t1 _ (HT1.out _ (hw.trans ((Ext.drew _).trans hwc14))) hs1).mono ?_, ?_⟩
  · rintro e w' ⟨v, rfl, he, hv⟩
    exact ⟨v, rfl, by rw [HKc.out]; exact ⟨he, (fun _ => hv.auto), fun h => by cases h⟩⟩
  intro u1 x1 hk1
  rw [HKc.out] at hk1
  have hy1 := hk1.2.1 rfl
  refine ⟨hk1.1, hK _ _ ?_⟩
  clear hK K hdc14 hk1
  refine WalkE.step (fun K hK wd14 hwd14 hdd14 => ?_)
  simp only [OpDo, OpSafe, OpOut]
  go_simp
  refine ⟨(eqAutomaton_c _ _ t1 t1 _ (hX1.mono ((Ext.drew _).trans hwd14)) (hy1.mono (hdd14 ⟨2, .data⟩ (by simp) rfl))).mono ?_, ?_⟩
  · rintro e w' ⟨rfl, he⟩
    exact ⟨_, rfl, by rw [HKc.out]; exact ⟨he, (fun h => by cases h), fun _ => by simp⟩⟩
  intro uu1 xx1 hkk1
  rw [HKc.out] at hkk1
  obtain rfl := hkk1.2.2 rfl
  refine ⟨hkk1.1, hK _ _ ?_⟩
  clear hK K hdd14 hkk1 hy1
  repeat (refine WalkE.pure rfl (fun K hK => ?_); simp only [PureDo]; go_simp; refine hK _ ?_; clear hK K)
  refine WalkE.nil (fun wn14 hwn14 hmn14 => ?_)
  simp only [List.drop_succ_cons, List.drop_zero, List.drop_nil]
  clear hmn14 HKc
  clear DB1_0 DX1_0 DB1_1 DX1_1 DB1_2 DX1_2
  replace B0 := B0.ext ((Ext.drew _).trans hwn14)
  replace B1 := B1.ext ((Ext.drew _).trans hwn14)
  replace B2 := B2.ext ((Ext.drew _).trans hwn14)
  replace X0 := X0.ext ((Ext.drew _).trans hwn14)
  replace X1 := X1.ext ((Ext.drew _).trans hwn14)
  replace X2 := X2.ext ((Ext.drew _).trans hwn14)
  replace hw := hw.trans ((Ext.drew _).trans hwn14)
  replace hX0 := hX0.mono ((Ext.drew _).trans hwn14)
  replace hX1 := hX1.mono ((Ext.drew _).trans hwn14)
  replace hX2 := hX2.mono ((Ext.drew _).trans hwn14)
  go_wp2_with fail
  have DB2_0 := fun d os => cell_regrown (B2.cell 0 rfl) d os
  have DX2_0 := fun d os => cell_regrown (X2.cell 0 rfl) d os
  have DB2_1 := fun d os => cell_regrown (B2.cell 1 rfl) d os
  have DX2_1 := fun d os => cell_regrown (X2.cell 1 rfl) d os
  have DB2_2 := fun d os => cell_regrown (B2.cell 2 rfl) d os
  have DX2_2 := fun d os => cell_regrown (X2.cell 2 rfl) d os
  obtain ⟨Kc, HKc⟩ : ∃ Kc : FuncId → Array Value → World → Value → World → Prop, Hid (Kc = fun f _ w0 v w' => Ext w0 w' ∧ (f = 26 → AutoV w' v t2) ∧ (f = 29 → v = .bool true)) := ⟨_, rfl⟩
  refine wp_region_ext (Kc := Kc) 5 (by kernel_rfl) (by kernel_rfl) ?_
  simp only [List.take_succ_cons, List.take_zero]
  repeat (refine WalkE.pure rfl (fun K hK => ?_); simp only [PureDo]; go_simp; refine hK _ ?_; clear hK K)
  refine WalkE.step (fun K hK wc15 hwc15 hdc15 => ?_)
  simp only [OpDo, OpSafe, OpOut]
  go_simp
  refine ⟨(toAutomaton_c _ t2 _ (HT2.out _ (hw.trans ((Ext.drew _).trans hwc15))) hs2).mono ?_, ?_⟩
  · rintro e w' ⟨v, rfl, he, hv⟩
    exact ⟨v, rfl, by rw [HKc.out]; exact ⟨he, (fun _ => hv.auto), fun h => by cases h⟩⟩
  intro u2 x2 hk2
  rw [HKc.out] at hk2
  have hy2 := hk2.2.1 rfl
  refine ⟨hk2.1, hK _ _ ?_⟩
  clear hK K hdc15 hk2
  refine WalkE.step (fun K hK wd15 hwd15 hdd15 => ?_)
  simp only [OpDo, OpSafe, OpOut]
  go_simp
  refine ⟨(eqAutomaton_c _ _ t2 t2 _ (hX2.mono ((Ext.drew _).trans hwd15)) (hy2.mono (hdd15 ⟨2, .data⟩ (by simp) rfl))).mono ?_, ?_⟩
  · rintro e w' ⟨rfl, he⟩
    exact ⟨_, rfl, by rw [HKc.out]; exact ⟨he, (fun h => by cases h), fun _ => by simp⟩⟩
  intro uu2 xx2 hkk2
  rw [HKc.out] at hkk2
  obtain rfl := hkk2.2.2 rfl
  refine ⟨hkk2.1, hK _ _ ?_⟩
  clear hK K hdd15 hkk2 hy2
  repeat (refine WalkE.pure rfl (fun K hK => ?_); simp only [PureDo]; go_simp; refine hK _ ?_; clear hK K)
  refine WalkE.nil (fun wn15 hwn15 hmn15 => ?_)
  simp only [List.drop_succ_cons, List.drop_zero, List.drop_nil]
  clear hmn15 HKc
  clear DB2_0 DX2_0 DB2_1 DX2_1 DB2_2 DX2_2
  replace B0 := B0.ext ((Ext.drew _).trans hwn15)
  replace B1 := B1.ext ((Ext.drew _).trans hwn15)
  replace B2 := B2.ext ((Ext.drew _).trans hwn15)
  replace X0 := X0.ext ((Ext.drew _).trans hwn15)
  replace X1 := X1.ext ((Ext.drew _).trans hwn15)
  replace X2 := X2.ext ((Ext.drew _).trans hwn15)
  replace hw := hw.trans ((Ext.drew _).trans hwn15)
  replace hX0 := hX0.mono ((Ext.drew _).trans hwn15)
  replace hX1 := hX1.mono ((Ext.drew _).trans hwn15)
  replace hX2 := hX2.mono ((Ext.drew _).trans hwn15)
  go_wp2_with fail
  go_ret
  exact Grows.mk rfl hw

theorem own : ownKnob Tryd.prog.godebug = none := by kernel_rfl
theorem laidOut : laidOutB Tryd.prog = true := by kernel_rfl
theorem deb_of_laid {W : World} (h : laidMetH Tryd.prog Rows.fnExactKeepsUnderRow.laid W) : Deb W := debOfLaid h
theorem laid_met (os : Os) (args : Array Value) : laidMetH Tryd.prog Rows.fnExactKeepsUnderRow.laid ((laidWorld os).forCall (fun _ _ => 0) ⟨#[], args, []⟩).memory :=
  (LaidIn.of_run [0, 1] 8 (by kernel_rfl) (by kernel_rfl) (by kernel_rfl) (by kernel_rfl)).met
set_option maxRecDepth 100000 in
theorem lifted (os : Os) (started : os.Started) (H : Type) (enc : TypeId × Value → H) :
    ReturnsInHanded {} Tryd.checked os 6 .any (fun w args => (Rows.fnExactKeepsUnderSpec.pre enc Tryd.prog Tryd.f6 [] false w args ∧ laidMetH Tryd.prog Rows.fnExactKeepsUnderRow.laid w) ∧ sizedMet enc Tryd.prog Tryd.f6 (OpenSpec.ofChange Rows.fnExactKeepsUnderSpec) false w args)
      (Rows.fnExactKeepsUnderSpec.post enc Tryd.prog Tryd.f6 false true false false) := by
  refine returnsInHanded_of_change_and (C := Tryd.checked) (X := fun w _ => laidMetH Tryd.prog Rows.fnExactKeepsUnderRow.laid w) (fun _ _ _ hh h => h.of_heap hh) own started (by kernel_rfl) Tryd.func6
    (ChangeSpec.witness_at (enc := enc) (C := Tryd.checked) (os := os) (X := fun w _ => laidMetH Tryd.prog Rows.fnExactKeepsUnderRow.laid w) false (laidWorld os) #[.agg #[.int .i64 0, .int .i64 0, .slice none 0 0], .agg #[.int .i64 0, .slice none 0 0, .slice none 0 0], .agg #[.int .i64 0, .slice none 0 0, .slice none 0 0]] 8 rfl (by kernel_rfl) (by kernel_rfl) (by kernel_rfl) (by kernel_rfl) (by kernel_rfl) (laid_met os _)) ?_
  intro W base args ds gs before hval0 hW _ _ hL _
  have hval : ∀ (j : Nat) t v, Tryd.f6.params[j]? = some t → args[j]? = some v → Value.okWide Tryd.prog W .any base t v := hval0
  have hW' := hW
  obtain ⟨p, q, hA0, hV, rfl, hfz, hnd⟩ := hW
  have hA : DataW.TrodAll enc Tryd.prog W 0 (fun _ => true) true Tryd.f6.params.toList args.toList ds p := hA0
  rw [Tryd.params6] at hA hval
  obtain ⟨v0, vs0, d0, ds0, p0, q0, hargs, rfl, rfl, h0, r0⟩ := trodAll_cons hA
  obtain ⟨v1, vs1, d1, ds1, p1, q1, rfl, rfl, rfl, h1, r1⟩ := trodAll_cons r0
  obtain ⟨v2, vs2, d2, ds2, p2, q2, rfl, rfl, rfl, h2, r2⟩ := trodAll_cons r1
  obtain ⟨rfl, rfl, rfl⟩ := trodAll_nil r2
  obtain rfl : args = #[v0, v1, v2] := by cases args; simp_all
  obtain ⟨rfl, rfl⟩ := trodVars_none hV
  have k0 := h0
  have lt0 : ∀ x ∈ p0, x.block < W.heap.size := by obtain ⟨m, hm⟩ := k0; exact DataW.trod_lt m _ _ _ hm
  obtain ⟨cs0, rfl, hcs0⟩ := okWide_struct Tryd.underlying24 (hval 0 _ v0 rfl rfl)
  obtain ⟨t0, w0⟩ : ∃ t, SysV W (.agg cs0) t := by
    obtain ⟨fuel, hf⟩ := h0
    obtain ⟨t, ht⟩ := read_sys hf
    exact ⟨t, by simpa [Value.cells] using ht⟩
  have k1 := h1
  have lt1 : ∀ x ∈ p1, x.block < W.heap.size := by obtain ⟨m, hm⟩ := k1; exact DataW.trod_lt m _ _ _ hm
  obtain ⟨cs1, rfl, hcs1⟩ := okWide_struct Tryd.underlying28 (hval 1 _ v1 rfl rfl)
  obtain ⟨t1, w1⟩ : ∃ t, AutoV W (.agg cs1) t := by
    obtain ⟨fuel, hf⟩ := h1
    obtain ⟨t, ht⟩ := read_auto hf
    exact ⟨t, by simpa [Value.cells] using ht⟩
  have k2 := h2
  have lt2 : ∀ x ∈ p2, x.block < W.heap.size := by obtain ⟨m, hm⟩ := k2; exact DataW.trod_lt m _ _ _ hm
  obtain ⟨cs2, rfl, hcs2⟩ := okWide_struct Tryd.underlying28 (hval 2 _ v2 rfl rfl)
  obtain ⟨t2, w2⟩ : ∃ t, AutoV W (.agg cs2) t := by
    obtain ⟨fuel, hf⟩ := h2
    obtain ⟨t, ht⟩ := read_auto hf
    exact ⟨t, by simpa [Value.cells] using ht⟩
  clear hA0 hval0
  refine (walk (.agg cs0) t0 (.agg cs1) t1 (.agg cs2) t2 W w0 w1 w2 (deb_of_laid hL)).mono fun e W' ⟨he, bel⟩ => ?_
  subst he
  exact ⟨_, rfl, _, _, _, [], _, [], hW', trodAll_mk1 (shut_bool Tryd.underlying4 _), (trodAll_cons_mk (Below.trod laidOut (by kernel_rfl) (of_decide_eq_true (by kernel_rfl)) k0 bel lt0) (trodAll_cons_mk (Below.trod laidOut (by kernel_rfl) (of_decide_eq_true (by kernel_rfl)) k1 bel lt1) (trodAll_cons_mk (Below.trod laidOut (by kernel_rfl) (of_decide_eq_true (by kernel_rfl)) k2 bel lt2) trodAll_mk0))), rfl, bel.frame _, fun h => by cases h⟩

theorem over : Rows.fnExactKeepsUnderRow.holds Tryd.pinned (OpenSpec.ofChange Rows.fnExactKeepsUnderSpec) :=
  OpenClaim.holds_of_wide 6 Tryd.f6 rfl rfl rfl rfl rfl rfl rfl ⟨rfl, rfl, rfl, rfl, rfl⟩ rfl rfl rfl rfl rfl (by kernel_rfl) Tryd.func6 (by kernel_rfl)
    (of_decide_eq_true (by kernel_rfl)) (by unfold Func.isWrapper; first | (rw [if_pos (by decide +kernel)]; kernel_rfl) | (rw [if_neg (by decide +kernel)]; exact ⟨rfl, rfl⟩))
    (fun os started H enc _ => lifted os started H enc)

theorem card_holds : Rows.FnExactKeepsUnderCardSaid :=
  Claim7.holds_tied_plain_at .later [] [.data, .data] true (true, "09b0ac7573a475bbb3029f40232a3b5094a4ea8b30fcc7e3c3263b5c36eec647") false
    over (fun _ h => by cases h) (by kernel_rfl) (fun _ h => by cases h) fnExactKeepsUnder_row_tie rfl ⟨rfl, rfl⟩ (by kernel_rfl) rfl
    (fun f fn hf hfn => by
      obtain rfl : f = 6 := Option.some.inj ((show Tryd.prog.funcNamed "loop.example/assumeguarantee/laws.FnExactKeepsUnder" = some 6 by kernel_rfl).symm.trans hf) |>.symm
      obtain rfl : fn = Tryd.f6 := (Option.some.inj (Tryd.func6.symm.trans hfn)).symm
      refine ⟨by kernel_rfl, fun j t ht => ?_⟩
      rw [Tryd.params6] at ht
      match j, ht with
      | 0, ht =>
        have h0 : t = 24 := by simpa using ht.symm
        subst h0
        exact (show Tryd.prog.wantsStandIn 24 = false by kernel_rfl)
      | 1, ht =>
        have h1 : t = 28 := by simpa using ht.symm
        subst h1
        exact (show Tryd.prog.wantsStandIn 28 = false by kernel_rfl)
      | 2, ht =>
        have h2 : t = 28 := by simpa using ht.symm
        subst h2
        exact (show Tryd.prog.wantsStandIn 28 = false by kernel_rfl)
      | j + 3, ht => simp at ht)
    (by kernel_rfl)
#print axioms card_holds
end Go.Proofs.YtkkligbobkmomaaDoor.lawKeepsUnder
