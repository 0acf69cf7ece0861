/- FnExactUnsafeWitness: for every task and every string the program's UnsafeWitness returns what the reference's returns, and leaves its arguments as they were. No condition beyond what the given card bears. -/
import Derived.Test.YtloampfmlhmlhaaDoorWalkUS
import Derived.Test.YtloampfmlhmlhaaDoorWalkUX
import Derived.Test.YtloampfmlhmlhaaDoorCard
import Derived.Test.YtloampfmlhmlhaaDoorInj
namespace Go.Proofs.YtloampfmlhmlhaaDoor.lawUnsafeWitness
open Go.ChangeShapes Go.WideShapes Go.ChangeAt Go.RowKit
open Go.Proofs.YtloampfmlhmlhaaDoor
open Go.ChangeMaps (open_string shut_string)
set_option linter.unusedVariables false
set_option linter.unusedSimpArgs false
set_option maxHeartbeats 1600000
set_option maxRecDepth 100000

theorem walk (v0 : Value) (t0 : Task) (s1 : ByteArray) (w : World) (hv0 : TaskV w v0 t0) (ws1 : s1.size ≤ maxLen) (hD : Deb w) : Calls Tryd.prog 3 #[v0, .string s1] w (Grows (.bool true) w) := by
  have HDeb := Lib.hid hD
  clear hD
  obtain ⟨c0e, c0n, c0a, rfl, g00, g01, g02⟩ := hv0
  have hT0 : ∀ w', Ext w w' → TaskV w' (.agg #[.int .i64 t0.sys.alphabet, .int .i64 t0.sys.states, c0e, .int .i64 t0.prop.alphabet, c0n, c0a, .int .i64 t0.alphabet]) t0 := fun w' he => ⟨_, _, _, rfl, g00.mono he, g01.mono he, g02.mono he⟩
  have HT0 := Lib.hid hT0
  clear hT0 g00 g01 g02
  unfold maxLen at ws1
  by_cases hz1 : 1048576 < s1.size
  · go_enter Tryd.func3, Tryd.ntmps3
    go_wp2_with fail
    go_ret
    exact Grows.mk rfl (Ext.alloc _ _)
  go_enter Tryd.func3, Tryd.ntmps3
  go_wp2_with fail
  refine (szTask_s _ t0 _ _ (HT0.out _ (Ext.alloc _ _)) (by omega) (by omega)).mono ?_
  rintro e w1 ⟨r0, rfl, he1, hr0⟩
  have B0 := he1.blk
  have hw := he1.peel
  rcases hr0 with rfl | ⟨hz0, hr0⟩
  · go_wp2_with fail
    go_ret
    exact Grows.mk rfl hw
  have hs0 : szTsk t0 ≤ 1048576 := by have := hr0.out; omega
  have hl0 : r0 ≤ 1048576 := by have := hr0.out; omega
  have B0_0 := B0.cell 0 rfl
  have B0_1 := B0.cell 1 rfl
  have B0_2 := B0.cell 2 rfl
  have B0_3 := B0.cell 3 rfl
  have B0_4 := B0.cell 4 rfl
  have B0_5 := B0.cell 5 rfl
  have B0_6 := B0.cell 6 rfl
  go_wp2_with fail
  refine (toTask_c _ t0 _ (HT0.out _ hw) hs0).mono ?_
  rintro e w2 ⟨vt, rfl, he2, ht⟩
  clear B0_0 B0_1 B0_2 B0_3 B0_4 B0_5 B0_6
  replace B0 := B0.ext he2
  replace hw := hw.trans he2
  have B0_0 := B0.cell 0 rfl
  have B0_1 := B0.cell 1 rfl
  have B0_2 := B0.cell 2 rfl
  have B0_3 := B0.cell 3 rfl
  have B0_4 := B0.cell 4 rfl
  have B0_5 := B0.cell 5 rfl
  have B0_6 := B0.cell 6 rfl
  go_wp2_with fail
  refine (UnsafeWitness_sd _ t0 s1 _ ht.task (by omega) (by have := hs0; unfold szTsk szSys at this; omega)).mono ?_
  rintro e w3 ⟨rfl, he3⟩
  clear B0_0 B0_1 B0_2 B0_3 B0_4 B0_5 B0_6
  replace B0 := B0.ext he3
  replace hw := hw.trans he3
  clear ht
  have B0_0 := B0.cell 0 rfl
  have B0_1 := B0.cell 1 rfl
  have B0_2 := B0.cell 2 rfl
  have B0_3 := B0.cell 3 rfl
  have B0_4 := B0.cell 4 rfl
  have B0_5 := B0.cell 5 rfl
  have B0_6 := B0.cell 6 rfl
  go_wp2_with fail
  refine (toTask_c _ t0 _ (HT0.out _ hw) hs0).mono ?_
  rintro e w4 ⟨vx0, rfl, he4, ho0⟩
  clear B0_0 B0_1 B0_2 B0_3 B0_4 B0_5 B0_6
  replace B0 := B0.ext he4
  replace hw := hw.trans he4
  have hX0 := ho0.task
  clear ho0
  obtain ⟨x0e, x0n, x0a, rfl, k00, k01, k02⟩ := hX0
  obtain ⟨yx0e, zx0e, rfl, -, -⟩ := k00.open
  obtain ⟨yx0n, zx0n, rfl, -, -⟩ := k01.open
  obtain ⟨yx0a, zx0a, rfl, -, -⟩ := k02.open
  have hX0 : TaskV _ (.agg #[.int .i64 t0.sys.alphabet, .int .i64 t0.sys.states, _, .int .i64 t0.prop.alphabet, _, _, .int .i64 t0.alphabet]) t0 := ⟨_, _, _, rfl, k00, k01, k02⟩
  clear k00 k01 k02
  go_wp2_with fail
  refine (UnsafeWitness_cd _ t0 s1 _ (hX0.mono (Ext.alloc _ _)) (by omega) (HDeb.out.ext (hw.trans (Ext.alloc _ _)))).mono ?_
  rintro e w5 ⟨rfl, he5⟩
  have X0 := he5.blk
  replace B0 := B0.ext he5.peel
  replace hw := hw.trans he5.peel
  replace hX0 := hX0.mono he5.peel
  have hq : ((uwOf t0 s1).isSome != (uwOf t0 s1).isSome) = false := by simp
  go_wp2_with fail
  have DB0_0 := fun d os => cell_regrown (B0.cell 0 rfl) d os
  have DX0_0 := fun d os => cell_regrown (X0.cell 0 rfl) d os
  have DB0_1 := fun d os => cell_regrown (B0.cell 1 rfl) d os
  have DX0_1 := fun d os => cell_regrown (X0.cell 1 rfl) d os
  have DB0_2 := fun d os => cell_regrown (B0.cell 2 rfl) d os
  have DX0_2 := fun d os => cell_regrown (X0.cell 2 rfl) d os
  have DB0_3 := fun d os => cell_regrown (B0.cell 3 rfl) d os
  have DX0_3 := fun d os => cell_regrown (X0.cell 3 rfl) d os
  have DB0_4 := fun d os => cell_regrown (B0.cell 4 rfl) d os
  have DX0_4 := fun d os => cell_regrown (X0.cell 4 rfl) d os
  have DB0_5 := fun d os => cell_regrown (B0.cell 5 rfl) d os
  have DX0_5 := fun d os => cell_regrown (X0.cell 5 rfl) d os
  have DB0_6 := fun d os => cell_regrown (B0.cell 6 rfl) d os
  have DX0_6 := fun d os => cell_regrown (X0.cell 6 rfl) d os
  obtain ⟨Kc, HKc⟩ : ∃ Kc : FuncId → Array Value → World → Value → World → Prop, Hid (Kc = fun f _ w0 v w' => Ext w0 w' ∧ (f = 7 → TaskV w' v t0) ∧ (f = 9 → v = .bool true)) := ⟨_, rfl⟩
  refine wp_region_ext (Kc := Kc) 5 (by kernel_rfl) (by kernel_rfl) ?_
  simp only [List.take_succ_cons, List.take_zero]
  repeat (refine WalkE.pure rfl (fun K hK => ?_); simp only [PureDo]; go_simp; refine hK _ ?_; clear hK K)
  refine WalkE.step (fun K hK wc6 hwc6 hdc6 => ?_)
  simp only [OpDo, OpSafe, OpOut]
  go_simp
  refine ⟨(toTask_c _ t0 _ (HT0.out _ (hw.trans ((Ext.drew _).trans hwc6))) hs0).mono ?_, ?_⟩
  · rintro e w' ⟨v, rfl, he, hv⟩
    exact ⟨v, rfl, by rw [HKc.out]; exact ⟨he, (fun _ => hv.task), fun h => by cases h⟩⟩
  intro u0 x0 hk0
  rw [HKc.out] at hk0
  have hy0 := hk0.2.1 rfl
  refine ⟨hk0.1, hK _ _ ?_⟩
  clear hK K hdc6 hk0
  refine WalkE.step (fun K hK wd6 hwd6 hdd6 => ?_)
  simp only [OpDo, OpSafe, OpOut]
  go_simp
  refine ⟨(eqTask_c _ _ t0 t0 _ (hX0.mono ((Ext.drew _).trans hwd6)) (hy0.mono (hdd6 ⟨2, .data⟩ (by simp) rfl))).mono ?_, ?_⟩
  · rintro e w' ⟨rfl, he⟩
    exact ⟨_, rfl, by rw [HKc.out]; exact ⟨he, (fun h => by cases h), fun _ => by simp⟩⟩
  intro uu0 xx0 hkk0
  rw [HKc.out] at hkk0
  obtain rfl := hkk0.2.2 rfl
  refine ⟨hkk0.1, hK _ _ ?_⟩
  clear hK K hdd6 hkk0 hy0
  repeat (refine WalkE.pure rfl (fun K hK => ?_); simp only [PureDo]; go_simp; refine hK _ ?_; clear hK K)
  refine WalkE.nil (fun wn6 hwn6 hmn6 => ?_)
  simp only [List.drop_succ_cons, List.drop_zero, List.drop_nil]
  clear hmn6 HKc
  clear DB0_0 DX0_0 DB0_1 DX0_1 DB0_2 DX0_2 DB0_3 DX0_3 DB0_4 DX0_4 DB0_5 DX0_5 DB0_6 DX0_6
  replace B0 := B0.ext ((Ext.drew _).trans hwn6)
  replace X0 := X0.ext ((Ext.drew _).trans hwn6)
  replace hw := hw.trans ((Ext.drew _).trans hwn6)
  replace hX0 := hX0.mono ((Ext.drew _).trans hwn6)
  go_wp2_with fail
  go_ret
  exact Grows.mk rfl hw

theorem own : ownKnob Tryd.prog.godebug = none := by kernel_rfl
theorem laidOut : laidOutB Tryd.prog = true := by kernel_rfl
theorem deb_of_laid {W : World} (h : laidMetH Tryd.prog Rows.fnExactUnsafeWitnessRow.laid W) : Deb W := debOfLaid h
theorem laid_met (os : Os) (args : Array Value) : laidMetH Tryd.prog Rows.fnExactUnsafeWitnessRow.laid ((laidWorld os).forCall (fun _ _ => 0) ⟨#[], args, []⟩).memory :=
  (LaidIn.of_run [0, 1] 8 (by kernel_rfl) (by kernel_rfl) (by kernel_rfl) (by kernel_rfl)).met
set_option maxRecDepth 100000 in
theorem lifted (os : Os) (started : os.Started) (H : Type) (enc : TypeId × Value → H) :
    ReturnsInHanded {} Tryd.checked os 3 .any (fun w args => (Rows.fnExactUnsafeWitnessSpec.pre enc Tryd.prog Tryd.f3 [] false w args ∧ laidMetH Tryd.prog Rows.fnExactUnsafeWitnessRow.laid w) ∧ sizedMet enc Tryd.prog Tryd.f3 (OpenSpec.ofChange Rows.fnExactUnsafeWitnessSpec) false w args)
      (Rows.fnExactUnsafeWitnessSpec.post enc Tryd.prog Tryd.f3 false true false false) := by
  refine returnsInHanded_of_change_and (C := Tryd.checked) (X := fun w _ => laidMetH Tryd.prog Rows.fnExactUnsafeWitnessRow.laid w) (fun _ _ _ hh h => h.of_heap hh) own started (by kernel_rfl) Tryd.func3
    (ChangeSpec.witness_at (enc := enc) (C := Tryd.checked) (os := os) (X := fun w _ => laidMetH Tryd.prog Rows.fnExactUnsafeWitnessRow.laid w) false (laidWorld os) #[.agg #[.int .i64 0, .int .i64 0, .slice none 0 0, .int .i64 0, .slice none 0 0, .slice none 0 0, .int .i64 0], .string ByteArray.empty] 8 rfl (by kernel_rfl) (by kernel_rfl) (by kernel_rfl) (by kernel_rfl) (by kernel_rfl) (laid_met os _)) ?_
  intro W base args ds gs before hval0 hW _ _ hL _
  have hval : ∀ (j : Nat) t v, Tryd.f3.params[j]? = some t → args[j]? = some v → Value.okWide Tryd.prog W .any base t v := hval0
  have hW' := hW
  obtain ⟨p, q, hA0, hV, rfl, hfz, hnd⟩ := hW
  have hA : DataW.TrodAll enc Tryd.prog W 0 (fun _ => true) true Tryd.f3.params.toList args.toList ds p := hA0
  rw [Tryd.params3] at hA hval
  obtain ⟨v0, vs0, d0, ds0, p0, q0, hargs, rfl, rfl, h0, r0⟩ := trodAll_cons hA
  obtain ⟨v1, vs1, d1, ds1, p1, q1, rfl, rfl, rfl, h1, r1⟩ := trodAll_cons r0
  obtain ⟨rfl, rfl, rfl⟩ := trodAll_nil r1
  obtain rfl : args = #[v0, v1] := by cases args; simp_all
  obtain ⟨rfl, rfl⟩ := trodVars_none hV
  have k0 := h0
  have lt0 : ∀ x ∈ p0, x.block < W.heap.size := by obtain ⟨m, hm⟩ := k0; exact DataW.trod_lt m _ _ _ hm
  obtain ⟨cs0, rfl, hcs0⟩ := okWide_struct Tryd.underlying30 (hval 0 _ v0 rfl rfl)
  obtain ⟨t0, w0⟩ : ∃ t, TaskV W (.agg cs0) t := by
    obtain ⟨fuel, hf⟩ := h0
    obtain ⟨t, ht⟩ := read_task hf
    exact ⟨t, by simpa [Value.cells] using ht⟩
  have k1 := h1
  have lt1 : ∀ x ∈ p1, x.block < W.heap.size := by obtain ⟨m, hm⟩ := k1; exact DataW.trod_lt m _ _ _ hm
  obtain ⟨s1, rfl, -, -, w1⟩ := open_string Tryd.underlying9 (hval 1 _ v1 rfl rfl) h1
  clear hA0 hval0
  refine (walk (.agg cs0) t0 s1 W w0 w1 (deb_of_laid hL)).mono fun e W' ⟨he, bel⟩ => ?_
  subst he
  exact ⟨_, rfl, _, _, _, [], _, [], hW', trodAll_mk1 (shut_bool Tryd.underlying4 _), (trodAll_cons_mk (Below.trod laidOut (by kernel_rfl) (of_decide_eq_true (by kernel_rfl)) k0 bel lt0) (trodAll_cons_mk (Below.trod laidOut (by kernel_rfl) (of_decide_eq_true (by kernel_rfl)) k1 bel lt1) trodAll_mk0)), rfl, bel.frame _, fun h => by cases h⟩

theorem over : Rows.fnExactUnsafeWitnessRow.holds Tryd.pinned (OpenSpec.ofChange Rows.fnExactUnsafeWitnessSpec) :=
  OpenClaim.holds_of_wide 3 Tryd.f3 rfl rfl rfl rfl rfl rfl rfl ⟨rfl, rfl, rfl, rfl, rfl⟩ rfl rfl rfl rfl rfl (by kernel_rfl) Tryd.func3 (by kernel_rfl)
    (of_decide_eq_true (by kernel_rfl)) (by unfold Func.isWrapper; first | (rw [if_pos (by decide +kernel)]; kernel_rfl) | (rw [if_neg (by decide +kernel)]; exact ⟨rfl, rfl⟩))
    (fun os started H enc _ => lifted os started H enc)

theorem card_holds : Rows.FnExactUnsafeWitnessCardSaid :=
  Claim7.holds_tied_plain_at .later [] [.data, .data] true (true, "ecd9f47c138b14e0af0225fbc5b90c17ece59448c49fdb2feff32884794d7155") false
    over (fun _ h => by cases h) (by kernel_rfl) (fun _ h => by cases h) fnExactUnsafeWitness_row_tie rfl ⟨rfl, rfl⟩ (by kernel_rfl) rfl
    (fun f fn hf hfn => by
      obtain rfl : f = 3 := Option.some.inj ((show Tryd.prog.funcNamed "loop.example/assumeguarantee/laws.FnExactUnsafeWitness" = some 3 by kernel_rfl).symm.trans hf) |>.symm
      obtain rfl : fn = Tryd.f3 := (Option.some.inj (Tryd.func3.symm.trans hfn)).symm
      refine ⟨by kernel_rfl, fun j t ht => ?_⟩
      rw [Tryd.params3] at ht
      match j, ht with
      | 0, ht =>
        have h0 : t = 30 := by simpa using ht.symm
        subst h0
        exact (show Tryd.prog.wantsStandIn 30 = false by kernel_rfl)
      | 1, ht =>
        have h1 : t = 9 := by simpa using ht.symm
        subst h1
        exact (show Tryd.prog.wantsStandIn 9 = false by kernel_rfl)
      | j + 2, ht => simp at ht)
    (by kernel_rfl)
#print axioms card_holds
end Go.Proofs.YtloampfmlhmlhaaDoor.lawUnsafeWitness
