/- FnExactPartsKeep: for every list of systems and automaton the program's PartsKeep returns what the reference's returns, and leaves its arguments as they were. No condition beyond what the given card bears. -/
import Derived.Test.YtkkligbobkmomaaDoorDet
import Derived.Test.YtkkligbobkmomaaDoorCard
namespace Go.Proofs.YtkkligbobkmomaaDoor.lawPartsKeep
set_option linter.unusedSimpArgs false
set_option linter.unusedVariables false
open Go.ChangeShapes Go.WideShapes Go.ChangeAt Go.RowKit
open Go.Proofs.YtkkligbobkmomaaDoor
set_option maxHeartbeats 1600000
set_option maxRecDepth 100000

theorem walk (v0 : Value) (t0 : List Sys) (v1 : Value) (t1 : Auto) (w : World) (hv0 : SyssV w v0 t0) (hv1 : AutoV w v1 t1) (hT : Deb w) :
    Calls Tryd.prog 10 #[v0, v1] w (Grows (.bool true) w) := by
  have H0 := Lib.hid hv0
  have H1 := Lib.hid hv1
  obtain ⟨a0, c0, rfl, -, -⟩ := hv0.open
  obtain ⟨vn, va, rfl, h2, h3⟩ := hv1
  obtain ⟨an, cn, rfl, -, -⟩ := h2.open
  obtain ⟨aa, ca, rfl, -, -⟩ := h3.open
  clear h2 h3 hv0
  go_enter Tryd.func10, Tryd.ntmps10
  go_wp2_with fail
  have he : Ext w (w.alloc (.cells #[.int .i64 t1.alphabet, .slice an t1.next.length cn, .slice aa t1.accept.length ca] 28)) := Ext.alloc _ _
  have hB := Blk.new w #[.int .i64 t1.alphabet, .slice an t1.next.length cn, .slice aa t1.accept.length ca] 28
  generalize w.alloc (.cells #[.int .i64 t1.alphabet, .slice an t1.next.length cn, .slice aa t1.accept.length ca] 28) = wo at he hB ⊢
  refine (szSystemS_s _ t0 _ _ (H0.out.mono he) (by omega) (by omega)).mono ?_
  rintro e w1 ⟨r0, rfl, he1, hr0⟩
  rcases hr0 with rfl | ⟨hz0, hr0⟩
  · go_wp2_with fail
    go_ret
    exact Grows.mk rfl (he.trans he1)
  have hs0 : szSyss t0 ≤ 1048576 := by have := hr0.out; omega
  have hl0 : r0 ≤ 1048576 := by have := hr0.out; omega
  have hB1 := hB.ext he1
  have hx1 := he.trans he1
  have p0 := hB1.cell 0 rfl
  have p1 := hB1.cell 1 rfl
  have p2 := hB1.cell 2 rfl
  go_wp2_with fail
  refine (szAutomaton_s _ t1 _ _ (H1.out.mono hx1) hz0 hl0).mono ?_
  rintro e w2 ⟨r1, rfl, he2, hr1⟩
  rcases hr1 with rfl | ⟨hz1, hr1⟩
  · go_wp2_with fail
    go_ret
    exact Grows.mk rfl (hx1.trans he2)
  have hs1 : szAuto t1 ≤ 1048576 := by have := hr1.out; omega
  have hB2 := hB1.ext he2
  have hx2 := hx1.trans he2
  clear p0 p1 p2
  have hl0' : t0.length ≤ 1048576 := by unfold szSyss at hs0; omega
  have hel : ∀ s ∈ t0, s.edges.length ≤ 1048576 := by
    intro s hs
    have : ∀ l : List Sys, s ∈ l → s.edges.length ≤ (l.map szSys).sum := by
      intro l
      induction l with
      | nil => intro h; cases h
      | cons a l ih =>
        intro h
        rw [List.map_cons, List.sum_cons]
        rcases List.mem_cons.1 h with rfl | h
        · unfold szSys; omega
        · have := ih h; omega
    have := this t0 hs
    unfold szSyss at hs0
    omega
  go_wp2_with fail
  have HT := Lib.hid hT
  have D0 := fun d os => cell_regrown (hB2.cell 0 rfl) d os
  have D1 := fun d os => cell_regrown (hB2.cell 1 rfl) d os
  have D2 := fun d os => cell_regrown (hB2.cell 2 rfl) d os
  obtain ⟨Kc, HKc⟩ : ∃ Kc : FuncId → Array Value → World → Value → World → Prop, Hid (Kc = fun (f : FuncId) (_ : Array Value) (w0 : World) (v : Value) (w' : World) => Ext w0 w' ∧ (f = 38 → SyssV w' v t0) ∧ (f = 26 → AutoV w' v t1) ∧ (f = 41 → v = .bool (keepsB t0 t1))) := ⟨_, rfl⟩
  refine wp_region_ext (Kc := Kc) 5 (by kernel_rfl) (by kernel_rfl) ?_
  simp only [List.take_succ_cons, List.take_zero]
  repeat (refine WalkE.pure rfl (fun K hK => ?_); simp only [PureDo]; go_simp; refine hK _ ?_; clear hK K)
  refine WalkE.step (fun K hK wc hwc hdc => ?_)
  simp only [OpDo, OpSafe, OpOut]
  go_simp
  refine ⟨(toSystemS_c _ t0 _ (H0.out.mono (hx2.trans ((Ext.drew _).trans hwc))) hs0).mono ?_, ?_⟩
  · rintro e w' ⟨v, rfl, he, hv⟩
    exact ⟨v, rfl, by rw [HKc.out]; exact ⟨he, fun _ => hv, fun h => absurd h (by decide), fun h => absurd h (by decide)⟩⟩
  intro u1 w4 hk1
  rw [HKc.out] at hk1
  obtain ⟨hk1, hy1, -⟩ := hk1
  have hy1 := hy1 rfl
  refine ⟨hk1, hK _ _ ?_⟩
  clear hK K hdc
  repeat (refine WalkE.pure rfl (fun K hK => ?_); simp only [PureDo]; go_simp; refine hK _ ?_; clear hK K)
  refine WalkE.step (fun K hK wd hwd hdd => ?_)
  simp only [OpDo, OpSafe, OpOut]
  go_simp
  refine ⟨(toAutomaton_c _ t1 _ (H1.out.mono (hx2.trans ((Ext.drew _).trans hwd))) hs1).mono ?_, ?_⟩
  · rintro e w' ⟨v, rfl, he, hv⟩
    exact ⟨v, rfl, by rw [HKc.out]; exact ⟨he, fun h => absurd h (by decide), fun _ => hv.auto, fun h => absurd h (by decide)⟩⟩
  intro u2 w5 hk2
  rw [HKc.out] at hk2
  obtain ⟨hk2, -, hy2, -⟩ := hk2
  have hy2 := hy2 rfl
  refine ⟨hk2, hK _ _ ?_⟩
  clear hK K hdd
  repeat (refine WalkE.pure rfl (fun K hK => ?_); simp only [PureDo]; go_simp; refine hK _ ?_; clear hK K)
  refine WalkE.step (fun K hK we hwe hde => ?_)
  simp only [OpDo, OpSafe, OpOut]
  go_simp
  have j1 : Ext w4 we := hde _ (Array.mem_of_getElem? (i := 0) rfl) rfl
  have j2 : Ext w5 we := hde _ (Array.mem_of_getElem? (i := 1) rfl) rfl
  refine ⟨(PartsKeep_sd _ _ t0 t1 _ (hy1.mono j1) hl0' hel (hy2.mono j2)).mono ?_, ?_⟩
  · rintro e w' ⟨rfl, he⟩
    exact ⟨_, rfl, by rw [HKc.out]; exact ⟨he, fun h => absurd h (by decide), fun h => absurd h (by decide), fun _ => rfl⟩⟩
  intro u3 w6 hk3
  rw [HKc.out] at hk3
  obtain ⟨hk3, -, -, hy3⟩ := hk3
  obtain rfl := hy3 rfl
  refine ⟨hk3, hK _ _ ?_⟩
  clear hK K hde hy3 hk3 j1 j2 hy1 hy2
  repeat (refine WalkE.pure rfl (fun K hK => ?_); simp only [PureDo]; go_simp; refine hK _ ?_; clear hK K)
  refine WalkE.nil (fun wn hwn hmn => ?_)
  simp only [List.drop_succ_cons, List.drop_zero, List.drop_nil]
  have hxn := hx2.trans ((Ext.drew _).trans hwn)
  have hBn := hB2.ext ((Ext.drew _).trans hwn)
  clear hmn HKc D0 D1 D2 hwn hwc hwd hwe hk1 hk2
  go_wp2_with fail
  refine (toSystemS_c _ t0 _ (H0.out.mono hxn) hs0).mono ?_
  rintro e w7 ⟨vx, rfl, he7, hvx⟩
  obtain ⟨ax, cx, rfl, -, -⟩ := hvx.open
  have hB7 := hBn.ext he7
  have p0 := hB7.cell 0 rfl
  have p1 := hB7.cell 1 rfl
  have p2 := hB7.cell 2 rfl
  go_wp2_with fail
  refine (toAutomaton_c _ t1 _ (H1.out.mono (hxn.trans he7)) hs1).mono ?_
  rintro e w8 ⟨vy, rfl, he8, hvy⟩
  have hvy := hvy.auto
  have HY := Lib.hid hvy
  obtain ⟨yn, ya, rfl, k2, k3⟩ := hvy
  obtain ⟨ayn, cyn, rfl, -, -⟩ := k2.open
  obtain ⟨aya, cya, rfl, -, -⟩ := k3.open
  go_wp2_with fail
  have hx8 := (hxn.trans he7).trans he8
  have xa := Ext.alloc w8 (.cells #[.int .i64 t1.alphabet, .slice ayn t1.next.length cyn, .slice aya t1.accept.length cya] 36)
  have hY := Blk.new w8 #[.int .i64 t1.alphabet, .slice ayn t1.next.length cyn, .slice aya t1.accept.length cya] 36
  have hx9 := hx8.trans xa
  have HYa := Lib.hid (HY.out.mono xa)
  have hvx9 := hvx.mono (he8.trans xa)
  have hB9 := hB7.ext (he8.trans xa)
  generalize w8.alloc (.cells #[.int .i64 t1.alphabet, .slice ayn t1.next.length cyn, .slice aya t1.accept.length cya] 36) = w9 at xa hY hx9 HYa hvx9 hB9 ⊢
  refine (PartsKeep_cd _ _ t0 t1 _ hvx9 hl0' HYa.out (HT.out.ext hx9)).mono ?_
  rintro e w10 ⟨rfl, he10⟩
  have hq2 : (keepsB t0 t1 != keepsB t0 t1) = false := by simp
  have hx10 := hx9.trans he10
  have hY10 := hY.ext he10
  have hB10 := hB9.ext he10
  have hvx10 := hvx9.mono he10
  have HY10 := Lib.hid (HYa.out.mono he10)
  clear p0 p1 p2
  go_wp2_with fail
  refine (toSystemS_c _ t0 _ (H0.out.mono hx10) hs0).mono ?_
  rintro e w11 ⟨vz, rfl, he11, hvz⟩
  go_wp2_with fail
  refine (eqSystemS_c _ _ t0 t0 _ (hvx10.mono he11) hvz).mono ?_
  rintro e w12 ⟨rfl, he12⟩
  have hde : decide (t0 = t0) = true := by simp
  rw [hde]
  have hx12 := (hx10.trans he11).trans he12
  have hY12 := hY10.ext (he11.trans he12)
  have hB12 := hB10.ext (he11.trans he12)
  have HY12 := Lib.hid (HY10.out.mono (he11.trans he12))
  clear hde
  go_wp2_with fail
  have D0 := fun d os => cell_regrown (hB12.cell 0 rfl) d os
  have D1 := fun d os => cell_regrown (hB12.cell 1 rfl) d os
  have D2 := fun d os => cell_regrown (hB12.cell 2 rfl) d os
  have D3 := fun d os => cell_regrown (hY12.cell 0 rfl) d os
  have D4 := fun d os => cell_regrown (hY12.cell 1 rfl) d os
  have D5 := fun d os => cell_regrown (hY12.cell 2 rfl) d os
  obtain ⟨Kc, HKc⟩ : ∃ Kc : FuncId → Array Value → World → Value → World → Prop, Hid (Kc = fun f _ w0 v w' => Ext w0 w' ∧ (f = 26 → AutoV w' v t1) ∧ (f = 29 → v = .bool true)) := ⟨_, rfl⟩
  refine wp_region_ext (Kc := Kc) 5 (by kernel_rfl) (by kernel_rfl) ?_
  simp only [List.take_succ_cons, List.take_zero]
  repeat (refine WalkE.pure rfl (fun K hK => ?_); simp only [PureDo]; go_simp; refine hK _ ?_; clear hK K)
  refine WalkE.step (fun K hK wc hwc hdc => ?_)
  simp only [OpDo, OpSafe, OpOut]
  go_simp
  refine ⟨(toAutomaton_c _ t1 _ (H1.out.mono (hx12.trans ((Ext.drew _).trans hwc))) hs1).mono ?_, ?_⟩
  · rintro e w' ⟨v, rfl, he, hv⟩
    exact ⟨v, rfl, by rw [HKc.out]; exact ⟨he, (fun _ => hv.auto), fun h => absurd h (by decide)⟩⟩
  intro u4 w13 hk4
  rw [HKc.out] at hk4
  have hy4 := hk4.2.1 rfl
  refine ⟨hk4.1, hK _ _ ?_⟩
  clear hK K hdc
  refine WalkE.step (fun K hK wd hwd hdd => ?_)
  simp only [OpDo, OpSafe, OpOut]
  go_simp
  have j4 : Ext w13 wd := hdd _ (Array.mem_of_getElem? (i := 1) rfl) rfl
  refine ⟨(eqAutomaton_c _ _ t1 t1 _ (HY12.out.mono ((Ext.drew _).trans hwd)) (hy4.mono j4)).mono ?_, ?_⟩
  · rintro e w' ⟨rfl, he⟩
    exact ⟨_, rfl, by rw [HKc.out]; exact ⟨he, (fun h => absurd h (by decide)), fun _ => by simp⟩⟩
  intro u5 w14 hk5
  rw [HKc.out] at hk5
  obtain rfl := hk5.2.2 rfl
  refine ⟨hk5.1, hK _ _ ?_⟩
  clear hK K hdd hk5 hk4 hy4 j4
  repeat (refine WalkE.pure rfl (fun K hK => ?_); simp only [PureDo]; go_simp; refine hK _ ?_; clear hK K)
  refine WalkE.nil (fun wz hwz hmz => ?_)
  simp only [List.drop_succ_cons, List.drop_zero, List.drop_nil]
  clear hmz HKc
  go_wp2_with fail
  go_ret
  exact Grows.mk rfl (hx12.trans ((Ext.drew _).trans hwz))
theorem own : ownKnob Tryd.prog.godebug = none := by kernel_rfl
theorem laidOut : laidOutB Tryd.prog = true := by kernel_rfl
theorem deb_of_laid {W : World} (h : laidMetH Tryd.prog Rows.fnExactPartsKeepRow.laid W) : Deb W := debOfLaid h
theorem laid_met (os : Os) (args : Array Value) : laidMetH Tryd.prog Rows.fnExactPartsKeepRow.laid ((laidWorld os).forCall (fun _ _ => 0) ⟨#[], args, []⟩).memory :=
  (LaidIn.of_run [0, 1] 8 (by kernel_rfl) (by kernel_rfl) (by kernel_rfl) (by kernel_rfl)).met
set_option maxRecDepth 100000 in
theorem lifted (os : Os) (started : os.Started) (H : Type) (enc : TypeId × Value → H) :
    ReturnsInHanded {} Tryd.checked os 10 .any (fun w args => (Rows.fnExactPartsKeepSpec.pre enc Tryd.prog Tryd.f10 [] false w args ∧ laidMetH Tryd.prog Rows.fnExactPartsKeepRow.laid w) ∧ sizedMet enc Tryd.prog Tryd.f10 (OpenSpec.ofChange Rows.fnExactPartsKeepSpec) false w args)
      (Rows.fnExactPartsKeepSpec.post enc Tryd.prog Tryd.f10 false true false false) := by
  refine returnsInHanded_of_change_and (C := Tryd.checked) (X := fun w _ => laidMetH Tryd.prog Rows.fnExactPartsKeepRow.laid w) (fun _ _ _ hh h => h.of_heap hh) own started (by kernel_rfl) Tryd.func10
    (ChangeSpec.witness_at (enc := enc) (C := Tryd.checked) (os := os) (X := fun w _ => laidMetH Tryd.prog Rows.fnExactPartsKeepRow.laid w) false (laidWorld os) #[.slice none 0 0, .agg #[.int .i64 0, .slice none 0 0, .slice none 0 0]] 8 rfl (by kernel_rfl) (by kernel_rfl) (by kernel_rfl) (by kernel_rfl) (by kernel_rfl) (laid_met os _)) ?_
  intro W base args ds gs before hval0 hW _ _ hL _
  have hval : ∀ (j : Nat) t v, Tryd.f10.params[j]? = some t → args[j]? = some v → Value.okWide Tryd.prog W .any base t v := hval0
  have hW' := hW
  obtain ⟨p, q, hA0, hV, rfl, hfz, hnd⟩ := hW
  have hA : DataW.TrodAll enc Tryd.prog W 0 (fun _ => true) true Tryd.f10.params.toList args.toList ds p := hA0
  rw [Tryd.params10] at hA hval
  obtain ⟨v0, vs0, d0, ds0, p0, q0, hargs, rfl, rfl, h0, r0⟩ := trodAll_cons hA
  obtain ⟨v1, vs1, d1, ds1, p1, q1, rfl, rfl, rfl, h1, r1⟩ := trodAll_cons r0
  obtain ⟨rfl, rfl, rfl⟩ := trodAll_nil r1
  obtain rfl : args = #[v0, v1] := by cases args; simp_all
  obtain ⟨rfl, rfl⟩ := trodVars_none hV
  have k0 := h0
  have lt0 : ∀ x ∈ p0, x.block < W.heap.size := by obtain ⟨m, hm⟩ := k0; exact DataW.trod_lt m _ _ _ hm
  obtain ⟨a0, len0, cap0, rfl⟩ := okWide_slice Tryd.underlying64 (hval 0 _ v0 rfl rfl)
  obtain ⟨t0, w0⟩ : ∃ t, SyssV W (.slice a0 len0 cap0) t := by
    obtain ⟨fuel, hf⟩ := h0
    obtain ⟨v, t, hv, ht⟩ := read_syss hf
    simp [Value.cells] at hv
    subst hv
    exact ⟨t, ht⟩
  have k1 := h1
  have lt1 : ∀ x ∈ p1, x.block < W.heap.size := by obtain ⟨m, hm⟩ := k1; exact DataW.trod_lt m _ _ _ hm
  obtain ⟨cs1, rfl, hcs1⟩ := okWide_struct Tryd.underlying28 (hval 1 _ v1 rfl rfl)
  obtain ⟨t1, w1⟩ : ∃ t, AutoV W (.agg cs1) t := by
    obtain ⟨fuel, hf⟩ := h1
    obtain ⟨t, ht⟩ := read_auto hf
    exact ⟨t, by simpa [Value.cells] using ht⟩
  clear hA0 hval0
  refine (walk (.slice a0 len0 cap0) t0 (.agg cs1) t1 W w0 w1 (deb_of_laid hL)).mono fun e W' ⟨he, bel⟩ => ?_
  subst he
  exact ⟨_, rfl, _, _, _, [], _, [], hW', trodAll_mk1 (shut_bool Tryd.underlying4 _), (trodAll_cons_mk (Below.trod laidOut (by kernel_rfl) (of_decide_eq_true (by kernel_rfl)) k0 bel lt0) (trodAll_cons_mk (Below.trod laidOut (by kernel_rfl) (of_decide_eq_true (by kernel_rfl)) k1 bel lt1) trodAll_mk0)), rfl, bel.frame _, fun h => by cases h⟩

theorem over : Rows.fnExactPartsKeepRow.holds Tryd.pinned (OpenSpec.ofChange Rows.fnExactPartsKeepSpec) :=
  OpenClaim.holds_of_wide 10 Tryd.f10 rfl rfl rfl rfl rfl rfl rfl ⟨rfl, rfl, rfl, rfl, rfl⟩ rfl rfl rfl rfl rfl (by kernel_rfl) Tryd.func10 (by kernel_rfl)
    (of_decide_eq_true (by kernel_rfl)) (by unfold Func.isWrapper; first | (rw [if_pos (by decide +kernel)]; kernel_rfl) | (rw [if_neg (by decide +kernel)]; exact ⟨rfl, rfl⟩))
    (fun os started H enc _ => lifted os started H enc)

theorem card_holds : Rows.FnExactPartsKeepCardSaid :=
  Claim7.holds_tied_plain_at .later [] [.data, .data] true (true, "09b0ac7573a475bbb3029f40232a3b5094a4ea8b30fcc7e3c3263b5c36eec647") false
    over (fun _ h => by cases h) (by kernel_rfl) (fun _ h => by cases h) fnExactPartsKeep_row_tie rfl ⟨rfl, rfl⟩ (by kernel_rfl) rfl
    (fun f fn hf hfn => by
      obtain rfl : f = 10 := Option.some.inj ((show Tryd.prog.funcNamed "loop.example/assumeguarantee/laws.FnExactPartsKeep" = some 10 by kernel_rfl).symm.trans hf) |>.symm
      obtain rfl : fn = Tryd.f10 := (Option.some.inj (Tryd.func10.symm.trans hfn)).symm
      refine ⟨by kernel_rfl, fun j t ht => ?_⟩
      rw [Tryd.params10] at ht
      match j, ht with
      | 0, ht =>
        have h0 : t = 64 := by simpa using ht.symm
        subst h0
        exact (show Tryd.prog.wantsStandIn 64 = false by kernel_rfl)
      | 1, ht =>
        have h1 : t = 28 := by simpa using ht.symm
        subst h1
        exact (show Tryd.prog.wantsStandIn 28 = false by kernel_rfl)
      | j + 2, ht => simp at ht)
    (by kernel_rfl)
#print axioms card_holds
end Go.Proofs.YtkkligbobkmomaaDoor.lawPartsKeep
