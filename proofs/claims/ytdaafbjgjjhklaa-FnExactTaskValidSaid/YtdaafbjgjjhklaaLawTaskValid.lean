/- FnExactTaskValid: for every task the program's TaskValid returns what the reference's returns, and leaves its argument as it was. No condition beyond what the given row bears. -/
import Derived.Test.YtdaafbjgjjhklaaWalkJ
import Derived.Test.YtdaafbjgjjhklaaWalkC
import Derived.Test.YtdaafbjgjjhklaaWalkG
import Derived.Test.YtdaafbjgjjhklaaRead
namespace Go.Proofs.Ytdaafbjgjjhklaa.lawTaskValid
open Go.ChangeShapes Go.WideShapes Go.ChangeAt Go.RowKit
open Go.Proofs.Ytdaafbjgjjhklaa
set_option linter.unusedVariables false
set_option maxHeartbeats 400000

theorem walk (v : Value) (t : Task) (w : World) (hv : TaskV w v t) : Calls Try.prog 5 #[v] w (Grows (.bool true) w) := by
  obtain ⟨ve, vn, va, rfl, h1, h2, h3⟩ := hv
  have hT : ∀ w', Ext w w' → TaskV w' (.agg #[.int .i64 t.sys.alphabet, .int .i64 t.sys.states, ve, .int .i64 t.prop.alphabet, vn, va, .int .i64 t.alphabet]) t := fun w' he => ⟨_, _, _, rfl, h1.mono he, h2.mono he, h3.mono he⟩
  have HT := Lib.hid hT
  clear hT h1 h2 h3
  go_enter Try.func5, Try.ntmps5
  go_wp2_with fail
  refine (szTask_s _ t _ _ (HT.out _ (Ext.alloc _ _)) (by omega) (by omega)).mono ?_
  rintro e w1 ⟨r, rfl, he1, hr⟩
  have b0 := he1.blk
  have hw := he1.peel
  rcases hr with rfl | ⟨hr0, hr⟩
  · go_wp2_with fail
    go_ret
    exact Grows.mk rfl hw
  have hsz : szTsk t ≤ 1048576 := by have := hr.out; omega
  have cc0 := b0.cell 0 rfl; have cc1 := b0.cell 1 rfl; have cc2 := b0.cell 2 rfl; have cc3 := b0.cell 3 rfl; have cc4 := b0.cell 4 rfl; have cc5 := b0.cell 5 rfl; have cc6 := b0.cell 6 rfl
  go_wp2_with fail
  refine (toTask_c _ t _ (HT.out _ hw) hsz).mono ?_
  rintro e w2 ⟨vt, rfl, he2, ht2⟩
  replace hw := hw.trans he2
  replace b0 := b0.ext he2
  clear cc0 cc1 cc2 cc3 cc4 cc5 cc6
  have cc0 := b0.cell 0 rfl; have cc1 := b0.cell 1 rfl; have cc2 := b0.cell 2 rfl; have cc3 := b0.cell 3 rfl; have cc4 := b0.cell 4 rfl; have cc5 := b0.cell 5 rfl; have cc6 := b0.cell 6 rfl
  go_wp2_with fail
  refine (TaskValid_s _ t _ ht2.task).mono ?_
  rintro e w3 ⟨rfl, he3⟩
  replace hw := hw.trans he3
  replace b0 := b0.ext he3
  clear cc0 cc1 cc2 cc3 cc4 cc5 cc6
  have cc0 := b0.cell 0 rfl; have cc1 := b0.cell 1 rfl; have cc2 := b0.cell 2 rfl; have cc3 := b0.cell 3 rfl; have cc4 := b0.cell 4 rfl; have cc5 := b0.cell 5 rfl; have cc6 := b0.cell 6 rfl
  go_wp2_with fail
  refine (toTask_c _ t _ (HT.out _ hw) hsz).mono ?_
  rintro e w4 ⟨vt4, rfl, he4, ht4⟩
  have hx0 := ht4.task
  obtain ⟨xe, xn, xa, rfl, k1, k2, k3⟩ := hx0
  obtain ⟨ae, ce, rfl, -, -⟩ := k1.open
  obtain ⟨an, cn, rfl, -, -⟩ := k2.open
  obtain ⟨aa, ca, rfl, -, -⟩ := k3.open
  replace hw := hw.trans he4
  replace b0 := b0.ext he4
  clear cc0 cc1 cc2 cc3 cc4 cc5 cc6 ht2 ht4
  go_wp2_with fail
  refine (TaskValid_c _ t _ ⟨_, _, _, rfl, k1.mono (Ext.alloc _ _), k2.mono (Ext.alloc _ _), k3.mono (Ext.alloc _ _)⟩).mono ?_
  rintro e w5 ⟨rfl, he5⟩
  have b1 := he5.blk
  replace hw := hw.trans he5.peel
  replace b0 := b0.ext he5.peel
  replace k1 := k1.mono he5.peel
  replace k2 := k2.mono he5.peel
  replace k3 := k3.mono he5.peel
  have hz : (taskValid t != taskValid t) = false := by simp
  go_wp2_with fail
  have c0 := fun d os => cell_regrown (b0.cell 0 rfl) d os; have d0 := fun d os => cell_regrown (b1.cell 0 rfl) d os; have c1 := fun d os => cell_regrown (b0.cell 1 rfl) d os; have d1 := fun d os => cell_regrown (b1.cell 1 rfl) d os; have c2 := fun d os => cell_regrown (b0.cell 2 rfl) d os; have d2 := fun d os => cell_regrown (b1.cell 2 rfl) d os; have c3 := fun d os => cell_regrown (b0.cell 3 rfl) d os; have d3 := fun d os => cell_regrown (b1.cell 3 rfl) d os; have c4 := fun d os => cell_regrown (b0.cell 4 rfl) d os; have d4 := fun d os => cell_regrown (b1.cell 4 rfl) d os; have c5 := fun d os => cell_regrown (b0.cell 5 rfl) d os; have d5 := fun d os => cell_regrown (b1.cell 5 rfl) d os; have c6 := fun d os => cell_regrown (b0.cell 6 rfl) d os; have d6 := fun d os => cell_regrown (b1.cell 6 rfl) d os
  obtain ⟨Kc, HKc⟩ : ∃ Kc : FuncId → Array Value → World → Value → World → Prop, Hid (Kc = fun f _ w0 v w' => Ext w0 w' ∧ (f = 22 → TaskV w' v t) ∧ (f = 24 → v = .bool true)) := ⟨_, rfl⟩
  refine wp_region_ext (Kc := Kc) 5 (by kernel_rfl) (by kernel_rfl) ?_
  simp only [List.take_succ_cons, List.take_zero]
  repeat (refine WalkE.pure rfl (fun K hK => ?_); simp only [PureDo]; go_simp; refine hK _ ?_; clear hK K)
  refine WalkE.step (fun K hK wc hwc hdc => ?_)
  simp only [OpDo, OpSafe, OpOut]
  go_simp
  refine ⟨(toTask_c _ t _ (HT.out _ (hw.trans ((Ext.drew _).trans hwc))) hsz).mono ?_, ?_⟩
  · rintro e w' ⟨v, rfl, he, hv⟩
    exact ⟨v, rfl, by rw [HKc.out]; exact ⟨he, fun _ => hv.task, fun h => by cases h⟩⟩
  intro v1 w6 hk1
  rw [HKc.out] at hk1
  obtain ⟨he6, hv1, -⟩ := hk1
  have hv1 := hv1 rfl
  refine ⟨he6, hK _ _ ?_⟩
  clear hK K hdc
  refine WalkE.step (fun K hK wd hwd hdd => ?_)
  simp only [OpDo, OpSafe, OpOut]
  go_simp
  refine ⟨(eqTask_c _ _ t t _ ⟨_, _, _, rfl, k1.mono ((Ext.drew _).trans hwd), k2.mono ((Ext.drew _).trans hwd), k3.mono ((Ext.drew _).trans hwd)⟩ (hv1.mono (hdd ⟨2, .data⟩ (by simp) rfl))).mono ?_, ?_⟩
  · rintro e w' ⟨rfl, he⟩
    exact ⟨_, rfl, by rw [HKc.out]; exact ⟨he, (fun h => by cases h), fun _ => by simp⟩⟩
  intro v2 w7 hk2
  rw [HKc.out] at hk2
  obtain ⟨he7, -, hv2⟩ := hk2
  obtain rfl := hv2 rfl
  refine ⟨he7, hK _ _ ?_⟩
  clear hK K hdd hv2
  repeat (refine WalkE.pure rfl (fun K hK => ?_); simp only [PureDo]; go_simp; refine hK _ ?_; clear hK K)
  refine WalkE.nil (fun wn hwn hm => ?_)
  simp only [List.drop_succ_cons, List.drop_zero, List.drop_nil]
  go_wp2_with fail
  go_ret
  exact Grows.mk rfl (hw.trans ((Ext.drew _).trans hwn))


theorem own : ownKnob Try.prog.godebug = none := by kernel_rfl
theorem laidOut : laidOutB Try.prog = true := by kernel_rfl
set_option maxRecDepth 100000 in
theorem lifted (os : Os) (started : os.Started) (H : Type) (enc : TypeId × Value → H) :
    ReturnsInHanded {} Try.checked os 5 .any (Rows.fnExactTaskValidSpec.pre6 enc Try.prog Try.f5 Rows.fnExactTaskValidRow.domain false) (Rows.fnExactTaskValidSpec.post enc Try.prog Try.f5 false true false false) := by
  refine returnsInHanded_of_change (C := Try.checked) own started (by kernel_rfl) Try.func5
    (ChangeSpec.witness6 (enc := enc) (C := Try.checked) false ⟨#[], #[.agg #[.int .i64 0, .int .i64 0, .slice none 0 0, .int .i64 0, .slice none 0 0, .slice none 0 0, .int .i64 0]], []⟩ 8 (by kernel_rfl) (by kernel_rfl) (by kernel_rfl) (by kernel_rfl)) ?_
  intro W base args ds gs before hval0 hW hcnd _
  have hval : ∀ (j : Nat) t v, Try.f5.params[j]? = some t → args[j]? = some v → Value.okWide Try.prog W .any base t v := hval0
  have hW' := hW
  obtain ⟨p, q, hA0, hV, rfl, hfz, hnd⟩ := hW
  have hA : DataW.TrodAll enc Try.prog W 0 (fun _ => true) true Try.f5.params.toList args.toList ds p := hA0
  rw [Try.params5] at hA hval
  obtain ⟨v0, vs0, d0, ds0, p0, q0, hargs, rfl, rfl, h0, r0⟩ := trodAll_cons hA
  obtain ⟨rfl, rfl, rfl⟩ := trodAll_nil r0
  obtain rfl : args = #[v0] := by cases args; simp_all
  obtain ⟨rfl, rfl⟩ := trodVars_none hV
  have k0 := h0
  have lt0 : ∀ x ∈ p0, x.block < W.heap.size := by obtain ⟨m, hm⟩ := k0; exact DataW.trod_lt m _ _ _ hm
  obtain ⟨cs0, rfl, hcs0⟩ := okWide_struct Try.underlying44 (hval 0 _ v0 rfl rfl)
  obtain ⟨t0, w0⟩ : ∃ t, TaskV W (.agg cs0) t := by
    obtain ⟨fuel, hf⟩ := h0
    obtain ⟨t, ht⟩ := read_task hf
    exact ⟨t, by simpa [Value.cells] using ht⟩
  clear hA0 hval0
  refine (walk (.agg cs0) t0 W w0).mono fun e W' ⟨he, bel⟩ => ?_
  subst he
  exact ⟨_, rfl, _, _, _, [], _, [], hW', trodAll_mk1 (shut_bool Try.underlying4 _), (trodAll_cons_mk (Below.trod laidOut (by kernel_rfl) (of_decide_eq_true (by kernel_rfl)) k0 bel lt0) trodAll_mk0), rfl, bel.frame _, fun h => by cases h⟩

theorem over : Rows.fnExactTaskValidRow.holds Try.pinned (OpenSpec.ofChange Rows.fnExactTaskValidSpec) :=
  OpenClaim.holds_of_wide 5 Try.f5 rfl rfl rfl rfl rfl rfl rfl ⟨rfl, rfl, rfl, rfl, rfl⟩ rfl rfl rfl rfl rfl (by kernel_rfl) Try.func5 (by kernel_rfl)
    (of_decide_eq_true (by kernel_rfl)) (by unfold Func.isWrapper; first | (rw [if_pos (by decide +kernel)]; kernel_rfl) | (rw [if_neg (by decide +kernel)]; exact ⟨rfl, rfl⟩))
    (fun os started H enc _ => lifted os started H enc)

theorem proved : Rows.FnExactTaskValidSaid := over
#print axioms proved
end Go.Proofs.Ytdaafbjgjjhklaa.lawTaskValid
