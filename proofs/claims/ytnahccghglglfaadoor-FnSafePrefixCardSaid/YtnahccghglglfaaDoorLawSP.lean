/- FnSafePrefix: for all bytes, all prefixes of a drawn safe word are safe, and the task is valid and the word one over its alphabet: the law answers true. -/
import Derived.Test.YtnahccghglglfaaDoorDrawU
import Derived.Test.YtnahccghglglfaaDoorSafeS
import Derived.Test.YtnahccghglglfaaDoorSafeN
import Derived.Test.YtnahccghglglfaaDoorCard
import Derived.Test.YtnahccghglglfaaDoorDrawL
namespace Go.Proofs.YtnahccghglglfaaDoor.lawFnSafePrefix
open Go.ChangeShapes Go.WideShapes Go.ChangeAt Go.RowKit
open Go.Proofs.YtnahccghglglfaaDoor
open Go.ChangeMaps (open_string shut_string)
set_option linter.unusedVariables false
set_option linter.unusedSimpArgs false
set_option maxHeartbeats 1600000
set_option maxRecDepth 100000

theorem walk (v0 : Value) (t0 : List UInt8) (w : World) (hv0 : BytesV w v0 t0) (hD : Deb w) : Calls Tryd.prog 4 #[v0] w (Grows (.bool true) w) := by
  obtain ⟨aB, cB, rfl, hleB, -⟩ := hv0.open
  have HDb := Lib.hid hD
  clear hD
  by_cases hz0 : 1048576 < t0.length
  · go_enter Tryd.func4, Tryd.ntmps4
    go_wp2_with fail
    go_ret
    exact Grows.mk rfl (Ext.refl _)
  go_enter Tryd.func4, Tryd.ntmps4
  go_wp2_with fail
  refine (DrawSafeWord_t _ t0 _ hv0 (by omega)).mono ?_
  rintro e w1 ⟨vt, s, T, rfl, he1, hTV, hTe, hsz⟩
  obtain ⟨vE1, vN1, vA1, rfl, hE1, hN1, hA1⟩ := hTV
  obtain ⟨aE1, cE1, rfl, -, -⟩ := hE1.open
  obtain ⟨aN1, cN1, rfl, -, -⟩ := hN1.open
  obtain ⟨aA1, cA1, rfl, -, -⟩ := hA1.open
  have HT := Lib.hid (show ∀ w', Ext w1 w' → TaskV w' (.agg #[.int .i64 T.sys.alphabet, .int .i64 T.sys.states, .slice aE1 T.sys.edges.length cE1, .int .i64 T.prop.alphabet, .slice aN1 T.prop.next.length cN1, .slice aA1 T.prop.accept.length cA1, .int .i64 T.alphabet]) T from fun w' h => ⟨_, _, _, rfl, hE1.mono h, hN1.mono h, hA1.mono h⟩)
  have HSY := Lib.hid (show ∀ w', Ext w1 w' → SysV w' (.agg #[.int .i64 T.sys.alphabet, .int .i64 T.sys.states, .slice aE1 T.sys.edges.length cE1]) T.sys from fun w' h => ⟨_, rfl, hE1.mono h⟩)
  have HAU := Lib.hid (show ∀ w', Ext w1 w' → AutoV w' (.agg #[.int .i64 T.prop.alphabet, .slice aN1 T.prop.next.length cN1, .slice aA1 T.prop.accept.length cA1]) T.prop from fun w' h => ⟨_, _, rfl, hN1.mono h, hA1.mono h⟩)
  have HD := Lib.hid (show ∀ w', Ext w1 w' → Deb w' from fun w' h => HDb.out.ext (he1.trans h))
  obtain ⟨sw, hsw⟩ : ∃ sw, safeWord T s = sw := ⟨_, rfl⟩
  have HSW := Lib.hid hsw
  have C1 := Lib.hid (show ∀ w', Ext w1 w' → Calls Tryd.prog 10 #[.agg #[.int .i64 T.sys.alphabet, .int .i64 T.sys.states, .slice aE1 T.sys.edges.length cE1, .int .i64 T.prop.alphabet, .slice aN1 T.prop.next.length cN1, .slice aA1 T.prop.accept.length cA1, .int .i64 T.alphabet], .string s] w' (Grows (.bool sw) w') from fun w' h => by have := SafeWord_c _ T s w' (HT.out _ h) (by omega) (HD.out _ h); rwa [HSW.out] at this)
  have C2 := Lib.hid (show ∀ w', Ext w1 w' → Calls Tryd.prog 8 #[.agg #[.int .i64 T.sys.alphabet, .int .i64 T.sys.states, .slice aE1 T.sys.edges.length cE1, .int .i64 T.prop.alphabet, .slice aN1 T.prop.next.length cN1, .slice aA1 T.prop.accept.length cA1, .int .i64 T.alphabet], .string s] w' (Grows (.bool sw) w') from fun w' h => by have := SafeWord_s _ T s w' (HT.out _ h) (by omega) (by omega); rwa [HSW.out] at this)
  clear hE1 hN1 hA1 hsw
  have hx : Ext w1 (w1.alloc (.cells #[.int .i64 T.sys.alphabet, .int .i64 T.sys.states, .slice aE1 T.sys.edges.length cE1, .int .i64 T.prop.alphabet, .slice aN1 T.prop.next.length cN1, .slice aA1 T.prop.accept.length cA1, .int .i64 T.alphabet] 38)) := Ext.alloc _ _
  have bT : Blk (w1.alloc (.cells #[.int .i64 T.sys.alphabet, .int .i64 T.sys.states, .slice aE1 T.sys.edges.length cE1, .int .i64 T.prop.alphabet, .slice aN1 T.prop.next.length cN1, .slice aA1 T.prop.accept.length cA1, .int .i64 T.alphabet] 38)) w1.heap.size #[.int .i64 T.sys.alphabet, .int .i64 T.sys.states, .slice aE1 T.sys.edges.length cE1, .int .i64 T.prop.alphabet, .slice aN1 T.prop.next.length cN1, .slice aA1 T.prop.accept.length cA1, .int .i64 T.alphabet] 38 := Ext.blk (Ext.refl _)
  go_wp2_with fail
  generalize (w1.alloc (.cells #[.int .i64 T.sys.alphabet, .int .i64 T.sys.states, .slice aE1 T.sys.edges.length cE1, .int .i64 T.prop.alphabet, .slice aN1 T.prop.next.length cN1, .slice aA1 T.prop.accept.length cA1, .int .i64 T.alphabet] 38)) = w2 at hx bT ⊢
  have bT_0 := bT.cell 0 rfl; have bT_1 := bT.cell 1 rfl; have bT_2 := bT.cell 2 rfl; have bT_3 := bT.cell 3 rfl; have bT_4 := bT.cell 4 rfl; have bT_5 := bT.cell 5 rfl; have bT_6 := bT.cell 6 rfl
  go_wp2_with fail
  refine (C1.out _ hx).mono ?_
  rintro e wz1 ⟨rfl, hez1⟩
  clear bT_0 bT_1 bT_2 bT_3 bT_4 bT_5 bT_6
  replace bT := bT.ext hez1
  replace hx := hx.trans hez1
  have bT_0 := bT.cell 0 rfl; have bT_1 := bT.cell 1 rfl; have bT_2 := bT.cell 2 rfl; have bT_3 := bT.cell 3 rfl; have bT_4 := bT.cell 4 rfl; have bT_5 := bT.cell 5 rfl; have bT_6 := bT.cell 6 rfl
  go_wp2_with fail
  refine (C2.out _ hx).mono ?_
  rintro e wz2 ⟨rfl, hez2⟩
  clear bT_0 bT_1 bT_2 bT_3 bT_4 bT_5 bT_6
  replace bT := bT.ext hez2
  replace hx := hx.trans hez2
  have bT_0 := bT.cell 0 rfl; have bT_1 := bT.cell 1 rfl; have bT_2 := bT.cell 2 rfl; have bT_3 := bT.cell 3 rfl; have bT_4 := bT.cell 4 rfl; have bT_5 := bT.cell 5 rfl; have bT_6 := bT.cell 6 rfl
  have heq2 : (sw != sw) = false := by simp
  have heq3 : (sw == sw) = true := by simp
  cases sw with
  | false =>
    go_wp2_with fail
    refine (C2.out _ hx).mono ?_
    rintro e wz3 ⟨rfl, hez3⟩
    clear bT_0 bT_1 bT_2 bT_3 bT_4 bT_5 bT_6
    replace bT := bT.ext hez3
    replace hx := hx.trans hez3
    have bT_0 := bT.cell 0 rfl; have bT_1 := bT.cell 1 rfl; have bT_2 := bT.cell 2 rfl; have bT_3 := bT.cell 3 rfl; have bT_4 := bT.cell 4 rfl; have bT_5 := bT.cell 5 rfl; have bT_6 := bT.cell 6 rfl
    go_wp2_with fail
    go_ret
    exact Grows.mk rfl (he1.trans hx)
  | true =>
  obtain ⟨htv, hwi, -⟩ := safeWord_iff.1 HSW.out
  have HTV := Lib.hid htv
  have HWI := Lib.hid hwi
  have HPRE := Lib.hid (fun k => safeWord_prefix HSW.out k)
  clear htv hwi C1 C2 heq2 heq3
  clear bT_0 bT_1 bT_2 bT_3 bT_4 bT_5 bT_6
  generalize wz2 = wb at hx bT ⊢
  go_wp2_with fail
  go_loopw [6] (fun i wr => ∃ k : Nat, k ≤ s.size + 1 ∧ i = .int .i64 k ∧ Ext w1 wr ∧ Blk wr w1.heap.size #[.int .i64 T.sys.alphabet, .int .i64 T.sys.states, .slice aE1 T.sys.edges.length cE1, .int .i64 T.prop.alphabet, .slice aN1 T.prop.next.length cN1, .slice aA1 T.prop.accept.length cA1, .int .i64 T.alphabet] 38) (fun i _ => s.size + 1 - (intOf i).toNat)
  case atStart => exact ⟨0, by omega, rfl, hx, bT⟩
  case round =>
    clear hx bT
    obtain ⟨k, hk, rfl, hx, bT⟩ := hrel
    by_cases hlt : k ≤ s.size
    · go_wp2_with fail
      have DbT0 := fun d os => cell_regrown (bT.cell 0 rfl) d os
      have DbT1 := fun d os => cell_regrown (bT.cell 1 rfl) d os
      have DbT2 := fun d os => cell_regrown (bT.cell 2 rfl) d os
      have DbT3 := fun d os => cell_regrown (bT.cell 3 rfl) d os
      have DbT4 := fun d os => cell_regrown (bT.cell 4 rfl) d os
      have DbT5 := fun d os => cell_regrown (bT.cell 5 rfl) d os
      have DbT6 := fun d os => cell_regrown (bT.cell 6 rfl) d os
      have hk0 : (0 : Int) ≤ (k : Int) := by omega
      have hk1 : (k : Int) ≤ (s.size : Int) := by omega
      have hsx : (s.extract 0 k).size ≤ 1048576 := by rw [ByteArray.size_extract]; omega
      have CB := Lib.hid (show ∀ w', Ext w1 w' → Calls Tryd.prog 10 #[.agg #[.int .i64 T.sys.alphabet, .int .i64 T.sys.states, .slice aE1 T.sys.edges.length cE1, .int .i64 T.prop.alphabet, .slice aN1 T.prop.next.length cN1, .slice aA1 T.prop.accept.length cA1, .int .i64 T.alphabet], .string (s.extract 0 k)] w' (Grows (.bool true) w') from fun w' h => by have := SafeWord_c _ T (s.extract 0 k) w' (HT.out _ h) hsx (HD.out _ h); rwa [HPRE.out k] at this)
      refine wp_region_quiet_below (by kernel_rfl) (by kernel_rfl) ?_
      repeat (go_big_quiet_step ((go_at_call 10; exact Grows.quiet (CB.out _ (hx.trans (below_regrown _ _ _))))))
      refine wpQuiet_nil ?_
      intro _ hw'
      obtain ⟨⟨dq, osq⟩, hw''⟩ := hw'
      subst hw''
      have hq2 : Ext wr (Go.Sort.grow (redrawn wr dq) osq) := below_regrown wr dq osq
      generalize Go.Sort.grow (redrawn wr dq) osq = wq at hq2 ⊢
      go_wp2_with fail
      exact ⟨⟨k + 1, by omega, by go_num, hx.trans hq2, bT.ext hq2⟩, by simp [intOf]; omega⟩
    · obtain rfl : k = s.size + 1 := by omega
      have hk2 : ¬ ((s.size : Int) + 1 ≤ (s.size : Int)) := by omega
      have bT_0 := bT.cell 0 rfl; have bT_1 := bT.cell 1 rfl; have bT_2 := bT.cell 2 rfl; have bT_3 := bT.cell 3 rfl; have bT_4 := bT.cell 4 rfl; have bT_5 := bT.cell 5 rfl; have bT_6 := bT.cell 6 rfl
      go_wp2_with fail
      refine (TaskValid_c _ T wr (HT.out _ hx)).mono ?_
      rintro e w9 ⟨rfl, he9⟩
      rw [HTV.out]
      have c6 := (bT.ext he9).cell 6 rfl
      clear bT_0 bT_1 bT_2 bT_3 bT_4 bT_5 bT_6
      go_wp2_with (first | (go_at_call 14; refine (WordWithin_c s T.alphabet _ (by omega)).mono ?_; rintro e w' ⟨rfl, rfl⟩; rw [HWI.out]))
      go_ret
      exact Grows.mk rfl (he1.trans (hx.trans he9))

theorem own : ownKnob Tryd.prog.godebug = none := by kernel_rfl
theorem laidOut : laidOutB Tryd.prog = true := by kernel_rfl
theorem deb_of_laid {W : World} (h : laidMetH Tryd.prog Rows.fnSafePrefixRow.laid W) : Deb W := debOfLaid h
theorem laid_met (os : Os) (args : Array Value) : laidMetH Tryd.prog Rows.fnSafePrefixRow.laid ((laidWorld os).forCall (fun _ _ => 0) ⟨#[], args, []⟩).memory :=
  (LaidIn.of_run [0, 1] 8 (by kernel_rfl) (by kernel_rfl) (by kernel_rfl) (by kernel_rfl)).met
set_option maxRecDepth 100000 in
theorem lifted (os : Os) (started : os.Started) (H : Type) (enc : TypeId × Value → H) :
    ReturnsInHanded {} Tryd.checked os 4 .any (fun w args => (Rows.fnSafePrefixSpec.pre enc Tryd.prog Tryd.f4 [] false w args ∧ laidMetH Tryd.prog Rows.fnSafePrefixRow.laid w) ∧ sizedMet enc Tryd.prog Tryd.f4 (OpenSpec.ofChange Rows.fnSafePrefixSpec) false w args)
      (Rows.fnSafePrefixSpec.post enc Tryd.prog Tryd.f4 false true false false) := by
  refine returnsInHanded_of_change_and (C := Tryd.checked) (X := fun w _ => laidMetH Tryd.prog Rows.fnSafePrefixRow.laid w) (fun _ _ _ hh h => h.of_heap hh) own started (by kernel_rfl) Tryd.func4
    (ChangeSpec.witness_at (enc := enc) (C := Tryd.checked) (os := os) (X := fun w _ => laidMetH Tryd.prog Rows.fnSafePrefixRow.laid w) false (laidWorld os) #[.slice none 0 0] 8 rfl (by kernel_rfl) (by kernel_rfl) (by kernel_rfl) (by kernel_rfl) (by kernel_rfl) (laid_met os _)) ?_
  intro W base args ds gs before hval0 hW _ _ hL _
  have hval : ∀ (j : Nat) t v, Tryd.f4.params[j]? = some t → args[j]? = some v → Value.okWide Tryd.prog W .any base t v := hval0
  have hW' := hW
  obtain ⟨p, q, hA0, hV, rfl, hfz, hnd⟩ := hW
  have hA : DataW.TrodAll enc Tryd.prog W 0 (fun _ => true) true Tryd.f4.params.toList args.toList ds p := hA0
  rw [Tryd.params4] at hA hval
  obtain ⟨v0, vs0, d0, ds0, p0, q0, hargs, rfl, rfl, h0, r0⟩ := trodAll_cons hA
  obtain ⟨rfl, rfl, rfl⟩ := trodAll_nil r0
  obtain rfl : args = #[v0] := by cases args; simp_all
  obtain ⟨rfl, rfl⟩ := trodVars_none hV
  have k0 := h0
  have lt0 : ∀ x ∈ p0, x.block < W.heap.size := by obtain ⟨m, hm⟩ := k0; exact DataW.trod_lt m _ _ _ hm
  obtain ⟨a0, len0, cap0, rfl⟩ := okWide_slice Tryd.underlying42 (hval 0 _ v0 rfl rfl)
  obtain ⟨t0, w0⟩ : ∃ t, BytesV W (.slice a0 len0 cap0) t := by
    obtain ⟨fuel, hf⟩ := h0
    obtain ⟨v, t, hv, ht⟩ := read_bytes hf
    simp [Value.cells] at hv
    subst hv
    exact ⟨t, ht⟩
  clear hA0 hval0
  refine (walk (.slice a0 len0 cap0) t0 W w0 (deb_of_laid hL)).mono fun e W' ⟨he, bel⟩ => ?_
  subst he
  exact ⟨_, rfl, _, _, _, [], _, [], hW', trodAll_mk1 (shut_bool Tryd.underlying4 _), (trodAll_cons_mk (Below.trod laidOut (by kernel_rfl) (of_decide_eq_true (by kernel_rfl)) k0 bel lt0) trodAll_mk0), rfl, bel.frame _, fun h => by cases h⟩

theorem over : Rows.fnSafePrefixRow.holds Tryd.pinned (OpenSpec.ofChange Rows.fnSafePrefixSpec) :=
  OpenClaim.holds_of_wide 4 Tryd.f4 rfl rfl rfl rfl rfl rfl rfl ⟨rfl, rfl, rfl, rfl, rfl⟩ rfl rfl rfl rfl rfl (by kernel_rfl) Tryd.func4 (by kernel_rfl)
    (of_decide_eq_true (by kernel_rfl)) (by unfold Func.isWrapper; first | (rw [if_pos (by decide +kernel)]; kernel_rfl) | (rw [if_neg (by decide +kernel)]; exact ⟨rfl, rfl⟩))
    (fun os started H enc _ => lifted os started H enc)

theorem card_holds : Rows.FnSafePrefixCardSaid :=
  Claim7.holds_tied_plain_at .later [] [.data, .data] true (true, "87c70ed4aa2c4c8968b53219ec6ddbdcb2d459823d28e42732f577bc1f6c5f70") false
    over (fun _ h => by cases h) (by kernel_rfl) (fun _ h => by cases h) fnSafePrefix_row_tie rfl ⟨rfl, rfl⟩ (by kernel_rfl) rfl
    (fun f fn hf hfn => by
      obtain rfl : f = 4 := Option.some.inj ((show Tryd.prog.funcNamed "loop.example/assumeguarantee/laws.FnSafePrefix" = some 4 by kernel_rfl).symm.trans hf) |>.symm
      obtain rfl : fn = Tryd.f4 := (Option.some.inj (Tryd.func4.symm.trans hfn)).symm
      refine ⟨by kernel_rfl, fun j t ht => ?_⟩
      rw [Tryd.params4] at ht
      match j, ht with
      | 0, ht =>
        have h0 : t = 42 := by simpa using ht.symm
        subst h0
        exact (show Tryd.prog.wantsStandIn 42 = false by kernel_rfl)
      | j + 1, ht => simp at ht)
    (by kernel_rfl)
#print axioms card_holds
end Go.Proofs.YtnahccghglglfaaDoor.lawFnSafePrefix
