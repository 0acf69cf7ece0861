/- FnWitnessLonger: for all bytes, a drawn word with a witness has one behind each further letter of the task, none behind other letters, and no later one: the law answers true. -/
import Derived.Test.YtloampfmlhmlhaaGreatDoorDrawU
import Derived.Test.YtloampfmlhmlhaaGreatDoorWb
import Derived.Test.YtloampfmlhmlhaaGreatDoorWalkUX
import Derived.Test.YtloampfmlhmlhaaGreatDoorWalkUS
import Derived.Test.YtloampfmlhmlhaaGreatDoorSafeN
import Derived.Test.YtloampfmlhmlhaaGreatDoorCard
import Derived.Test.YtloampfmlhmlhaaGreatDoorDrawL
namespace Go.Proofs.YtloampfmlhmlhaaGreatDoor.lawFnWitnessLonger
open Go.ChangeShapes Go.WideShapes Go.ChangeAt Go.RowKit
open Go.Proofs.YtloampfmlhmlhaaGreatDoor
open Go.ChangeMaps (open_string shut_string)
set_option linter.unusedVariables false
set_option linter.unusedSimpArgs false
set_option maxHeartbeats 1600000
set_option maxRecDepth 100000

theorem agHas_c (s n : Int) (w : World) (hs : 0 ≤ s) (hs2 : s ≤ 9223372036854775807) (h : 0 ≤ n) (hn : n < 64) :
    Calls Tryz.prog 26 #[.int .i64 s, .int .i64 n] w (Same (.bool (bit s n)) w) := by
  go_enter Tryz.func26, Tryz.ntmps26
  go_wp2
  go_ret
  exact ⟨by rw [bit_nonneg h, ← has_bit s n hs hs2]; rfl, rfl⟩
theorem chars_push (s : ByteArray) {c : Nat} (hc : c < 6) : chars (s ++ wtext [(c : Int)]) = chars s ++ [(c : Int)] := by
  have h1 : chars (wtext [(c : Int)]) = [(c : Int)] := chars_wtext fun x hx => by simp at hx; omega
  have h2 : chars (s ++ wtext [(c : Int)]) = chars s ++ chars (wtext [(c : Int)]) := by
    unfold chars
    rw [ByteArray.data_append]
    simp
  rw [h2, h1]
theorem longer {T : Task} {s : ByteArray} {u : List Int} {c : Nat} (hs : s.size ≤ 205) (hc : c < 6) (h : uwOf T s = some u) :
    (uwOf T (s ++ wtext [(c : Int)])).isSome = bit T.alphabet c ∧ ∀ v, uwOf T (s ++ wtext [(c : Int)]) = some v → beforeB (wtext u) (wtext v) = false := by
  obtain ⟨ht, hw, hW, hul, hmin⟩ := uw_some (by omega) h
  have hch := chars_push s hc
  have hz : (s ++ wtext [(c : Int)]).size = s.size + 1 := by rw [ByteArray.size_append, size_wtext]; rfl
  have hw' := hw
  simp only [wordIn, Bool.and_eq_true, decide_eq_true_eq, List.all_eq_true] at hw'
  by_cases hb : bit T.alphabet c = true
  · have hw2 : wordIn (s ++ wtext [(c : Int)]) T.alphabet = true := by
      simp only [wordIn, Bool.and_eq_true, decide_eq_true_eq, List.all_eq_true, hz, hch]
      refine ⟨⟨hw'.1.1, by omega⟩, fun x hx => ?_⟩
      rcases List.mem_append.1 hx with hx | hx
      · exact hw'.2 x hx
      · simp at hx; rw [hx]; exact hb
    rcases uw_cases T (s ++ wtext [(c : Int)]) with ⟨h1, -⟩ | ⟨-, h1⟩
    · rw [ht, hw2] at h1; cases h1
    · have hu2 : WitW T (chars (s ++ wtext [(c : Int)])) u := ⟨hW.1, hW.2.1, by rw [hch]; exact hW.2.2.1.trans (List.prefix_append _ _), hW.2.2.2⟩
      rw [hb]
      cases hv : uwOf T (s ++ wtext [(c : Int)]) with
      | none => rw [hv] at h1; exact absurd hu2 (h1 u)
      | some v =>
        rw [hv] at h1
        refine ⟨rfl, fun v' e => ?_⟩
        obtain rfl := Option.some.inj e
        exact before_no (wit_letters ht hW.1) (wit_letters ht h1.1.1) (h1.2 u hu2)
  · have hb' : bit T.alphabet c = false := by simpa using hb
    have hw2 : wordIn (s ++ wtext [(c : Int)]) T.alphabet = false := by
      refine Bool.eq_false_iff.2 fun hh => ?_
      simp only [wordIn, Bool.and_eq_true, decide_eq_true_eq, List.all_eq_true, hch] at hh
      exact hb (hh.2 (c : Int) (by simp))
    have := (uw_invalid (t := T) (s := s ++ wtext [(c : Int)]) (by rw [hw2, Bool.and_false])).1
    rw [this, hb']
    exact ⟨rfl, fun v e => by cases e⟩

theorem walk (v0 : Value) (t0 : List UInt8) (w : World) (hv0 : BytesV w v0 t0) (hD : Deb w) : Calls Tryz.prog 5 #[v0] w (Grows (.bool true) w) := by
  obtain ⟨aB, cB, rfl, hleB, -⟩ := hv0.open
  have HDb := Lib.hid hD
  clear hD
  by_cases hz0 : 1048576 < t0.length
  · go_enter Tryz.func5, Tryz.ntmps5
    go_wp2_with fail
    go_ret
    exact Grows.mk rfl (Ext.refl _)
  go_enter Tryz.func5, Tryz.ntmps5
  go_wp2_with fail
  refine (DrawUnsafeWitness_t _ t0 _ hv0 (by omega)).mono ?_
  rintro e w1 ⟨vt, s, T, rfl, he1, hTV, hTe, hsz⟩
  obtain ⟨vE1, vN1, vA1, rfl, hE1, hN1, hA1⟩ := hTV
  obtain ⟨aE1, cE1, rfl, -, -⟩ := hE1.open
  obtain ⟨aN1, cN1, rfl, -, -⟩ := hN1.open
  obtain ⟨aA1, cA1, rfl, -, -⟩ := hA1.open
  have HT := Lib.hid (show ∀ w', Ext w1 w' → TaskV w' (.agg #[.int .i64 T.sys.alphabet, .int .i64 T.sys.states, .slice aE1 T.sys.edges.length cE1, .int .i64 T.prop.alphabet, .slice aN1 T.prop.next.length cN1, .slice aA1 T.prop.accept.length cA1, .int .i64 T.alphabet]) T from fun w' h => ⟨_, _, _, rfl, hE1.mono h, hN1.mono h, hA1.mono h⟩)
  have HSY := Lib.hid (show ∀ w', Ext w1 w' → SysV w' (.agg #[.int .i64 T.sys.alphabet, .int .i64 T.sys.states, .slice aE1 T.sys.edges.length cE1]) T.sys from fun w' h => ⟨_, rfl, hE1.mono h⟩)
  have HAU := Lib.hid (show ∀ w', Ext w1 w' → AutoV w' (.agg #[.int .i64 T.prop.alphabet, .slice aN1 T.prop.next.length cN1, .slice aA1 T.prop.accept.length cA1]) T.prop from fun w' h => ⟨_, _, rfl, hN1.mono h, hA1.mono h⟩)
  have HD := Lib.hid (show ∀ w', Ext w1 w' → Deb w' from fun w' h => HDb.out.ext (he1.trans h))
  obtain ⟨uw, huw⟩ : ∃ uw, uwOf T s = uw := ⟨_, rfl⟩
  have HUW := Lib.hid huw
  have C1 := Lib.hid (show ∀ w', Ext w1 w' → Calls Tryz.prog 23 #[.agg #[.int .i64 T.sys.alphabet, .int .i64 T.sys.states, .slice aE1 T.sys.edges.length cE1, .int .i64 T.prop.alphabet, .slice aN1 T.prop.next.length cN1, .slice aA1 T.prop.accept.length cA1, .int .i64 T.alphabet], .string s] w' (Grows (.tuple #[.string (rtext uw), .bool uw.isSome]) w') from fun w' h => by have := UnsafeWitness_cd _ T s w' (HT.out _ h) (by omega) (HD.out _ h); rwa [HUW.out] at this)
  have C2 := Lib.hid (show ∀ w', Ext w1 w' → Calls Tryz.prog 24 #[.agg #[.int .i64 T.sys.alphabet, .int .i64 T.sys.states, .slice aE1 T.sys.edges.length cE1, .int .i64 T.prop.alphabet, .slice aN1 T.prop.next.length cN1, .slice aA1 T.prop.accept.length cA1, .int .i64 T.alphabet], .string s] w' (Grows (.tuple #[.string (rtext uw), .bool uw.isSome]) w') from fun w' h => by have := UnsafeWitness_sd _ T s w' (HT.out _ h) (by omega) (by omega); rwa [HUW.out] at this)
  clear hE1 hN1 hA1 huw
  have hx : Ext w1 (w1.alloc (.cells #[.int .i64 T.sys.alphabet, .int .i64 T.sys.states, .slice aE1 T.sys.edges.length cE1, .int .i64 T.prop.alphabet, .slice aN1 T.prop.next.length cN1, .slice aA1 T.prop.accept.length cA1, .int .i64 T.alphabet] 31)) := Ext.alloc _ _
  have bT : Blk (w1.alloc (.cells #[.int .i64 T.sys.alphabet, .int .i64 T.sys.states, .slice aE1 T.sys.edges.length cE1, .int .i64 T.prop.alphabet, .slice aN1 T.prop.next.length cN1, .slice aA1 T.prop.accept.length cA1, .int .i64 T.alphabet] 31)) w1.heap.size #[.int .i64 T.sys.alphabet, .int .i64 T.sys.states, .slice aE1 T.sys.edges.length cE1, .int .i64 T.prop.alphabet, .slice aN1 T.prop.next.length cN1, .slice aA1 T.prop.accept.length cA1, .int .i64 T.alphabet] 31 := Ext.blk (Ext.refl _)
  go_wp2_with fail
  generalize (w1.alloc (.cells #[.int .i64 T.sys.alphabet, .int .i64 T.sys.states, .slice aE1 T.sys.edges.length cE1, .int .i64 T.prop.alphabet, .slice aN1 T.prop.next.length cN1, .slice aA1 T.prop.accept.length cA1, .int .i64 T.alphabet] 31)) = w2 at hx bT ⊢
  have bT_0 := bT.cell 0 rfl; have bT_1 := bT.cell 1 rfl; have bT_2 := bT.cell 2 rfl; have bT_3 := bT.cell 3 rfl; have bT_4 := bT.cell 4 rfl; have bT_5 := bT.cell 5 rfl; have bT_6 := bT.cell 6 rfl
  go_wp2_with fail
  refine (C1.out _ hx).mono ?_
  rintro e wz1 ⟨rfl, hez1⟩
  clear bT_0 bT_1 bT_2 bT_3 bT_4 bT_5 bT_6
  replace bT := bT.ext hez1
  replace hx := hx.trans hez1
  have bT_0 := bT.cell 0 rfl; have bT_1 := bT.cell 1 rfl; have bT_2 := bT.cell 2 rfl; have bT_3 := bT.cell 3 rfl; have bT_4 := bT.cell 4 rfl; have bT_5 := bT.cell 5 rfl; have bT_6 := bT.cell 6 rfl
  go_wp2_with fail
  refine (C2.out _ hx).mono ?_
  rintro e wz2 ⟨rfl, hez2⟩
  clear bT_0 bT_1 bT_2 bT_3 bT_4 bT_5 bT_6
  replace bT := bT.ext hez2
  replace hx := hx.trans hez2
  have bT_0 := bT.cell 0 rfl; have bT_1 := bT.cell 1 rfl; have bT_2 := bT.cell 2 rfl; have bT_3 := bT.cell 3 rfl; have bT_4 := bT.cell 4 rfl; have bT_5 := bT.cell 5 rfl; have bT_6 := bT.cell 6 rfl
  have heq2 : (uw.isSome != uw.isSome) = false := by simp
  have heq3 : (uw.isSome == uw.isSome) = true := by simp
  cases uw with
  | none =>
    go_wp2_with fail
    go_ret
    exact Grows.mk rfl (he1.trans hx)
  | some u =>
  obtain ⟨htv, -, -, -, -⟩ := uw_some (by omega) HUW.out
  obtain ⟨-, -, hal⟩ := taskValid_facts htv
  obtain ⟨a0, a63⟩ := alpha_facts hal
  have HLO := Lib.hid (fun c hc => longer (c := c) hsz hc HUW.out)
  have hus : (wtext u).size ≤ 1048576 := by
    have := (uw_some (by omega) HUW.out).2.2.2.1
    rw [size_wtext]; omega
  have HUS := Lib.hid hus
  clear C1 C2 htv hal heq2 heq3 hus
  clear bT_0 bT_1 bT_2 bT_3 bT_4 bT_5 bT_6
  go_wp2_with fail
  generalize wz2 = wb at *
  go_loopw [9, 72, 73, 74, 75, 76, 77] (fun i _ _ _ _ _ _ wr => ∃ k : Nat, k ≤ 6 ∧ i = .int .i64 k ∧ Ext w1 wr ∧ Blk wr w1.heap.size #[.int .i64 T.sys.alphabet, .int .i64 T.sys.states, .slice aE1 T.sys.edges.length cE1, .int .i64 T.prop.alphabet, .slice aN1 T.prop.next.length cN1, .slice aA1 T.prop.accept.length cA1, .int .i64 T.alphabet] 31) (fun i _ _ _ _ _ _ _ => 6 - (intOf i).toNat)
  case atStart => exact ⟨0, by omega, rfl, hx, bT⟩
  case round =>
    clear hx bT
    obtain ⟨k, hk, rfl, hx, bT⟩ := hrel
    by_cases hlt : k < 6
    · obtain ⟨sc, hsc⟩ : ∃ sc, s ++ wtext [(k : Int)] = sc := ⟨_, rfl⟩
      have hscz : sc.size ≤ 1048576 := by rw [← hsc, ByteArray.size_append, size_wtext]; simp; omega
      have hov : ¬ 9223372036854775807 < s.size + (wtext [(k : Int)]).size := by rw [size_wtext]; simp; omega
      obtain ⟨vw, hvw⟩ : ∃ vw, uwOf T sc = vw := ⟨_, rfl⟩
      obtain ⟨hl1, hl2⟩ := HLO.out k hlt
      rw [hsc, hvw] at hl1 hl2
      have HL2 := Lib.hid hl2
      have CL := Lib.hid (show ∀ w', Calls Tryz.prog 25 #[.int .i64 k] w' (Grows (.string (wtext [(k : Int)])) w') from fun w' => agLetter_c k w' hlt)
      have CU := Lib.hid (show ∀ w', Ext w1 w' → Calls Tryz.prog 23 #[.agg #[.int .i64 T.sys.alphabet, .int .i64 T.sys.states, .slice aE1 T.sys.edges.length cE1, .int .i64 T.prop.alphabet, .slice aN1 T.prop.next.length cN1, .slice aA1 T.prop.accept.length cA1, .int .i64 T.alphabet], .string (s ++ wtext [(k : Int)])] w' (Grows (.tuple #[.string (rtext vw), .bool vw.isSome]) w') from fun w' h => by have := UnsafeWitness_cd _ T sc w' (HT.out _ h) hscz (HD.out _ h); rw [hvw] at this; rwa [hsc])
      have HHA := Lib.hid (show ∀ w', Calls Tryz.prog 26 #[.int .i64 T.alphabet, .int .i64 k] w' (Same (.bool vw.isSome) w') from fun w' => by have := agHas_c T.alphabet k w' a0 (by omega) (by omega) (by omega); rwa [← hl1] at this)
      have hzz : ∀ v, vw = some v → (wtext v).size ≤ 1048576 := fun v e => by
        have := (uw_some (t := T) (s := sc) (u := v) (by rw [← hsc, ByteArray.size_append, size_wtext]; simp; omega) (by rw [hvw, e])).2.2.2.1
        rw [size_wtext]; omega
      have HZZ := Lib.hid hzz
      clear hl1 hl2 hvw hsc hscz hzz
      go_wp2_with fail
      have DbT0 := fun d os => cell_regrown (bT.cell 0 rfl) d os
      have DbT1 := fun d os => cell_regrown (bT.cell 1 rfl) d os
      have DbT2 := fun d os => cell_regrown (bT.cell 2 rfl) d os
      have DbT3 := fun d os => cell_regrown (bT.cell 3 rfl) d os
      have DbT4 := fun d os => cell_regrown (bT.cell 4 rfl) d os
      have DbT5 := fun d os => cell_regrown (bT.cell 5 rfl) d os
      have DbT6 := fun d os => cell_regrown (bT.cell 6 rfl) d os
      refine wp_region_quiet_below (by kernel_rfl) (by kernel_rfl) ?_
      repeat (go_big_quiet_step ((first | (go_at_call 25; exact Grows.quiet (CL.out _)) | (go_at_call 23; exact Grows.quiet (CU.out _ (hx.trans (below_regrown _ _ _)))))))
      refine wpQuiet_nil ?_
      intro _ hw'
      obtain ⟨⟨dq, osq⟩, hw''⟩ := hw'
      subst hw''
      have hq2 : Ext wr (Go.Sort.grow (redrawn wr dq) osq) := below_regrown wr dq osq
      generalize Go.Sort.grow (redrawn wr dq) osq = wq at hq2 ⊢
      clear DbT0 DbT1 DbT2 DbT3 DbT4 DbT5 DbT6
      replace bT := bT.ext hq2
      replace hx := hx.trans hq2
      have bT_0 := bT.cell 0 rfl; have bT_1 := bT.cell 1 rfl; have bT_2 := bT.cell 2 rfl; have bT_3 := bT.cell 3 rfl; have bT_4 := bT.cell 4 rfl; have bT_5 := bT.cell 5 rfl; have bT_6 := bT.cell 6 rfl
      cases vw with
      | none =>
        go_wp2_with (go_at_call 26; refine (HHA.out _).mono ?_; rintro e w' ⟨rfl, rfl⟩)
        exact ⟨⟨k + 1, by omega, by go_num, hx, bT⟩, by simp [intOf]; omega⟩
      | some v =>
        have hb := HL2.out v rfl
        have CB := Lib.hid (show ∀ w', Calls Tryz.prog 27 #[.string (rtext (some u)), .string (rtext (some v))] w' (Grows (.bool false) w') from fun w' => by have := WordBefore_c (wtext u) (wtext v) w' HUS.out (HZZ.out v rfl); rwa [hb] at this)
        clear hb
        go_wp2_with (go_at_call 26; refine (HHA.out _).mono ?_; rintro e w' ⟨rfl, rfl⟩)
        refine (CB.out _).mono ?_
        rintro e w6 ⟨rfl, he6⟩
        go_wp2_with fail
        exact ⟨⟨k + 1, by omega, by go_num, hx.trans he6, bT.ext he6⟩, by simp [intOf]; omega⟩
    · obtain rfl : k = 6 := by omega
      go_wp2_with fail
      go_ret
      exact Grows.mk rfl (he1.trans hx)

theorem own : ownKnob Tryz.prog.godebug = none := by kernel_rfl
theorem laidOut : laidOutB Tryz.prog = true := by kernel_rfl
theorem deb_of_laid {W : World} (h : laidMetH Tryz.prog Rows.fnWitnessLongerRow.laid W) : Deb W := debOfLaid h
theorem laid_met (os : Os) (args : Array Value) : laidMetH Tryz.prog Rows.fnWitnessLongerRow.laid ((laidWorld os).forCall (fun _ _ => 0) ⟨#[], args, []⟩).memory :=
  (LaidIn.of_run [0, 1] 8 (by kernel_rfl) (by kernel_rfl) (by kernel_rfl) (by kernel_rfl)).met
set_option maxRecDepth 100000 in
theorem lifted (os : Os) (started : os.Started) (H : Type) (enc : TypeId × Value → H) :
    ReturnsInHanded {} Tryz.checked os 5 .any (fun w args => (Rows.fnWitnessLongerSpec.pre enc Tryz.prog Tryz.f5 [] false w args ∧ laidMetH Tryz.prog Rows.fnWitnessLongerRow.laid w) ∧ sizedMet enc Tryz.prog Tryz.f5 (OpenSpec.ofChange Rows.fnWitnessLongerSpec) false w args)
      (Rows.fnWitnessLongerSpec.post enc Tryz.prog Tryz.f5 false true false false) := by
  refine returnsInHanded_of_change_and (C := Tryz.checked) (X := fun w _ => laidMetH Tryz.prog Rows.fnWitnessLongerRow.laid w) (fun _ _ _ hh h => h.of_heap hh) own started (by kernel_rfl) Tryz.func5
    (ChangeSpec.witness_at (enc := enc) (C := Tryz.checked) (os := os) (X := fun w _ => laidMetH Tryz.prog Rows.fnWitnessLongerRow.laid w) false (laidWorld os) #[.slice none 0 0] 8 rfl (by kernel_rfl) (by kernel_rfl) (by kernel_rfl) (by kernel_rfl) (by kernel_rfl) (laid_met os _)) ?_
  intro W base args ds gs before hval0 hW _ _ hL _
  have hval : ∀ (j : Nat) t v, Tryz.f5.params[j]? = some t → args[j]? = some v → Value.okWide Tryz.prog W .any base t v := hval0
  have hW' := hW
  obtain ⟨p, q, hA0, hV, rfl, hfz, hnd⟩ := hW
  have hA : DataW.TrodAll enc Tryz.prog W 0 (fun _ => true) true Tryz.f5.params.toList args.toList ds p := hA0
  rw [Tryz.params5] at hA hval
  obtain ⟨v0, vs0, d0, ds0, p0, q0, hargs, rfl, rfl, h0, r0⟩ := trodAll_cons hA
  obtain ⟨rfl, rfl, rfl⟩ := trodAll_nil r0
  obtain rfl : args = #[v0] := by cases args; simp_all
  obtain ⟨rfl, rfl⟩ := trodVars_none hV
  have k0 := h0
  have lt0 : ∀ x ∈ p0, x.block < W.heap.size := by obtain ⟨m, hm⟩ := k0; exact DataW.trod_lt m _ _ _ hm
  obtain ⟨a0, len0, cap0, rfl⟩ := okWide_slice Tryz.underlying22 (hval 0 _ v0 rfl rfl)
  obtain ⟨t0, w0⟩ : ∃ t, BytesV W (.slice a0 len0 cap0) t := by
    obtain ⟨fuel, hf⟩ := h0
    obtain ⟨v, t, hv, ht⟩ := read_bytes hf
    simp [Value.cells] at hv
    subst hv
    exact ⟨t, ht⟩
  clear hA0 hval0
  refine (walk (.slice a0 len0 cap0) t0 W w0 (deb_of_laid hL)).mono fun e W' ⟨he, bel⟩ => ?_
  subst he
  exact ⟨_, rfl, _, _, _, [], _, [], hW', trodAll_mk1 (shut_bool Tryz.underlying4 _), (trodAll_cons_mk (Below.trod laidOut (by kernel_rfl) (of_decide_eq_true (by kernel_rfl)) k0 bel lt0) trodAll_mk0), rfl, bel.frame _, fun h => by cases h⟩

theorem over : Rows.fnWitnessLongerRow.holds Tryz.pinned (OpenSpec.ofChange Rows.fnWitnessLongerSpec) :=
  OpenClaim.holds_of_wide 5 Tryz.f5 rfl rfl rfl rfl rfl rfl rfl ⟨rfl, rfl, rfl, rfl, rfl⟩ rfl rfl rfl rfl rfl (by kernel_rfl) Tryz.func5 (by kernel_rfl)
    (of_decide_eq_true (by kernel_rfl)) (by unfold Func.isWrapper; first | (rw [if_pos (by decide +kernel)]; kernel_rfl) | (rw [if_neg (by decide +kernel)]; exact ⟨rfl, rfl⟩))
    (fun os started H enc _ => lifted os started H enc)

theorem card_holds : Rows.FnWitnessLongerCardSaid :=
  Claim7.holds_tied_plain_at .later [] [.data, .data] true (true, "0ab29cc52e882a9be936818e916824ac7edd2fe4bc3f3bb71145c71ac336b87b") false
    over (fun _ h => by cases h) (by kernel_rfl) (fun _ h => by cases h) fnWitnessLonger_row_tie rfl ⟨rfl, rfl⟩ (by kernel_rfl) rfl
    (fun f fn hf hfn => by
      obtain rfl : f = 5 := Option.some.inj ((show Tryz.prog.funcNamed "loop.example/assumeguarantee/laws.FnWitnessLonger" = some 5 by kernel_rfl).symm.trans hf) |>.symm
      obtain rfl : fn = Tryz.f5 := (Option.some.inj (Tryz.func5.symm.trans hfn)).symm
      refine ⟨by kernel_rfl, fun j t ht => ?_⟩
      rw [Tryz.params5] at ht
      match j, ht with
      | 0, ht =>
        have h0 : t = 22 := by simpa using ht.symm
        subst h0
        exact (show Tryz.prog.wantsStandIn 22 = false by kernel_rfl)
      | j + 1, ht => simp at ht)
    (by kernel_rfl)
#print axioms card_holds
end Go.Proofs.YtloampfmlhmlhaaGreatDoor.lawFnWitnessLonger
