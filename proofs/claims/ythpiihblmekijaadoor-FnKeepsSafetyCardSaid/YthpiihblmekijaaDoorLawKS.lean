/- FnKeepsSafety: for all bytes, the drawn system violates the drawn property first as it violates its safety part: the law answers true. -/
import Derived.Test.YthpiihblmekijaaDoorDrawE
import Derived.Test.YthpiihblmekijaaDoorSafe
import Derived.Test.YthpiihblmekijaaDoorPlainC
import Derived.Test.YthpiihblmekijaaDoorDet
import Derived.Test.YthpiihblmekijaaDoorCard
import Derived.Test.YthpiihblmekijaaDoorDrawL
namespace Go.Proofs.YthpiihblmekijaaDoor.lawFnKeepsSafety
open Go.ChangeShapes Go.WideShapes Go.ChangeAt Go.RowKit
open Go.Proofs.YthpiihblmekijaaDoor
open Go.ChangeMaps (open_string shut_string)
set_option linter.unusedVariables false
set_option linter.unusedSimpArgs false
set_option maxHeartbeats 1600000
set_option maxRecDepth 100000

theorem walk (v0 : Value) (t0 : List UInt8) (w : World) (hv0 : BytesV w v0 t0) (hD : Deb w) : Calls Tryd.prog 3 #[v0] w (Grows (.bool true) w) := by
  obtain ⟨aB, cB, rfl, hleB, -⟩ := hv0.open
  have HDb := Lib.hid hD
  clear hD
  by_cases hz0 : 1048576 < t0.length
  · go_enter Tryd.func3, Tryd.ntmps3
    go_wp2_with fail
    go_ret
    exact Grows.mk rfl (Ext.refl _)
  go_enter Tryd.func3, Tryd.ntmps3
  go_wp2_with fail
  refine (DrawFirstViolation_t _ t0 _ hv0 (by omega)).mono ?_
  rintro e w1 ⟨r, D, rfl, he1, hD1, hT1, s, p, rfl, hS, hP⟩
  obtain ⟨S, hSe1, hSV1⟩ := hS.sys hT1
  obtain ⟨vE1, rfl, hE1⟩ := hSV1
  obtain ⟨aE1, cE1, rfl, -, -⟩ := hE1.open
  obtain ⟨P, hPn2, hPa2, hPV2⟩ := hP.auto hT1
  obtain ⟨vN2, vA2, rfl, hN2, hA2⟩ := hPV2
  obtain ⟨aN2, cN2, rfl, -, -⟩ := hN2.open
  obtain ⟨aA2, cA2, rfl, -, -⟩ := hA2.open
  have HS := Lib.hid (show ∀ w', Ext w1 w' → SysV w' (.agg #[.int .i64 S.alphabet, .int .i64 S.states, .slice aE1 S.edges.length cE1]) S from fun w' h => ⟨_, rfl, hE1.mono h⟩)
  have HP := Lib.hid (show ∀ w', Ext w1 w' → AutoV w' (.agg #[.int .i64 P.alphabet, .slice aN2 P.next.length cN2, .slice aA2 P.accept.length cA2]) P from fun w' h => ⟨_, _, rfl, hN2.mono h, hA2.mono h⟩)
  have HD := Lib.hid (show ∀ w', Ext w1 w' → Deb w' from fun w' h => HDb.out.ext (he1.trans h))
  obtain ⟨rr, hrr⟩ : ∃ rr, pvOf [S] P = rr := ⟨_, rfl⟩
  have HR := Lib.hid hrr
  have C1 := Lib.hid (show ∀ w', Ext w1 w' → Calls Tryd.prog 7 #[.agg #[.int .i64 S.alphabet, .int .i64 S.states, .slice aE1 S.edges.length cE1], .agg #[.int .i64 P.alphabet, .slice aN2 P.next.length cN2, .slice aA2 P.accept.length cA2]] w' (Grows (.tuple #[.string (rtext rr), .bool rr.isSome]) w') from fun w' h => by have := FirstViolation_cd _ _ S P _ (HS.out _ h) (HP.out _ h) (HD.out _ h); rwa [HR.out] at this)
  have C2 := Lib.hid (show ∀ w', Ext w1 w' → Calls Tryd.prog 8 #[.agg #[.int .i64 S.alphabet, .int .i64 S.states, .slice aE1 S.edges.length cE1], .agg #[.int .i64 P.alphabet, .slice aN2 P.next.length cN2, .slice aA2 P.accept.length cA2]] w' (Grows (.tuple #[.string (rtext rr), .bool rr.isSome]) w') from fun w' h => by have := FirstViolation_sd _ _ S P _ (HS.out _ h) (HP.out _ h) (by omega); rwa [HR.out] at this)
  clear hE1 hN2 hA2 hS hP hT1 hD1 hrr
  have hx : Ext w1 ((w1.alloc (.cells #[.int .i64 S.alphabet, .int .i64 S.states, .slice aE1 S.edges.length cE1] 25)).alloc (.cells #[.int .i64 P.alphabet, .slice aN2 P.next.length cN2, .slice aA2 P.accept.length cA2] 29)) := (Ext.alloc _ _).trans (Ext.alloc _ _)
  have b3 : Blk ((w1.alloc (.cells #[.int .i64 S.alphabet, .int .i64 S.states, .slice aE1 S.edges.length cE1] 25)).alloc (.cells #[.int .i64 P.alphabet, .slice aN2 P.next.length cN2, .slice aA2 P.accept.length cA2] 29)) w1.heap.size #[.int .i64 S.alphabet, .int .i64 S.states, .slice aE1 S.edges.length cE1] 25 := Ext.blk (Ext.alloc _ _)
  have b4 : Blk ((w1.alloc (.cells #[.int .i64 S.alphabet, .int .i64 S.states, .slice aE1 S.edges.length cE1] 25)).alloc (.cells #[.int .i64 P.alphabet, .slice aN2 P.next.length cN2, .slice aA2 P.accept.length cA2] 29)) (w1.heap.size + 1) #[.int .i64 P.alphabet, .slice aN2 P.next.length cN2, .slice aA2 P.accept.length cA2] 29 := Ext.blk1 (Ext.refl _)
  go_wp2_with fail
  generalize ((w1.alloc (.cells #[.int .i64 S.alphabet, .int .i64 S.states, .slice aE1 S.edges.length cE1] 25)).alloc (.cells #[.int .i64 P.alphabet, .slice aN2 P.next.length cN2, .slice aA2 P.accept.length cA2] 29)) = w2 at hx b3 b4 ⊢
  have b3_0 := b3.cell 0 rfl; have b3_1 := b3.cell 1 rfl; have b3_2 := b3.cell 2 rfl; have b4_0 := b4.cell 0 rfl; have b4_1 := b4.cell 1 rfl; have b4_2 := b4.cell 2 rfl
  go_wp2_with fail
  refine (C1.out _ hx).mono ?_
  rintro e wz1 ⟨rfl, hez1⟩
  clear b3_0 b3_1 b3_2 b4_0 b4_1 b4_2
  replace b3 := b3.ext hez1
  replace b4 := b4.ext hez1
  replace hx := hx.trans hez1
  have b3_0 := b3.cell 0 rfl; have b3_1 := b3.cell 1 rfl; have b3_2 := b3.cell 2 rfl; have b4_0 := b4.cell 0 rfl; have b4_1 := b4.cell 1 rfl; have b4_2 := b4.cell 2 rfl
  go_wp2_with fail
  refine (C2.out _ hx).mono ?_
  rintro e wz2 ⟨rfl, hez2⟩
  clear b3_0 b3_1 b3_2 b4_0 b4_1 b4_2
  replace b3 := b3.ext hez2
  replace b4 := b4.ext hez2
  replace hx := hx.trans hez2
  have b3_0 := b3.cell 0 rfl; have b3_1 := b3.cell 1 rfl; have b3_2 := b3.cell 2 rfl; have b4_0 := b4.cell 0 rfl; have b4_1 := b4.cell 1 rfl; have b4_2 := b4.cell 2 rfl
  have heq2 : (rr.isSome != rr.isSome) = false := by simp
  have heq3 : (rr.isSome == rr.isSome) = true := by simp
  by_cases hp : autoValid P = true
  case neg =>
    have hp : autoValid P = false := by simpa using hp
    go_wp2_with fail
    refine (AutomatonValid_b hp (HP.out _ hx)).mono ?_
    rintro e wz3 ⟨rfl, hez3⟩
    clear b3_0 b3_1 b3_2 b4_0 b4_1 b4_2
    replace b3 := b3.ext hez3
    replace b4 := b4.ext hez3
    replace hx := hx.trans hez3
    have b3_0 := b3.cell 0 rfl; have b3_1 := b3.cell 1 rfl; have b3_2 := b3.cell 2 rfl; have b4_0 := b4.cell 0 rfl; have b4_1 := b4.cell 1 rfl; have b4_2 := b4.cell 2 rfl
    go_wp2_with fail
    go_ret
    exact Grows.mk rfl (he1.trans hx)
  go_wp2_with fail
  refine (AutomatonValid_b hp (HP.out _ hx)).mono ?_
  rintro e wz4 ⟨rfl, hez4⟩
  clear b3_0 b3_1 b3_2 b4_0 b4_1 b4_2
  replace b3 := b3.ext hez4
  replace b4 := b4.ext hez4
  replace hx := hx.trans hez4
  have b3_0 := b3.cell 0 rfl; have b3_1 := b3.cell 1 rfl; have b3_2 := b3.cell 2 rfl; have b4_0 := b4.cell 0 rfl; have b4_1 := b4.cell 1 rfl; have b4_2 := b4.cell 2 rfl
  go_wp2_with fail
  refine (SafetyPart_c _ P _ (HP.out _ hx) hp).mono ?_
  rintro e w5 ⟨v5, rfl, he5, hO⟩
  clear b3_0 b3_1 b3_2 b4_0 b4_1 b4_2
  have hXV := hO.auto
  obtain ⟨vN5, vA5, rfl, hN5, hA5⟩ := hXV
  obtain ⟨aN5, cN5, rfl, -, -⟩ := hN5.open
  obtain ⟨aA5, cA5, rfl, -, -⟩ := hA5.open
  replace hx := hx.trans he5
  have C3 := Lib.hid (show ∀ w', Ext w5 w' → Calls Tryd.prog 7 #[.agg #[.int .i64 S.alphabet, .int .i64 S.states, .slice aE1 S.edges.length cE1], .agg #[.int .i64 (safetyPart P).alphabet, .slice aN5 (safetyPart P).next.length cN5, .slice aA5 (safetyPart P).accept.length cA5]] w' (Grows (.tuple #[.string (rtext rr), .bool rr.isSome]) w') from fun w' h => by
    have := FirstViolation_cd _ _ S (safetyPart P) _ (HS.out _ (hx.trans h)) ⟨_, _, rfl, hN5.mono h, hA5.mono h⟩ (HD.out _ (hx.trans h))
    rwa [pv_safety S hp, HR.out] at this)
  have b3 := (b3.ext he5).ext (Ext.alloc w5 (.cells #[.int .i64 (safetyPart P).alphabet, .slice aN5 (safetyPart P).next.length cN5, .slice aA5 (safetyPart P).accept.length cA5] 29))
  have b9 := Blk.new w5 #[.int .i64 (safetyPart P).alphabet, .slice aN5 (safetyPart P).next.length cN5, .slice aA5 (safetyPart P).accept.length cA5] 29
  have hx9 := Ext.alloc w5 (.cells #[.int .i64 (safetyPart P).alphabet, .slice aN5 (safetyPart P).next.length cN5, .slice aA5 (safetyPart P).accept.length cA5] 29)
  clear hO hN5 hA5 hp
  go_upto_region 9 with fail
  generalize w5.alloc (.cells #[.int .i64 (safetyPart P).alphabet, .slice aN5 (safetyPart P).next.length cN5, .slice aA5 (safetyPart P).accept.length cA5] 29) = w6 at b3 b9 hx9 ⊢
  have b3_0 := b3.cell 0 rfl; have b3_1 := b3.cell 1 rfl; have b3_2 := b3.cell 2 rfl; have b9_0 := b9.cell 0 rfl; have b9_1 := b9.cell 1 rfl; have b9_2 := b9.cell 2 rfl
  go_wp2_with fail
  refine (C3.out _ hx9).mono ?_
  rintro e w7 ⟨rfl, he7⟩
  go_wp2_with fail
  go_ret
  exact Grows.mk rfl (he1.trans (hx.trans (hx9.trans he7)))

theorem own : ownKnob Tryd.prog.godebug = none := by kernel_rfl
theorem laidOut : laidOutB Tryd.prog = true := by kernel_rfl
theorem deb_of_laid {W : World} (h : laidMetH Tryd.prog Rows.fnKeepsSafetyRow.laid W) : Deb W := debOfLaid h
theorem laid_met (os : Os) (args : Array Value) : laidMetH Tryd.prog Rows.fnKeepsSafetyRow.laid ((laidWorld os).forCall (fun _ _ => 0) ⟨#[], args, []⟩).memory :=
  (LaidIn.of_run [0, 1] 8 (by kernel_rfl) (by kernel_rfl) (by kernel_rfl) (by kernel_rfl)).met
set_option maxRecDepth 100000 in
theorem lifted (os : Os) (started : os.Started) (H : Type) (enc : TypeId × Value → H) :
    ReturnsInHanded {} Tryd.checked os 3 .any (fun w args => (Rows.fnKeepsSafetySpec.pre enc Tryd.prog Tryd.f3 [] false w args ∧ laidMetH Tryd.prog Rows.fnKeepsSafetyRow.laid w) ∧ sizedMet enc Tryd.prog Tryd.f3 (OpenSpec.ofChange Rows.fnKeepsSafetySpec) false w args)
      (Rows.fnKeepsSafetySpec.post enc Tryd.prog Tryd.f3 false true false false) := by
  refine returnsInHanded_of_change_and (C := Tryd.checked) (X := fun w _ => laidMetH Tryd.prog Rows.fnKeepsSafetyRow.laid w) (fun _ _ _ hh h => h.of_heap hh) own started (by kernel_rfl) Tryd.func3
    (ChangeSpec.witness_at (enc := enc) (C := Tryd.checked) (os := os) (X := fun w _ => laidMetH Tryd.prog Rows.fnKeepsSafetyRow.laid w) false (laidWorld os) #[.slice none 0 0] 8 rfl (by kernel_rfl) (by kernel_rfl) (by kernel_rfl) (by kernel_rfl) (by kernel_rfl) (laid_met os _)) ?_
  intro W base args ds gs before hval0 hW _ _ hL _
  have hval : ∀ (j : Nat) t v, Tryd.f3.params[j]? = some t → args[j]? = some v → Value.okWide Tryd.prog W .any base t v := hval0
  have hW' := hW
  obtain ⟨p, q, hA0, hV, rfl, hfz, hnd⟩ := hW
  have hA : DataW.TrodAll enc Tryd.prog W 0 (fun _ => true) true Tryd.f3.params.toList args.toList ds p := hA0
  rw [Tryd.params3] at hA hval
  obtain ⟨v0, vs0, d0, ds0, p0, q0, hargs, rfl, rfl, h0, r0⟩ := trodAll_cons hA
  obtain ⟨rfl, rfl, rfl⟩ := trodAll_nil r0
  obtain rfl : args = #[v0] := by cases args; simp_all
  obtain ⟨rfl, rfl⟩ := trodVars_none hV
  have k0 := h0
  have lt0 : ∀ x ∈ p0, x.block < W.heap.size := by obtain ⟨m, hm⟩ := k0; exact DataW.trod_lt m _ _ _ hm
  obtain ⟨a0, len0, cap0, rfl⟩ := okWide_slice Tryd.underlying22 (hval 0 _ v0 rfl rfl)
  obtain ⟨t0, w0⟩ : ∃ t, BytesV W (.slice a0 len0 cap0) t := by
    obtain ⟨fuel, hf⟩ := h0
    obtain ⟨v, t, hv, ht⟩ := read_bytes hf
    simp [Value.cells] at hv
    subst hv
    exact ⟨t, ht⟩
  clear hA0 hval0
  refine (walk (.slice a0 len0 cap0) t0 W w0 (deb_of_laid hL)).mono fun e W' ⟨he, bel⟩ => ?_
  subst he
  exact ⟨_, rfl, _, _, _, [], _, [], hW', trodAll_mk1 (shut_bool Tryd.underlying4 _), (trodAll_cons_mk (Below.trod laidOut (by kernel_rfl) (of_decide_eq_true (by kernel_rfl)) k0 bel lt0) trodAll_mk0), rfl, bel.frame _, fun h => by cases h⟩

theorem over : Rows.fnKeepsSafetyRow.holds Tryd.pinned (OpenSpec.ofChange Rows.fnKeepsSafetySpec) :=
  OpenClaim.holds_of_wide 3 Tryd.f3 rfl rfl rfl rfl rfl rfl rfl ⟨rfl, rfl, rfl, rfl, rfl⟩ rfl rfl rfl rfl rfl (by kernel_rfl) Tryd.func3 (by kernel_rfl)
    (of_decide_eq_true (by kernel_rfl)) (by unfold Func.isWrapper; first | (rw [if_pos (by decide +kernel)]; kernel_rfl) | (rw [if_neg (by decide +kernel)]; exact ⟨rfl, rfl⟩))
    (fun os started H enc _ => lifted os started H enc)

theorem card_holds : Rows.FnKeepsSafetyCardSaid :=
  Claim7.holds_tied_plain_at .later [] [.data, .data] true (true, "9194cc4cee2721ff5ea684eef4f90cbfa4ee76953add42d73d8f22bd47bd943c") false
    over (fun _ h => by cases h) (by kernel_rfl) (fun _ h => by cases h) fnKeepsSafety_row_tie rfl ⟨rfl, rfl⟩ (by kernel_rfl) rfl
    (fun f fn hf hfn => by
      obtain rfl : f = 3 := Option.some.inj ((show Tryd.prog.funcNamed "loop.example/assumeguarantee/laws.FnKeepsSafety" = some 3 by kernel_rfl).symm.trans hf) |>.symm
      obtain rfl : fn = Tryd.f3 := (Option.some.inj (Tryd.func3.symm.trans hfn)).symm
      refine ⟨by kernel_rfl, fun j t ht => ?_⟩
      rw [Tryd.params3] at ht
      match j, ht with
      | 0, ht =>
        have h0 : t = 22 := by simpa using ht.symm
        subst h0
        exact (show Tryd.prog.wantsStandIn 22 = false by kernel_rfl)
      | j + 1, ht => simp at ht)
    (by kernel_rfl)
#print axioms card_holds
end Go.Proofs.YthpiihblmekijaaDoor.lawFnKeepsSafety
