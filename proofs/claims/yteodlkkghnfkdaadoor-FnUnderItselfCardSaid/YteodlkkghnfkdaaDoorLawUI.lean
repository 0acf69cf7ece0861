/- FnUnderItself: for all bytes, the drawn system keeps the drawn assumption under itself, where both are valid: the law answers true. -/
import Derived.Test.YteodlkkghnfkdaaDoorDrawB
import Derived.Test.YteodlkkghnfkdaaDoorPlainA
import Derived.Test.YteodlkkghnfkdaaDoorDet
import Derived.Test.YteodlkkghnfkdaaDoorCard
import Derived.Test.YteodlkkghnfkdaaDoorDrawL
namespace Go.Proofs.YteodlkkghnfkdaaDoor.lawFnUnderItself
open Go.ChangeShapes Go.WideShapes Go.ChangeAt Go.RowKit
open Go.Proofs.YteodlkkghnfkdaaDoor
open Go.ChangeMaps (open_string shut_string)
set_option linter.unusedVariables false
set_option linter.unusedSimpArgs false
set_option maxHeartbeats 1600000
set_option maxRecDepth 100000

theorem walk (v0 : Value) (t0 : List UInt8) (w : World) (hv0 : BytesV w v0 t0) (hD : Deb w) : Calls Tryd.prog 3 #[v0] w (Grows (.bool true) w) := by
  obtain ⟨aB, cB, rfl, hleB, -⟩ := hv0.open
  have HDb := Lib.hid hD
  clear hD
  by_cases hz0 : 1048576 < t0.length
  · go_enter Tryd.func3, Tryd.ntmps3
    go_wp2_with fail
    go_ret
    exact Grows.mk rfl (Ext.refl _)
  go_enter Tryd.func3, Tryd.ntmps3
  go_wp2_with fail
  refine (DrawKeepsUnder_t _ t0 _ hv0 (by omega)).mono ?_
  rintro e w1 ⟨r, D, rfl, he1, hD1, hT1, s, a, p, rfl, hS, hA, hP⟩
  obtain ⟨S, hSe1, hSV1⟩ := hS.sys hT1
  obtain ⟨vE1, rfl, hE1⟩ := hSV1
  obtain ⟨aE1, cE1, rfl, -, -⟩ := hE1.open
  obtain ⟨A, hPn2, hPa2, hPV2⟩ := hA.auto hT1
  obtain ⟨vN2, vA2, rfl, hN2, hA2⟩ := hPV2
  obtain ⟨aN2, cN2, rfl, -, -⟩ := hN2.open
  obtain ⟨aA2, cA2, rfl, -, -⟩ := hA2.open
  obtain ⟨P, hPn3, hPa3, hPV3⟩ := hP.auto hT1
  obtain ⟨vN3, vA3, rfl, hN3, hA3⟩ := hPV3
  obtain ⟨aN3, cN3, rfl, -, -⟩ := hN3.open
  obtain ⟨aA3, cA3, rfl, -, -⟩ := hA3.open
  have HS := Lib.hid (show ∀ w', Ext w1 w' → SysV w' (.agg #[.int .i64 S.alphabet, .int .i64 S.states, .slice aE1 S.edges.length cE1]) S from fun w' h => ⟨_, rfl, hE1.mono h⟩)
  have HA := Lib.hid (show ∀ w', Ext w1 w' → AutoV w' (.agg #[.int .i64 A.alphabet, .slice aN2 A.next.length cN2, .slice aA2 A.accept.length cA2]) A from fun w' h => ⟨_, _, rfl, hN2.mono h, hA2.mono h⟩)
  have HP := Lib.hid (show ∀ w', Ext w1 w' → AutoV w' (.agg #[.int .i64 P.alphabet, .slice aN3 P.next.length cN3, .slice aA3 P.accept.length cA3]) P from fun w' h => ⟨_, _, rfl, hN3.mono h, hA3.mono h⟩)
  have HD := Lib.hid (show ∀ w', Ext w1 w' → Deb w' from fun w' h => HDb.out.ext (he1.trans h))
  obtain ⟨b, hb⟩ : ∃ b, underB S A P = b := ⟨_, rfl⟩
  have C1 := Lib.hid (show ∀ w', Ext w1 w' → Calls Tryd.prog 7 #[.agg #[.int .i64 S.alphabet, .int .i64 S.states, .slice aE1 S.edges.length cE1], .agg #[.int .i64 A.alphabet, .slice aN2 A.next.length cN2, .slice aA2 A.accept.length cA2], .agg #[.int .i64 P.alphabet, .slice aN3 P.next.length cN3, .slice aA3 P.accept.length cA3]] w' (Grows (.bool b) w') from fun w' h => by have := KeepsUnder_cd _ _ _ S A P _ (HS.out _ h) (HA.out _ h) (HP.out _ h) (HD.out _ h); rwa [hb] at this)
  have C2 := Lib.hid (show ∀ w', Ext w1 w' → Calls Tryd.prog 8 #[.agg #[.int .i64 S.alphabet, .int .i64 S.states, .slice aE1 S.edges.length cE1], .agg #[.int .i64 A.alphabet, .slice aN2 A.next.length cN2, .slice aA2 A.accept.length cA2], .agg #[.int .i64 P.alphabet, .slice aN3 P.next.length cN3, .slice aA3 P.accept.length cA3]] w' (Grows (.bool b) w') from fun w' h => by have := KeepsUnder_sd _ _ _ S A P _ (HS.out _ h) (HA.out _ h) (HP.out _ h) (by omega); rwa [hb] at this)
  clear hE1 hN2 hA2 hN3 hA3 hS hA hP hT1 hD1 hb
  have hx : Ext w1 (((w1.alloc (.cells #[.int .i64 S.alphabet, .int .i64 S.states, .slice aE1 S.edges.length cE1] 25)).alloc (.cells #[.int .i64 A.alphabet, .slice aN2 A.next.length cN2, .slice aA2 A.accept.length cA2] 29)).alloc (.cells #[.int .i64 P.alphabet, .slice aN3 P.next.length cN3, .slice aA3 P.accept.length cA3] 29)) := ((Ext.alloc _ _).trans (Ext.alloc _ _)).trans (Ext.alloc _ _)
  have b3 : Blk (((w1.alloc (.cells #[.int .i64 S.alphabet, .int .i64 S.states, .slice aE1 S.edges.length cE1] 25)).alloc (.cells #[.int .i64 A.alphabet, .slice aN2 A.next.length cN2, .slice aA2 A.accept.length cA2] 29)).alloc (.cells #[.int .i64 P.alphabet, .slice aN3 P.next.length cN3, .slice aA3 P.accept.length cA3] 29)) w1.heap.size #[.int .i64 S.alphabet, .int .i64 S.states, .slice aE1 S.edges.length cE1] 25 := Ext.blk ((Ext.alloc _ _).trans (Ext.alloc _ _))
  have b4 : Blk (((w1.alloc (.cells #[.int .i64 S.alphabet, .int .i64 S.states, .slice aE1 S.edges.length cE1] 25)).alloc (.cells #[.int .i64 A.alphabet, .slice aN2 A.next.length cN2, .slice aA2 A.accept.length cA2] 29)).alloc (.cells #[.int .i64 P.alphabet, .slice aN3 P.next.length cN3, .slice aA3 P.accept.length cA3] 29)) (w1.heap.size + 1) #[.int .i64 A.alphabet, .slice aN2 A.next.length cN2, .slice aA2 A.accept.length cA2] 29 := Ext.blk1 (Ext.alloc _ _)
  have b5 : Blk (((w1.alloc (.cells #[.int .i64 S.alphabet, .int .i64 S.states, .slice aE1 S.edges.length cE1] 25)).alloc (.cells #[.int .i64 A.alphabet, .slice aN2 A.next.length cN2, .slice aA2 A.accept.length cA2] 29)).alloc (.cells #[.int .i64 P.alphabet, .slice aN3 P.next.length cN3, .slice aA3 P.accept.length cA3] 29)) (w1.heap.size + 1 + 1) #[.int .i64 P.alphabet, .slice aN3 P.next.length cN3, .slice aA3 P.accept.length cA3] 29 := Ext.blk2 (Ext.refl _)
  go_wp2_with fail
  generalize (((w1.alloc (.cells #[.int .i64 S.alphabet, .int .i64 S.states, .slice aE1 S.edges.length cE1] 25)).alloc (.cells #[.int .i64 A.alphabet, .slice aN2 A.next.length cN2, .slice aA2 A.accept.length cA2] 29)).alloc (.cells #[.int .i64 P.alphabet, .slice aN3 P.next.length cN3, .slice aA3 P.accept.length cA3] 29)) = w2 at hx b3 b4 b5 ⊢
  have b3_0 := b3.cell 0 rfl; have b3_1 := b3.cell 1 rfl; have b3_2 := b3.cell 2 rfl; have b4_0 := b4.cell 0 rfl; have b4_1 := b4.cell 1 rfl; have b4_2 := b4.cell 2 rfl; have b5_0 := b5.cell 0 rfl; have b5_1 := b5.cell 1 rfl; have b5_2 := b5.cell 2 rfl
  have heq : (b != b) = false := by simp
  have heq2 : (b == b) = true := by simp
  go_wp2_with fail
  refine (C1.out _ hx).mono ?_
  rintro e wz1 ⟨rfl, hez1⟩
  clear b3_0 b3_1 b3_2 b4_0 b4_1 b4_2 b5_0 b5_1 b5_2
  replace b3 := b3.ext hez1
  replace b4 := b4.ext hez1
  replace b5 := b5.ext hez1
  replace hx := hx.trans hez1
  have b3_0 := b3.cell 0 rfl; have b3_1 := b3.cell 1 rfl; have b3_2 := b3.cell 2 rfl; have b4_0 := b4.cell 0 rfl; have b4_1 := b4.cell 1 rfl; have b4_2 := b4.cell 2 rfl; have b5_0 := b5.cell 0 rfl; have b5_1 := b5.cell 1 rfl; have b5_2 := b5.cell 2 rfl
  go_wp2_with fail
  refine (C2.out _ hx).mono ?_
  rintro e wz2 ⟨rfl, hez2⟩
  clear b3_0 b3_1 b3_2 b4_0 b4_1 b4_2 b5_0 b5_1 b5_2
  replace b3 := b3.ext hez2
  replace b4 := b4.ext hez2
  replace b5 := b5.ext hez2
  replace hx := hx.trans hez2
  have b3_0 := b3.cell 0 rfl; have b3_1 := b3.cell 1 rfl; have b3_2 := b3.cell 2 rfl; have b4_0 := b4.cell 0 rfl; have b4_1 := b4.cell 1 rfl; have b4_2 := b4.cell 2 rfl; have b5_0 := b5.cell 0 rfl; have b5_1 := b5.cell 1 rfl; have b5_2 := b5.cell 2 rfl
  by_cases hs : sysValid S = true
  case neg =>
    have hs : sysValid S = false := by simpa using hs
    go_wp2_with fail
    refine (SystemValid_b hs (HS.out _ hx)).mono ?_
    rintro e wz3 ⟨rfl, hez3⟩
    clear b3_0 b3_1 b3_2 b4_0 b4_1 b4_2 b5_0 b5_1 b5_2
    replace b3 := b3.ext hez3
    replace b4 := b4.ext hez3
    replace b5 := b5.ext hez3
    replace hx := hx.trans hez3
    have b3_0 := b3.cell 0 rfl; have b3_1 := b3.cell 1 rfl; have b3_2 := b3.cell 2 rfl; have b4_0 := b4.cell 0 rfl; have b4_1 := b4.cell 1 rfl; have b4_2 := b4.cell 2 rfl; have b5_0 := b5.cell 0 rfl; have b5_1 := b5.cell 1 rfl; have b5_2 := b5.cell 2 rfl
    go_wp2_with fail
    refine (C2.out _ hx).mono ?_
    rintro e wz4 ⟨rfl, hez4⟩
    clear b3_0 b3_1 b3_2 b4_0 b4_1 b4_2 b5_0 b5_1 b5_2
    replace b3 := b3.ext hez4
    replace b4 := b4.ext hez4
    replace b5 := b5.ext hez4
    replace hx := hx.trans hez4
    have b3_0 := b3.cell 0 rfl; have b3_1 := b3.cell 1 rfl; have b3_2 := b3.cell 2 rfl; have b4_0 := b4.cell 0 rfl; have b4_1 := b4.cell 1 rfl; have b4_2 := b4.cell 2 rfl; have b5_0 := b5.cell 0 rfl; have b5_1 := b5.cell 1 rfl; have b5_2 := b5.cell 2 rfl
    go_wp2_with fail
    go_ret
    exact Grows.mk rfl (he1.trans hx)
  by_cases ha : autoValid A = true
  case neg =>
    have ha : autoValid A = false := by simpa using ha
    go_wp2_with fail
    refine (SystemValid_b hs (HS.out _ hx)).mono ?_
    rintro e wz5 ⟨rfl, hez5⟩
    clear b3_0 b3_1 b3_2 b4_0 b4_1 b4_2 b5_0 b5_1 b5_2
    replace b3 := b3.ext hez5
    replace b4 := b4.ext hez5
    replace b5 := b5.ext hez5
    replace hx := hx.trans hez5
    have b3_0 := b3.cell 0 rfl; have b3_1 := b3.cell 1 rfl; have b3_2 := b3.cell 2 rfl; have b4_0 := b4.cell 0 rfl; have b4_1 := b4.cell 1 rfl; have b4_2 := b4.cell 2 rfl; have b5_0 := b5.cell 0 rfl; have b5_1 := b5.cell 1 rfl; have b5_2 := b5.cell 2 rfl
    go_wp2_with fail
    refine (AutomatonValid_b ha (HA.out _ hx)).mono ?_
    rintro e wz6 ⟨rfl, hez6⟩
    clear b3_0 b3_1 b3_2 b4_0 b4_1 b4_2 b5_0 b5_1 b5_2
    replace b3 := b3.ext hez6
    replace b4 := b4.ext hez6
    replace b5 := b5.ext hez6
    replace hx := hx.trans hez6
    have b3_0 := b3.cell 0 rfl; have b3_1 := b3.cell 1 rfl; have b3_2 := b3.cell 2 rfl; have b4_0 := b4.cell 0 rfl; have b4_1 := b4.cell 1 rfl; have b4_2 := b4.cell 2 rfl; have b5_0 := b5.cell 0 rfl; have b5_1 := b5.cell 1 rfl; have b5_2 := b5.cell 2 rfl
    go_wp2_with fail
    refine (C2.out _ hx).mono ?_
    rintro e wz7 ⟨rfl, hez7⟩
    clear b3_0 b3_1 b3_2 b4_0 b4_1 b4_2 b5_0 b5_1 b5_2
    replace b3 := b3.ext hez7
    replace b4 := b4.ext hez7
    replace b5 := b5.ext hez7
    replace hx := hx.trans hez7
    have b3_0 := b3.cell 0 rfl; have b3_1 := b3.cell 1 rfl; have b3_2 := b3.cell 2 rfl; have b4_0 := b4.cell 0 rfl; have b4_1 := b4.cell 1 rfl; have b4_2 := b4.cell 2 rfl; have b5_0 := b5.cell 0 rfl; have b5_1 := b5.cell 1 rfl; have b5_2 := b5.cell 2 rfl
    go_wp2_with fail
    go_ret
    exact Grows.mk rfl (he1.trans hx)
  have hk := under_itself hs ha
  go_wp2_with fail
  refine (SystemValid_b hs (HS.out _ hx)).mono ?_
  rintro e wz8 ⟨rfl, hez8⟩
  clear b3_0 b3_1 b3_2 b4_0 b4_1 b4_2 b5_0 b5_1 b5_2
  replace b3 := b3.ext hez8
  replace b4 := b4.ext hez8
  replace b5 := b5.ext hez8
  replace hx := hx.trans hez8
  have b3_0 := b3.cell 0 rfl; have b3_1 := b3.cell 1 rfl; have b3_2 := b3.cell 2 rfl; have b4_0 := b4.cell 0 rfl; have b4_1 := b4.cell 1 rfl; have b4_2 := b4.cell 2 rfl; have b5_0 := b5.cell 0 rfl; have b5_1 := b5.cell 1 rfl; have b5_2 := b5.cell 2 rfl
  go_wp2_with fail
  refine (AutomatonValid_b ha (HA.out _ hx)).mono ?_
  rintro e wz9 ⟨rfl, hez9⟩
  clear b3_0 b3_1 b3_2 b4_0 b4_1 b4_2 b5_0 b5_1 b5_2
  replace b3 := b3.ext hez9
  replace b4 := b4.ext hez9
  replace b5 := b5.ext hez9
  replace hx := hx.trans hez9
  have b3_0 := b3.cell 0 rfl; have b3_1 := b3.cell 1 rfl; have b3_2 := b3.cell 2 rfl; have b4_0 := b4.cell 0 rfl; have b4_1 := b4.cell 1 rfl; have b4_2 := b4.cell 2 rfl; have b5_0 := b5.cell 0 rfl; have b5_1 := b5.cell 1 rfl; have b5_2 := b5.cell 2 rfl
  go_wp2_with fail
  refine (KeepsUnder_cd _ _ _ S A A _ (HS.out _ hx) (HA.out _ hx) (HA.out _ hx) (HD.out _ hx)).mono ?_
  rintro e w9 ⟨rfl, he9⟩
  rw [hk]
  go_wp2_with fail
  go_ret
  exact Grows.mk rfl ((he1.trans hx).trans he9)

theorem own : ownKnob Tryd.prog.godebug = none := by kernel_rfl
theorem laidOut : laidOutB Tryd.prog = true := by kernel_rfl
theorem deb_of_laid {W : World} (h : laidMetH Tryd.prog Rows.fnUnderItselfRow.laid W) : Deb W := debOfLaid h
theorem laid_met (os : Os) (args : Array Value) : laidMetH Tryd.prog Rows.fnUnderItselfRow.laid ((laidWorld os).forCall (fun _ _ => 0) ⟨#[], args, []⟩).memory :=
  (LaidIn.of_run [0, 1] 8 (by kernel_rfl) (by kernel_rfl) (by kernel_rfl) (by kernel_rfl)).met
set_option maxRecDepth 100000 in
theorem lifted (os : Os) (started : os.Started) (H : Type) (enc : TypeId × Value → H) :
    ReturnsInHanded {} Tryd.checked os 3 .any (fun w args => (Rows.fnUnderItselfSpec.pre enc Tryd.prog Tryd.f3 [] false w args ∧ laidMetH Tryd.prog Rows.fnUnderItselfRow.laid w) ∧ sizedMet enc Tryd.prog Tryd.f3 (OpenSpec.ofChange Rows.fnUnderItselfSpec) false w args)
      (Rows.fnUnderItselfSpec.post enc Tryd.prog Tryd.f3 false true false false) := by
  refine returnsInHanded_of_change_and (C := Tryd.checked) (X := fun w _ => laidMetH Tryd.prog Rows.fnUnderItselfRow.laid w) (fun _ _ _ hh h => h.of_heap hh) own started (by kernel_rfl) Tryd.func3
    (ChangeSpec.witness_at (enc := enc) (C := Tryd.checked) (os := os) (X := fun w _ => laidMetH Tryd.prog Rows.fnUnderItselfRow.laid w) false (laidWorld os) #[.slice none 0 0] 8 rfl (by kernel_rfl) (by kernel_rfl) (by kernel_rfl) (by kernel_rfl) (by kernel_rfl) (laid_met os _)) ?_
  intro W base args ds gs before hval0 hW _ _ hL _
  have hval : ∀ (j : Nat) t v, Tryd.f3.params[j]? = some t → args[j]? = some v → Value.okWide Tryd.prog W .any base t v := hval0
  have hW' := hW
  obtain ⟨p, q, hA0, hV, rfl, hfz, hnd⟩ := hW
  have hA : DataW.TrodAll enc Tryd.prog W 0 (fun _ => true) true Tryd.f3.params.toList args.toList ds p := hA0
  rw [Tryd.params3] at hA hval
  obtain ⟨v0, vs0, d0, ds0, p0, q0, hargs, rfl, rfl, h0, r0⟩ := trodAll_cons hA
  obtain ⟨rfl, rfl, rfl⟩ := trodAll_nil r0
  obtain rfl : args = #[v0] := by cases args; simp_all
  obtain ⟨rfl, rfl⟩ := trodVars_none hV
  have k0 := h0
  have lt0 : ∀ x ∈ p0, x.block < W.heap.size := by obtain ⟨m, hm⟩ := k0; exact DataW.trod_lt m _ _ _ hm
  obtain ⟨a0, len0, cap0, rfl⟩ := okWide_slice Tryd.underlying22 (hval 0 _ v0 rfl rfl)
  obtain ⟨t0, w0⟩ : ∃ t, BytesV W (.slice a0 len0 cap0) t := by
    obtain ⟨fuel, hf⟩ := h0
    obtain ⟨v, t, hv, ht⟩ := read_bytes hf
    simp [Value.cells] at hv
    subst hv
    exact ⟨t, ht⟩
  clear hA0 hval0
  refine (walk (.slice a0 len0 cap0) t0 W w0 (deb_of_laid hL)).mono fun e W' ⟨he, bel⟩ => ?_
  subst he
  exact ⟨_, rfl, _, _, _, [], _, [], hW', trodAll_mk1 (shut_bool Tryd.underlying4 _), (trodAll_cons_mk (Below.trod laidOut (by kernel_rfl) (of_decide_eq_true (by kernel_rfl)) k0 bel lt0) trodAll_mk0), rfl, bel.frame _, fun h => by cases h⟩

theorem over : Rows.fnUnderItselfRow.holds Tryd.pinned (OpenSpec.ofChange Rows.fnUnderItselfSpec) :=
  OpenClaim.holds_of_wide 3 Tryd.f3 rfl rfl rfl rfl rfl rfl rfl ⟨rfl, rfl, rfl, rfl, rfl⟩ rfl rfl rfl rfl rfl (by kernel_rfl) Tryd.func3 (by kernel_rfl)
    (of_decide_eq_true (by kernel_rfl)) (by unfold Func.isWrapper; first | (rw [if_pos (by decide +kernel)]; kernel_rfl) | (rw [if_neg (by decide +kernel)]; exact ⟨rfl, rfl⟩))
    (fun os started H enc _ => lifted os started H enc)

theorem card_holds : Rows.FnUnderItselfCardSaid :=
  Claim7.holds_tied_plain_at .later [] [.data, .data] true (true, "3388edc1df6b4de8c75a45d92e70c33129ea5bf5d7045e5546ee36280aa9bdb3") false
    over (fun _ h => by cases h) (by kernel_rfl) (fun _ h => by cases h) fnUnderItself_row_tie rfl ⟨rfl, rfl⟩ (by kernel_rfl) rfl
    (fun f fn hf hfn => by
      obtain rfl : f = 3 := Option.some.inj ((show Tryd.prog.funcNamed "loop.example/assumeguarantee/laws.FnUnderItself" = some 3 by kernel_rfl).symm.trans hf) |>.symm
      obtain rfl : fn = Tryd.f3 := (Option.some.inj (Tryd.func3.symm.trans hfn)).symm
      refine ⟨by kernel_rfl, fun j t ht => ?_⟩
      rw [Tryd.params3] at ht
      match j, ht with
      | 0, ht =>
        have h0 : t = 22 := by simpa using ht.symm
        subst h0
        exact (show Tryd.prog.wantsStandIn 22 = false by kernel_rfl)
      | j + 1, ht => simp at ht)
    (by kernel_rfl)
#print axioms card_holds
end Go.Proofs.YteodlkkghnfkdaaDoor.lawFnUnderItself
