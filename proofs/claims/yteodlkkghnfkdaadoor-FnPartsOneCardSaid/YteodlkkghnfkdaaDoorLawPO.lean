/- FnPartsOne: for all bytes, the drawn parts keep a property that one of them keeps, if it has all its letters: the law answers true. -/
import Derived.Test.YteodlkkghnfkdaaDoorDrawB
import Derived.Test.YteodlkkghnfkdaaDoorPlainA
import Derived.Test.YteodlkkghnfkdaaDoorDet
import Derived.Test.YteodlkkghnfkdaaDoorCard
import Derived.Test.YteodlkkghnfkdaaDoorDrawL
namespace Go.Proofs.YteodlkkghnfkdaaDoor.lawFnPartsOne
open Go.ChangeShapes Go.WideShapes Go.ChangeAt Go.RowKit
open Go.Proofs.YteodlkkghnfkdaaDoor
open Go.ChangeMaps (open_string shut_string)
set_option linter.unusedVariables false
set_option linter.unusedSimpArgs false
set_option maxHeartbeats 1600000
set_option maxRecDepth 100000

theorem one_in {l : List Sys} {P : Auto} {x : Sys} (hl : areParts l = true) (hp : autoValid P = true) (hx : sysValid x = true) (h : (bits .and .i64 (bits .and .i64 (partsAlphabet l) P.alphabet) x.alphabet == bits .and .i64 (partsAlphabet l) P.alphabet) = true) :
    ∀ c, bit (partsAlphabet l) c = true → bit P.alphabet c = true → bit x.alphabet c = true := by
  obtain ⟨p0, p1, -⟩ := partsAlphabet_facts hl
  have fa := autoValid_facts hp
  have fx := valid_alpha hx
  obtain ⟨a, ha⟩ := Int.eq_ofNat_of_zero_le p0
  obtain ⟨b, hb⟩ := Int.eq_ofNat_of_zero_le fa.1
  obtain ⟨d, hd⟩ := Int.eq_ofNat_of_zero_le fx.1
  have f2 := fa.2.1
  have f3 := fx.2.1
  rw [ha] at p1 ⊢
  rw [hb] at f2 ⊢
  rw [hd] at f3 ⊢
  rw [ha, hb, hd, i64_and_nat a b (by omega) (by omega)] at h
  have hab : a &&& b ≤ a := Nat.and_le_left
  rw [i64_and_nat (a &&& b) d (by omega) (by omega)] at h
  have he : (a &&& b) &&& d = a &&& b := Int.ofNat_inj.1 (beq_iff_eq.1 h)
  intro c h1 h2
  simp only [bit, Int.toNat_natCast, Bool.and_eq_true, decide_eq_true_eq] at h1 h2 ⊢
  refine ⟨h1.1, ?_⟩
  have := congrArg (fun n => n.testBit c.toNat) he
  simp only [Nat.testBit_and, h1.2, h2.2, Bool.and_true, Bool.true_and] at this
  simpa using this

theorem walk (v0 : Value) (t0 : List UInt8) (w : World) (hv0 : BytesV w v0 t0) (hD : Deb w) : Calls Tryd.prog 5 #[v0] w (Grows (.bool true) w) := by
  obtain ⟨aB, cB, rfl, hleB, -⟩ := hv0.open
  have HDb := Lib.hid hD
  clear hD
  by_cases hz0 : 1048576 < t0.length
  · go_enter Tryd.func5, Tryd.ntmps5
    go_wp2_with fail
    go_ret
    exact Grows.mk rfl (Ext.refl _)
  go_enter Tryd.func5, Tryd.ntmps5
  go_wp2_with fail
  refine (DrawPartsKeep_t _ t0 _ hv0 (by omega)).mono ?_
  rintro e w1 ⟨r, D, rfl, he1, hD1, hT1, s, p, rfl, ⟨nL, hnL, hL⟩, hP⟩
  obtain ⟨l, hlen, hlV, hlE⟩ := hL.syssT hT1
  have hlV' := hlV
  obtain ⟨aL, cL, rfl, -, -⟩ := hlV'.open
  clear hlV'
  obtain ⟨P, hPn3, hPa3, hPV3⟩ := hP.auto hT1
  obtain ⟨vN3, vA3, rfl, hN3, hA3⟩ := hPV3
  obtain ⟨aN3, cN3, rfl, -, -⟩ := hN3.open
  obtain ⟨aA3, cA3, rfl, -, -⟩ := hA3.open
  have hlen4 : l.length ≤ 4 := by omega
  have HLE := Lib.hid hlE
  have HL := Lib.hid (show ∀ w', Ext w1 w' → SyssV w' (.slice aL l.length cL) l from fun w' h => hlV.mono h)
  have HP := Lib.hid (show ∀ w', Ext w1 w' → AutoV w' (.agg #[.int .i64 P.alphabet, .slice aN3 P.next.length cN3, .slice aA3 P.accept.length cA3]) P from fun w' h => ⟨_, _, rfl, hN3.mono h, hA3.mono h⟩)
  have HD := Lib.hid (show ∀ w', Ext w1 w' → Deb w' from fun w' h => HDb.out.ext (he1.trans h))
  obtain ⟨b, hb⟩ : ∃ b, keepsB l P = b := ⟨_, rfl⟩
  have HB := Lib.hid hb
  have C1 := Lib.hid (show ∀ w', Ext w1 w' → Calls Tryd.prog 15 #[.slice aL l.length cL, .agg #[.int .i64 P.alphabet, .slice aN3 P.next.length cN3, .slice aA3 P.accept.length cA3]] w' (Grows (.bool b) w') from fun w' h => by have := PartsKeep_cd _ _ l P _ (HL.out _ h) (by omega) (HP.out _ h) (HD.out _ h); rwa [hb] at this)
  have C2 := Lib.hid (show ∀ w', Ext w1 w' → Calls Tryd.prog 16 #[.slice aL l.length cL, .agg #[.int .i64 P.alphabet, .slice aN3 P.next.length cN3, .slice aA3 P.accept.length cA3]] w' (Grows (.bool b) w') from fun w' h => by have := PartsKeep_sd _ _ l P _ (HL.out _ h) (by omega) (fun s hs => Nat.le_trans (HLE.out s hs) (by omega)) (HP.out _ h); rwa [hb] at this)
  obtain ⟨pa, hpa⟩ : ∃ pa, partsAlphabet l = pa := ⟨_, rfl⟩
  have CPA := Lib.hid (show ∀ w', Ext w1 w' → Calls Tryd.prog 17 #[.slice aL l.length cL] w' (Grows (.int .i64 pa) w') from fun w' h => by have := PartsAlphabet_c _ l _ (HL.out _ h) (by omega); rwa [hpa] at this)
  have HPA := Lib.hid hpa
  clear hpa hb
  clear hlV hN3 hA3 hL hP hT1 hD1 hlen hlE hnL
  have hx : Ext w1 (w1.alloc (.cells #[.int .i64 P.alphabet, .slice aN3 P.next.length cN3, .slice aA3 P.accept.length cA3] 29)) := Ext.alloc _ _
  have b4 : Blk (w1.alloc (.cells #[.int .i64 P.alphabet, .slice aN3 P.next.length cN3, .slice aA3 P.accept.length cA3] 29)) w1.heap.size #[.int .i64 P.alphabet, .slice aN3 P.next.length cN3, .slice aA3 P.accept.length cA3] 29 := Blk.new _ _ _
  go_wp2_with fail
  generalize (w1.alloc (.cells #[.int .i64 P.alphabet, .slice aN3 P.next.length cN3, .slice aA3 P.accept.length cA3] 29)) = w2 at hx b4 ⊢
  have b4_0 := b4.cell 0 rfl; have b4_1 := b4.cell 1 rfl; have b4_2 := b4.cell 2 rfl
  go_wp2_with fail
  refine (C1.out _ hx).mono ?_
  rintro e wz1 ⟨rfl, hez1⟩
  clear b4_0 b4_1 b4_2
  replace b4 := b4.ext hez1
  replace hx := hx.trans hez1
  have b4_0 := b4.cell 0 rfl; have b4_1 := b4.cell 1 rfl; have b4_2 := b4.cell 2 rfl
  go_wp2_with fail
  refine (C2.out _ hx).mono ?_
  rintro e wz2 ⟨rfl, hez2⟩
  clear b4_0 b4_1 b4_2
  replace b4 := b4.ext hez2
  replace hx := hx.trans hez2
  have b4_0 := b4.cell 0 rfl; have b4_1 := b4.cell 1 rfl; have b4_2 := b4.cell 2 rfl
  have heq2 : (b != b) = false := by simp
  have heq3 : (b == b) = true := by simp
  by_cases hs : areParts l = true
  case neg =>
    have hs : areParts l = false := by simpa using hs
    have hpa : pa < 0 := by have := HPA.out; unfold partsAlphabet at this; rw [hs] at this; simp at this; omega
    obtain rfl : b = false := by rw [← HB.out]; exact (keepsB_wrong (by rw [hs]; rfl)).1
    go_wp2_with fail
    refine (CPA.out _ hx).mono ?_
    rintro e wz3 ⟨rfl, hez3⟩
    clear b4_0 b4_1 b4_2
    replace b4 := b4.ext hez3
    replace hx := hx.trans hez3
    have b4_0 := b4.cell 0 rfl; have b4_1 := b4.cell 1 rfl; have b4_2 := b4.cell 2 rfl
    go_wp2_with fail
    refine (C2.out _ hx).mono ?_
    rintro e wz4 ⟨rfl, hez4⟩
    clear b4_0 b4_1 b4_2
    replace b4 := b4.ext hez4
    replace hx := hx.trans hez4
    have b4_0 := b4.cell 0 rfl; have b4_1 := b4.cell 1 rfl; have b4_2 := b4.cell 2 rfl
    go_wp2_with fail
    go_ret
    exact Grows.mk rfl (he1.trans hx)
  have hpa : ¬ pa < 0 := by have := (partsAlphabet_facts hs).1; rw [HPA.out] at this; omega
  have HSS := Lib.hid hs
  clear hs
  go_wp2_with fail
  refine (CPA.out _ hx).mono ?_
  rintro e wz5 ⟨rfl, hez5⟩
  clear b4_0 b4_1 b4_2
  replace b4 := b4.ext hez5
  replace hx := hx.trans hez5
  have b4_0 := b4.cell 0 rfl; have b4_1 := b4.cell 1 rfl; have b4_2 := b4.cell 2 rfl
  go_wp2_with fail
  clear b4_0 b4_1 b4_2
  generalize wz5 = wb at *
  go_loopw [6, 59, 60, 61, 62, 63, 64, 67, 68] (fun i _ _ _ _ _ _ _ _ wr => ∃ k : Nat, k ≤ l.length ∧ i = .int .i64 k ∧ Ext w1 wr ∧ Blk wr w1.heap.size #[.int .i64 P.alphabet, .slice aN3 P.next.length cN3, .slice aA3 P.accept.length cA3] 29) (fun i _ _ _ _ _ _ _ _ _ => l.length - (intOf i).toNat)
  case atStart => exact ⟨0, by omega, rfl, hx, b4⟩
  case round =>
    clear hx b4
    obtain ⟨k, hk, rfl, hx, b4⟩ := hrel
    by_cases hlt : k < l.length
    · obtain ⟨x, hx'⟩ : ∃ x, l[k]? = some x := ⟨_, List.getElem?_eq_getElem hlt⟩
      obtain ⟨aL', cL', hsh, -, hn⟩ := (HL.out _ hx).open
      cases hsh
      obtain ⟨bb, off, rfl, -, hc⟩ := hn k x hx'
      obtain ⟨ve, g1, g2, g3, hve⟩ := hc k x hx'
      obtain ⟨va, vc, rfl, -, -⟩ := hve.open
      have hxm := List.mem_of_getElem? hx'
      have hsx := areParts_all HSS.out x hxm
      have hlt' : (k : Int) < (l.length : Int) := by omega
      clear hn hc hx'
      go_wp2_with fail
      have Db40 := fun d os => cell_regrown (b4.cell 0 rfl) d os
      have Db41 := fun d os => cell_regrown (b4.cell 1 rfl) d os
      have Db42 := fun d os => cell_regrown (b4.cell 2 rfl) d os
      refine wp_region_quiet_below (by kernel_rfl) (by kernel_rfl) ?_
      repeat (go_big_quiet_step ((go_at_call 17; exact Grows.quiet (CPA.out _ (hx.trans (below_regrown _ _ _))))))
      refine wpQuiet_nil ?_
      intro _ hw'
      obtain ⟨⟨dq, osq⟩, hw''⟩ := hw'
      subst hw''
      have hq2 : Ext wr (Go.Sort.grow (redrawn wr dq) osq) := below_regrown wr dq osq
      generalize Go.Sort.grow (redrawn wr dq) osq = wq at hq2 ⊢
      clear Db40 Db41 Db42
      replace g1 := hq2.cell g1
      replace g2 := hq2.cell g2
      replace g3 := hq2.cell g3
      replace hve := hve.mono hq2
      replace b4 := b4.ext hq2
      replace hx := hx.trans hq2
      have HKP := Lib.hid (show ∀ w', Ext wq w' → Calls Tryd.prog 18 #[.agg #[.int .i64 x.alphabet, .int .i64 x.states, .slice va x.edges.length vc], .agg #[.int .i64 P.alphabet, .slice aN3 P.next.length cN3, .slice aA3 P.accept.length cA3]] w' (Grows (.bool (keepsB [x] P)) w') from fun w' h => KeepsProperty_cd _ _ x P _ ⟨_, rfl, hve.mono h⟩ (HP.out _ (hx.trans h)) (HD.out _ (hx.trans h)))
      clear hve
      go_wp2_with fail
      have Db40 := fun d os => cell_regrown (b4.cell 0 rfl) d os
      have Db41 := fun d os => cell_regrown (b4.cell 1 rfl) d os
      have Db42 := fun d os => cell_regrown (b4.cell 2 rfl) d os
      have E1 := fun d os => cell_regrown g1 d os
      have E2 := fun d os => cell_regrown g2 d os
      have E3 := fun d os => cell_regrown g3 d os
      clear g1 g2 g3
      by_cases hcc : (bits .and .i64 (bits .and .i64 pa P.alphabet) x.alphabet == bits .and .i64 pa P.alphabet) = true
      · obtain ⟨kb, hkb⟩ : ∃ kb, keepsB [x] P = kb := ⟨_, rfl⟩
        rw [hkb] at HKP
        cases kb
        · clear hkb
          refine wp_region_quiet_below (by kernel_rfl) (by kernel_rfl) ?_
          repeat (go_big_quiet_step ((go_at_call 18; exact Grows.quiet (HKP.out _ (below_regrown _ _ _)))))
          refine wpQuiet_nil ?_
          intro _ hw'
          obtain ⟨⟨dq, osq⟩, hw''⟩ := hw'
          subst hw''
          have hq3 : Ext wq (Go.Sort.grow (redrawn wq dq) osq) := below_regrown wq dq osq
          generalize Go.Sort.grow (redrawn wq dq) osq = wy at hq3 ⊢
          go_wp2_with fail
          exact ⟨⟨k + 1, by omega, by go_num, hx.trans hq3, b4.ext hq3⟩, by simp [intOf]; omega⟩
        · have hpv : autoValid P = true := by
            unfold keepsB at hkb
            simp only [Bool.and_eq_true] at hkb
            exact hkb.1.2
          have hbt : b = true := by
            rw [← HB.out]
            exact parts_one HSS.out hxm (one_in HSS.out hpv hsx (by rw [HPA.out]; exact hcc)) hkb
          subst hbt
          clear hkb hpv
          refine wp_region_quiet_below (by kernel_rfl) (by kernel_rfl) ?_
          repeat (go_big_quiet_step ((go_at_call 18; exact Grows.quiet (HKP.out _ (below_regrown _ _ _)))))
          refine wpQuiet_nil ?_
          intro _ hw'
          obtain ⟨⟨dq, osq⟩, hw''⟩ := hw'
          subst hw''
          have hq3 : Ext wq (Go.Sort.grow (redrawn wq dq) osq) := below_regrown wq dq osq
          generalize Go.Sort.grow (redrawn wq dq) osq = wy at hq3 ⊢
          go_wp2_with fail
          exact ⟨⟨k + 1, by omega, by go_num, hx.trans hq3, b4.ext hq3⟩, by simp [intOf]; omega⟩
      · have hcc : (bits .and .i64 (bits .and .i64 pa P.alphabet) x.alphabet == bits .and .i64 pa P.alphabet) = false := by simpa using hcc
        refine wp_region_quiet_below (by kernel_rfl) (by kernel_rfl) ?_
        repeat (go_big_quiet_step ((go_at_call 18; exact Grows.quiet (HKP.out _ (below_regrown _ _ _)))))
        refine wpQuiet_nil ?_
        intro _ hw'
        obtain ⟨⟨dq, osq⟩, hw''⟩ := hw'
        subst hw''
        have hq3 : Ext wq (Go.Sort.grow (redrawn wq dq) osq) := below_regrown wq dq osq
        generalize Go.Sort.grow (redrawn wq dq) osq = wy at hq3 ⊢
        go_wp2_with fail
        exact ⟨⟨k + 1, by omega, by go_num, hx.trans hq3, b4.ext hq3⟩, by simp [intOf]; omega⟩
    · obtain rfl : k = l.length := by omega
      go_wp2_with fail
      go_ret
      exact Grows.mk rfl (he1.trans hx)

theorem own : ownKnob Tryd.prog.godebug = none := by kernel_rfl
theorem laidOut : laidOutB Tryd.prog = true := by kernel_rfl
theorem deb_of_laid {W : World} (h : laidMetH Tryd.prog Rows.fnPartsOneRow.laid W) : Deb W := debOfLaid h
theorem laid_met (os : Os) (args : Array Value) : laidMetH Tryd.prog Rows.fnPartsOneRow.laid ((laidWorld os).forCall (fun _ _ => 0) ⟨#[], args, []⟩).memory :=
  (LaidIn.of_run [0, 1] 8 (by kernel_rfl) (by kernel_rfl) (by kernel_rfl) (by kernel_rfl)).met
set_option maxRecDepth 100000 in
theorem lifted (os : Os) (started : os.Started) (H : Type) (enc : TypeId × Value → H) :
    ReturnsInHanded {} Tryd.checked os 5 .any (fun w args => (Rows.fnPartsOneSpec.pre enc Tryd.prog Tryd.f5 [] false w args ∧ laidMetH Tryd.prog Rows.fnPartsOneRow.laid w) ∧ sizedMet enc Tryd.prog Tryd.f5 (OpenSpec.ofChange Rows.fnPartsOneSpec) false w args)
      (Rows.fnPartsOneSpec.post enc Tryd.prog Tryd.f5 false true false false) := by
  refine returnsInHanded_of_change_and (C := Tryd.checked) (X := fun w _ => laidMetH Tryd.prog Rows.fnPartsOneRow.laid w) (fun _ _ _ hh h => h.of_heap hh) own started (by kernel_rfl) Tryd.func5
    (ChangeSpec.witness_at (enc := enc) (C := Tryd.checked) (os := os) (X := fun w _ => laidMetH Tryd.prog Rows.fnPartsOneRow.laid w) false (laidWorld os) #[.slice none 0 0] 8 rfl (by kernel_rfl) (by kernel_rfl) (by kernel_rfl) (by kernel_rfl) (by kernel_rfl) (laid_met os _)) ?_
  intro W base args ds gs before hval0 hW _ _ hL _
  have hval : ∀ (j : Nat) t v, Tryd.f5.params[j]? = some t → args[j]? = some v → Value.okWide Tryd.prog W .any base t v := hval0
  have hW' := hW
  obtain ⟨p, q, hA0, hV, rfl, hfz, hnd⟩ := hW
  have hA : DataW.TrodAll enc Tryd.prog W 0 (fun _ => true) true Tryd.f5.params.toList args.toList ds p := hA0
  rw [Tryd.params5] at hA hval
  obtain ⟨v0, vs0, d0, ds0, p0, q0, hargs, rfl, rfl, h0, r0⟩ := trodAll_cons hA
  obtain ⟨rfl, rfl, rfl⟩ := trodAll_nil r0
  obtain rfl : args = #[v0] := by cases args; simp_all
  obtain ⟨rfl, rfl⟩ := trodVars_none hV
  have k0 := h0
  have lt0 : ∀ x ∈ p0, x.block < W.heap.size := by obtain ⟨m, hm⟩ := k0; exact DataW.trod_lt m _ _ _ hm
  obtain ⟨a0, len0, cap0, rfl⟩ := okWide_slice Tryd.underlying22 (hval 0 _ v0 rfl rfl)
  obtain ⟨t0, w0⟩ : ∃ t, BytesV W (.slice a0 len0 cap0) t := by
    obtain ⟨fuel, hf⟩ := h0
    obtain ⟨v, t, hv, ht⟩ := read_bytes hf
    simp [Value.cells] at hv
    subst hv
    exact ⟨t, ht⟩
  clear hA0 hval0
  refine (walk (.slice a0 len0 cap0) t0 W w0 (deb_of_laid hL)).mono fun e W' ⟨he, bel⟩ => ?_
  subst he
  exact ⟨_, rfl, _, _, _, [], _, [], hW', trodAll_mk1 (shut_bool Tryd.underlying4 _), (trodAll_cons_mk (Below.trod laidOut (by kernel_rfl) (of_decide_eq_true (by kernel_rfl)) k0 bel lt0) trodAll_mk0), rfl, bel.frame _, fun h => by cases h⟩

theorem over : Rows.fnPartsOneRow.holds Tryd.pinned (OpenSpec.ofChange Rows.fnPartsOneSpec) :=
  OpenClaim.holds_of_wide 5 Tryd.f5 rfl rfl rfl rfl rfl rfl rfl ⟨rfl, rfl, rfl, rfl, rfl⟩ rfl rfl rfl rfl rfl (by kernel_rfl) Tryd.func5 (by kernel_rfl)
    (of_decide_eq_true (by kernel_rfl)) (by unfold Func.isWrapper; first | (rw [if_pos (by decide +kernel)]; kernel_rfl) | (rw [if_neg (by decide +kernel)]; exact ⟨rfl, rfl⟩))
    (fun os started H enc _ => lifted os started H enc)

theorem card_holds : Rows.FnPartsOneCardSaid :=
  Claim7.holds_tied_plain_at .later [] [.data, .data] true (true, "3388edc1df6b4de8c75a45d92e70c33129ea5bf5d7045e5546ee36280aa9bdb3") false
    over (fun _ h => by cases h) (by kernel_rfl) (fun _ h => by cases h) fnPartsOne_row_tie rfl ⟨rfl, rfl⟩ (by kernel_rfl) rfl
    (fun f fn hf hfn => by
      obtain rfl : f = 5 := Option.some.inj ((show Tryd.prog.funcNamed "loop.example/assumeguarantee/laws.FnPartsOne" = some 5 by kernel_rfl).symm.trans hf) |>.symm
      obtain rfl : fn = Tryd.f5 := (Option.some.inj (Tryd.func5.symm.trans hfn)).symm
      refine ⟨by kernel_rfl, fun j t ht => ?_⟩
      rw [Tryd.params5] at ht
      match j, ht with
      | 0, ht =>
        have h0 : t = 22 := by simpa using ht.symm
        subst h0
        exact (show Tryd.prog.wantsStandIn 22 = false by kernel_rfl)
      | j + 1, ht => simp at ht)
    (by kernel_rfl)
#print axioms card_holds
end Go.Proofs.YteodlkkghnfkdaaDoor.lawFnPartsOne
