/- FnPartsViolation: for all bytes, a violation of the drawn parts is a trace of them that breaks the property, and there is none exactly if they keep it: the law answers true. -/
import Derived.Test.YteodlkkghnfkdaaGreatDoorDrawB
import Derived.Test.YteodlkkghnfkdaaGreatDoorWalkT
import Derived.Test.YteodlkkghnfkdaaGreatDoorDet
import Derived.Test.YteodlkkghnfkdaaGreatDoorCard
import Derived.Test.YteodlkkghnfkdaaGreatDoorDrawL
namespace Go.Proofs.YteodlkkghnfkdaaGreatDoor.lawFnPartsViolation
open Go.ChangeShapes Go.WideShapes Go.ChangeAt Go.RowKit
open Go.Proofs.YteodlkkghnfkdaaGreatDoor
open Go.ChangeMaps (open_string shut_string)
set_option linter.unusedVariables false
set_option linter.unusedSimpArgs false
set_option maxHeartbeats 1600000
set_option maxRecDepth 100000

theorem walk (v0 : Value) (t0 : List UInt8) (w : World) (hv0 : BytesV w v0 t0) (hD : Deb w) : Calls Tryz.prog 4 #[v0] w (Grows (.bool true) w) := by
  obtain ⟨aB, cB, rfl, hleB, -⟩ := hv0.open
  have HDb := Lib.hid hD
  clear hD
  by_cases hz0 : 1048576 < t0.length
  · go_enter Tryz.func4, Tryz.ntmps4
    go_wp2_with fail
    go_ret
    exact Grows.mk rfl (Ext.refl _)
  go_enter Tryz.func4, Tryz.ntmps4
  go_wp2_with fail
  refine (DrawPartsViolation_t _ t0 _ hv0 (by omega)).mono ?_
  rintro e w1 ⟨r, D, rfl, he1, hD1, hT1, s, p, rfl, ⟨nL, hnL, hL⟩, hP⟩
  obtain ⟨l, hlen, hlV, hlE⟩ := hL.syssT hT1
  have hlV' := hlV
  obtain ⟨aL, cL, rfl, -, -⟩ := hlV'.open
  clear hlV'
  obtain ⟨P, hPn3, hPa3, hPV3⟩ := hP.auto hT1
  obtain ⟨vN3, vA3, rfl, hN3, hA3⟩ := hPV3
  obtain ⟨aN3, cN3, rfl, -, -⟩ := hN3.open
  obtain ⟨aA3, cA3, rfl, -, -⟩ := hA3.open
  have hlen4 : l.length ≤ 4 := by omega
  have HLE := Lib.hid hlE
  have HL := Lib.hid (show ∀ w', Ext w1 w' → SyssV w' (.slice aL l.length cL) l from fun w' h => hlV.mono h)
  have HP := Lib.hid (show ∀ w', Ext w1 w' → AutoV w' (.agg #[.int .i64 P.alphabet, .slice aN3 P.next.length cN3, .slice aA3 P.accept.length cA3]) P from fun w' h => ⟨_, _, rfl, hN3.mono h, hA3.mono h⟩)
  have HD := Lib.hid (show ∀ w', Ext w1 w' → Deb w' from fun w' h => HDb.out.ext (he1.trans h))
  obtain ⟨rr, hrr⟩ : ∃ rr, pvOf l P = rr := ⟨_, rfl⟩
  have HR := Lib.hid hrr
  have C1 := Lib.hid (show ∀ w', Ext w1 w' → Calls Tryz.prog 18 #[.slice aL l.length cL, .agg #[.int .i64 P.alphabet, .slice aN3 P.next.length cN3, .slice aA3 P.accept.length cA3]] w' (Grows (.tuple #[.string (rtext rr), .bool rr.isSome]) w') from fun w' h => by have := PartsViolation_cd _ _ l P _ (HL.out _ h) (by omega) (HP.out _ h) (HD.out _ h); rwa [HR.out] at this)
  have C2 := Lib.hid (show ∀ w', Ext w1 w' → Calls Tryz.prog 19 #[.slice aL l.length cL, .agg #[.int .i64 P.alphabet, .slice aN3 P.next.length cN3, .slice aA3 P.accept.length cA3]] w' (Grows (.tuple #[.string (rtext rr), .bool rr.isSome]) w') from fun w' h => by have := PartsViolation_sd _ _ l P _ (HL.out _ h) (by omega) (fun s hs => Nat.le_trans (HLE.out s hs) (by omega)) (HP.out _ h); rwa [HR.out] at this)
  obtain ⟨pa, hpa⟩ : ∃ pa, partsAlphabet l = pa := ⟨_, rfl⟩
  have CPA := Lib.hid (show ∀ w', Ext w1 w' → Calls Tryz.prog 20 #[.slice aL l.length cL] w' (Grows (.int .i64 pa) w') from fun w' h => by have := PartsAlphabet_c _ l _ (HL.out _ h) (by omega); rwa [hpa] at this)
  have HPA := Lib.hid hpa
  clear hrr hpa
  clear hlV hN3 hA3 hL hP hT1 hD1 hlen hlE hnL
  have hx : Ext w1 (w1.alloc (.cells #[.int .i64 P.alphabet, .slice aN3 P.next.length cN3, .slice aA3 P.accept.length cA3] 29)) := Ext.alloc _ _
  have b4 : Blk (w1.alloc (.cells #[.int .i64 P.alphabet, .slice aN3 P.next.length cN3, .slice aA3 P.accept.length cA3] 29)) w1.heap.size #[.int .i64 P.alphabet, .slice aN3 P.next.length cN3, .slice aA3 P.accept.length cA3] 29 := Blk.new _ _ _
  go_wp2_with fail
  generalize (w1.alloc (.cells #[.int .i64 P.alphabet, .slice aN3 P.next.length cN3, .slice aA3 P.accept.length cA3] 29)) = w2 at hx b4 ⊢
  have b4_0 := b4.cell 0 rfl; have b4_1 := b4.cell 1 rfl; have b4_2 := b4.cell 2 rfl
  go_wp2_with fail
  refine (C1.out _ hx).mono ?_
  rintro e wz1 ⟨rfl, hez1⟩
  clear b4_0 b4_1 b4_2
  replace b4 := b4.ext hez1
  replace hx := hx.trans hez1
  have b4_0 := b4.cell 0 rfl; have b4_1 := b4.cell 1 rfl; have b4_2 := b4.cell 2 rfl
  go_wp2_with fail
  refine (C2.out _ hx).mono ?_
  rintro e wz2 ⟨rfl, hez2⟩
  clear b4_0 b4_1 b4_2
  replace b4 := b4.ext hez2
  replace hx := hx.trans hez2
  have b4_0 := b4.cell 0 rfl; have b4_1 := b4.cell 1 rfl; have b4_2 := b4.cell 2 rfl
  have heq2 : (rr.isSome != rr.isSome) = false := by simp
  rcases rr with _ | u
  · by_cases hs : areParts l = true
    case neg =>
      have hs : areParts l = false := by simpa using hs
      have hpa : pa < 0 := by have := HPA.out; unfold partsAlphabet at this; rw [hs] at this; simp at this; omega
      have hk : keepsB l P = false := (keepsB_wrong (by rw [hs]; rfl)).1
      have CK := Lib.hid (show ∀ w', Ext w1 w' → Calls Tryz.prog 21 #[.slice aL l.length cL, .agg #[.int .i64 P.alphabet, .slice aN3 P.next.length cN3, .slice aA3 P.accept.length cA3]] w' (Grows (.bool false) w') from fun w' h => by have := PartsKeep_cd _ _ l P _ (HL.out _ h) (by omega) (HP.out _ h) (HD.out _ h); rwa [hk] at this)
      clear hk hs
      go_wp2_with fail
      refine (CPA.out _ hx).mono ?_
      rintro e wz3 ⟨rfl, hez3⟩
      clear b4_0 b4_1 b4_2
      replace b4 := b4.ext hez3
      replace hx := hx.trans hez3
      have b4_0 := b4.cell 0 rfl; have b4_1 := b4.cell 1 rfl; have b4_2 := b4.cell 2 rfl
      go_wp2_with fail
      refine (CK.out _ hx).mono ?_
      rintro e wz4 ⟨rfl, hez4⟩
      clear b4_0 b4_1 b4_2
      replace b4 := b4.ext hez4
      replace hx := hx.trans hez4
      have b4_0 := b4.cell 0 rfl; have b4_1 := b4.cell 1 rfl; have b4_2 := b4.cell 2 rfl
      go_wp2_with fail
      go_ret
      exact Grows.mk rfl (he1.trans hx)
    have hpa : ¬ pa < 0 := by have := (partsAlphabet_facts hs).1; rw [HPA.out] at this; omega
    by_cases hp : autoValid P = true
    case neg =>
      have hp : autoValid P = false := by simpa using hp
      have hk : keepsB l P = false := (keepsB_wrong (by simp [hp])).1
      have CK := Lib.hid (show ∀ w', Ext w1 w' → Calls Tryz.prog 21 #[.slice aL l.length cL, .agg #[.int .i64 P.alphabet, .slice aN3 P.next.length cN3, .slice aA3 P.accept.length cA3]] w' (Grows (.bool false) w') from fun w' h => by have := PartsKeep_cd _ _ l P _ (HL.out _ h) (by omega) (HP.out _ h) (HD.out _ h); rwa [hk] at this)
      clear hk
      go_wp2_with fail
      refine (CPA.out _ hx).mono ?_
      rintro e wz5 ⟨rfl, hez5⟩
      clear b4_0 b4_1 b4_2
      replace b4 := b4.ext hez5
      replace hx := hx.trans hez5
      have b4_0 := b4.cell 0 rfl; have b4_1 := b4.cell 1 rfl; have b4_2 := b4.cell 2 rfl
      go_wp2_with fail
      refine (AutomatonValid_b hp (HP.out _ hx)).mono ?_
      rintro e wz6 ⟨rfl, hez6⟩
      clear b4_0 b4_1 b4_2
      replace b4 := b4.ext hez6
      replace hx := hx.trans hez6
      have b4_0 := b4.cell 0 rfl; have b4_1 := b4.cell 1 rfl; have b4_2 := b4.cell 2 rfl
      go_wp2_with fail
      refine (CK.out _ hx).mono ?_
      rintro e wz7 ⟨rfl, hez7⟩
      clear b4_0 b4_1 b4_2
      replace b4 := b4.ext hez7
      replace hx := hx.trans hez7
      have b4_0 := b4.cell 0 rfl; have b4_1 := b4.cell 1 rfl; have b4_2 := b4.cell 2 rfl
      go_wp2_with fail
      go_ret
      exact Grows.mk rfl (he1.trans hx)
    have hk : keepsB l P = true := by rw [keepsB_valid hs hp, HR.out]; rfl
    have CK := Lib.hid (show ∀ w', Ext w1 w' → Calls Tryz.prog 21 #[.slice aL l.length cL, .agg #[.int .i64 P.alphabet, .slice aN3 P.next.length cN3, .slice aA3 P.accept.length cA3]] w' (Grows (.bool true) w') from fun w' h => by have := PartsKeep_cd _ _ l P _ (HL.out _ h) (by omega) (HP.out _ h) (HD.out _ h); rwa [hk] at this)
    clear hk hs
    go_wp2_with fail
    refine (CPA.out _ hx).mono ?_
    rintro e wz8 ⟨rfl, hez8⟩
    clear b4_0 b4_1 b4_2
    replace b4 := b4.ext hez8
    replace hx := hx.trans hez8
    have b4_0 := b4.cell 0 rfl; have b4_1 := b4.cell 1 rfl; have b4_2 := b4.cell 2 rfl
    go_wp2_with fail
    refine (AutomatonValid_b hp (HP.out _ hx)).mono ?_
    rintro e wz9 ⟨rfl, hez9⟩
    clear b4_0 b4_1 b4_2
    replace b4 := b4.ext hez9
    replace hx := hx.trans hez9
    have b4_0 := b4.cell 0 rfl; have b4_1 := b4.cell 1 rfl; have b4_2 := b4.cell 2 rfl
    go_wp2_with fail
    refine (CK.out _ hx).mono ?_
    rintro e wz10 ⟨rfl, hez10⟩
    clear b4_0 b4_1 b4_2
    replace b4 := b4.ext hez10
    replace hx := hx.trans hez10
    have b4_0 := b4.cell 0 rfl; have b4_1 := b4.cell 1 rfl; have b4_2 := b4.cell 2 rfl
    go_wp2_with fail
    go_ret
    exact Grows.mk rfl (he1.trans hx)
  · obtain ⟨hV, -⟩ := pv_some HR.out
    have hs := hV.okp
    have hp := hV.prop
    have hpa : ¬ pa < 0 := by have := (partsAlphabet_facts hs).1; rw [HPA.out] at this; omega
    have hk : keepsB l P = false := by rw [keepsB_valid hs hp, HR.out]; rfl
    have hsz : (wtext u).size ≤ 1048576 := by have := hV.size5; omega
    have htr : traceOfParts l (wtext u) = true := by
      unfold traceOfParts
      rw [hs, hV.word]
      simp only [Bool.true_and, List.all_eq_true]
      exact fun s hsl => (hasTrace_restrict (areParts_all hs s hsl) hV.size5).2 (hV.trace s hsl)
    have hbr : breaks P (wtext u) = true := hV.breaks
    have CK := Lib.hid (show ∀ w', Ext w1 w' → Calls Tryz.prog 21 #[.slice aL l.length cL, .agg #[.int .i64 P.alphabet, .slice aN3 P.next.length cN3, .slice aA3 P.accept.length cA3]] w' (Grows (.bool false) w') from fun w' h => by have := PartsKeep_cd _ _ l P _ (HL.out _ h) (by omega) (HP.out _ h) (HD.out _ h); rwa [hk] at this)
    have CT := Lib.hid (show ∀ w', Ext w1 w' → Calls Tryz.prog 22 #[.slice aL l.length cL, .string (rtext (some u))] w' (Grows (.bool true) w') from fun w' h => by have := TraceOfParts_c _ l (wtext u) w' (HL.out _ h) (by omega) hV.size5 (HD.out _ h); rwa [htr] at this)
    have CP := Lib.hid (show ∀ w', Ext w1 w' → Calls Tryz.prog 16 #[.agg #[.int .i64 P.alphabet, .slice aN3 P.next.length cN3, .slice aA3 P.accept.length cA3], .string (rtext (some u))] w' (Grows (.bool true) w') from fun w' h => by have := BreaksProperty_c _ P (wtext u) w' (HP.out _ h) hsz; rwa [hbr] at this)
    clear hk hV hsz htr hbr hs
    go_wp2_with fail
    refine (CPA.out _ hx).mono ?_
    rintro e wz11 ⟨rfl, hez11⟩
    clear b4_0 b4_1 b4_2
    replace b4 := b4.ext hez11
    replace hx := hx.trans hez11
    have b4_0 := b4.cell 0 rfl; have b4_1 := b4.cell 1 rfl; have b4_2 := b4.cell 2 rfl
    go_wp2_with fail
    refine (AutomatonValid_b hp (HP.out _ hx)).mono ?_
    rintro e wz12 ⟨rfl, hez12⟩
    clear b4_0 b4_1 b4_2
    replace b4 := b4.ext hez12
    replace hx := hx.trans hez12
    have b4_0 := b4.cell 0 rfl; have b4_1 := b4.cell 1 rfl; have b4_2 := b4.cell 2 rfl
    go_wp2_with fail
    refine (CK.out _ hx).mono ?_
    rintro e wz13 ⟨rfl, hez13⟩
    clear b4_0 b4_1 b4_2
    replace b4 := b4.ext hez13
    replace hx := hx.trans hez13
    have b4_0 := b4.cell 0 rfl; have b4_1 := b4.cell 1 rfl; have b4_2 := b4.cell 2 rfl
    go_wp2_with fail
    refine (CT.out _ hx).mono ?_
    rintro e wz14 ⟨rfl, hez14⟩
    clear b4_0 b4_1 b4_2
    replace b4 := b4.ext hez14
    replace hx := hx.trans hez14
    have b4_0 := b4.cell 0 rfl; have b4_1 := b4.cell 1 rfl; have b4_2 := b4.cell 2 rfl
    go_wp2_with fail
    refine (CP.out _ hx).mono ?_
    rintro e wz15 ⟨rfl, hez15⟩
    clear b4_0 b4_1 b4_2
    replace b4 := b4.ext hez15
    replace hx := hx.trans hez15
    have b4_0 := b4.cell 0 rfl; have b4_1 := b4.cell 1 rfl; have b4_2 := b4.cell 2 rfl
    go_wp2_with fail
    go_ret
    exact Grows.mk rfl (he1.trans hx)

theorem own : ownKnob Tryz.prog.godebug = none := by kernel_rfl
theorem laidOut : laidOutB Tryz.prog = true := by kernel_rfl
theorem deb_of_laid {W : World} (h : laidMetH Tryz.prog Rows.fnPartsViolationRow.laid W) : Deb W := debOfLaid h
theorem laid_met (os : Os) (args : Array Value) : laidMetH Tryz.prog Rows.fnPartsViolationRow.laid ((laidWorld os).forCall (fun _ _ => 0) ⟨#[], args, []⟩).memory :=
  (LaidIn.of_run [0, 1] 8 (by kernel_rfl) (by kernel_rfl) (by kernel_rfl) (by kernel_rfl)).met
set_option maxRecDepth 100000 in
theorem lifted (os : Os) (started : os.Started) (H : Type) (enc : TypeId × Value → H) :
    ReturnsInHanded {} Tryz.checked os 4 .any (fun w args => (Rows.fnPartsViolationSpec.pre enc Tryz.prog Tryz.f4 [] false w args ∧ laidMetH Tryz.prog Rows.fnPartsViolationRow.laid w) ∧ sizedMet enc Tryz.prog Tryz.f4 (OpenSpec.ofChange Rows.fnPartsViolationSpec) false w args)
      (Rows.fnPartsViolationSpec.post enc Tryz.prog Tryz.f4 false true false false) := by
  refine returnsInHanded_of_change_and (C := Tryz.checked) (X := fun w _ => laidMetH Tryz.prog Rows.fnPartsViolationRow.laid w) (fun _ _ _ hh h => h.of_heap hh) own started (by kernel_rfl) Tryz.func4
    (ChangeSpec.witness_at (enc := enc) (C := Tryz.checked) (os := os) (X := fun w _ => laidMetH Tryz.prog Rows.fnPartsViolationRow.laid w) false (laidWorld os) #[.slice none 0 0] 8 rfl (by kernel_rfl) (by kernel_rfl) (by kernel_rfl) (by kernel_rfl) (by kernel_rfl) (laid_met os _)) ?_
  intro W base args ds gs before hval0 hW _ _ hL _
  have hval : ∀ (j : Nat) t v, Tryz.f4.params[j]? = some t → args[j]? = some v → Value.okWide Tryz.prog W .any base t v := hval0
  have hW' := hW
  obtain ⟨p, q, hA0, hV, rfl, hfz, hnd⟩ := hW
  have hA : DataW.TrodAll enc Tryz.prog W 0 (fun _ => true) true Tryz.f4.params.toList args.toList ds p := hA0
  rw [Tryz.params4] at hA hval
  obtain ⟨v0, vs0, d0, ds0, p0, q0, hargs, rfl, rfl, h0, r0⟩ := trodAll_cons hA
  obtain ⟨rfl, rfl, rfl⟩ := trodAll_nil r0
  obtain rfl : args = #[v0] := by cases args; simp_all
  obtain ⟨rfl, rfl⟩ := trodVars_none hV
  have k0 := h0
  have lt0 : ∀ x ∈ p0, x.block < W.heap.size := by obtain ⟨m, hm⟩ := k0; exact DataW.trod_lt m _ _ _ hm
  obtain ⟨a0, len0, cap0, rfl⟩ := okWide_slice Tryz.underlying22 (hval 0 _ v0 rfl rfl)
  obtain ⟨t0, w0⟩ : ∃ t, BytesV W (.slice a0 len0 cap0) t := by
    obtain ⟨fuel, hf⟩ := h0
    obtain ⟨v, t, hv, ht⟩ := read_bytes hf
    simp [Value.cells] at hv
    subst hv
    exact ⟨t, ht⟩
  clear hA0 hval0
  refine (walk (.slice a0 len0 cap0) t0 W w0 (deb_of_laid hL)).mono fun e W' ⟨he, bel⟩ => ?_
  subst he
  exact ⟨_, rfl, _, _, _, [], _, [], hW', trodAll_mk1 (shut_bool Tryz.underlying4 _), (trodAll_cons_mk (Below.trod laidOut (by kernel_rfl) (of_decide_eq_true (by kernel_rfl)) k0 bel lt0) trodAll_mk0), rfl, bel.frame _, fun h => by cases h⟩

theorem over : Rows.fnPartsViolationRow.holds Tryz.pinned (OpenSpec.ofChange Rows.fnPartsViolationSpec) :=
  OpenClaim.holds_of_wide 4 Tryz.f4 rfl rfl rfl rfl rfl rfl rfl ⟨rfl, rfl, rfl, rfl, rfl⟩ rfl rfl rfl rfl rfl (by kernel_rfl) Tryz.func4 (by kernel_rfl)
    (of_decide_eq_true (by kernel_rfl)) (by unfold Func.isWrapper; first | (rw [if_pos (by decide +kernel)]; kernel_rfl) | (rw [if_neg (by decide +kernel)]; exact ⟨rfl, rfl⟩))
    (fun os started H enc _ => lifted os started H enc)

theorem card_holds : Rows.FnPartsViolationCardSaid :=
  Claim7.holds_tied_plain_at .later [] [.data, .data] true (true, "0f70196c989befa3bdbd5d7bf29985d9f429865033e550ebe8dd4ee6653ce6cd") false
    over (fun _ h => by cases h) (by kernel_rfl) (fun _ h => by cases h) fnPartsViolation_row_tie rfl ⟨rfl, rfl⟩ (by kernel_rfl) rfl
    (fun f fn hf hfn => by
      obtain rfl : f = 4 := Option.some.inj ((show Tryz.prog.funcNamed "loop.example/assumeguarantee/laws.FnPartsViolation" = some 4 by kernel_rfl).symm.trans hf) |>.symm
      obtain rfl : fn = Tryz.f4 := (Option.some.inj (Tryz.func4.symm.trans hfn)).symm
      refine ⟨by kernel_rfl, fun j t ht => ?_⟩
      rw [Tryz.params4] at ht
      match j, ht with
      | 0, ht =>
        have h0 : t = 22 := by simpa using ht.symm
        subst h0
        exact (show Tryz.prog.wantsStandIn 22 = false by kernel_rfl)
      | j + 1, ht => simp at ht)
    (by kernel_rfl)
#print axioms card_holds
end Go.Proofs.YteodlkkghnfkdaaGreatDoor.lawFnPartsViolation
