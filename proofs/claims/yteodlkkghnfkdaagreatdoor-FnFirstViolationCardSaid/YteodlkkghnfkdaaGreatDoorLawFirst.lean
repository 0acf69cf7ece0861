/- FnFirstViolation: for all bytes, the first violation of the drawn system and property is a short trace that breaks the property, and there is none exactly if the system keeps it: the law answers true. -/
import Derived.Test.YteodlkkghnfkdaaGreatDoorDrawE
import Derived.Test.YteodlkkghnfkdaaGreatDoorWalkT
import Derived.Test.YteodlkkghnfkdaaGreatDoorDet
import Derived.Test.YteodlkkghnfkdaaGreatDoorCard
import Derived.Test.YteodlkkghnfkdaaGreatDoorDrawL
namespace Go.Proofs.YteodlkkghnfkdaaGreatDoor.lawFnFirstViolation
open Go.ChangeShapes Go.WideShapes Go.ChangeAt Go.RowKit
open Go.Proofs.YteodlkkghnfkdaaGreatDoor
open Go.ChangeMaps (open_string shut_string)
set_option linter.unusedVariables false
set_option linter.unusedSimpArgs false
set_option maxHeartbeats 1600000
set_option maxRecDepth 100000

theorem states_mul {S : Sys} {P : Auto} (hs : sysValid S = true) (hp : autoValid P = true) : IntKind.i64.wrap (S.states * (P.next.length : Int)) = S.states * (P.next.length : Int) ∧ S.states * (P.next.length : Int) = ((S.states.toNat * P.next.length : Nat) : Int) := by
  have h1 := valid_alpha hs
  have h2 := autoValid_facts hp
  obtain ⟨m, hm⟩ := Int.eq_ofNat_of_zero_le (show 0 ≤ S.states by omega)
  rw [hm]
  have h3 : m * P.next.length ≤ 16 * 12 := Nat.mul_le_mul (by omega) (by omega)
  have h4 : (m : Int) * (P.next.length : Int) = ((m * P.next.length : Nat) : Int) := by simp
  rw [h4]
  exact ⟨IntWalk.i64_in _ (by omega), by simp⟩

theorem walk (v0 : Value) (t0 : List UInt8) (w : World) (hv0 : BytesV w v0 t0) (hD : Deb w) : Calls Tryz.prog 3 #[v0] w (Grows (.bool true) w) := by
  obtain ⟨aB, cB, rfl, hleB, -⟩ := hv0.open
  have HDb := Lib.hid hD
  clear hD
  by_cases hz0 : 1048576 < t0.length
  · go_enter Tryz.func3, Tryz.ntmps3
    go_wp2_with fail
    go_ret
    exact Grows.mk rfl (Ext.refl _)
  go_enter Tryz.func3, Tryz.ntmps3
  go_wp2_with fail
  refine (DrawFirstViolation_t _ t0 _ hv0 (by omega)).mono ?_
  rintro e w1 ⟨r, D, rfl, he1, hD1, hT1, s, p, rfl, hS, hP⟩
  obtain ⟨S, hSe1, hSV1⟩ := hS.sys hT1
  obtain ⟨vE1, rfl, hE1⟩ := hSV1
  obtain ⟨aE1, cE1, rfl, -, -⟩ := hE1.open
  obtain ⟨P, hPn2, hPa2, hPV2⟩ := hP.auto hT1
  obtain ⟨vN2, vA2, rfl, hN2, hA2⟩ := hPV2
  obtain ⟨aN2, cN2, rfl, -, -⟩ := hN2.open
  obtain ⟨aA2, cA2, rfl, -, -⟩ := hA2.open
  have HS := Lib.hid (show ∀ w', Ext w1 w' → SysV w' (.agg #[.int .i64 S.alphabet, .int .i64 S.states, .slice aE1 S.edges.length cE1]) S from fun w' h => ⟨_, rfl, hE1.mono h⟩)
  have HP := Lib.hid (show ∀ w', Ext w1 w' → AutoV w' (.agg #[.int .i64 P.alphabet, .slice aN2 P.next.length cN2, .slice aA2 P.accept.length cA2]) P from fun w' h => ⟨_, _, rfl, hN2.mono h, hA2.mono h⟩)
  have HD := Lib.hid (show ∀ w', Ext w1 w' → Deb w' from fun w' h => HDb.out.ext (he1.trans h))
  obtain ⟨rr, hrr⟩ : ∃ rr, pvOf [S] P = rr := ⟨_, rfl⟩
  have HR := Lib.hid hrr
  have C1 := Lib.hid (show ∀ w', Ext w1 w' → Calls Tryz.prog 10 #[.agg #[.int .i64 S.alphabet, .int .i64 S.states, .slice aE1 S.edges.length cE1], .agg #[.int .i64 P.alphabet, .slice aN2 P.next.length cN2, .slice aA2 P.accept.length cA2]] w' (Grows (.tuple #[.string (rtext rr), .bool rr.isSome]) w') from fun w' h => by have := FirstViolation_cd _ _ S P _ (HS.out _ h) (HP.out _ h) (HD.out _ h); rwa [HR.out] at this)
  have C2 := Lib.hid (show ∀ w', Ext w1 w' → Calls Tryz.prog 11 #[.agg #[.int .i64 S.alphabet, .int .i64 S.states, .slice aE1 S.edges.length cE1], .agg #[.int .i64 P.alphabet, .slice aN2 P.next.length cN2, .slice aA2 P.accept.length cA2]] w' (Grows (.tuple #[.string (rtext rr), .bool rr.isSome]) w') from fun w' h => by have := FirstViolation_sd _ _ S P _ (HS.out _ h) (HP.out _ h) (by omega); rwa [HR.out] at this)
  clear hE1 hN2 hA2 hS hP hT1 hD1 hrr
  have hx : Ext w1 ((w1.alloc (.cells #[.int .i64 S.alphabet, .int .i64 S.states, .slice aE1 S.edges.length cE1] 25)).alloc (.cells #[.int .i64 P.alphabet, .slice aN2 P.next.length cN2, .slice aA2 P.accept.length cA2] 29)) := (Ext.alloc _ _).trans (Ext.alloc _ _)
  have b3 : Blk ((w1.alloc (.cells #[.int .i64 S.alphabet, .int .i64 S.states, .slice aE1 S.edges.length cE1] 25)).alloc (.cells #[.int .i64 P.alphabet, .slice aN2 P.next.length cN2, .slice aA2 P.accept.length cA2] 29)) w1.heap.size #[.int .i64 S.alphabet, .int .i64 S.states, .slice aE1 S.edges.length cE1] 25 := Ext.blk (Ext.alloc _ _)
  have b4 : Blk ((w1.alloc (.cells #[.int .i64 S.alphabet, .int .i64 S.states, .slice aE1 S.edges.length cE1] 25)).alloc (.cells #[.int .i64 P.alphabet, .slice aN2 P.next.length cN2, .slice aA2 P.accept.length cA2] 29)) (w1.heap.size + 1) #[.int .i64 P.alphabet, .slice aN2 P.next.length cN2, .slice aA2 P.accept.length cA2] 29 := Ext.blk1 (Ext.refl _)
  go_wp2_with fail
  generalize ((w1.alloc (.cells #[.int .i64 S.alphabet, .int .i64 S.states, .slice aE1 S.edges.length cE1] 25)).alloc (.cells #[.int .i64 P.alphabet, .slice aN2 P.next.length cN2, .slice aA2 P.accept.length cA2] 29)) = w2 at hx b3 b4 ⊢
  have b3_0 := b3.cell 0 rfl; have b3_1 := b3.cell 1 rfl; have b3_2 := b3.cell 2 rfl; have b4_0 := b4.cell 0 rfl; have b4_1 := b4.cell 1 rfl; have b4_2 := b4.cell 2 rfl
  go_wp2_with fail
  refine (C1.out _ hx).mono ?_
  rintro e wz1 ⟨rfl, hez1⟩
  clear b3_0 b3_1 b3_2 b4_0 b4_1 b4_2
  replace b3 := b3.ext hez1
  replace b4 := b4.ext hez1
  replace hx := hx.trans hez1
  have b3_0 := b3.cell 0 rfl; have b3_1 := b3.cell 1 rfl; have b3_2 := b3.cell 2 rfl; have b4_0 := b4.cell 0 rfl; have b4_1 := b4.cell 1 rfl; have b4_2 := b4.cell 2 rfl
  go_wp2_with fail
  refine (C2.out _ hx).mono ?_
  rintro e wz2 ⟨rfl, hez2⟩
  clear b3_0 b3_1 b3_2 b4_0 b4_1 b4_2
  replace b3 := b3.ext hez2
  replace b4 := b4.ext hez2
  replace hx := hx.trans hez2
  have b3_0 := b3.cell 0 rfl; have b3_1 := b3.cell 1 rfl; have b3_2 := b3.cell 2 rfl; have b4_0 := b4.cell 0 rfl; have b4_1 := b4.cell 1 rfl; have b4_2 := b4.cell 2 rfl
  have heq2 : (rr.isSome != rr.isSome) = false := by simp
  rcases rr with _ | u
  · by_cases hs : sysValid S = true
    case neg =>
      have hs : sysValid S = false := by simpa using hs
      have hk : keepsB [S] P = false := (keepsB_wrong (by simp [one_areParts, hs])).1
      go_wp2_with fail
      refine (SystemValid_b hs (HS.out _ hx)).mono ?_
      rintro e wz3 ⟨rfl, hez3⟩
      clear b3_0 b3_1 b3_2 b4_0 b4_1 b4_2
      replace b3 := b3.ext hez3
      replace b4 := b4.ext hez3
      replace hx := hx.trans hez3
      have b3_0 := b3.cell 0 rfl; have b3_1 := b3.cell 1 rfl; have b3_2 := b3.cell 2 rfl; have b4_0 := b4.cell 0 rfl; have b4_1 := b4.cell 1 rfl; have b4_2 := b4.cell 2 rfl
      go_wp2_with fail
      refine (KeepsProperty_cd _ _ S P _ (HS.out _ hx) (HP.out _ hx) (HD.out _ hx)).mono ?_
      rintro e w9 ⟨rfl, he9⟩
      rw [hk]
      go_wp2_with fail
      go_ret
      exact Grows.mk rfl ((he1.trans hx).trans he9)
    by_cases hp : autoValid P = true
    case neg =>
      have hp : autoValid P = false := by simpa using hp
      have hk : keepsB [S] P = false := (keepsB_wrong (by simp [hp])).1
      go_wp2_with fail
      refine (SystemValid_b hs (HS.out _ hx)).mono ?_
      rintro e wz4 ⟨rfl, hez4⟩
      clear b3_0 b3_1 b3_2 b4_0 b4_1 b4_2
      replace b3 := b3.ext hez4
      replace b4 := b4.ext hez4
      replace hx := hx.trans hez4
      have b3_0 := b3.cell 0 rfl; have b3_1 := b3.cell 1 rfl; have b3_2 := b3.cell 2 rfl; have b4_0 := b4.cell 0 rfl; have b4_1 := b4.cell 1 rfl; have b4_2 := b4.cell 2 rfl
      go_wp2_with fail
      refine (AutomatonValid_b hp (HP.out _ hx)).mono ?_
      rintro e wz5 ⟨rfl, hez5⟩
      clear b3_0 b3_1 b3_2 b4_0 b4_1 b4_2
      replace b3 := b3.ext hez5
      replace b4 := b4.ext hez5
      replace hx := hx.trans hez5
      have b3_0 := b3.cell 0 rfl; have b3_1 := b3.cell 1 rfl; have b3_2 := b3.cell 2 rfl; have b4_0 := b4.cell 0 rfl; have b4_1 := b4.cell 1 rfl; have b4_2 := b4.cell 2 rfl
      go_wp2_with fail
      refine (KeepsProperty_cd _ _ S P _ (HS.out _ hx) (HP.out _ hx) (HD.out _ hx)).mono ?_
      rintro e w9 ⟨rfl, he9⟩
      rw [hk]
      go_wp2_with fail
      go_ret
      exact Grows.mk rfl ((he1.trans hx).trans he9)
    have hk : keepsB [S] P = true := by rw [keepsB_valid (by rw [one_areParts]; exact hs) hp, HR.out]; rfl
    go_wp2_with fail
    refine (SystemValid_b hs (HS.out _ hx)).mono ?_
    rintro e wz6 ⟨rfl, hez6⟩
    clear b3_0 b3_1 b3_2 b4_0 b4_1 b4_2
    replace b3 := b3.ext hez6
    replace b4 := b4.ext hez6
    replace hx := hx.trans hez6
    have b3_0 := b3.cell 0 rfl; have b3_1 := b3.cell 1 rfl; have b3_2 := b3.cell 2 rfl; have b4_0 := b4.cell 0 rfl; have b4_1 := b4.cell 1 rfl; have b4_2 := b4.cell 2 rfl
    go_wp2_with fail
    refine (AutomatonValid_b hp (HP.out _ hx)).mono ?_
    rintro e wz7 ⟨rfl, hez7⟩
    clear b3_0 b3_1 b3_2 b4_0 b4_1 b4_2
    replace b3 := b3.ext hez7
    replace b4 := b4.ext hez7
    replace hx := hx.trans hez7
    have b3_0 := b3.cell 0 rfl; have b3_1 := b3.cell 1 rfl; have b3_2 := b3.cell 2 rfl; have b4_0 := b4.cell 0 rfl; have b4_1 := b4.cell 1 rfl; have b4_2 := b4.cell 2 rfl
    go_wp2_with fail
    refine (KeepsProperty_cd _ _ S P _ (HS.out _ hx) (HP.out _ hx) (HD.out _ hx)).mono ?_
    rintro e w9 ⟨rfl, he9⟩
    rw [hk]
    go_wp2_with fail
    go_ret
    exact Grows.mk rfl ((he1.trans hx).trans he9)
  · obtain ⟨hV, -⟩ := pv_some HR.out
    have hs : sysValid S = true := by have := hV.okp; rwa [one_areParts] at this
    have hp := hV.prop
    have hk : keepsB [S] P = false := by rw [keepsB_valid hV.okp hp, HR.out]; rfl
    have htr : hasTrace S (wtext u) = true := hV.hasTrace
    have hbr : breaks P (wtext u) = true := hV.breaks
    have hsz : (wtext u).size ≤ 1048576 := by have := hV.size5; omega
    obtain ⟨hm1, hm2⟩ := states_mul hs hp
    have hlt : decide (((wtext u).size : Int) < S.states * (P.next.length : Int)) = true := by
      have := hV.size
      simp only [partSizes, List.map_cons, List.map_nil, List.prod_cons, List.prod_nil, Nat.mul_one] at this
      rw [hm2, decide_eq_true_eq]; omega
    clear hV hm2
    go_wp2_with fail
    refine (SystemValid_b hs (HS.out _ hx)).mono ?_
    rintro e wz8 ⟨rfl, hez8⟩
    clear b3_0 b3_1 b3_2 b4_0 b4_1 b4_2
    replace b3 := b3.ext hez8
    replace b4 := b4.ext hez8
    replace hx := hx.trans hez8
    have b3_0 := b3.cell 0 rfl; have b3_1 := b3.cell 1 rfl; have b3_2 := b3.cell 2 rfl; have b4_0 := b4.cell 0 rfl; have b4_1 := b4.cell 1 rfl; have b4_2 := b4.cell 2 rfl
    go_wp2_with fail
    refine (AutomatonValid_b hp (HP.out _ hx)).mono ?_
    rintro e wz9 ⟨rfl, hez9⟩
    clear b3_0 b3_1 b3_2 b4_0 b4_1 b4_2
    replace b3 := b3.ext hez9
    replace b4 := b4.ext hez9
    replace hx := hx.trans hez9
    have b3_0 := b3.cell 0 rfl; have b3_1 := b3.cell 1 rfl; have b3_2 := b3.cell 2 rfl; have b4_0 := b4.cell 0 rfl; have b4_1 := b4.cell 1 rfl; have b4_2 := b4.cell 2 rfl
    go_wp2_with fail
    refine (KeepsProperty_cd _ _ S P _ (HS.out _ hx) (HP.out _ hx) (HD.out _ hx)).mono ?_
    rintro e w9 ⟨rfl, he9⟩
    rw [hk]
    clear b3_0 b3_1 b3_2 b4_0 b4_1 b4_2
    replace b3 := b3.ext he9
    replace b4 := b4.ext he9
    replace hx := hx.trans he9
    have b3_0 := b3.cell 0 rfl; have b3_1 := b3.cell 1 rfl; have b3_2 := b3.cell 2 rfl; have b4_0 := b4.cell 0 rfl; have b4_1 := b4.cell 1 rfl; have b4_2 := b4.cell 2 rfl
    go_wp2_with fail
    refine (HasTrace_c _ S _ _ (HS.out _ hx) hsz (HD.out _ hx)).mono ?_
    rintro e w10 ⟨rfl, he10⟩
    rw [htr]
    clear b3_0 b3_1 b3_2 b4_0 b4_1 b4_2
    replace b3 := b3.ext he10
    replace b4 := b4.ext he10
    replace hx := hx.trans he10
    have b3_0 := b3.cell 0 rfl; have b3_1 := b3.cell 1 rfl; have b3_2 := b3.cell 2 rfl; have b4_0 := b4.cell 0 rfl; have b4_1 := b4.cell 1 rfl; have b4_2 := b4.cell 2 rfl
    go_wp2_with fail
    refine (BreaksProperty_c _ P _ _ (HP.out _ hx) hsz).mono ?_
    rintro e w11 ⟨rfl, he11⟩
    rw [hbr]
    clear b3_0 b3_1 b3_2 b4_0 b4_1 b4_2
    replace b3 := b3.ext he11
    replace b4 := b4.ext he11
    replace hx := hx.trans he11
    have b3_0 := b3.cell 0 rfl; have b3_1 := b3.cell 1 rfl; have b3_2 := b3.cell 2 rfl; have b4_0 := b4.cell 0 rfl; have b4_1 := b4.cell 1 rfl; have b4_2 := b4.cell 2 rfl
    go_wp2_with fail
    go_ret
    exact Grows.mk (congrArg Value.bool hlt) (he1.trans hx)

theorem own : ownKnob Tryz.prog.godebug = none := by kernel_rfl
theorem laidOut : laidOutB Tryz.prog = true := by kernel_rfl
theorem deb_of_laid {W : World} (h : laidMetH Tryz.prog Rows.fnFirstViolationRow.laid W) : Deb W := debOfLaid h
theorem laid_met (os : Os) (args : Array Value) : laidMetH Tryz.prog Rows.fnFirstViolationRow.laid ((laidWorld os).forCall (fun _ _ => 0) ⟨#[], args, []⟩).memory :=
  (LaidIn.of_run [0, 1] 8 (by kernel_rfl) (by kernel_rfl) (by kernel_rfl) (by kernel_rfl)).met
set_option maxRecDepth 100000 in
theorem lifted (os : Os) (started : os.Started) (H : Type) (enc : TypeId × Value → H) :
    ReturnsInHanded {} Tryz.checked os 3 .any (fun w args => (Rows.fnFirstViolationSpec.pre enc Tryz.prog Tryz.f3 [] false w args ∧ laidMetH Tryz.prog Rows.fnFirstViolationRow.laid w) ∧ sizedMet enc Tryz.prog Tryz.f3 (OpenSpec.ofChange Rows.fnFirstViolationSpec) false w args)
      (Rows.fnFirstViolationSpec.post enc Tryz.prog Tryz.f3 false true false false) := by
  refine returnsInHanded_of_change_and (C := Tryz.checked) (X := fun w _ => laidMetH Tryz.prog Rows.fnFirstViolationRow.laid w) (fun _ _ _ hh h => h.of_heap hh) own started (by kernel_rfl) Tryz.func3
    (ChangeSpec.witness_at (enc := enc) (C := Tryz.checked) (os := os) (X := fun w _ => laidMetH Tryz.prog Rows.fnFirstViolationRow.laid w) false (laidWorld os) #[.slice none 0 0] 8 rfl (by kernel_rfl) (by kernel_rfl) (by kernel_rfl) (by kernel_rfl) (by kernel_rfl) (laid_met os _)) ?_
  intro W base args ds gs before hval0 hW _ _ hL _
  have hval : ∀ (j : Nat) t v, Tryz.f3.params[j]? = some t → args[j]? = some v → Value.okWide Tryz.prog W .any base t v := hval0
  have hW' := hW
  obtain ⟨p, q, hA0, hV, rfl, hfz, hnd⟩ := hW
  have hA : DataW.TrodAll enc Tryz.prog W 0 (fun _ => true) true Tryz.f3.params.toList args.toList ds p := hA0
  rw [Tryz.params3] at hA hval
  obtain ⟨v0, vs0, d0, ds0, p0, q0, hargs, rfl, rfl, h0, r0⟩ := trodAll_cons hA
  obtain ⟨rfl, rfl, rfl⟩ := trodAll_nil r0
  obtain rfl : args = #[v0] := by cases args; simp_all
  obtain ⟨rfl, rfl⟩ := trodVars_none hV
  have k0 := h0
  have lt0 : ∀ x ∈ p0, x.block < W.heap.size := by obtain ⟨m, hm⟩ := k0; exact DataW.trod_lt m _ _ _ hm
  obtain ⟨a0, len0, cap0, rfl⟩ := okWide_slice Tryz.underlying22 (hval 0 _ v0 rfl rfl)
  obtain ⟨t0, w0⟩ : ∃ t, BytesV W (.slice a0 len0 cap0) t := by
    obtain ⟨fuel, hf⟩ := h0
    obtain ⟨v, t, hv, ht⟩ := read_bytes hf
    simp [Value.cells] at hv
    subst hv
    exact ⟨t, ht⟩
  clear hA0 hval0
  refine (walk (.slice a0 len0 cap0) t0 W w0 (deb_of_laid hL)).mono fun e W' ⟨he, bel⟩ => ?_
  subst he
  exact ⟨_, rfl, _, _, _, [], _, [], hW', trodAll_mk1 (shut_bool Tryz.underlying4 _), (trodAll_cons_mk (Below.trod laidOut (by kernel_rfl) (of_decide_eq_true (by kernel_rfl)) k0 bel lt0) trodAll_mk0), rfl, bel.frame _, fun h => by cases h⟩

theorem over : Rows.fnFirstViolationRow.holds Tryz.pinned (OpenSpec.ofChange Rows.fnFirstViolationSpec) :=
  OpenClaim.holds_of_wide 3 Tryz.f3 rfl rfl rfl rfl rfl rfl rfl ⟨rfl, rfl, rfl, rfl, rfl⟩ rfl rfl rfl rfl rfl (by kernel_rfl) Tryz.func3 (by kernel_rfl)
    (of_decide_eq_true (by kernel_rfl)) (by unfold Func.isWrapper; first | (rw [if_pos (by decide +kernel)]; kernel_rfl) | (rw [if_neg (by decide +kernel)]; exact ⟨rfl, rfl⟩))
    (fun os started H enc _ => lifted os started H enc)

theorem card_holds : Rows.FnFirstViolationCardSaid :=
  Claim7.holds_tied_plain_at .later [] [.data, .data] true (true, "0f70196c989befa3bdbd5d7bf29985d9f429865033e550ebe8dd4ee6653ce6cd") false
    over (fun _ h => by cases h) (by kernel_rfl) (fun _ h => by cases h) fnFirstViolation_row_tie rfl ⟨rfl, rfl⟩ (by kernel_rfl) rfl
    (fun f fn hf hfn => by
      obtain rfl : f = 3 := Option.some.inj ((show Tryz.prog.funcNamed "loop.example/assumeguarantee/laws.FnFirstViolation" = some 3 by kernel_rfl).symm.trans hf) |>.symm
      obtain rfl : fn = Tryz.f3 := (Option.some.inj (Tryz.func3.symm.trans hfn)).symm
      refine ⟨by kernel_rfl, fun j t ht => ?_⟩
      rw [Tryz.params3] at ht
      match j, ht with
      | 0, ht =>
        have h0 : t = 22 := by simpa using ht.symm
        subst h0
        exact (show Tryz.prog.wantsStandIn 22 = false by kernel_rfl)
      | j + 1, ht => simp at ht)
    (by kernel_rfl)
#print axioms card_holds
end Go.Proofs.YteodlkkghnfkdaaGreatDoor.lawFnFirstViolation
