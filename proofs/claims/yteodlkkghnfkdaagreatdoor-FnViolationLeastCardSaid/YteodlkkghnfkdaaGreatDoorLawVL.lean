/- FnViolationLeast: for all bytes, no trace before the first violation of the drawn system breaks the property: the law answers true. -/
import Derived.Test.YteodlkkghnfkdaaGreatDoorDrawE
import Derived.Test.YteodlkkghnfkdaaGreatDoorWalkWA
import Derived.Test.YteodlkkghnfkdaaGreatDoorDet
import Derived.Test.YteodlkkghnfkdaaGreatDoorCard
import Derived.Test.YteodlkkghnfkdaaGreatDoorDrawL
namespace Go.Proofs.YteodlkkghnfkdaaGreatDoor.lawFnViolationLeast
open Go.ChangeShapes Go.WideShapes Go.ChangeAt Go.RowKit
open Go.Proofs.YteodlkkghnfkdaaGreatDoor
open Go.ChangeMaps (open_string shut_string)
set_option linter.unusedVariables false
set_option linter.unusedSimpArgs false
set_option maxHeartbeats 1600000
set_option maxRecDepth 100000

theorem word_unique {a : Int} (ha : 0 ≤ a) (ha2 : a ≤ 63) {n : Nat} {u v : List Int} (hu : WordOf a n u) (hv : WordOf a n v) : u = v := by
  by_cases he : u = v
  · exact he
  · rcases slexLe_total u v with h | h
    · have := idx_slex ha ha2 hu.1 hv.1 ⟨h, he⟩
      rw [hu.2, hv.2] at this; omega
    · have := idx_slex ha ha2 hv.1 hu.1 ⟨h, fun e => he e.symm⟩
      rw [hu.2, hv.2] at this; omega
/-- A word that breaks the property along the system. -/
def Bad (S : Sys) (P : Auto) (u : List Int) : Prop := TraceV S u ∧ autoValid P = true ∧ accepts P (run P 0 u) = false
theorem word_text {a : Int} (ha : 0 ≤ a) (ha2 : a ≤ 63) {n : Nat} {u : List Int} (h : WordOf a n u) (h7 : u.length ≤ 7) : chars (wtext u) = u ∧ wordIn (wtext u) a = true ∧ wordValid (wtext u) = true := by
  have e := chars_wtext (u := u) fun x hx => bit_range ha2 (h.1 x hx)
  have hw := wordIn_wtext ha ha2 h.1 (by omega)
  exact ⟨e, hw, wordIn_more (a := a) (by omega) (by omega) hw fun l hl => by have := bit_range ha2 hl; rw [bit63]; simp; omega⟩
theorem bad_iff {S : Sys} {P : Auto} (hs : sysValid S = true) {n : Nat} {u : List Int} (h : WordOf S.alphabet n u) (h7 : u.length ≤ 7) : Bad S P u ↔ hasTrace S (wtext u) = true ∧ breaks P (wtext u) = true := by
  have hal := valid_alpha hs
  obtain ⟨e1, e2, e3⟩ := word_text hal.1 hal.2.1 h h7
  unfold Bad
  rw [hasTrace_iff, e1]
  unfold breaks
  rw [e1, e3]
  simp only [Bool.and_true, Bool.and_eq_true, Bool.not_eq_true']
  exact ⟨fun ⟨g1, g2, g3⟩ => ⟨⟨hs, e2, g1⟩, g2, g3⟩, fun ⟨⟨_, _, g1⟩, g2, g3⟩ => ⟨g1, g2, g3⟩⟩
theorem least {S : Sys} {P : Auto} (hs : sysValid S = true) {k : Nat} {u : List Int} (hu : WordOf S.alphabet k u) (hb : Bad S P u) (hno : ∀ j v, j < k → WordOf S.alphabet j v → ¬ Bad S P v) : pvOf [S] P = some u := by
  have hal := valid_alpha hs
  have hok : areParts [S] = true := by rw [one_areParts]; exact hs
  rcases pv_cases [S] P with ⟨h, _⟩ | ⟨_, h⟩
  · rw [hok, hb.2.1] at h; cases h
  · have hiff : ∀ v, BrokenW [S] trivAuto P v ↔ (∀ x ∈ v, bit S.alphabet x = true) ∧ Bad S P v := fun v => by
      rw [brokenW_iff (areParts_all hok) trivAuto_valid hb.2.1]
      unfold Bad
      simp only [inAll_triv, List.mem_singleton, exists_eq_left, forall_eq, triv_accepts, true_and, hb.2.1]
    exact first_of_word hal.1 hal.2.1 h (fun v hv => ((hiff v).1 hv).1) hu ((hiff u).2 ⟨hu.1, hb⟩) fun j v hj hv hw => hno j v hj hv ((hiff v).1 hw).2

theorem walk (v0 : Value) (t0 : List UInt8) (w : World) (hv0 : BytesV w v0 t0) (hD : Deb w) : Calls Tryz.prog 8 #[v0] w (Grows (.bool true) w) := by
  obtain ⟨aB, cB, rfl, hleB, -⟩ := hv0.open
  have HDb := Lib.hid hD
  clear hD
  by_cases hz0 : 1048576 < t0.length
  · go_enter Tryz.func8, Tryz.ntmps8
    go_wp2_with fail
    go_ret
    exact Grows.mk rfl (Ext.refl _)
  go_enter Tryz.func8, Tryz.ntmps8
  go_wp2_with fail
  refine (DrawFirstViolation_t _ t0 _ hv0 (by omega)).mono ?_
  rintro e w1 ⟨r, D, rfl, he1, hD1, hT1, s, p, rfl, hS, hP⟩
  obtain ⟨S, hSe1, hSV1⟩ := hS.sys hT1
  obtain ⟨vE1, rfl, hE1⟩ := hSV1
  obtain ⟨aE1, cE1, rfl, -, -⟩ := hE1.open
  obtain ⟨P, hPn2, hPa2, hPV2⟩ := hP.auto hT1
  obtain ⟨vN2, vA2, rfl, hN2, hA2⟩ := hPV2
  obtain ⟨aN2, cN2, rfl, -, -⟩ := hN2.open
  obtain ⟨aA2, cA2, rfl, -, -⟩ := hA2.open
  have HS := Lib.hid (show ∀ w', Ext w1 w' → SysV w' (.agg #[.int .i64 S.alphabet, .int .i64 S.states, .slice aE1 S.edges.length cE1]) S from fun w' h => ⟨_, rfl, hE1.mono h⟩)
  have HP := Lib.hid (show ∀ w', Ext w1 w' → AutoV w' (.agg #[.int .i64 P.alphabet, .slice aN2 P.next.length cN2, .slice aA2 P.accept.length cA2]) P from fun w' h => ⟨_, _, rfl, hN2.mono h, hA2.mono h⟩)
  have HD := Lib.hid (show ∀ w', Ext w1 w' → Deb w' from fun w' h => HDb.out.ext (he1.trans h))
  obtain ⟨rr, hrr⟩ : ∃ rr, pvOf [S] P = rr := ⟨_, rfl⟩
  have HR := Lib.hid hrr
  have C1 := Lib.hid (show ∀ w', Ext w1 w' → Calls Tryz.prog 10 #[.agg #[.int .i64 S.alphabet, .int .i64 S.states, .slice aE1 S.edges.length cE1], .agg #[.int .i64 P.alphabet, .slice aN2 P.next.length cN2, .slice aA2 P.accept.length cA2]] w' (Grows (.tuple #[.string (rtext rr), .bool rr.isSome]) w') from fun w' h => by have := FirstViolation_cd _ _ S P _ (HS.out _ h) (HP.out _ h) (HD.out _ h); rwa [HR.out] at this)
  have C2 := Lib.hid (show ∀ w', Ext w1 w' → Calls Tryz.prog 11 #[.agg #[.int .i64 S.alphabet, .int .i64 S.states, .slice aE1 S.edges.length cE1], .agg #[.int .i64 P.alphabet, .slice aN2 P.next.length cN2, .slice aA2 P.accept.length cA2]] w' (Grows (.tuple #[.string (rtext rr), .bool rr.isSome]) w') from fun w' h => by have := FirstViolation_sd _ _ S P _ (HS.out _ h) (HP.out _ h) (by omega); rwa [HR.out] at this)
  clear hE1 hN2 hA2 hS hP hT1 hD1 hrr
  have hx : Ext w1 ((w1.alloc (.cells #[.int .i64 S.alphabet, .int .i64 S.states, .slice aE1 S.edges.length cE1] 25)).alloc (.cells #[.int .i64 P.alphabet, .slice aN2 P.next.length cN2, .slice aA2 P.accept.length cA2] 29)) := (Ext.alloc _ _).trans (Ext.alloc _ _)
  have b3 : Blk ((w1.alloc (.cells #[.int .i64 S.alphabet, .int .i64 S.states, .slice aE1 S.edges.length cE1] 25)).alloc (.cells #[.int .i64 P.alphabet, .slice aN2 P.next.length cN2, .slice aA2 P.accept.length cA2] 29)) w1.heap.size #[.int .i64 S.alphabet, .int .i64 S.states, .slice aE1 S.edges.length cE1] 25 := Ext.blk (Ext.alloc _ _)
  have b4 : Blk ((w1.alloc (.cells #[.int .i64 S.alphabet, .int .i64 S.states, .slice aE1 S.edges.length cE1] 25)).alloc (.cells #[.int .i64 P.alphabet, .slice aN2 P.next.length cN2, .slice aA2 P.accept.length cA2] 29)) (w1.heap.size + 1) #[.int .i64 P.alphabet, .slice aN2 P.next.length cN2, .slice aA2 P.accept.length cA2] 29 := Ext.blk1 (Ext.refl _)
  go_wp2_with fail
  generalize ((w1.alloc (.cells #[.int .i64 S.alphabet, .int .i64 S.states, .slice aE1 S.edges.length cE1] 25)).alloc (.cells #[.int .i64 P.alphabet, .slice aN2 P.next.length cN2, .slice aA2 P.accept.length cA2] 29)) = w2 at hx b3 b4 ⊢
  have b3_0 := b3.cell 0 rfl; have b3_1 := b3.cell 1 rfl; have b3_2 := b3.cell 2 rfl; have b4_0 := b4.cell 0 rfl; have b4_1 := b4.cell 1 rfl; have b4_2 := b4.cell 2 rfl
  go_wp2_with fail
  refine (C1.out _ hx).mono ?_
  rintro e wz1 ⟨rfl, hez1⟩
  clear b3_0 b3_1 b3_2 b4_0 b4_1 b4_2
  replace b3 := b3.ext hez1
  replace b4 := b4.ext hez1
  replace hx := hx.trans hez1
  have b3_0 := b3.cell 0 rfl; have b3_1 := b3.cell 1 rfl; have b3_2 := b3.cell 2 rfl; have b4_0 := b4.cell 0 rfl; have b4_1 := b4.cell 1 rfl; have b4_2 := b4.cell 2 rfl
  go_wp2_with fail
  refine (C2.out _ hx).mono ?_
  rintro e wz2 ⟨rfl, hez2⟩
  clear b3_0 b3_1 b3_2 b4_0 b4_1 b4_2
  replace b3 := b3.ext hez2
  replace b4 := b4.ext hez2
  replace hx := hx.trans hez2
  have b3_0 := b3.cell 0 rfl; have b3_1 := b3.cell 1 rfl; have b3_2 := b3.cell 2 rfl; have b4_0 := b4.cell 0 rfl; have b4_1 := b4.cell 1 rfl; have b4_2 := b4.cell 2 rfl
  have heq2 : (rr.isSome != rr.isSome) = false := by simp
  have heq3 : (rr.isSome == rr.isSome) = true := by simp
  by_cases hs : sysValid S = true
  case neg =>
    have hs : sysValid S = false := by simpa using hs
    go_wp2_with fail
    refine (SystemValid_b hs (HS.out _ hx)).mono ?_
    rintro e wz3 ⟨rfl, hez3⟩
    clear b3_0 b3_1 b3_2 b4_0 b4_1 b4_2
    replace b3 := b3.ext hez3
    replace b4 := b4.ext hez3
    replace hx := hx.trans hez3
    have b3_0 := b3.cell 0 rfl; have b3_1 := b3.cell 1 rfl; have b3_2 := b3.cell 2 rfl; have b4_0 := b4.cell 0 rfl; have b4_1 := b4.cell 1 rfl; have b4_2 := b4.cell 2 rfl
    go_wp2_with fail
    go_ret
    exact Grows.mk rfl (he1.trans hx)
  go_wp2_with fail
  refine (SystemValid_b hs (HS.out _ hx)).mono ?_
  rintro e wz4 ⟨rfl, hez4⟩
  clear b3_0 b3_1 b3_2 b4_0 b4_1 b4_2
  replace b3 := b3.ext hez4
  replace b4 := b4.ext hez4
  replace hx := hx.trans hez4
  have b3_0 := b3.cell 0 rfl; have b3_1 := b3.cell 1 rfl; have b3_2 := b3.cell 2 rfl; have b4_0 := b4.cell 0 rfl; have b4_1 := b4.cell 1 rfl; have b4_2 := b4.cell 2 rfl
  have HSV := Lib.hid hs
  go_wp2_with fail
  clear hs b3_0 b3_1 b3_2 b4_0 b4_1 b4_2
  generalize wz4 = wb at *
  go_loopw [9, 70, 71, 72, 76, 77, 78] (fun i _ _ _ _ _ _ wr => ∃ k : Nat, k ≤ 60 ∧ i = .int .i64 k ∧ Ext w1 wr ∧ Blk wr w1.heap.size #[.int .i64 S.alphabet, .int .i64 S.states, .slice aE1 S.edges.length cE1] 25 ∧ Blk wr (w1.heap.size + 1) #[.int .i64 P.alphabet, .slice aN2 P.next.length cN2, .slice aA2 P.accept.length cA2] 29 ∧ Hid (∀ j v, j < k → WordOf S.alphabet j v → ¬ Bad S P v)) (fun i _ _ _ _ _ _ _ => 60 - (intOf i).toNat)
  case atStart => exact ⟨0, by omega, rfl, hx, b3, b4, fun j v hj => by omega⟩
  case round =>
    clear hx b3 b4
    obtain ⟨k, hk, rfl, hx, b3, b4, HNO⟩ := hrel
    have b3_0 := b3.cell 0 rfl; have b3_1 := b3.cell 1 rfl; have b3_2 := b3.cell 2 rfl; have b4_0 := b4.cell 0 rfl; have b4_1 := b4.cell 1 rfl; have b4_2 := b4.cell 2 rfl
    by_cases hlt : k < 60
    · go_wp2_with fail
      refine (WordAt_c k S.alphabet _ (by omega)).mono ?_
      rintro e wa ⟨ru, rfl, hru, hea⟩
      have HRU := Lib.hid hru
      clear hru b3_0 b3_1 b3_2 b4_0 b4_1 b4_2
      replace b3 := b3.ext hea
      replace b4 := b4.ext hea
      replace hx := hx.trans hea
      have b3_0 := b3.cell 0 rfl; have b3_1 := b3.cell 1 rfl; have b3_2 := b3.cell 2 rfl; have b4_0 := b4.cell 0 rfl; have b4_1 := b4.cell 1 rfl; have b4_2 := b4.cell 2 rfl
      rcases ru with _ | u
      · go_wp2_with fail
        go_ret
        exact Grows.mk rfl (he1.trans hx)
      · have hsz : (rtext (some u)).size ≤ 1048576 := by
          have := (HRU.out u rfl).2.2
          show (wtext u).size ≤ _
          rw [size_wtext]; omega
        go_wp2_with fail
        refine (HasTrace_c _ S (rtext (some u)) _ (HS.out _ hx) hsz (HD.out _ hx)).mono ?_
        rintro e wt ⟨rfl, het⟩
        clear b3_0 b3_1 b3_2 b4_0 b4_1 b4_2
        replace b3 := b3.ext het
        replace b4 := b4.ext het
        replace hx := hx.trans het
        have b3_0 := b3.cell 0 rfl; have b3_1 := b3.cell 1 rfl; have b3_2 := b3.cell 2 rfl; have b4_0 := b4.cell 0 rfl; have b4_1 := b4.cell 1 rfl; have b4_2 := b4.cell 2 rfl
        have hnext : ¬ (hasTrace S (wtext u) = true ∧ breaks P (wtext u) = true) → ∀ j v, j < k + 1 → WordOf S.alphabet j v → ¬ Bad S P v := fun hn j v hj hv hb => by
          by_cases hjk : j < k
          · exact HNO.out j v hjk hv hb
          · obtain rfl : j = k := by omega
            have hal := valid_alpha HSV.out
            obtain rfl := word_unique hal.1 hal.2.1 hv (HRU.out u rfl).2.1
            exact hn ((bad_iff HSV.out hv (HRU.out _ rfl).2.2).1 hb)
        have HNX := Lib.hid hnext
        clear hnext
        by_cases ht : hasTrace S (rtext (some u)) = true
        · rw [ht]
          go_wp2_with fail
          refine (BreaksProperty_c _ P (rtext (some u)) _ (HP.out _ hx) hsz).mono ?_
          rintro e wq ⟨rfl, heq⟩
          clear b3_0 b3_1 b3_2 b4_0 b4_1 b4_2
          replace b3 := b3.ext heq
          replace b4 := b4.ext heq
          replace hx := hx.trans heq
          by_cases hb : breaks P (rtext (some u)) = true
          · rw [hb]
            obtain rfl : rr = some u := by rw [← HR.out]; exact least HSV.out (HRU.out u rfl).2.1 ((bad_iff HSV.out (HRU.out u rfl).2.1 (HRU.out u rfl).2.2).2 ⟨ht, hb⟩) HNO.out
            go_wp2_with fail
            go_ret
            exact Grows.mk rfl (he1.trans hx)
          · have hb : breaks P (rtext (some u)) = false := by simpa using hb
            rw [hb]
            go_wp2_with fail
            exact ⟨⟨k + 1, by omega, by go_num, hx, b3, b4, HNX.out fun h => by have := h.2; rw [show breaks P (wtext u) = false from hb] at this; cases this⟩, by simp [intOf]; omega⟩
        · have ht : hasTrace S (rtext (some u)) = false := by simpa using ht
          rw [ht]
          go_wp2_with fail
          exact ⟨⟨k + 1, by omega, by go_num, hx, b3, b4, HNX.out fun h => by have := h.1; rw [show hasTrace S (wtext u) = false from ht] at this; cases this⟩, by simp [intOf]; omega⟩
    · obtain rfl : k = 60 := by omega
      go_wp2_with fail
      go_ret
      exact Grows.mk rfl (he1.trans hx)

theorem own : ownKnob Tryz.prog.godebug = none := by kernel_rfl
theorem laidOut : laidOutB Tryz.prog = true := by kernel_rfl
theorem deb_of_laid {W : World} (h : laidMetH Tryz.prog Rows.fnViolationLeastRow.laid W) : Deb W := debOfLaid h
theorem laid_met (os : Os) (args : Array Value) : laidMetH Tryz.prog Rows.fnViolationLeastRow.laid ((laidWorld os).forCall (fun _ _ => 0) ⟨#[], args, []⟩).memory :=
  (LaidIn.of_run [0, 1] 8 (by kernel_rfl) (by kernel_rfl) (by kernel_rfl) (by kernel_rfl)).met
set_option maxRecDepth 100000 in
theorem lifted (os : Os) (started : os.Started) (H : Type) (enc : TypeId × Value → H) :
    ReturnsInHanded {} Tryz.checked os 8 .any (fun w args => (Rows.fnViolationLeastSpec.pre enc Tryz.prog Tryz.f8 [] false w args ∧ laidMetH Tryz.prog Rows.fnViolationLeastRow.laid w) ∧ sizedMet enc Tryz.prog Tryz.f8 (OpenSpec.ofChange Rows.fnViolationLeastSpec) false w args)
      (Rows.fnViolationLeastSpec.post enc Tryz.prog Tryz.f8 false true false false) := by
  refine returnsInHanded_of_change_and (C := Tryz.checked) (X := fun w _ => laidMetH Tryz.prog Rows.fnViolationLeastRow.laid w) (fun _ _ _ hh h => h.of_heap hh) own started (by kernel_rfl) Tryz.func8
    (ChangeSpec.witness_at (enc := enc) (C := Tryz.checked) (os := os) (X := fun w _ => laidMetH Tryz.prog Rows.fnViolationLeastRow.laid w) false (laidWorld os) #[.slice none 0 0] 8 rfl (by kernel_rfl) (by kernel_rfl) (by kernel_rfl) (by kernel_rfl) (by kernel_rfl) (laid_met os _)) ?_
  intro W base args ds gs before hval0 hW _ _ hL _
  have hval : ∀ (j : Nat) t v, Tryz.f8.params[j]? = some t → args[j]? = some v → Value.okWide Tryz.prog W .any base t v := hval0
  have hW' := hW
  obtain ⟨p, q, hA0, hV, rfl, hfz, hnd⟩ := hW
  have hA : DataW.TrodAll enc Tryz.prog W 0 (fun _ => true) true Tryz.f8.params.toList args.toList ds p := hA0
  rw [Tryz.params8] at hA hval
  obtain ⟨v0, vs0, d0, ds0, p0, q0, hargs, rfl, rfl, h0, r0⟩ := trodAll_cons hA
  obtain ⟨rfl, rfl, rfl⟩ := trodAll_nil r0
  obtain rfl : args = #[v0] := by cases args; simp_all
  obtain ⟨rfl, rfl⟩ := trodVars_none hV
  have k0 := h0
  have lt0 : ∀ x ∈ p0, x.block < W.heap.size := by obtain ⟨m, hm⟩ := k0; exact DataW.trod_lt m _ _ _ hm
  obtain ⟨a0, len0, cap0, rfl⟩ := okWide_slice Tryz.underlying22 (hval 0 _ v0 rfl rfl)
  obtain ⟨t0, w0⟩ : ∃ t, BytesV W (.slice a0 len0 cap0) t := by
    obtain ⟨fuel, hf⟩ := h0
    obtain ⟨v, t, hv, ht⟩ := read_bytes hf
    simp [Value.cells] at hv
    subst hv
    exact ⟨t, ht⟩
  clear hA0 hval0
  refine (walk (.slice a0 len0 cap0) t0 W w0 (deb_of_laid hL)).mono fun e W' ⟨he, bel⟩ => ?_
  subst he
  exact ⟨_, rfl, _, _, _, [], _, [], hW', trodAll_mk1 (shut_bool Tryz.underlying4 _), (trodAll_cons_mk (Below.trod laidOut (by kernel_rfl) (of_decide_eq_true (by kernel_rfl)) k0 bel lt0) trodAll_mk0), rfl, bel.frame _, fun h => by cases h⟩

theorem over : Rows.fnViolationLeastRow.holds Tryz.pinned (OpenSpec.ofChange Rows.fnViolationLeastSpec) :=
  OpenClaim.holds_of_wide 8 Tryz.f8 rfl rfl rfl rfl rfl rfl rfl ⟨rfl, rfl, rfl, rfl, rfl⟩ rfl rfl rfl rfl rfl (by kernel_rfl) Tryz.func8 (by kernel_rfl)
    (of_decide_eq_true (by kernel_rfl)) (by unfold Func.isWrapper; first | (rw [if_pos (by decide +kernel)]; kernel_rfl) | (rw [if_neg (by decide +kernel)]; exact ⟨rfl, rfl⟩))
    (fun os started H enc _ => lifted os started H enc)

theorem card_holds : Rows.FnViolationLeastCardSaid :=
  Claim7.holds_tied_plain_at .later [] [.data, .data] true (true, "0f70196c989befa3bdbd5d7bf29985d9f429865033e550ebe8dd4ee6653ce6cd") false
    over (fun _ h => by cases h) (by kernel_rfl) (fun _ h => by cases h) fnViolationLeast_row_tie rfl ⟨rfl, rfl⟩ (by kernel_rfl) rfl
    (fun f fn hf hfn => by
      obtain rfl : f = 8 := Option.some.inj ((show Tryz.prog.funcNamed "loop.example/assumeguarantee/laws.FnViolationLeast" = some 8 by kernel_rfl).symm.trans hf) |>.symm
      obtain rfl : fn = Tryz.f8 := (Option.some.inj (Tryz.func8.symm.trans hfn)).symm
      refine ⟨by kernel_rfl, fun j t ht => ?_⟩
      rw [Tryz.params8] at ht
      match j, ht with
      | 0, ht =>
        have h0 : t = 22 := by simpa using ht.symm
        subst h0
        exact (show Tryz.prog.wantsStandIn 22 = false by kernel_rfl)
      | j + 1, ht => simp at ht)
    (by kernel_rfl)
#print axioms card_holds
end Go.Proofs.YteodlkkghnfkdaaGreatDoor.lawFnViolationLeast
