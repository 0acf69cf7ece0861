/- FnWitnessLeast: for all bytes, no word before the first witness of a drawn word is one: the law answers true. -/
import Derived.Test.YtloampfmlhmlhaaGreatDoorDrawU
import Derived.Test.YtloampfmlhmlhaaGreatDoorAgW
import Derived.Test.YtloampfmlhmlhaaGreatDoorWalkUX
import Derived.Test.YtloampfmlhmlhaaGreatDoorWalkUS
import Derived.Test.YtloampfmlhmlhaaGreatDoorSafeN
import Derived.Test.YtloampfmlhmlhaaGreatDoorWalkWA
import Derived.Test.YtloampfmlhmlhaaGreatDoorCard
import Derived.Test.YtloampfmlhmlhaaGreatDoorDrawL
namespace Go.Proofs.YtloampfmlhmlhaaGreatDoor.lawFnWitnessLeast
open Go.ChangeShapes Go.WideShapes Go.ChangeAt Go.RowKit
open Go.Proofs.YtloampfmlhmlhaaGreatDoor
open Go.ChangeMaps (open_string shut_string)
set_option linter.unusedVariables false
set_option linter.unusedSimpArgs false
set_option maxHeartbeats 1600000
set_option maxRecDepth 100000

theorem word_unique {a : Int} (ha : 0 ≤ a) (ha2 : a ≤ 63) {n : Nat} {u v : List Int} (hu : WordOf a n u) (hv : WordOf a n v) : u = v := by
  by_cases he : u = v
  · exact he
  · rcases slexLe_total u v with h | h
    · have := idx_slex ha ha2 hu.1 hv.1 ⟨h, he⟩
      rw [hu.2, hv.2] at this; omega
    · have := idx_slex ha ha2 hv.1 hu.1 ⟨h, fun e => he e.symm⟩
      rw [hu.2, hv.2] at this; omega
theorem least {T : Task} {s : ByteArray} {al : Int} (h0 : 0 ≤ al) (h63 : al ≤ 63) (hall : ∀ l, bit al l = true ↔ inT T l) (ht : taskValid T = true) (hw : wordIn s T.alphabet = true) {k : Nat} {u : List Int} (hu : WordOf al k u) (hb : WitW T (chars s) u) (hno : ∀ j v, j < k → WordOf al j v → ¬ WitW T (chars s) v) : uwOf T s = some u := by
  rcases uw_cases T s with ⟨h, _⟩ | ⟨_, h⟩
  · rw [ht, hw] at h; cases h
  · exact first_of_word h0 h63 h (fun v hv x hx => (hall x).2 (hv.1 x hx)) hu hb hno

theorem walk (v0 : Value) (t0 : List UInt8) (w : World) (hv0 : BytesV w v0 t0) (hD : Deb w) : Calls Tryz.prog 7 #[v0] w (Grows (.bool true) w) := by
  obtain ⟨aB, cB, rfl, hleB, -⟩ := hv0.open
  have HDb := Lib.hid hD
  clear hD
  by_cases hz0 : 1048576 < t0.length
  · go_enter Tryz.func7, Tryz.ntmps7
    go_wp2_with fail
    go_ret
    exact Grows.mk rfl (Ext.refl _)
  go_enter Tryz.func7, Tryz.ntmps7
  go_wp2_with fail
  refine (DrawUnsafeWitness_t _ t0 _ hv0 (by omega)).mono ?_
  rintro e w1 ⟨vt, s, T, rfl, he1, hTV, hTe, hsz⟩
  obtain ⟨vE1, vN1, vA1, rfl, hE1, hN1, hA1⟩ := hTV
  obtain ⟨aE1, cE1, rfl, -, -⟩ := hE1.open
  obtain ⟨aN1, cN1, rfl, -, -⟩ := hN1.open
  obtain ⟨aA1, cA1, rfl, -, -⟩ := hA1.open
  have HT := Lib.hid (show ∀ w', Ext w1 w' → TaskV w' (.agg #[.int .i64 T.sys.alphabet, .int .i64 T.sys.states, .slice aE1 T.sys.edges.length cE1, .int .i64 T.prop.alphabet, .slice aN1 T.prop.next.length cN1, .slice aA1 T.prop.accept.length cA1, .int .i64 T.alphabet]) T from fun w' h => ⟨_, _, _, rfl, hE1.mono h, hN1.mono h, hA1.mono h⟩)
  have HSY := Lib.hid (show ∀ w', Ext w1 w' → SysV w' (.agg #[.int .i64 T.sys.alphabet, .int .i64 T.sys.states, .slice aE1 T.sys.edges.length cE1]) T.sys from fun w' h => ⟨_, rfl, hE1.mono h⟩)
  have HAU := Lib.hid (show ∀ w', Ext w1 w' → AutoV w' (.agg #[.int .i64 T.prop.alphabet, .slice aN1 T.prop.next.length cN1, .slice aA1 T.prop.accept.length cA1]) T.prop from fun w' h => ⟨_, _, rfl, hN1.mono h, hA1.mono h⟩)
  have HD := Lib.hid (show ∀ w', Ext w1 w' → Deb w' from fun w' h => HDb.out.ext (he1.trans h))
  obtain ⟨uw, huw⟩ : ∃ uw, uwOf T s = uw := ⟨_, rfl⟩
  have HUW := Lib.hid huw
  have C1 := Lib.hid (show ∀ w', Ext w1 w' → Calls Tryz.prog 23 #[.agg #[.int .i64 T.sys.alphabet, .int .i64 T.sys.states, .slice aE1 T.sys.edges.length cE1, .int .i64 T.prop.alphabet, .slice aN1 T.prop.next.length cN1, .slice aA1 T.prop.accept.length cA1, .int .i64 T.alphabet], .string s] w' (Grows (.tuple #[.string (rtext uw), .bool uw.isSome]) w') from fun w' h => by have := UnsafeWitness_cd _ T s w' (HT.out _ h) (by omega) (HD.out _ h); rwa [HUW.out] at this)
  have C2 := Lib.hid (show ∀ w', Ext w1 w' → Calls Tryz.prog 24 #[.agg #[.int .i64 T.sys.alphabet, .int .i64 T.sys.states, .slice aE1 T.sys.edges.length cE1, .int .i64 T.prop.alphabet, .slice aN1 T.prop.next.length cN1, .slice aA1 T.prop.accept.length cA1, .int .i64 T.alphabet], .string s] w' (Grows (.tuple #[.string (rtext uw), .bool uw.isSome]) w') from fun w' h => by have := UnsafeWitness_sd _ T s w' (HT.out _ h) (by omega) (by omega); rwa [HUW.out] at this)
  clear hE1 hN1 hA1 huw
  have hx : Ext w1 (w1.alloc (.cells #[.int .i64 T.sys.alphabet, .int .i64 T.sys.states, .slice aE1 T.sys.edges.length cE1, .int .i64 T.prop.alphabet, .slice aN1 T.prop.next.length cN1, .slice aA1 T.prop.accept.length cA1, .int .i64 T.alphabet] 31)) := Ext.alloc _ _
  have bT : Blk (w1.alloc (.cells #[.int .i64 T.sys.alphabet, .int .i64 T.sys.states, .slice aE1 T.sys.edges.length cE1, .int .i64 T.prop.alphabet, .slice aN1 T.prop.next.length cN1, .slice aA1 T.prop.accept.length cA1, .int .i64 T.alphabet] 31)) w1.heap.size #[.int .i64 T.sys.alphabet, .int .i64 T.sys.states, .slice aE1 T.sys.edges.length cE1, .int .i64 T.prop.alphabet, .slice aN1 T.prop.next.length cN1, .slice aA1 T.prop.accept.length cA1, .int .i64 T.alphabet] 31 := Ext.blk (Ext.refl _)
  go_wp2_with fail
  generalize (w1.alloc (.cells #[.int .i64 T.sys.alphabet, .int .i64 T.sys.states, .slice aE1 T.sys.edges.length cE1, .int .i64 T.prop.alphabet, .slice aN1 T.prop.next.length cN1, .slice aA1 T.prop.accept.length cA1, .int .i64 T.alphabet] 31)) = w2 at hx bT ⊢
  have bT_0 := bT.cell 0 rfl; have bT_1 := bT.cell 1 rfl; have bT_2 := bT.cell 2 rfl; have bT_3 := bT.cell 3 rfl; have bT_4 := bT.cell 4 rfl; have bT_5 := bT.cell 5 rfl; have bT_6 := bT.cell 6 rfl
  go_wp2_with fail
  refine (C1.out _ hx).mono ?_
  rintro e wz1 ⟨rfl, hez1⟩
  clear bT_0 bT_1 bT_2 bT_3 bT_4 bT_5 bT_6
  replace bT := bT.ext hez1
  replace hx := hx.trans hez1
  have bT_0 := bT.cell 0 rfl; have bT_1 := bT.cell 1 rfl; have bT_2 := bT.cell 2 rfl; have bT_3 := bT.cell 3 rfl; have bT_4 := bT.cell 4 rfl; have bT_5 := bT.cell 5 rfl; have bT_6 := bT.cell 6 rfl
  go_wp2_with fail
  refine (C2.out _ hx).mono ?_
  rintro e wz2 ⟨rfl, hez2⟩
  clear bT_0 bT_1 bT_2 bT_3 bT_4 bT_5 bT_6
  replace bT := bT.ext hez2
  replace hx := hx.trans hez2
  have bT_0 := bT.cell 0 rfl; have bT_1 := bT.cell 1 rfl; have bT_2 := bT.cell 2 rfl; have bT_3 := bT.cell 3 rfl; have bT_4 := bT.cell 4 rfl; have bT_5 := bT.cell 5 rfl; have bT_6 := bT.cell 6 rfl
  have heq2 : (uw.isSome != uw.isSome) = false := by simp
  have heq3 : (uw.isSome == uw.isSome) = true := by simp
  obtain ⟨tb, htb⟩ : ∃ tb, taskValid T = tb := ⟨_, rfl⟩
  have HTB := Lib.hid htb
  obtain ⟨wv, hwv⟩ : ∃ wv, wordIn s T.alphabet = wv := ⟨_, rfl⟩
  have HWV := Lib.hid hwv
  have CT := Lib.hid (show ∀ w', Ext w1 w' → Calls Tryz.prog 28 #[.agg #[.int .i64 T.sys.alphabet, .int .i64 T.sys.states, .slice aE1 T.sys.edges.length cE1, .int .i64 T.prop.alphabet, .slice aN1 T.prop.next.length cN1, .slice aA1 T.prop.accept.length cA1, .int .i64 T.alphabet]] w' (Grows (.bool tb) w') from fun w' h => by have := TaskValid_c _ T w' (HT.out _ h); rwa [HTB.out] at this)
  have CWW := Lib.hid (show ∀ w', Calls Tryz.prog 15 #[.string s, .int .i64 T.alphabet] w' (Same (.bool wv) w') from fun w' => by have := WordWithin_c s T.alphabet w' (by omega); rwa [HWV.out] at this)
  clear htb hwv
  go_wp2_with fail
  refine (CT.out _ hx).mono ?_
  rintro e wz3 ⟨rfl, hez3⟩
  clear bT_0 bT_1 bT_2 bT_3 bT_4 bT_5 bT_6
  replace bT := bT.ext hez3
  replace hx := hx.trans hez3
  have bT_0 := bT.cell 0 rfl; have bT_1 := bT.cell 1 rfl; have bT_2 := bT.cell 2 rfl; have bT_3 := bT.cell 3 rfl; have bT_4 := bT.cell 4 rfl; have bT_5 := bT.cell 5 rfl; have bT_6 := bT.cell 6 rfl
  cases tb with
  | false =>
    go_wp2_with fail
    go_ret
    exact Grows.mk rfl (he1.trans hx)
  | true =>
  go_wp2_with fail
  refine (CWW.out _).mono ?_
  rintro e ww ⟨rfl, rfl⟩
  cases wv with
  | false =>
    go_wp2_with fail
    go_ret
    exact Grows.mk rfl (he1.trans hx)
  | true =>
  obtain ⟨al, hale, hal0, hal63, hall⟩ := task_letters HTB.out
  have HALE := Lib.hid hale
  have HAL := Lib.hid hall
  clear hale hall C1 C2 CT CWW
  clear bT_0 bT_1 bT_2 bT_3 bT_4 bT_5 bT_6
  go_wp2_with fail
  generalize wz3 = wb at *
  go_loopw [9, 83, 84, 85] (fun i _ _ _ wr => ∃ k : Nat, k ≤ 60 ∧ i = .int .i64 k ∧ Ext w1 wr ∧ Blk wr w1.heap.size #[.int .i64 T.sys.alphabet, .int .i64 T.sys.states, .slice aE1 T.sys.edges.length cE1, .int .i64 T.prop.alphabet, .slice aN1 T.prop.next.length cN1, .slice aA1 T.prop.accept.length cA1, .int .i64 T.alphabet] 31 ∧ Hid (∀ j v, j < k → WordOf al j v → ¬ WitW T (chars s) v)) (fun i _ _ _ _ => 60 - (intOf i).toNat)
  case atStart => exact ⟨0, by omega, rfl, hx, bT, Lib.hid fun j v hj => by omega⟩
  case round =>
    clear hx bT
    obtain ⟨k, hk, rfl, hx, bT, HNO⟩ := hrel
    have bT_0 := bT.cell 0 rfl; have bT_1 := bT.cell 1 rfl; have bT_2 := bT.cell 2 rfl; have bT_3 := bT.cell 3 rfl; have bT_4 := bT.cell 4 rfl; have bT_5 := bT.cell 5 rfl; have bT_6 := bT.cell 6 rfl
    by_cases hlt : k < 60
    · have hale := HALE.out
      go_wp2_with fail
      refine (WordAt_c k al _ (by omega)).mono ?_
      rintro e wa ⟨ru, rfl, hru, hea⟩
      have HRU := Lib.hid hru
      clear hru hale bT_0 bT_1 bT_2 bT_3 bT_4 bT_5 bT_6
      replace bT := bT.ext hea
      replace hx := hx.trans hea
      rcases ru with _ | u
      · go_wp2_with fail
        go_ret
        exact Grows.mk rfl (he1.trans hx)
      · obtain ⟨-, hwo, h7⟩ := HRU.out u rfl
        have hsz2 : (wtext u).size ≤ 1048576 := by rw [size_wtext]; omega
        obtain ⟨bw, hbw⟩ : ∃ b, witB T s (wtext u) = b := ⟨_, rfl⟩
        have hiff : WitW T (chars s) u ↔ bw = true := by rw [← hbw]; exact (witB_iff HTB.out (fun x hx => (HAL.out x).1 (hwo.1 x hx)) (by omega)).symm
        have CA := Lib.hid (show ∀ w', Ext w1 w' → Calls Tryz.prog 30 #[.agg #[.int .i64 T.sys.alphabet, .int .i64 T.sys.states, .slice aE1 T.sys.edges.length cE1, .int .i64 T.prop.alphabet, .slice aN1 T.prop.next.length cN1, .slice aA1 T.prop.accept.length cA1, .int .i64 T.alphabet], .string s, .string (rtext (some u))] w' (Grows (.bool bw) w') from fun w' h => by have := agWitness_c _ T s (wtext u) w' (HT.out _ h) (by omega) hsz2 (HD.out _ h); rwa [hbw] at this)
        have HIFF := Lib.hid hiff
        have HWO := Lib.hid hwo
        clear hiff hwo h7 hsz2 hbw
        have bT_0 := bT.cell 0 rfl; have bT_1 := bT.cell 1 rfl; have bT_2 := bT.cell 2 rfl; have bT_3 := bT.cell 3 rfl; have bT_4 := bT.cell 4 rfl; have bT_5 := bT.cell 5 rfl; have bT_6 := bT.cell 6 rfl
        go_wp2_with fail
        refine (CA.out _ hx).mono ?_
        rintro e wd ⟨rfl, hed⟩
        clear bT_0 bT_1 bT_2 bT_3 bT_4 bT_5 bT_6
        replace bT := bT.ext hed
        replace hx := hx.trans hed
        cases bw with
        | false =>
          go_wp2_with fail
          refine ⟨⟨k + 1, by omega, by go_num, hx, bT, Lib.hid fun j v hj hv hb => ?_⟩, by simp [intOf]; omega⟩
          by_cases hjk : j < k
          · exact HNO.out j v hjk hv hb
          · obtain rfl : j = k := by omega
            obtain rfl := word_unique hal0 hal63 hv HWO.out
            have := HIFF.out.1 hb
            cases this
        | true =>
          have hlast := least hal0 hal63 HAL.out HTB.out HWV.out HWO.out (HIFF.out.2 rfl) HNO.out
          rw [HUW.out] at hlast
          subst hlast
          go_wp2_with fail
          go_ret
          exact Grows.mk rfl (he1.trans hx)
    · obtain rfl : k = 60 := by omega
      go_wp2_with fail
      go_ret
      exact Grows.mk rfl (he1.trans hx)

theorem own : ownKnob Tryz.prog.godebug = none := by kernel_rfl
theorem laidOut : laidOutB Tryz.prog = true := by kernel_rfl
theorem deb_of_laid {W : World} (h : laidMetH Tryz.prog Rows.fnWitnessLeastRow.laid W) : Deb W := debOfLaid h
theorem laid_met (os : Os) (args : Array Value) : laidMetH Tryz.prog Rows.fnWitnessLeastRow.laid ((laidWorld os).forCall (fun _ _ => 0) ⟨#[], args, []⟩).memory :=
  (LaidIn.of_run [0, 1] 8 (by kernel_rfl) (by kernel_rfl) (by kernel_rfl) (by kernel_rfl)).met
set_option maxRecDepth 100000 in
theorem lifted (os : Os) (started : os.Started) (H : Type) (enc : TypeId × Value → H) :
    ReturnsInHanded {} Tryz.checked os 7 .any (fun w args => (Rows.fnWitnessLeastSpec.pre enc Tryz.prog Tryz.f7 [] false w args ∧ laidMetH Tryz.prog Rows.fnWitnessLeastRow.laid w) ∧ sizedMet enc Tryz.prog Tryz.f7 (OpenSpec.ofChange Rows.fnWitnessLeastSpec) false w args)
      (Rows.fnWitnessLeastSpec.post enc Tryz.prog Tryz.f7 false true false false) := by
  refine returnsInHanded_of_change_and (C := Tryz.checked) (X := fun w _ => laidMetH Tryz.prog Rows.fnWitnessLeastRow.laid w) (fun _ _ _ hh h => h.of_heap hh) own started (by kernel_rfl) Tryz.func7
    (ChangeSpec.witness_at (enc := enc) (C := Tryz.checked) (os := os) (X := fun w _ => laidMetH Tryz.prog Rows.fnWitnessLeastRow.laid w) false (laidWorld os) #[.slice none 0 0] 8 rfl (by kernel_rfl) (by kernel_rfl) (by kernel_rfl) (by kernel_rfl) (by kernel_rfl) (laid_met os _)) ?_
  intro W base args ds gs before hval0 hW _ _ hL _
  have hval : ∀ (j : Nat) t v, Tryz.f7.params[j]? = some t → args[j]? = some v → Value.okWide Tryz.prog W .any base t v := hval0
  have hW' := hW
  obtain ⟨p, q, hA0, hV, rfl, hfz, hnd⟩ := hW
  have hA : DataW.TrodAll enc Tryz.prog W 0 (fun _ => true) true Tryz.f7.params.toList args.toList ds p := hA0
  rw [Tryz.params7] at hA hval
  obtain ⟨v0, vs0, d0, ds0, p0, q0, hargs, rfl, rfl, h0, r0⟩ := trodAll_cons hA
  obtain ⟨rfl, rfl, rfl⟩ := trodAll_nil r0
  obtain rfl : args = #[v0] := by cases args; simp_all
  obtain ⟨rfl, rfl⟩ := trodVars_none hV
  have k0 := h0
  have lt0 : ∀ x ∈ p0, x.block < W.heap.size := by obtain ⟨m, hm⟩ := k0; exact DataW.trod_lt m _ _ _ hm
  obtain ⟨a0, len0, cap0, rfl⟩ := okWide_slice Tryz.underlying22 (hval 0 _ v0 rfl rfl)
  obtain ⟨t0, w0⟩ : ∃ t, BytesV W (.slice a0 len0 cap0) t := by
    obtain ⟨fuel, hf⟩ := h0
    obtain ⟨v, t, hv, ht⟩ := read_bytes hf
    simp [Value.cells] at hv
    subst hv
    exact ⟨t, ht⟩
  clear hA0 hval0
  refine (walk (.slice a0 len0 cap0) t0 W w0 (deb_of_laid hL)).mono fun e W' ⟨he, bel⟩ => ?_
  subst he
  exact ⟨_, rfl, _, _, _, [], _, [], hW', trodAll_mk1 (shut_bool Tryz.underlying4 _), (trodAll_cons_mk (Below.trod laidOut (by kernel_rfl) (of_decide_eq_true (by kernel_rfl)) k0 bel lt0) trodAll_mk0), rfl, bel.frame _, fun h => by cases h⟩

theorem over : Rows.fnWitnessLeastRow.holds Tryz.pinned (OpenSpec.ofChange Rows.fnWitnessLeastSpec) :=
  OpenClaim.holds_of_wide 7 Tryz.f7 rfl rfl rfl rfl rfl rfl rfl ⟨rfl, rfl, rfl, rfl, rfl⟩ rfl rfl rfl rfl rfl (by kernel_rfl) Tryz.func7 (by kernel_rfl)
    (of_decide_eq_true (by kernel_rfl)) (by unfold Func.isWrapper; first | (rw [if_pos (by decide +kernel)]; kernel_rfl) | (rw [if_neg (by decide +kernel)]; exact ⟨rfl, rfl⟩))
    (fun os started H enc _ => lifted os started H enc)

theorem card_holds : Rows.FnWitnessLeastCardSaid :=
  Claim7.holds_tied_plain_at .later [] [.data, .data] true (true, "0ab29cc52e882a9be936818e916824ac7edd2fe4bc3f3bb71145c71ac336b87b") false
    over (fun _ h => by cases h) (by kernel_rfl) (fun _ h => by cases h) fnWitnessLeast_row_tie rfl ⟨rfl, rfl⟩ (by kernel_rfl) rfl
    (fun f fn hf hfn => by
      obtain rfl : f = 7 := Option.some.inj ((show Tryz.prog.funcNamed "loop.example/assumeguarantee/laws.FnWitnessLeast" = some 7 by kernel_rfl).symm.trans hf) |>.symm
      obtain rfl : fn = Tryz.f7 := (Option.some.inj (Tryz.func7.symm.trans hfn)).symm
      refine ⟨by kernel_rfl, fun j t ht => ?_⟩
      rw [Tryz.params7] at ht
      match j, ht with
      | 0, ht =>
        have h0 : t = 22 := by simpa using ht.symm
        subst h0
        exact (show Tryz.prog.wantsStandIn 22 = false by kernel_rfl)
      | j + 1, ht => simp at ht)
    (by kernel_rfl)
#print axioms card_holds
end Go.Proofs.YtloampfmlhmlhaaGreatDoor.lawFnWitnessLeast
