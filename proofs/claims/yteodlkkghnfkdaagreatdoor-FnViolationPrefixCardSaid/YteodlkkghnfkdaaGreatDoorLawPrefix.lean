/- FnViolationPrefix: for all bytes, no proper prefix of the first violation of the drawn system breaks the property, and each is a trace: the law answers true. -/
import Derived.Test.YteodlkkghnfkdaaGreatDoorDrawE
import Derived.Test.YteodlkkghnfkdaaGreatDoorWalkT
import Derived.Test.YteodlkkghnfkdaaGreatDoorDet
import Derived.Test.YteodlkkghnfkdaaGreatDoorCard
import Derived.Test.YteodlkkghnfkdaaGreatDoorDrawL
namespace Go.Proofs.YteodlkkghnfkdaaGreatDoor.lawFnViolationPrefix
open Go.ChangeShapes Go.WideShapes Go.ChangeAt Go.RowKit
open Go.Proofs.YteodlkkghnfkdaaGreatDoor
open Go.ChangeMaps (open_string shut_string)
set_option linter.unusedVariables false
set_option linter.unusedSimpArgs false
set_option maxHeartbeats 1600000
set_option maxRecDepth 100000

theorem take_text (u : List Int) (k : Nat) : (wtext u).extract 0 k = wtext (u.take k) := by
  apply ByteArray.ext
  simp [wtext, ByteArray.data_extract, List.map_take]
/-- A proper prefix of the first violation is a trace that does not break the property. -/
theorem prefix_fine {S : Sys} {P : Auto} {u : List Int} (h : pvOf [S] P = some u) {k : Nat} (hk : k < u.length) : hasTrace S (wtext (u.take k)) = true ∧ breaks P (wtext (u.take k)) = false ∧ (wtext u).size ≤ 50000 := by
  obtain ⟨hV, e⟩ := pv_some h
  have hs : sysValid S = true := by have := hV.okp; rwa [one_areParts] at this
  have hal := valid_alpha hs
  have hp := hV.prop
  have hok := hV.okp
  have hword := hV.word
  have hpa : partsAlphabet [S] = S.alphabet := by
    unfold partsAlphabet; rw [if_pos hok]; simp [orTo]; omega
  have hlen := hV.size5
  rw [size_wtext] at hlen
  rw [hpa] at hword
  have hin : ∀ x ∈ u, bit S.alphabet x = true := by
    simp only [wordIn, Bool.and_eq_true, List.all_eq_true, e] at hword
    exact hword.2
  have hin2 : ∀ x ∈ u.take k, bit S.alphabet x = true := fun x hx => hin x (List.mem_of_mem_take hx)
  have e2 := chars_wtext (u := u.take k) fun x hx => bit_range hal.2.1 (hin2 x hx)
  have hw2 := wordIn_wtext hal.1 hal.2.1 hin2 (by rw [List.length_take]; omega)
  have htr := hV.trace S (by simp)
  rw [e] at htr
  have htk := trace_take htr k
  refine ⟨hasTrace_iff.2 ⟨hs, hw2, by rw [e2]; exact htk⟩, ?_, hV.size5⟩
  unfold breaks
  rw [hp, e2]
  cases ha : accepts P (run P 0 (u.take k)) with
  | true => simp
  | false =>
    rcases pv_cases [S] P with ⟨h1, _⟩ | ⟨_, h1⟩
    · rw [hok, hp] at h1; cases h1
    · rw [h] at h1
      have hbr : BrokenW [S] trivAuto P (u.take k) := by
        rw [brokenW_iff (areParts_all hok) trivAuto_valid hp]
        exact ⟨fun x hx => inAll_triv.2 ⟨S, by simp, hin2 x hx⟩, fun t ht => by rw [List.mem_singleton] at ht; subst ht; exact htk, triv_accepts _, ha⟩
      rcases h1.2 _ hbr with h3 | ⟨h3, _⟩ <;> rw [List.length_take] at h3 <;> omega

theorem walk (v0 : Value) (t0 : List UInt8) (w : World) (hv0 : BytesV w v0 t0) (hD : Deb w) : Calls Tryz.prog 6 #[v0] w (Grows (.bool true) w) := by
  obtain ⟨aB, cB, rfl, hleB, -⟩ := hv0.open
  have HDb := Lib.hid hD
  clear hD
  by_cases hz0 : 1048576 < t0.length
  · go_enter Tryz.func6, Tryz.ntmps6
    go_wp2_with fail
    go_ret
    exact Grows.mk rfl (Ext.refl _)
  go_enter Tryz.func6, Tryz.ntmps6
  go_wp2_with fail
  refine (DrawFirstViolation_t _ t0 _ hv0 (by omega)).mono ?_
  rintro e w1 ⟨r, D, rfl, he1, hD1, hT1, s, p, rfl, hS, hP⟩
  obtain ⟨S, hSe1, hSV1⟩ := hS.sys hT1
  obtain ⟨vE1, rfl, hE1⟩ := hSV1
  obtain ⟨aE1, cE1, rfl, -, -⟩ := hE1.open
  obtain ⟨P, hPn2, hPa2, hPV2⟩ := hP.auto hT1
  obtain ⟨vN2, vA2, rfl, hN2, hA2⟩ := hPV2
  obtain ⟨aN2, cN2, rfl, -, -⟩ := hN2.open
  obtain ⟨aA2, cA2, rfl, -, -⟩ := hA2.open
  have HS := Lib.hid (show ∀ w', Ext w1 w' → SysV w' (.agg #[.int .i64 S.alphabet, .int .i64 S.states, .slice aE1 S.edges.length cE1]) S from fun w' h => ⟨_, rfl, hE1.mono h⟩)
  have HP := Lib.hid (show ∀ w', Ext w1 w' → AutoV w' (.agg #[.int .i64 P.alphabet, .slice aN2 P.next.length cN2, .slice aA2 P.accept.length cA2]) P from fun w' h => ⟨_, _, rfl, hN2.mono h, hA2.mono h⟩)
  have HD := Lib.hid (show ∀ w', Ext w1 w' → Deb w' from fun w' h => HDb.out.ext (he1.trans h))
  obtain ⟨rr, hrr⟩ : ∃ rr, pvOf [S] P = rr := ⟨_, rfl⟩
  have HR := Lib.hid hrr
  have C1 := Lib.hid (show ∀ w', Ext w1 w' → Calls Tryz.prog 10 #[.agg #[.int .i64 S.alphabet, .int .i64 S.states, .slice aE1 S.edges.length cE1], .agg #[.int .i64 P.alphabet, .slice aN2 P.next.length cN2, .slice aA2 P.accept.length cA2]] w' (Grows (.tuple #[.string (rtext rr), .bool rr.isSome]) w') from fun w' h => by have := FirstViolation_cd _ _ S P _ (HS.out _ h) (HP.out _ h) (HD.out _ h); rwa [HR.out] at this)
  have C2 := Lib.hid (show ∀ w', Ext w1 w' → Calls Tryz.prog 11 #[.agg #[.int .i64 S.alphabet, .int .i64 S.states, .slice aE1 S.edges.length cE1], .agg #[.int .i64 P.alphabet, .slice aN2 P.next.length cN2, .slice aA2 P.accept.length cA2]] w' (Grows (.tuple #[.string (rtext rr), .bool rr.isSome]) w') from fun w' h => by have := FirstViolation_sd _ _ S P _ (HS.out _ h) (HP.out _ h) (by omega); rwa [HR.out] at this)
  clear hE1 hN2 hA2 hS hP hT1 hD1 hrr
  have hx : Ext w1 ((w1.alloc (.cells #[.int .i64 S.alphabet, .int .i64 S.states, .slice aE1 S.edges.length cE1] 25)).alloc (.cells #[.int .i64 P.alphabet, .slice aN2 P.next.length cN2, .slice aA2 P.accept.length cA2] 29)) := (Ext.alloc _ _).trans (Ext.alloc _ _)
  have b3 : Blk ((w1.alloc (.cells #[.int .i64 S.alphabet, .int .i64 S.states, .slice aE1 S.edges.length cE1] 25)).alloc (.cells #[.int .i64 P.alphabet, .slice aN2 P.next.length cN2, .slice aA2 P.accept.length cA2] 29)) w1.heap.size #[.int .i64 S.alphabet, .int .i64 S.states, .slice aE1 S.edges.length cE1] 25 := Ext.blk (Ext.alloc _ _)
  have b4 : Blk ((w1.alloc (.cells #[.int .i64 S.alphabet, .int .i64 S.states, .slice aE1 S.edges.length cE1] 25)).alloc (.cells #[.int .i64 P.alphabet, .slice aN2 P.next.length cN2, .slice aA2 P.accept.length cA2] 29)) (w1.heap.size + 1) #[.int .i64 P.alphabet, .slice aN2 P.next.length cN2, .slice aA2 P.accept.length cA2] 29 := Ext.blk1 (Ext.refl _)
  go_wp2_with fail
  generalize ((w1.alloc (.cells #[.int .i64 S.alphabet, .int .i64 S.states, .slice aE1 S.edges.length cE1] 25)).alloc (.cells #[.int .i64 P.alphabet, .slice aN2 P.next.length cN2, .slice aA2 P.accept.length cA2] 29)) = w2 at hx b3 b4 ⊢
  have b3_0 := b3.cell 0 rfl; have b3_1 := b3.cell 1 rfl; have b3_2 := b3.cell 2 rfl; have b4_0 := b4.cell 0 rfl; have b4_1 := b4.cell 1 rfl; have b4_2 := b4.cell 2 rfl
  go_wp2_with fail
  refine (C1.out _ hx).mono ?_
  rintro e wz1 ⟨rfl, hez1⟩
  clear b3_0 b3_1 b3_2 b4_0 b4_1 b4_2
  replace b3 := b3.ext hez1
  replace b4 := b4.ext hez1
  replace hx := hx.trans hez1
  have b3_0 := b3.cell 0 rfl; have b3_1 := b3.cell 1 rfl; have b3_2 := b3.cell 2 rfl; have b4_0 := b4.cell 0 rfl; have b4_1 := b4.cell 1 rfl; have b4_2 := b4.cell 2 rfl
  go_wp2_with fail
  refine (C2.out _ hx).mono ?_
  rintro e wz2 ⟨rfl, hez2⟩
  clear b3_0 b3_1 b3_2 b4_0 b4_1 b4_2
  replace b3 := b3.ext hez2
  replace b4 := b4.ext hez2
  replace hx := hx.trans hez2
  have b3_0 := b3.cell 0 rfl; have b3_1 := b3.cell 1 rfl; have b3_2 := b3.cell 2 rfl; have b4_0 := b4.cell 0 rfl; have b4_1 := b4.cell 1 rfl; have b4_2 := b4.cell 2 rfl
  have heq2 : (rr.isSome != rr.isSome) = false := by simp
  have heq3 : (rr.isSome == rr.isSome) = true := by simp
  rcases rr with _ | u
  · go_wp2_with fail
    go_ret
    exact Grows.mk rfl (he1.trans hx)
  go_wp2_with fail
  clear b3_0 b3_1 b3_2 b4_0 b4_1 b4_2
  generalize wz2 = wb at *
  have hsz3 : (rtext (some u)).size ≤ 50000 := (pv_some HR.out).1.size5
  have hpre : ∀ k : Nat, k < (rtext (some u)).size → hasTrace S ((rtext (some u)).extract 0 k) = true ∧ breaks P ((rtext (some u)).extract 0 k) = false ∧ ((rtext (some u)).extract 0 k).size ≤ 1048576 := fun k hk => by
    have hk2 : k < u.length := by have h := size_wtext u; have h2 : k < (wtext u).size := hk; omega
    obtain ⟨f1, f2, f3⟩ := prefix_fine HR.out hk2
    have hcut : (rtext (some u)).extract 0 k = wtext (u.take k) := take_text u k
    rw [hcut]
    exact ⟨f1, f2, by rw [size_wtext, List.length_take]; rw [size_wtext] at f3; omega⟩
  have HPRE := Lib.hid hpre
  clear hpre HR
  generalize rtext (some u) = tx at *
  go_loopw [9, 62, 63, 64, 65, 66, 67] (fun i _ _ _ _ _ _ wr => ∃ k : Nat, k ≤ (tx).size ∧ i = .int .i64 k ∧ Ext w1 wr ∧ Blk wr w1.heap.size #[.int .i64 S.alphabet, .int .i64 S.states, .slice aE1 S.edges.length cE1] 25 ∧ Blk wr (w1.heap.size + 1) #[.int .i64 P.alphabet, .slice aN2 P.next.length cN2, .slice aA2 P.accept.length cA2] 29) (fun i _ _ _ _ _ _ _ => (tx).size - (intOf i).toNat)
  case atStart => exact ⟨0, by omega, rfl, hx, b3, b4⟩
  case round =>
    clear hx b3 b4
    obtain ⟨k, hk, rfl, hx, b3, b4⟩ := hrel
    by_cases hlt : k < (tx).size
    · obtain ⟨f1, f2, f3⟩ := HPRE.out k hlt
      go_wp2_with fail
      have Db30 := fun d os => cell_regrown (b3.cell 0 rfl) d os
      have Db31 := fun d os => cell_regrown (b3.cell 1 rfl) d os
      have Db32 := fun d os => cell_regrown (b3.cell 2 rfl) d os
      have Db40 := fun d os => cell_regrown (b4.cell 0 rfl) d os
      have Db41 := fun d os => cell_regrown (b4.cell 1 rfl) d os
      have Db42 := fun d os => cell_regrown (b4.cell 2 rfl) d os
      have hk0 : (0 : Int) ≤ (k : Int) := by omega
      have hk1 : (k : Int) ≤ ((tx).size : Int) := by omega
      have CB := Lib.hid (show ∀ w', Ext w1 w' → Calls Tryz.prog 16 #[.agg #[.int .i64 P.alphabet, .slice aN2 P.next.length cN2, .slice aA2 P.accept.length cA2], .string (tx.extract 0 k)] w' (Grows (.bool false) w') from fun w' h => by have := BreaksProperty_c _ P (tx.extract 0 k) w' (HP.out _ h) f3; rw [f2] at this; exact this)
      have CH := Lib.hid (show ∀ w', Ext w1 w' → Calls Tryz.prog 15 #[.agg #[.int .i64 S.alphabet, .int .i64 S.states, .slice aE1 S.edges.length cE1], .string (tx.extract 0 k)] w' (Grows (.bool true) w') from fun w' h => by have := HasTrace_c _ S (tx.extract 0 k) w' (HS.out _ h) f3 (HD.out _ h); rw [f1] at this; exact this)
      clear f1 f2 f3
      refine wp_region_quiet_below (by kernel_rfl) (by kernel_rfl) ?_
      repeat (go_big_quiet_step ((first | (go_at_call 16; exact Grows.quiet (CB.out _ (hx.trans (below_regrown _ _ _)))) | (go_at_call 15; exact Grows.quiet (CH.out _ (hx.trans (below_regrown _ _ _)))))))
      refine wpQuiet_nil ?_
      intro _ hw'
      obtain ⟨⟨dq, osq⟩, hw''⟩ := hw'
      subst hw''
      have hq2 : Ext wr (Go.Sort.grow (redrawn wr dq) osq) := below_regrown wr dq osq
      generalize Go.Sort.grow (redrawn wr dq) osq = wq at hq2 ⊢
      go_wp2_with fail
      exact ⟨⟨k + 1, by omega, by go_num, hx.trans hq2, b3.ext hq2, b4.ext hq2⟩, by simp [intOf]; omega⟩
    · obtain rfl : k = (tx).size := by omega
      go_wp2_with fail
      go_ret
      exact Grows.mk rfl (he1.trans hx)

theorem own : ownKnob Tryz.prog.godebug = none := by kernel_rfl
theorem laidOut : laidOutB Tryz.prog = true := by kernel_rfl
theorem deb_of_laid {W : World} (h : laidMetH Tryz.prog Rows.fnViolationPrefixRow.laid W) : Deb W := debOfLaid h
theorem laid_met (os : Os) (args : Array Value) : laidMetH Tryz.prog Rows.fnViolationPrefixRow.laid ((laidWorld os).forCall (fun _ _ => 0) ⟨#[], args, []⟩).memory :=
  (LaidIn.of_run [0, 1] 8 (by kernel_rfl) (by kernel_rfl) (by kernel_rfl) (by kernel_rfl)).met
set_option maxRecDepth 100000 in
theorem lifted (os : Os) (started : os.Started) (H : Type) (enc : TypeId × Value → H) :
    ReturnsInHanded {} Tryz.checked os 6 .any (fun w args => (Rows.fnViolationPrefixSpec.pre enc Tryz.prog Tryz.f6 [] false w args ∧ laidMetH Tryz.prog Rows.fnViolationPrefixRow.laid w) ∧ sizedMet enc Tryz.prog Tryz.f6 (OpenSpec.ofChange Rows.fnViolationPrefixSpec) false w args)
      (Rows.fnViolationPrefixSpec.post enc Tryz.prog Tryz.f6 false true false false) := by
  refine returnsInHanded_of_change_and (C := Tryz.checked) (X := fun w _ => laidMetH Tryz.prog Rows.fnViolationPrefixRow.laid w) (fun _ _ _ hh h => h.of_heap hh) own started (by kernel_rfl) Tryz.func6
    (ChangeSpec.witness_at (enc := enc) (C := Tryz.checked) (os := os) (X := fun w _ => laidMetH Tryz.prog Rows.fnViolationPrefixRow.laid w) false (laidWorld os) #[.slice none 0 0] 8 rfl (by kernel_rfl) (by kernel_rfl) (by kernel_rfl) (by kernel_rfl) (by kernel_rfl) (laid_met os _)) ?_
  intro W base args ds gs before hval0 hW _ _ hL _
  have hval : ∀ (j : Nat) t v, Tryz.f6.params[j]? = some t → args[j]? = some v → Value.okWide Tryz.prog W .any base t v := hval0
  have hW' := hW
  obtain ⟨p, q, hA0, hV, rfl, hfz, hnd⟩ := hW
  have hA : DataW.TrodAll enc Tryz.prog W 0 (fun _ => true) true Tryz.f6.params.toList args.toList ds p := hA0
  rw [Tryz.params6] at hA hval
  obtain ⟨v0, vs0, d0, ds0, p0, q0, hargs, rfl, rfl, h0, r0⟩ := trodAll_cons hA
  obtain ⟨rfl, rfl, rfl⟩ := trodAll_nil r0
  obtain rfl : args = #[v0] := by cases args; simp_all
  obtain ⟨rfl, rfl⟩ := trodVars_none hV
  have k0 := h0
  have lt0 : ∀ x ∈ p0, x.block < W.heap.size := by obtain ⟨m, hm⟩ := k0; exact DataW.trod_lt m _ _ _ hm
  obtain ⟨a0, len0, cap0, rfl⟩ := okWide_slice Tryz.underlying22 (hval 0 _ v0 rfl rfl)
  obtain ⟨t0, w0⟩ : ∃ t, BytesV W (.slice a0 len0 cap0) t := by
    obtain ⟨fuel, hf⟩ := h0
    obtain ⟨v, t, hv, ht⟩ := read_bytes hf
    simp [Value.cells] at hv
    subst hv
    exact ⟨t, ht⟩
  clear hA0 hval0
  refine (walk (.slice a0 len0 cap0) t0 W w0 (deb_of_laid hL)).mono fun e W' ⟨he, bel⟩ => ?_
  subst he
  exact ⟨_, rfl, _, _, _, [], _, [], hW', trodAll_mk1 (shut_bool Tryz.underlying4 _), (trodAll_cons_mk (Below.trod laidOut (by kernel_rfl) (of_decide_eq_true (by kernel_rfl)) k0 bel lt0) trodAll_mk0), rfl, bel.frame _, fun h => by cases h⟩

theorem over : Rows.fnViolationPrefixRow.holds Tryz.pinned (OpenSpec.ofChange Rows.fnViolationPrefixSpec) :=
  OpenClaim.holds_of_wide 6 Tryz.f6 rfl rfl rfl rfl rfl rfl rfl ⟨rfl, rfl, rfl, rfl, rfl⟩ rfl rfl rfl rfl rfl (by kernel_rfl) Tryz.func6 (by kernel_rfl)
    (of_decide_eq_true (by kernel_rfl)) (by unfold Func.isWrapper; first | (rw [if_pos (by decide +kernel)]; kernel_rfl) | (rw [if_neg (by decide +kernel)]; exact ⟨rfl, rfl⟩))
    (fun os started H enc _ => lifted os started H enc)

theorem card_holds : Rows.FnViolationPrefixCardSaid :=
  Claim7.holds_tied_plain_at .later [] [.data, .data] true (true, "0f70196c989befa3bdbd5d7bf29985d9f429865033e550ebe8dd4ee6653ce6cd") false
    over (fun _ h => by cases h) (by kernel_rfl) (fun _ h => by cases h) fnViolationPrefix_row_tie rfl ⟨rfl, rfl⟩ (by kernel_rfl) rfl
    (fun f fn hf hfn => by
      obtain rfl : f = 6 := Option.some.inj ((show Tryz.prog.funcNamed "loop.example/assumeguarantee/laws.FnViolationPrefix" = some 6 by kernel_rfl).symm.trans hf) |>.symm
      obtain rfl : fn = Tryz.f6 := (Option.some.inj (Tryz.func6.symm.trans hfn)).symm
      refine ⟨by kernel_rfl, fun j t ht => ?_⟩
      rw [Tryz.params6] at ht
      match j, ht with
      | 0, ht =>
        have h0 : t = 22 := by simpa using ht.symm
        subst h0
        exact (show Tryz.prog.wantsStandIn 22 = false by kernel_rfl)
      | j + 1, ht => simp at ht)
    (by kernel_rfl)
#print axioms card_holds
end Go.Proofs.YteodlkkghnfkdaaGreatDoor.lawFnViolationPrefix
