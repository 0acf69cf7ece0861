/- FnPartsCompose: for all bytes, the program and the reference agree on the composition of two drawn systems, and its first violation of a drawn property is that of the two as parts: the law answers true. The card. -/
import Derived.Test.YtanekmfifmkbmaaGreatDoorLawPC
import Derived.Test.YtanekmfifmkbmaaGreatDoorCardE
import Derived.Test.YtanekmfifmkbmaaGreatDoorDrawL
namespace Go.Proofs.YtanekmfifmkbmaaGreatDoor.lawFnPartsCompose
open Go.ChangeShapes Go.WideShapes Go.ChangeAt Go.RowKit
open Go.Proofs.YtanekmfifmkbmaaGreatDoor
open Go.ChangeMaps (open_string shut_string)
set_option linter.unusedVariables false
set_option linter.unusedSimpArgs false
set_option maxHeartbeats 1600000
set_option maxRecDepth 100000

theorem own : ownKnob Tryz.prog.godebug = none := by kernel_rfl
theorem laidOut : laidOutB Tryz.prog = true := pf_laidOut
theorem deb_of_laid {W : World} (h : laidMetH Tryz.prog Rows.fnPartsComposeRow.laid W) : Deb W := debOfLaid h
theorem laid_met (os : Os) (args : Array Value) : laidMetH Tryz.prog Rows.fnPartsComposeRow.laid ((laidWorld os).forCall (fun _ _ => 0) ⟨#[], args, []⟩).memory :=
  (LaidIn.of_run [0, 1] 8 (by kernel_rfl) (by kernel_rfl) (by kernel_rfl) (by kernel_rfl)).met
set_option maxRecDepth 100000 in
theorem lifted (os : Os) (started : os.Started) (H : Type) (enc : TypeId × Value → H) :
    ReturnsInHanded {} Tryz.checked os 3 .any (fun w args => (Rows.fnPartsComposeSpec.pre enc Tryz.prog Tryz.f3 [] false w args ∧ laidMetH Tryz.prog Rows.fnPartsComposeRow.laid w) ∧ sizedMet enc Tryz.prog Tryz.f3 (OpenSpec.ofChange Rows.fnPartsComposeSpec) false w args)
      (Rows.fnPartsComposeSpec.post enc Tryz.prog Tryz.f3 false true false false) := by
  refine returnsInHanded_of_change_and (C := Tryz.checked) (X := fun w _ => laidMetH Tryz.prog Rows.fnPartsComposeRow.laid w) (fun _ _ _ hh h => h.of_heap hh) own started (by kernel_rfl) Tryz.func3
    (ChangeSpec.witness_at (enc := enc) (C := Tryz.checked) (os := os) (X := fun w _ => laidMetH Tryz.prog Rows.fnPartsComposeRow.laid w) false (laidWorld os) #[.slice none 0 0, .slice none 0 0] 8 rfl (by kernel_rfl) (by kernel_rfl) (by kernel_rfl) (by kernel_rfl) (by kernel_rfl) (laid_met os _)) ?_
  intro W base args ds gs before hval0 hW _ _ hL _
  have hval : ∀ (j : Nat) t v, Tryz.f3.params[j]? = some t → args[j]? = some v → Value.okWide Tryz.prog W .any base t v := hval0
  have hW' := hW
  obtain ⟨p, q, hA0, hV, rfl, hfz, hnd⟩ := hW
  have hA : DataW.TrodAll enc Tryz.prog W 0 (fun _ => true) true Tryz.f3.params.toList args.toList ds p := hA0
  rw [Tryz.params3] at hA hval
  obtain ⟨v0, vs0, d0, ds0, p0, q0, hargs, rfl, rfl, h0, r0⟩ := trodAll_cons hA
  obtain ⟨v1, vs1, d1, ds1, p1, q1, rfl, rfl, rfl, h1, r1⟩ := trodAll_cons r0
  obtain ⟨rfl, rfl, rfl⟩ := trodAll_nil r1
  obtain rfl : args = #[v0, v1] := by cases args; simp_all
  obtain ⟨rfl, rfl⟩ := trodVars_none hV
  have k0 := h0
  have lt0 : ∀ x ∈ p0, x.block < W.heap.size := by obtain ⟨m, hm⟩ := k0; exact DataW.trod_lt m _ _ _ hm
  obtain ⟨a0, len0, cap0, rfl⟩ := okWide_slice Tryz.underlying22 (hval 0 _ v0 rfl rfl)
  obtain ⟨t0, w0⟩ : ∃ t, BytesV W (.slice a0 len0 cap0) t := by
    obtain ⟨fuel, hf⟩ := h0
    obtain ⟨v, t, hv, ht⟩ := read_bytes hf
    simp [Value.cells] at hv
    subst hv
    exact ⟨t, ht⟩
  have k1 := h1
  have lt1 : ∀ x ∈ p1, x.block < W.heap.size := by obtain ⟨m, hm⟩ := k1; exact DataW.trod_lt m _ _ _ hm
  obtain ⟨a1, len1, cap1, rfl⟩ := okWide_slice Tryz.underlying22 (hval 1 _ v1 rfl rfl)
  obtain ⟨t1, w1⟩ : ∃ t, BytesV W (.slice a1 len1 cap1) t := by
    obtain ⟨fuel, hf⟩ := h1
    obtain ⟨v, t, hv, ht⟩ := read_bytes hf
    simp [Value.cells] at hv
    subst hv
    exact ⟨t, ht⟩
  clear hA0 hval0
  refine (walk (.slice a0 len0 cap0) t0 (.slice a1 len1 cap1) t1 W w0 w1 (deb_of_laid hL)).mono fun e W' ⟨he, bel⟩ => ?_
  subst he
  exact ⟨_, rfl, _, _, _, [], _, [], hW', trodAll_mk1 (shut_bool Tryz.underlying4 _), (trodAll_cons_mk (Below.trod laidOut (by kernel_rfl) (of_decide_eq_true (by kernel_rfl)) k0 bel lt0) (trodAll_cons_mk (Below.trod laidOut (by kernel_rfl) (of_decide_eq_true (by kernel_rfl)) k1 bel lt1) trodAll_mk0)), rfl, bel.frame _, fun h => by cases h⟩

set_option maxRecDepth 100000
theorem fn_named : Tryz.prog.funcNamed "loop.example/assumeguarantee/laws.FnPartsCompose" = some 3 := by kernel_rfl
theorem c_inPlace : Tryz.prog.inPlace 3 = Rows.fnPartsComposeRow.inPlace := by kernel_rfl
theorem c_unf : Tryz.prog.unfollowed 3 = Rows.fnPartsComposeRow.unfollowed := by kernel_rfl
theorem c_rec : Tryz.prog.recurses 3 = Rows.fnPartsComposeRow.recurses := by kernel_rfl
theorem c_named : Tryz.prog.varsNamed 3 = Rows.fnPartsComposeRow.named := by kernel_rfl
theorem c_goes : false = Rows.fnPartsComposeRow.goesBy Tryz.pinned.checked.prog := by kernel_rfl
theorem closed : joinedFacts Tryz.prog 3 Tryz.f3 Rows.fnPartsComposeSpec Rows.fnPartsComposeRow = true := by
  unfold joinedFacts
  rw [pf_laidOut, pf_mapsRowed, c_inPlace, c_unf, c_rec, c_named, pf_stopsHeard, pf_mayEnter, pf_lifts, pf_make]
  kernel_rfl
theorem over : Rows.fnPartsComposeRow.holds Tryz.pinned (OpenSpec.ofChange Rows.fnPartsComposeSpec) :=
  OpenClaim.holds_of_wide 3 Tryz.f3 rfl rfl rfl rfl rfl rfl rfl ⟨rfl, rfl, rfl, rfl, rfl⟩ rfl rfl rfl rfl rfl fn_named Tryz.func3 closed
    (of_decide_eq_true (by kernel_rfl)) (by unfold Func.isWrapper; first | (rw [if_pos (by decide +kernel)]; kernel_rfl) | (rw [if_neg (by decide +kernel)]; exact ⟨rfl, rfl⟩))
    (fun os started H enc _ => lifted os started H enc)

theorem card_holds : Rows.FnPartsComposeCardSaid :=
  Claim7.holds_tied_plain_at .later [] [.data, .data] true (true, "4eebb0b7a719ba0187281dad2b633843f1f3ebff0e700f2ff86888e380be12cb") false
    over (fun _ h => by cases h) (by kernel_rfl) (fun _ h => by cases h) fnPartsCompose_row_tie rfl ⟨rfl, rfl⟩ pf_mainIs rfl
    (fun f fn hf hfn => by
      obtain rfl : f = 3 := Option.some.inj (fn_named.symm.trans hf) |>.symm
      obtain rfl : fn = Tryz.f3 := (Option.some.inj (Tryz.func3.symm.trans hfn)).symm
      refine ⟨pf_looks, fun j t ht => ?_⟩
      rw [Tryz.params3] at ht
      match j, ht with
      | 0, ht =>
        have h0 : t = 22 := by simpa using ht.symm
        subst h0
        exact (show Tryz.prog.wantsStandIn 22 = false by kernel_rfl)
      | 1, ht =>
        have h1 : t = 22 := by simpa using ht.symm
        subst h1
        exact (show Tryz.prog.wantsStandIn 22 = false by kernel_rfl)
      | j + 2, ht => simp at ht)
    c_goes
#print axioms card_holds
end Go.Proofs.YtanekmfifmkbmaaGreatDoor.lawFnPartsCompose
