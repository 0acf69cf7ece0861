/- FnExactNewTable: for every teacher the program's NewTable returns what the reference's returns, in memory of its own, and leaves its argument as it was. The card. -/
import Derived.Test.YtanekmfifmkbmaaGreatDoorLawNT
import Derived.Test.YtanekmfifmkbmaaGreatDoorCardE
import Derived.Test.YtanekmfifmkbmaaGreatDoorTabL
namespace Go.Proofs.YtanekmfifmkbmaaGreatDoor.lawFnExactNewTable
open Go.ChangeShapes Go.WideShapes Go.ChangeAt Go.RowKit
open Go.Proofs.YtanekmfifmkbmaaGreatDoor
open Go.ChangeMaps (open_string shut_string)
set_option linter.unusedVariables false
set_option linter.unusedSimpArgs false
set_option maxHeartbeats 1600000
set_option maxRecDepth 100000

theorem own : ownKnob Tryz.prog.godebug = none := by kernel_rfl
theorem laidOut : laidOutB Tryz.prog = true := pf_laidOut
theorem deb_of_laid {W : World} (h : laidMetH Tryz.prog Rows.fnExactNewTableRow.laid W) : Deb W := debOfLaid h
theorem laid_met (os : Os) (args : Array Value) : laidMetH Tryz.prog Rows.fnExactNewTableRow.laid ((laidWorld os).forCall (fun _ _ => 0) ⟨#[], args, []⟩).memory :=
  (LaidIn.of_run [0, 1] 8 (by kernel_rfl) (by kernel_rfl) (by kernel_rfl) (by kernel_rfl)).met
set_option maxRecDepth 100000 in
theorem lifted (os : Os) (started : os.Started) (H : Type) (enc : TypeId × Value → H) :
    ReturnsInHanded {} Tryz.checked os 4 .any (fun w args => (Rows.fnExactNewTableSpec.pre enc Tryz.prog Tryz.f4 [] false w args ∧ laidMetH Tryz.prog Rows.fnExactNewTableRow.laid w) ∧ sizedMet enc Tryz.prog Tryz.f4 (OpenSpec.ofChange Rows.fnExactNewTableSpec) false w args)
      (Rows.fnExactNewTableSpec.post enc Tryz.prog Tryz.f4 false true false false) := by
  refine returnsInHanded_of_change_and (C := Tryz.checked) (X := fun w _ => laidMetH Tryz.prog Rows.fnExactNewTableRow.laid w) (fun _ _ _ hh h => h.of_heap hh) own started (by kernel_rfl) Tryz.func4
    (ChangeSpec.witness_at (enc := enc) (C := Tryz.checked) (os := os) (X := fun w _ => laidMetH Tryz.prog Rows.fnExactNewTableRow.laid w) false (laidWorld os) #[.agg #[.bool false, .int .i64 0, .slice none 0 0, .slice none 0 0, .int .i64 0, .int .i64 0, .slice none 0 0, .int .i64 0, .slice none 0 0, .slice none 0 0, .int .i64 0]] 8 rfl (by kernel_rfl) (by kernel_rfl) (by kernel_rfl) (by kernel_rfl) (by kernel_rfl) (laid_met os _)) ?_
  intro W base args ds gs before hval0 hW _ _ hL _
  have hval : ∀ (j : Nat) t v, Tryz.f4.params[j]? = some t → args[j]? = some v → Value.okWide Tryz.prog W .any base t v := hval0
  have hW' := hW
  obtain ⟨p, q, hA0, hV, rfl, hfz, hnd⟩ := hW
  have hA : DataW.TrodAll enc Tryz.prog W 0 (fun _ => true) true Tryz.f4.params.toList args.toList ds p := hA0
  rw [Tryz.params4] at hA hval
  obtain ⟨v0, vs0, d0, ds0, p0, q0, hargs, rfl, rfl, h0, r0⟩ := trodAll_cons hA
  obtain ⟨rfl, rfl, rfl⟩ := trodAll_nil r0
  obtain rfl : args = #[v0] := by cases args; simp_all
  obtain ⟨rfl, rfl⟩ := trodVars_none hV
  have k0 := h0
  have lt0 : ∀ x ∈ p0, x.block < W.heap.size := by obtain ⟨m, hm⟩ := k0; exact DataW.trod_lt m _ _ _ hm
  obtain ⟨cs0, rfl, hcs0⟩ := okWide_struct Tryz.underlying49 (hval 0 _ v0 rfl rfl)
  obtain ⟨t0, w0⟩ : ∃ t, TeacherV W (.agg cs0) t := by
    obtain ⟨fuel, hf⟩ := h0
    obtain ⟨t, ht⟩ := read_teacher hf
    exact ⟨t, by simpa [Value.cells] using ht⟩
  clear hA0 hval0
  refine (walk (.agg cs0) t0 W w0 (deb_of_laid hL)).mono fun e W' ⟨he, bel⟩ => ?_
  subst he
  exact ⟨_, rfl, _, _, _, [], _, [], hW', trodAll_mk1 (shut_bool Tryz.underlying4 _), (trodAll_cons_mk (Below.trod laidOut (by kernel_rfl) (of_decide_eq_true (by kernel_rfl)) k0 bel lt0) trodAll_mk0), rfl, bel.frame _, fun h => by cases h⟩

set_option maxRecDepth 100000
theorem fn_named : Tryz.prog.funcNamed "loop.example/assumeguarantee/laws.FnExactNewTable" = some 4 := by kernel_rfl
theorem c_inPlace : Tryz.prog.inPlace 4 = Rows.fnExactNewTableRow.inPlace := by kernel_rfl
theorem c_unf : Tryz.prog.unfollowed 4 = Rows.fnExactNewTableRow.unfollowed := by kernel_rfl
theorem c_rec : Tryz.prog.recurses 4 = Rows.fnExactNewTableRow.recurses := by kernel_rfl
theorem c_named : Tryz.prog.varsNamed 4 = Rows.fnExactNewTableRow.named := by kernel_rfl
theorem c_goes : false = Rows.fnExactNewTableRow.goesBy Tryz.pinned.checked.prog := by kernel_rfl
theorem closed : joinedFacts Tryz.prog 4 Tryz.f4 Rows.fnExactNewTableSpec Rows.fnExactNewTableRow = true := by
  unfold joinedFacts
  rw [pf_laidOut, pf_mapsRowed, c_inPlace, c_unf, c_rec, c_named, pf_stopsHeard, pf_mayEnter, pf_lifts, pf_make]
  kernel_rfl
theorem over : Rows.fnExactNewTableRow.holds Tryz.pinned (OpenSpec.ofChange Rows.fnExactNewTableSpec) :=
  OpenClaim.holds_of_wide 4 Tryz.f4 rfl rfl rfl rfl rfl rfl rfl ⟨rfl, rfl, rfl, rfl, rfl⟩ rfl rfl rfl rfl rfl fn_named Tryz.func4 closed
    (of_decide_eq_true (by kernel_rfl)) (by unfold Func.isWrapper; first | (rw [if_pos (by decide +kernel)]; kernel_rfl) | (rw [if_neg (by decide +kernel)]; exact ⟨rfl, rfl⟩))
    (fun os started H enc _ => lifted os started H enc)

theorem card_holds : Rows.FnExactNewTableCardSaid :=
  Claim7.holds_tied_plain_at .later [] [.data, .data] true (true, "4eebb0b7a719ba0187281dad2b633843f1f3ebff0e700f2ff86888e380be12cb") false
    over (fun _ h => by cases h) (by kernel_rfl) (fun _ h => by cases h) fnExactNewTable_row_tie rfl ⟨rfl, rfl⟩ pf_mainIs rfl
    (fun f fn hf hfn => by
      obtain rfl : f = 4 := Option.some.inj (fn_named.symm.trans hf) |>.symm
      obtain rfl : fn = Tryz.f4 := (Option.some.inj (Tryz.func4.symm.trans hfn)).symm
      refine ⟨pf_looks, fun j t ht => ?_⟩
      rw [Tryz.params4] at ht
      match j, ht with
      | 0, ht =>
        have h0 : t = 49 := by simpa using ht.symm
        subst h0
        exact (show Tryz.prog.wantsStandIn 49 = false by kernel_rfl)
      | j + 1, ht => simp at ht)
    c_goes
#print axioms card_holds
end Go.Proofs.YtanekmfifmkbmaaGreatDoor.lawFnExactNewTable
