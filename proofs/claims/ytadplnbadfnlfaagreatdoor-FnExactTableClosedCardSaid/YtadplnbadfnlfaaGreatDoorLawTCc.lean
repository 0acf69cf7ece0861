/- FnExactTableClosed: for every teacher and table the program's TableClosed returns what the reference's returns, and leaves its arguments as they were. The card. -/
import Derived.Test.YtadplnbadfnlfaaGreatDoorLawTC
import Derived.Test.YtadplnbadfnlfaaGreatDoorCardD
import Derived.Test.YtadplnbadfnlfaaGreatDoorTabL
namespace Go.Proofs.YtadplnbadfnlfaaGreatDoor.lawFnExactTableClosed
open Go.ChangeShapes Go.WideShapes Go.ChangeAt Go.RowKit
open Go.Proofs.YtadplnbadfnlfaaGreatDoor
open Go.ChangeMaps (open_string shut_string)
set_option linter.unusedVariables false
set_option linter.unusedSimpArgs false
set_option maxHeartbeats 1600000
set_option maxRecDepth 100000

theorem own : ownKnob Tryz.prog.godebug = none := by kernel_rfl
theorem laidOut : laidOutB Tryz.prog = true := pf_laidOut
theorem deb_of_laid {W : World} (h : laidMetH Tryz.prog Rows.fnExactTableClosedRow.laid W) : Deb W := debOfLaid h
theorem laid_met (os : Os) (args : Array Value) : laidMetH Tryz.prog Rows.fnExactTableClosedRow.laid ((laidWorld os).forCall (fun _ _ => 0) ⟨#[], args, []⟩).memory :=
  (LaidIn.of_run [0, 1] 8 (by kernel_rfl) (by kernel_rfl) (by kernel_rfl) (by kernel_rfl)).met
set_option maxRecDepth 100000 in
theorem lifted (os : Os) (started : os.Started) (H : Type) (enc : TypeId × Value → H) :
    ReturnsInHanded {} Tryz.checked os 6 .any (fun w args => (Rows.fnExactTableClosedSpec.pre enc Tryz.prog Tryz.f6 [] false w args ∧ laidMetH Tryz.prog Rows.fnExactTableClosedRow.laid w) ∧ sizedMet enc Tryz.prog Tryz.f6 (OpenSpec.ofChange Rows.fnExactTableClosedSpec) false w args)
      (Rows.fnExactTableClosedSpec.post enc Tryz.prog Tryz.f6 false true false false) := by
  refine returnsInHanded_of_change_and (C := Tryz.checked) (X := fun w _ => laidMetH Tryz.prog Rows.fnExactTableClosedRow.laid w) (fun _ _ _ hh h => h.of_heap hh) own started (by kernel_rfl) Tryz.func6
    (ChangeSpec.witness_at (enc := enc) (C := Tryz.checked) (os := os) (X := fun w _ => laidMetH Tryz.prog Rows.fnExactTableClosedRow.laid w) false (laidWorld os) #[.agg #[.bool false, .int .i64 0, .slice none 0 0, .slice none 0 0, .int .i64 0, .int .i64 0, .slice none 0 0, .int .i64 0, .slice none 0 0, .slice none 0 0, .int .i64 0], .agg #[.slice none 0 0, .slice none 0 0]] 8 rfl (by kernel_rfl) (by kernel_rfl) (by kernel_rfl) (by kernel_rfl) (by kernel_rfl) (laid_met os _)) ?_
  intro W base args ds gs before hval0 hW _ _ hL _
  have hval : ∀ (j : Nat) t v, Tryz.f6.params[j]? = some t → args[j]? = some v → Value.okWide Tryz.prog W .any base t v := hval0
  have hW' := hW
  obtain ⟨p, q, hA0, hV, rfl, hfz, hnd⟩ := hW
  have hA : DataW.TrodAll enc Tryz.prog W 0 (fun _ => true) true Tryz.f6.params.toList args.toList ds p := hA0
  rw [Tryz.params6] at hA hval
  obtain ⟨v0, vs0, d0, ds0, p0, q0, hargs, rfl, rfl, h0, r0⟩ := trodAll_cons hA
  obtain ⟨v1, vs1, d1, ds1, p1, q1, rfl, rfl, rfl, h1, r1⟩ := trodAll_cons r0
  obtain ⟨rfl, rfl, rfl⟩ := trodAll_nil r1
  obtain rfl : args = #[v0, v1] := by cases args; simp_all
  obtain ⟨rfl, rfl⟩ := trodVars_none hV
  have k0 := h0
  have lt0 : ∀ x ∈ p0, x.block < W.heap.size := by obtain ⟨m, hm⟩ := k0; exact DataW.trod_lt m _ _ _ hm
  obtain ⟨cs0, rfl, hcs0⟩ := okWide_struct Tryz.underlying49 (hval 0 _ v0 rfl rfl)
  obtain ⟨t0, w0⟩ : ∃ t, TeacherV W (.agg cs0) t := by
    obtain ⟨fuel, hf⟩ := h0
    obtain ⟨t, ht⟩ := read_teacher hf
    exact ⟨t, by simpa [Value.cells] using ht⟩
  have k1 := h1
  have lt1 : ∀ x ∈ p1, x.block < W.heap.size := by obtain ⟨m, hm⟩ := k1; exact DataW.trod_lt m _ _ _ hm
  obtain ⟨cs1, rfl, hcs1⟩ := okWide_struct Tryz.underlying52 (hval 1 _ v1 rfl rfl)
  obtain ⟨t1, w1⟩ : ∃ t, TableL W (.agg cs1) t := by
    obtain ⟨fuel, hf⟩ := h1
    obtain ⟨t, ht⟩ := read_table hf
    exact ⟨t, by simpa [Value.cells] using ht⟩
  clear hA0 hval0
  refine (walk (.agg cs0) t0 (.agg cs1) t1 W w0 w1 (deb_of_laid hL)).mono fun e W' ⟨he, bel⟩ => ?_
  subst he
  exact ⟨_, rfl, _, _, _, [], _, [], hW', trodAll_mk1 (shut_bool Tryz.underlying4 _), (trodAll_cons_mk (Below.trod laidOut (by kernel_rfl) (of_decide_eq_true (by kernel_rfl)) k0 bel lt0) (trodAll_cons_mk (Below.trod laidOut (by kernel_rfl) (of_decide_eq_true (by kernel_rfl)) k1 bel lt1) trodAll_mk0)), rfl, bel.frame _, fun h => by cases h⟩

set_option maxRecDepth 100000
theorem fn_named : Tryz.prog.funcNamed "loop.example/assumeguarantee/laws.FnExactTableClosed" = some 6 := by kernel_rfl
theorem c_inPlace : Tryz.prog.inPlace 6 = Rows.fnExactTableClosedRow.inPlace := by kernel_rfl
theorem c_unf : Tryz.prog.unfollowed 6 = Rows.fnExactTableClosedRow.unfollowed := by kernel_rfl
theorem c_rec : Tryz.prog.recurses 6 = Rows.fnExactTableClosedRow.recurses := by kernel_rfl
theorem c_named : Tryz.prog.varsNamed 6 = Rows.fnExactTableClosedRow.named := by kernel_rfl
theorem c_goes : false = Rows.fnExactTableClosedRow.goesBy Tryz.pinned.checked.prog := by kernel_rfl
theorem closed : joinedFacts Tryz.prog 6 Tryz.f6 Rows.fnExactTableClosedSpec Rows.fnExactTableClosedRow = true := by
  unfold joinedFacts
  rw [pf_laidOut, pf_mapsRowed, c_inPlace, c_unf, c_rec, c_named, pf_stopsHeard, pf_mayEnter, pf_lifts, pf_make]
  kernel_rfl
theorem over : Rows.fnExactTableClosedRow.holds Tryz.pinned (OpenSpec.ofChange Rows.fnExactTableClosedSpec) :=
  OpenClaim.holds_of_wide 6 Tryz.f6 rfl rfl rfl rfl rfl rfl rfl ⟨rfl, rfl, rfl, rfl, rfl⟩ rfl rfl rfl rfl rfl fn_named Tryz.func6 closed
    (of_decide_eq_true (by kernel_rfl)) (by unfold Func.isWrapper; first | (rw [if_pos (by decide +kernel)]; kernel_rfl) | (rw [if_neg (by decide +kernel)]; exact ⟨rfl, rfl⟩))
    (fun os started H enc _ => lifted os started H enc)

theorem card_holds : Rows.FnExactTableClosedCardSaid :=
  Claim7.holds_tied_plain_at .later [] [.data, .data] true (true, "2e10b2ad8c6623009b954be16a52cc4f03c0a0714d652f8c54bee51900942d4e") false
    over (fun _ h => by cases h) (by kernel_rfl) (fun _ h => by cases h) fnExactTableClosed_row_tie rfl ⟨rfl, rfl⟩ pf_mainIs rfl
    (fun f fn hf hfn => by
      obtain rfl : f = 6 := Option.some.inj (fn_named.symm.trans hf) |>.symm
      obtain rfl : fn = Tryz.f6 := (Option.some.inj (Tryz.func6.symm.trans hfn)).symm
      refine ⟨pf_looks, fun j t ht => ?_⟩
      rw [Tryz.params6] at ht
      match j, ht with
      | 0, ht =>
        have h0 : t = 49 := by simpa using ht.symm
        subst h0
        exact (show Tryz.prog.wantsStandIn 49 = false by kernel_rfl)
      | 1, ht =>
        have h1 : t = 52 := by simpa using ht.symm
        subst h1
        exact (show Tryz.prog.wantsStandIn 52 = false by kernel_rfl)
      | j + 2, ht => simp at ht)
    c_goes
#print axioms card_holds
end Go.Proofs.YtadplnbadfnlfaaGreatDoor.lawFnExactTableClosed
