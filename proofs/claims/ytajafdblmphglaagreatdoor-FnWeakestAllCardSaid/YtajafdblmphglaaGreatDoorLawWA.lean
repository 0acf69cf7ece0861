/- Part of this seat's proofs, cut to what its law needs. -/

import Derived.Test.YtajafdblmphglaaGreatDoorDrawV
import Derived.Test.YtajafdblmphglaaGreatDoorAgD
import Derived.Test.YtajafdblmphglaaGreatDoorWalkWs
import Derived.Test.YtajafdblmphglaaGreatDoorPlainQa
import Derived.Test.YtajafdblmphglaaGreatDoorLit
import Derived.Test.YtajafdblmphglaaGreatDoorDrawL
namespace Go.Proofs.YtajafdblmphglaaGreatDoor.lawFnWeakestAll
open Go.ChangeShapes Go.WideShapes Go.ChangeAt Go.RowKit
open Go.Proofs.YtajafdblmphglaaGreatDoor
open Go.ChangeMaps (open_string shut_string)
set_option linter.unusedVariables false
set_option linter.unusedSimpArgs false
set_option maxHeartbeats 1600000
set_option maxRecDepth 100000

theorem Parse_none (w : World) : Calls Tryz.prog 34 #[.string ⟨#[45, 32, 45]⟩] w (fun e w' => ∃ v', e = .returned (.tuple #[v', .bool true]) ∧ Ext w w' ∧ AutoOwn w.heap.size w' v' ⟨0, [[]], [false]⟩) := ParseAutomaton_lit false w
theorem Parse_all (w : World) : Calls Tryz.prog 34 #[.string ⟨#[45, 32, 43]⟩] w (fun e w' => ∃ v', e = .returned (.tuple #[v', .bool true]) ∧ Ext w w' ∧ AutoOwn w.heap.size w' v' ⟨0, [[]], [true]⟩) := ParseAutomaton_lit true w

theorem walk (v0 : Value) (t0 : List UInt8) (w : World) (hv0 : BytesV w v0 t0) (hD : Deb w) : Calls Tryz.prog 8 #[v0] w (Grows (.bool true) w) := by
  obtain ⟨aB, cB, rfl, hleB, -⟩ := hv0.open
  have HDb := Lib.hid hD
  clear hD
  by_cases hz0 : 1048576 < t0.length
  · go_enter Tryz.func8, Tryz.ntmps8
    go_wp2_with fail
    go_ret
    exact Grows.mk rfl (Ext.refl _)
  go_enter Tryz.func8, Tryz.ntmps8
  go_wp2_with fail
  refine (DrawWeakestAssumption_t _ t0 _ hv0 (by omega)).mono ?_
  rintro e w1 ⟨vt, T, rfl, he1, hTV, hed⟩
  obtain ⟨vE1, vN1, vA1, rfl, hE1, hN1, hA1⟩ := hTV
  obtain ⟨aE1, cE1, rfl, -, -⟩ := hE1.open
  obtain ⟨aN1, cN1, rfl, -, -⟩ := hN1.open
  obtain ⟨aA1, cA1, rfl, -, -⟩ := hA1.open
  have HT := Lib.hid (show ∀ w', Ext w1 w' → TaskV w' (.agg #[.int .i64 T.sys.alphabet, .int .i64 T.sys.states, .slice aE1 T.sys.edges.length cE1, .int .i64 T.prop.alphabet, .slice aN1 T.prop.next.length cN1, .slice aA1 T.prop.accept.length cA1, .int .i64 T.alphabet]) T from fun w' h => ⟨_, _, _, rfl, hE1.mono h, hN1.mono h, hA1.mono h⟩)
  have HSY := Lib.hid (show ∀ w', Ext w1 w' → SysV w' (.agg #[.int .i64 T.sys.alphabet, .int .i64 T.sys.states, .slice aE1 T.sys.edges.length cE1]) T.sys from fun w' h => ⟨_, rfl, hE1.mono h⟩)
  have HAU := Lib.hid (show ∀ w', Ext w1 w' → AutoV w' (.agg #[.int .i64 T.prop.alphabet, .slice aN1 T.prop.next.length cN1, .slice aA1 T.prop.accept.length cA1]) T.prop from fun w' h => ⟨_, _, rfl, hN1.mono h, hA1.mono h⟩)
  have HD := Lib.hid (show ∀ w', Ext w1 w' → Deb w' from fun w' h => HDb.out.ext (he1.trans h))
  obtain ⟨R, hR⟩ : ∃ R, (weakOf T).getD zeroA = R := ⟨_, rfl⟩
  obtain ⟨bb, hbb⟩ : ∃ bb, (weakOf T).isSome = bb := ⟨_, rfl⟩
  have CS := Lib.hid (show ∀ w', Ext w1 w' → Calls Tryz.prog 26 #[.agg #[.int .i64 T.sys.alphabet, .int .i64 T.sys.states, .slice aE1 T.sys.edges.length cE1, .int .i64 T.prop.alphabet, .slice aN1 T.prop.next.length cN1, .slice aA1 T.prop.accept.length cA1, .int .i64 T.alphabet]] w' (fun e w'' => ∃ u, e = .returned (.tuple #[u, .bool bb]) ∧ Ext w' w'' ∧ AutoOwn w'.heap.size w'' u R) from fun w' h => (by have := WeakestAssumption_sd _ T w' (HT.out _ h) (by omega); unfold WeakDet at this; rwa [hR, hbb] at this))
  have CP := Lib.hid (show ∀ w', Ext w1 w' → Calls Tryz.prog 22 #[.agg #[.int .i64 T.sys.alphabet, .int .i64 T.sys.states, .slice aE1 T.sys.edges.length cE1, .int .i64 T.prop.alphabet, .slice aN1 T.prop.next.length cN1, .slice aA1 T.prop.accept.length cA1, .int .i64 T.alphabet]] w' (fun e w'' => ∃ u, e = .returned (.tuple #[u, .bool bb]) ∧ Ext w' w'' ∧ AutoOwn w'.heap.size w'' u R) from fun w' h => (by have := WeakestAssumption_cd _ T w' (HT.out _ h) (HD.out _ h); unfold WeakDet at this; rwa [hR, hbb] at this))
  have HRR := Lib.hid hR
  have HBB := Lib.hid hbb
  clear hE1 hN1 hA1 hR hbb hed
  have hx : Ext w1 (w1.alloc (.cells #[.int .i64 T.sys.alphabet, .int .i64 T.sys.states, .slice aE1 T.sys.edges.length cE1, .int .i64 T.prop.alphabet, .slice aN1 T.prop.next.length cN1, .slice aA1 T.prop.accept.length cA1, .int .i64 T.alphabet] 44)) := Ext.alloc _ _
  have bT : Blk (w1.alloc (.cells #[.int .i64 T.sys.alphabet, .int .i64 T.sys.states, .slice aE1 T.sys.edges.length cE1, .int .i64 T.prop.alphabet, .slice aN1 T.prop.next.length cN1, .slice aA1 T.prop.accept.length cA1, .int .i64 T.alphabet] 44)) w1.heap.size #[.int .i64 T.sys.alphabet, .int .i64 T.sys.states, .slice aE1 T.sys.edges.length cE1, .int .i64 T.prop.alphabet, .slice aN1 T.prop.next.length cN1, .slice aA1 T.prop.accept.length cA1, .int .i64 T.alphabet] 44 := Ext.blk (Ext.refl _)
  go_wp2_with fail
  generalize (w1.alloc (.cells #[.int .i64 T.sys.alphabet, .int .i64 T.sys.states, .slice aE1 T.sys.edges.length cE1, .int .i64 T.prop.alphabet, .slice aN1 T.prop.next.length cN1, .slice aA1 T.prop.accept.length cA1, .int .i64 T.alphabet] 44)) = w2 at hx bT ⊢
  have bT_0 := bT.cell 0 rfl; have bT_1 := bT.cell 1 rfl; have bT_2 := bT.cell 2 rfl; have bT_3 := bT.cell 3 rfl; have bT_4 := bT.cell 4 rfl; have bT_5 := bT.cell 5 rfl; have bT_6 := bT.cell 6 rfl
  go_wp2_with fail
  refine (CP.out _ hx).mono ?_
  rintro e w3 ⟨u4, rfl, he4, hO4⟩
  clear bT_0 bT_1 bT_2 bT_3 bT_4 bT_5 bT_6
  obtain ⟨vN4, vA4, rfl, hO4'⟩ := hO4
  obtain ⟨aN4, cN4, rfl⟩ := hO4'.1.shape
  obtain ⟨aA4, cA4, rfl⟩ := hO4'.2.shape
  have hN4 := hO4'.1.intss
  have hA4 := hO4'.2.bools
  have HW4 := Lib.hid (show ∀ w', Ext w3 w' → AutoV w' (.agg #[.int .i64 R.alphabet, .slice aN4 R.next.length cN4, .slice aA4 R.accept.length cA4]) R from fun w' h => ⟨_, _, rfl, hN4.mono h, hA4.mono h⟩)
  clear hO4' hN4 hA4
  have dbT_0 := fun o => ((bT.ext he4).ext (Ext.alloc w3 o)).cell 0 rfl; have dbT_1 := fun o => ((bT.ext he4).ext (Ext.alloc w3 o)).cell 1 rfl; have dbT_2 := fun o => ((bT.ext he4).ext (Ext.alloc w3 o)).cell 2 rfl; have dbT_3 := fun o => ((bT.ext he4).ext (Ext.alloc w3 o)).cell 3 rfl; have dbT_4 := fun o => ((bT.ext he4).ext (Ext.alloc w3 o)).cell 4 rfl; have dbT_5 := fun o => ((bT.ext he4).ext (Ext.alloc w3 o)).cell 5 rfl; have dbT_6 := fun o => ((bT.ext he4).ext (Ext.alloc w3 o)).cell 6 rfl
  replace bT := (bT.ext he4).ext (Ext.alloc w3 (.cells #[.int .i64 R.alphabet, .slice aN4 R.next.length cN4, .slice aA4 R.accept.length cA4] 29))
  replace hx := (hx.trans he4).trans (Ext.alloc w3 (.cells #[.int .i64 R.alphabet, .slice aN4 R.next.length cN4, .slice aA4 R.accept.length cA4] 29))
  have hy : Ext w3 (w3.alloc (.cells #[.int .i64 R.alphabet, .slice aN4 R.next.length cN4, .slice aA4 R.accept.length cA4] 29)) := Ext.alloc _ _
  clear he4
  have b4 : Blk (w3.alloc (.cells #[.int .i64 R.alphabet, .slice aN4 R.next.length cN4, .slice aA4 R.accept.length cA4] 29)) w3.heap.size #[.int .i64 R.alphabet, .slice aN4 R.next.length cN4, .slice aA4 R.accept.length cA4] 29 := Ext.blk (Ext.refl _)
  go_wp2_with fail
  clear dbT_0 dbT_1 dbT_2 dbT_3 dbT_4 dbT_5 dbT_6
  generalize (w3.alloc (.cells #[.int .i64 R.alphabet, .slice aN4 R.next.length cN4, .slice aA4 R.accept.length cA4] 29)) = w4 at hx hy  bT b4 ⊢
  have bT_0 := bT.cell 0 rfl; have bT_1 := bT.cell 1 rfl; have bT_2 := bT.cell 2 rfl; have bT_3 := bT.cell 3 rfl; have bT_4 := bT.cell 4 rfl; have bT_5 := bT.cell 5 rfl; have bT_6 := bT.cell 6 rfl; have b4_0 := b4.cell 0 rfl; have b4_1 := b4.cell 1 rfl; have b4_2 := b4.cell 2 rfl
  refine (CS.out _ hx).mono ?_
  rintro e w5 ⟨u6, rfl, he6, hO6⟩
  clear bT_0 bT_1 bT_2 bT_3 bT_4 bT_5 bT_6 b4_0 b4_1 b4_2
  obtain ⟨vN6, vA6, rfl, hO6'⟩ := hO6
  obtain ⟨aN6, cN6, rfl⟩ := hO6'.1.shape
  obtain ⟨aA6, cA6, rfl⟩ := hO6'.2.shape
  have hN6 := hO6'.1.intss
  have hA6 := hO6'.2.bools
  have HW6 := Lib.hid (show ∀ w', Ext w5 w' → AutoV w' (.agg #[.int .i64 R.alphabet, .slice aN6 R.next.length cN6, .slice aA6 R.accept.length cA6]) R from fun w' h => ⟨_, _, rfl, hN6.mono h, hA6.mono h⟩)
  clear hO6' hN6 hA6
  have dbT_0 := fun o => ((bT.ext he6).ext (Ext.alloc w5 o)).cell 0 rfl; have dbT_1 := fun o => ((bT.ext he6).ext (Ext.alloc w5 o)).cell 1 rfl; have dbT_2 := fun o => ((bT.ext he6).ext (Ext.alloc w5 o)).cell 2 rfl; have dbT_3 := fun o => ((bT.ext he6).ext (Ext.alloc w5 o)).cell 3 rfl; have dbT_4 := fun o => ((bT.ext he6).ext (Ext.alloc w5 o)).cell 4 rfl; have dbT_5 := fun o => ((bT.ext he6).ext (Ext.alloc w5 o)).cell 5 rfl; have dbT_6 := fun o => ((bT.ext he6).ext (Ext.alloc w5 o)).cell 6 rfl
  replace bT := (bT.ext he6).ext (Ext.alloc w5 (.cells #[.int .i64 R.alphabet, .slice aN6 R.next.length cN6, .slice aA6 R.accept.length cA6] 29))
  have db4_0 := fun o => ((b4.ext he6).ext (Ext.alloc w5 o)).cell 0 rfl; have db4_1 := fun o => ((b4.ext he6).ext (Ext.alloc w5 o)).cell 1 rfl; have db4_2 := fun o => ((b4.ext he6).ext (Ext.alloc w5 o)).cell 2 rfl
  replace b4 := (b4.ext he6).ext (Ext.alloc w5 (.cells #[.int .i64 R.alphabet, .slice aN6 R.next.length cN6, .slice aA6 R.accept.length cA6] 29))
  replace hx := (hx.trans he6).trans (Ext.alloc w5 (.cells #[.int .i64 R.alphabet, .slice aN6 R.next.length cN6, .slice aA6 R.accept.length cA6] 29))
  replace hy := (hy.trans he6).trans (Ext.alloc w5 (.cells #[.int .i64 R.alphabet, .slice aN6 R.next.length cN6, .slice aA6 R.accept.length cA6] 29))
  have hz : Ext w5 (w5.alloc (.cells #[.int .i64 R.alphabet, .slice aN6 R.next.length cN6, .slice aA6 R.accept.length cA6] 29)) := Ext.alloc _ _
  clear he6
  have b6 : Blk (w5.alloc (.cells #[.int .i64 R.alphabet, .slice aN6 R.next.length cN6, .slice aA6 R.accept.length cA6] 29)) w5.heap.size #[.int .i64 R.alphabet, .slice aN6 R.next.length cN6, .slice aA6 R.accept.length cA6] 29 := Ext.blk (Ext.refl _)
  go_wp2_with fail
  clear dbT_0 dbT_1 dbT_2 dbT_3 dbT_4 dbT_5 dbT_6 db4_0 db4_1 db4_2
  generalize (w5.alloc (.cells #[.int .i64 R.alphabet, .slice aN6 R.next.length cN6, .slice aA6 R.accept.length cA6] 29)) = w6 at hx hy hz bT b4 b6 ⊢
  have bT_0 := bT.cell 0 rfl; have bT_1 := bT.cell 1 rfl; have bT_2 := bT.cell 2 rfl; have bT_3 := bT.cell 3 rfl; have bT_4 := bT.cell 4 rfl; have bT_5 := bT.cell 5 rfl; have bT_6 := bT.cell 6 rfl; have b4_0 := b4.cell 0 rfl; have b4_1 := b4.cell 1 rfl; have b4_2 := b4.cell 2 rfl; have b6_0 := b6.cell 0 rfl; have b6_1 := b6.cell 1 rfl; have b6_2 := b6.cell 2 rfl
  have CAG := Lib.hid (show ∀ w', Ext w3 w' → Ext w5 w' → Calls Tryz.prog 27 #[.agg #[.int .i64 R.alphabet, .slice aN4 R.next.length cN4, .slice aA4 R.accept.length cA4], .agg #[.int .i64 R.alphabet, .slice aN6 R.next.length cN6, .slice aA6 R.accept.length cA6]] w' (Grows (.bool true) w') from fun w' h h' => by have := agAutomata_c _ _ R R w' (HW4.out _ h) (HW6.out _ h'); simpa using this)
  refine (CAG.out _ hy hz).mono ?_
  rintro e w7 ⟨rfl, he7⟩
  clear bT_0 bT_1 bT_2 bT_3 bT_4 bT_5 bT_6 b4_0 b4_1 b4_2 b6_0 b6_1 b6_2
  replace bT := bT.ext he7
  replace b4 := b4.ext he7
  replace b6 := b6.ext he7
  replace hx := hx.trans he7
  replace hy := hy.trans he7
  replace hz := hz.trans he7
  clear he7
  have bT_0 := bT.cell 0 rfl; have bT_1 := bT.cell 1 rfl; have bT_2 := bT.cell 2 rfl; have bT_3 := bT.cell 3 rfl; have bT_4 := bT.cell 4 rfl; have bT_5 := bT.cell 5 rfl; have bT_6 := bT.cell 6 rfl; have b4_0 := b4.cell 0 rfl; have b4_1 := b4.cell 1 rfl; have b4_2 := b4.cell 2 rfl; have b6_0 := b6.cell 0 rfl; have b6_1 := b6.cell 1 rfl; have b6_2 := b6.cell 2 rfl
  have heq2 : (bb != bb) = false := by simp
  have heq3 : (bb == bb) = true := by simp
  obtain ⟨tb, htb⟩ : ∃ tb, taskValid T = tb := ⟨_, rfl⟩
  have HTB := Lib.hid htb
  have CT := Lib.hid (show ∀ w', Ext w1 w' → Calls Tryz.prog 33 #[.agg #[.int .i64 T.sys.alphabet, .int .i64 T.sys.states, .slice aE1 T.sys.edges.length cE1, .int .i64 T.prop.alphabet, .slice aN1 T.prop.next.length cN1, .slice aA1 T.prop.accept.length cA1, .int .i64 T.alphabet]] w' (Grows (.bool tb) w') from fun w' h => by have := TaskValid_c _ T w' (HT.out _ h); rwa [HTB.out] at this)
  clear htb CP CS HRR HBB
  go_wp2_with fail
  refine (CT.out _ hx).mono ?_
  rintro e w8 ⟨rfl, he8⟩
  clear bT_0 bT_1 bT_2 bT_3 bT_4 bT_5 bT_6 b4_0 b4_1 b4_2 b6_0 b6_1 b6_2
  replace bT := bT.ext he8
  replace b4 := b4.ext he8
  replace b6 := b6.ext he8
  replace hx := hx.trans he8
  replace hy := hy.trans he8
  replace hz := hz.trans he8
  clear he8
  have bT_0 := bT.cell 0 rfl; have bT_1 := bT.cell 1 rfl; have bT_2 := bT.cell 2 rfl; have bT_3 := bT.cell 3 rfl; have bT_4 := bT.cell 4 rfl; have bT_5 := bT.cell 5 rfl; have bT_6 := bT.cell 6 rfl; have b4_0 := b4.cell 0 rfl; have b4_1 := b4.cell 1 rfl; have b4_2 := b4.cell 2 rfl; have b6_0 := b6.cell 0 rfl; have b6_1 := b6.cell 1 rfl; have b6_2 := b6.cell 2 rfl
  cases tb with
  | false =>
    go_wp2_with fail
    refine (CAG.out _ hy hz).mono ?_
    rintro e w9 ⟨rfl, he9⟩
    go_wp2_with fail
    go_ret
    exact Grows.mk (by simp) ((he1.trans hx).trans he9)
  | true =>
  clear CAG CT b4_0 b4_1 b4_2 b6_0 b6_1 b6_2 b4 b6 hz hy heq2 heq3
  have CW1 := Lib.hid (fun (w' : World) (vn va : Value) (h : Ext w1 w') (k : AutoV w' (.agg #[.int .i64 0, vn, va]) ⟨0, [[]], [true]⟩) => (by
    obtain ⟨ve, e0, k0⟩ := HSY.out _ h
    cases e0
    obtain ⟨vn', va', e1, k1, k2⟩ := k
    cases e1
    refine (WeakestAssumption_c _ (withP T ⟨0, [[]], [true]⟩) w' ⟨_, _, _, rfl, k0, k1, k2⟩ (HD.out _ h)).mono ?_
    rintro e w'' ⟨r, hW, he, hr⟩
    rcases hr with ⟨-, rfl⟩ | ⟨B', u, rfl, rfl, hO⟩
    · exact ⟨zeroA, _, false, rfl, he, zero_own _ _, fun h => by cases h⟩
    · rcases all_weak HTB.out hW with e2 | ⟨B, e2, hB⟩
      · cases e2
      · cases e2
        exact ⟨B', u, true, rfl, he, hO, fun _ => hB⟩ : Calls Tryz.prog 22 #[.agg #[.int .i64 T.sys.alphabet, .int .i64 T.sys.states, .slice aE1 T.sys.edges.length cE1, .int .i64 0, vn, va, .int .i64 T.alphabet]] w' (fun e w'' => ∃ B u f, e = .returned (.tuple #[u, .bool f]) ∧ Ext w' w'' ∧ AutoOwn w'.heap.size w'' u B ∧ (f = true → B.next.length = 1 ∧ B.accept = [true]))))
  have CW2 := Lib.hid (fun (w' : World) (vn va : Value) (h : Ext w1 w') (k : AutoV w' (.agg #[.int .i64 0, vn, va]) ⟨0, [[]], [false]⟩) => (by
    obtain ⟨ve, e0, k0⟩ := HSY.out _ h
    cases e0
    obtain ⟨vn', va', e1, k1, k2⟩ := k
    cases e1
    refine (WeakestAssumption_c _ (withP T ⟨0, [[]], [false]⟩) w' ⟨_, _, _, rfl, k0, k1, k2⟩ (HD.out _ h)).mono ?_
    rintro e w'' ⟨r, hW, he, hr⟩
    obtain ⟨B, rfl, hB⟩ := none_weak HTB.out hW
    rcases hr with ⟨e0, -⟩ | ⟨B', u, e0, rfl, hO⟩
    · cases e0
    · cases e0
      exact ⟨B, u, rfl, he, hO, hB⟩ : Calls Tryz.prog 22 #[.agg #[.int .i64 T.sys.alphabet, .int .i64 T.sys.states, .slice aE1 T.sys.edges.length cE1, .int .i64 0, vn, va, .int .i64 T.alphabet]] w' (fun e w'' => ∃ B u, e = .returned (.tuple #[u, .bool true]) ∧ Ext w' w'' ∧ AutoOwn w'.heap.size w'' u B ∧ (B.next.length = 1 ∧ B.accept = [false]))))
  go_wp2_with fail
  refine (Parse_all _).mono ?_
  obtain ⟨X, hX⟩ : ∃ X : Auto, X = ⟨0, [[]], [true]⟩ := ⟨_, rfl⟩
  rw [← hX] at CW1 ⊢
  have HXA := Lib.hid (show X.alphabet = 0 by rw [hX])
  clear hX
  rintro e w9 ⟨u9, rfl, he9, hO9⟩
  clear bT_0 bT_1 bT_2 bT_3 bT_4 bT_5 bT_6
  obtain ⟨vN9, vA9, rfl, hO9'⟩ := hO9
  obtain ⟨aN9, cN9, rfl⟩ := hO9'.1.shape
  obtain ⟨aA9, cA9, rfl⟩ := hO9'.2.shape
  have hN9 := hO9'.1.intss
  have hA9 := hO9'.2.bools
  have HW9 := Lib.hid (show ∀ w', Ext w9 w' → AutoV w' (.agg #[.int .i64 X.alphabet, .slice aN9 X.next.length cN9, .slice aA9 X.accept.length cA9]) X from fun w' h => ⟨_, _, rfl, hN9.mono h, hA9.mono h⟩)
  clear hO9' hN9 hA9
  have dbT_0 := fun o => ((bT.ext he9).ext (Ext.alloc w9 o)).cell 0 rfl; have dbT_1 := fun o => ((bT.ext he9).ext (Ext.alloc w9 o)).cell 1 rfl; have dbT_2 := fun o => ((bT.ext he9).ext (Ext.alloc w9 o)).cell 2 rfl; have dbT_3 := fun o => ((bT.ext he9).ext (Ext.alloc w9 o)).cell 3 rfl; have dbT_4 := fun o => ((bT.ext he9).ext (Ext.alloc w9 o)).cell 4 rfl; have dbT_5 := fun o => ((bT.ext he9).ext (Ext.alloc w9 o)).cell 5 rfl; have dbT_6 := fun o => ((bT.ext he9).ext (Ext.alloc w9 o)).cell 6 rfl
  replace bT := (bT.ext he9).ext (Ext.alloc w9 (.cells #[.int .i64 X.alphabet, .slice aN9 X.next.length cN9, .slice aA9 X.accept.length cA9] 29))
  replace hx := (hx.trans he9).trans (Ext.alloc w9 (.cells #[.int .i64 X.alphabet, .slice aN9 X.next.length cN9, .slice aA9 X.accept.length cA9] 29))
  have h9 : Ext w9 (w9.alloc (.cells #[.int .i64 X.alphabet, .slice aN9 X.next.length cN9, .slice aA9 X.accept.length cA9] 29)) := Ext.alloc _ _
  clear he9
  have b9 : Blk (w9.alloc (.cells #[.int .i64 X.alphabet, .slice aN9 X.next.length cN9, .slice aA9 X.accept.length cA9] 29)) w9.heap.size #[.int .i64 X.alphabet, .slice aN9 X.next.length cN9, .slice aA9 X.accept.length cA9] 29 := Ext.blk (Ext.refl _)
  go_wp2_with fail
  clear dbT_0 dbT_1 dbT_2 dbT_3 dbT_4 dbT_5 dbT_6
  generalize (w9.alloc (.cells #[.int .i64 X.alphabet, .slice aN9 X.next.length cN9, .slice aA9 X.accept.length cA9] 29)) = w10 at hx h9 b9 bT ⊢
  have bT_0 := bT.cell 0 rfl; have bT_1 := bT.cell 1 rfl; have bT_2 := bT.cell 2 rfl; have bT_3 := bT.cell 3 rfl; have bT_4 := bT.cell 4 rfl; have bT_5 := bT.cell 5 rfl; have bT_6 := bT.cell 6 rfl; have b9_0 := b9.cell 0 rfl; have b9_1 := b9.cell 1 rfl; have b9_2 := b9.cell 2 rfl
  refine (Parse_none _).mono ?_
  obtain ⟨Y, hY⟩ : ∃ Y : Auto, Y = ⟨0, [[]], [false]⟩ := ⟨_, rfl⟩
  rw [← hY] at CW2 ⊢
  have HYA := Lib.hid (show Y.alphabet = 0 by rw [hY])
  clear hY
  rintro e w11 ⟨u11, rfl, he11, hO11⟩
  clear bT_0 bT_1 bT_2 bT_3 bT_4 bT_5 bT_6 b9_0 b9_1 b9_2
  obtain ⟨vN11, vA11, rfl, hO11'⟩ := hO11
  obtain ⟨aN11, cN11, rfl⟩ := hO11'.1.shape
  obtain ⟨aA11, cA11, rfl⟩ := hO11'.2.shape
  have hN11 := hO11'.1.intss
  have hA11 := hO11'.2.bools
  have HW11 := Lib.hid (show ∀ w', Ext w11 w' → AutoV w' (.agg #[.int .i64 Y.alphabet, .slice aN11 Y.next.length cN11, .slice aA11 Y.accept.length cA11]) Y from fun w' h => ⟨_, _, rfl, hN11.mono h, hA11.mono h⟩)
  clear hO11' hN11 hA11
  have dbT_0 := fun o => ((bT.ext he11).ext (Ext.alloc w11 o)).cell 0 rfl; have dbT_1 := fun o => ((bT.ext he11).ext (Ext.alloc w11 o)).cell 1 rfl; have dbT_2 := fun o => ((bT.ext he11).ext (Ext.alloc w11 o)).cell 2 rfl; have dbT_3 := fun o => ((bT.ext he11).ext (Ext.alloc w11 o)).cell 3 rfl; have dbT_4 := fun o => ((bT.ext he11).ext (Ext.alloc w11 o)).cell 4 rfl; have dbT_5 := fun o => ((bT.ext he11).ext (Ext.alloc w11 o)).cell 5 rfl; have dbT_6 := fun o => ((bT.ext he11).ext (Ext.alloc w11 o)).cell 6 rfl
  replace bT := (bT.ext he11).ext (Ext.alloc w11 (.cells #[.int .i64 Y.alphabet, .slice aN11 Y.next.length cN11, .slice aA11 Y.accept.length cA11] 29))
  have db9_0 := fun o => ((b9.ext he11).ext (Ext.alloc w11 o)).cell 0 rfl; have db9_1 := fun o => ((b9.ext he11).ext (Ext.alloc w11 o)).cell 1 rfl; have db9_2 := fun o => ((b9.ext he11).ext (Ext.alloc w11 o)).cell 2 rfl
  replace b9 := (b9.ext he11).ext (Ext.alloc w11 (.cells #[.int .i64 Y.alphabet, .slice aN11 Y.next.length cN11, .slice aA11 Y.accept.length cA11] 29))
  replace hx := (hx.trans he11).trans (Ext.alloc w11 (.cells #[.int .i64 Y.alphabet, .slice aN11 Y.next.length cN11, .slice aA11 Y.accept.length cA11] 29))
  replace h9 := (h9.trans he11).trans (Ext.alloc w11 (.cells #[.int .i64 Y.alphabet, .slice aN11 Y.next.length cN11, .slice aA11 Y.accept.length cA11] 29))
  have h11 : Ext w11 (w11.alloc (.cells #[.int .i64 Y.alphabet, .slice aN11 Y.next.length cN11, .slice aA11 Y.accept.length cA11] 29)) := Ext.alloc _ _
  clear he11
  have b11 : Blk (w11.alloc (.cells #[.int .i64 Y.alphabet, .slice aN11 Y.next.length cN11, .slice aA11 Y.accept.length cA11] 29)) w11.heap.size #[.int .i64 Y.alphabet, .slice aN11 Y.next.length cN11, .slice aA11 Y.accept.length cA11] 29 := Ext.blk (Ext.refl _)
  go_wp2_with fail
  clear dbT_0 dbT_1 dbT_2 dbT_3 dbT_4 dbT_5 dbT_6 db9_0 db9_1 db9_2
  generalize (w11.alloc (.cells #[.int .i64 Y.alphabet, .slice aN11 Y.next.length cN11, .slice aA11 Y.accept.length cA11] 29)) = w12 at hx h9 h11 b11 bT b9 ⊢
  have bT_0 := bT.cell 0 rfl; have bT_1 := bT.cell 1 rfl; have bT_2 := bT.cell 2 rfl; have bT_3 := bT.cell 3 rfl; have bT_4 := bT.cell 4 rfl; have bT_5 := bT.cell 5 rfl; have bT_6 := bT.cell 6 rfl; have b9_0 := b9.cell 0 rfl; have b9_1 := b9.cell 1 rfl; have b9_2 := b9.cell 2 rfl; have b11_0 := b11.cell 0 rfl; have b11_1 := b11.cell 1 rfl; have b11_2 := b11.cell 2 rfl
  have c1 := CW1.out w12 (.slice aN9 X.next.length cN9) (.slice aA9 X.accept.length cA9) hx (by have := HW9.out _ h9; rwa [HXA.out] at this)
  rw [← HXA.out] at c1
  refine c1.mono ?_
  rintro e w13 ⟨B, u13, fine, rfl, he13, hO13, hB⟩
  have HB := Lib.hid hB
  clear hB c1
  clear bT_0 bT_1 bT_2 bT_3 bT_4 bT_5 bT_6 b9_0 b9_1 b9_2 b11_0 b11_1 b11_2
  obtain ⟨vN13, vA13, rfl, hO13'⟩ := hO13
  obtain ⟨aN13, cN13, rfl⟩ := hO13'.1.shape
  obtain ⟨aA13, cA13, rfl⟩ := hO13'.2.shape
  have hN13 := hO13'.1.intss
  have hA13 := hO13'.2.bools
  have HW13 := Lib.hid (show ∀ w', Ext w13 w' → AutoV w' (.agg #[.int .i64 B.alphabet, .slice aN13 B.next.length cN13, .slice aA13 B.accept.length cA13]) B from fun w' h => ⟨_, _, rfl, hN13.mono h, hA13.mono h⟩)
  clear hO13' hN13 hA13
  have dbT_0 := fun o => ((bT.ext he13).ext (Ext.alloc w13 o)).cell 0 rfl; have dbT_1 := fun o => ((bT.ext he13).ext (Ext.alloc w13 o)).cell 1 rfl; have dbT_2 := fun o => ((bT.ext he13).ext (Ext.alloc w13 o)).cell 2 rfl; have dbT_3 := fun o => ((bT.ext he13).ext (Ext.alloc w13 o)).cell 3 rfl; have dbT_4 := fun o => ((bT.ext he13).ext (Ext.alloc w13 o)).cell 4 rfl; have dbT_5 := fun o => ((bT.ext he13).ext (Ext.alloc w13 o)).cell 5 rfl; have dbT_6 := fun o => ((bT.ext he13).ext (Ext.alloc w13 o)).cell 6 rfl
  replace bT := (bT.ext he13).ext (Ext.alloc w13 (.cells #[.int .i64 B.alphabet, .slice aN13 B.next.length cN13, .slice aA13 B.accept.length cA13] 29))
  have db9_0 := fun o => ((b9.ext he13).ext (Ext.alloc w13 o)).cell 0 rfl; have db9_1 := fun o => ((b9.ext he13).ext (Ext.alloc w13 o)).cell 1 rfl; have db9_2 := fun o => ((b9.ext he13).ext (Ext.alloc w13 o)).cell 2 rfl
  replace b9 := (b9.ext he13).ext (Ext.alloc w13 (.cells #[.int .i64 B.alphabet, .slice aN13 B.next.length cN13, .slice aA13 B.accept.length cA13] 29))
  have db11_0 := fun o => ((b11.ext he13).ext (Ext.alloc w13 o)).cell 0 rfl; have db11_1 := fun o => ((b11.ext he13).ext (Ext.alloc w13 o)).cell 1 rfl; have db11_2 := fun o => ((b11.ext he13).ext (Ext.alloc w13 o)).cell 2 rfl
  replace b11 := (b11.ext he13).ext (Ext.alloc w13 (.cells #[.int .i64 B.alphabet, .slice aN13 B.next.length cN13, .slice aA13 B.accept.length cA13] 29))
  replace hx := (hx.trans he13).trans (Ext.alloc w13 (.cells #[.int .i64 B.alphabet, .slice aN13 B.next.length cN13, .slice aA13 B.accept.length cA13] 29))
  replace h9 := (h9.trans he13).trans (Ext.alloc w13 (.cells #[.int .i64 B.alphabet, .slice aN13 B.next.length cN13, .slice aA13 B.accept.length cA13] 29))
  replace h11 := (h11.trans he13).trans (Ext.alloc w13 (.cells #[.int .i64 B.alphabet, .slice aN13 B.next.length cN13, .slice aA13 B.accept.length cA13] 29))
  have h13 : Ext w13 (w13.alloc (.cells #[.int .i64 B.alphabet, .slice aN13 B.next.length cN13, .slice aA13 B.accept.length cA13] 29)) := Ext.alloc _ _
  clear he13
  have b13 : Blk (w13.alloc (.cells #[.int .i64 B.alphabet, .slice aN13 B.next.length cN13, .slice aA13 B.accept.length cA13] 29)) w13.heap.size #[.int .i64 B.alphabet, .slice aN13 B.next.length cN13, .slice aA13 B.accept.length cA13] 29 := Ext.blk (Ext.refl _)
  go_wp2_with fail
  clear dbT_0 dbT_1 dbT_2 dbT_3 dbT_4 dbT_5 dbT_6 db9_0 db9_1 db9_2 db11_0 db11_1 db11_2
  generalize (w13.alloc (.cells #[.int .i64 B.alphabet, .slice aN13 B.next.length cN13, .slice aA13 B.accept.length cA13] 29)) = w14 at hx h9 h11 h13 b13 bT b9 b11 ⊢
  have bT_0 := bT.cell 0 rfl; have bT_1 := bT.cell 1 rfl; have bT_2 := bT.cell 2 rfl; have bT_3 := bT.cell 3 rfl; have bT_4 := bT.cell 4 rfl; have bT_5 := bT.cell 5 rfl; have bT_6 := bT.cell 6 rfl; have b9_0 := b9.cell 0 rfl; have b9_1 := b9.cell 1 rfl; have b9_2 := b9.cell 2 rfl; have b11_0 := b11.cell 0 rfl; have b11_1 := b11.cell 1 rfl; have b11_2 := b11.cell 2 rfl; have b13_0 := b13.cell 0 rfl; have b13_1 := b13.cell 1 rfl; have b13_2 := b13.cell 2 rfl
  have c2 := CW2.out w14 (.slice aN11 Y.next.length cN11) (.slice aA11 Y.accept.length cA11) hx (by have := HW11.out _ h11; rwa [HYA.out] at this)
  rw [← HYA.out] at c2
  refine c2.mono ?_
  rintro e w15 ⟨C, u15, rfl, he15, hO15, hC1, hC2⟩
  clear c2
  obtain ⟨vN15, vA15, rfl, hO15'⟩ := hO15
  obtain ⟨aN15, cN15, rfl⟩ := hO15'.1.shape
  obtain ⟨aA15, cA15, rfl⟩ := hO15'.2.shape
  have hA15 := hO15'.2.bools
  obtain ⟨_, _, e5, -, hc5⟩ := hA15.open
  cases e5
  obtain ⟨ba, offa, rfl, -, hca⟩ := hc5 0 false (by rw [hC2]; rfl)
  have g15 : w15.cell? ⟨ba, offa + 0, none⟩ = some (.bool false) := by have := hca 0 false (by rw [hC2]; rfl); simpa [BoolAt] using this
  have hl15 : ((C.next.length : Int) == 1) = true := by rw [hC1]; rfl
  have hm15 : C.accept.length = 1 := by rw [hC2]; rfl
  have hl15' : (0 : Int) < (C.accept.length : Int) := by omega
  have G15 := fun o => (Ext.alloc w15 o).cell g15
  rw [Nat.add_zero] at G15
  clear g15 hc5 hca hC1 hC2 hm15 hA15 hO15'
  clear bT_0 bT_1 bT_2 bT_3 bT_4 bT_5 bT_6 b9_0 b9_1 b9_2 b11_0 b11_1 b11_2 b13_0 b13_1 b13_2
  have d13_0 := fun o => ((b13.ext he15).ext (Ext.alloc w15 o)).cell 0 rfl; have d13_1 := fun o => ((b13.ext he15).ext (Ext.alloc w15 o)).cell 1 rfl; have d13_2 := fun o => ((b13.ext he15).ext (Ext.alloc w15 o)).cell 2 rfl
  have hend : ∀ o, Ext w (w15.alloc o) := fun o => (he1.trans (hx.trans he15)).trans (Ext.alloc _ _)
  cases fine with
  | false =>
    go_wp2_with fail
    go_ret
    exact Grows.mk (by simp) (hend _)
  | true =>
    obtain ⟨hB1, hB2⟩ := HB.out rfl
    obtain ⟨_, _, e6, -, hA13⟩ := HW13.out _ h13
    cases e6
    obtain ⟨_, _, e7, -, hc7⟩ := hA13.open
    cases e7
    obtain ⟨bb3, off3, rfl, -, hca⟩ := hc7 0 true (by rw [hB2]; rfl)
    have g13 : w14.cell? ⟨bb3, off3 + 0, none⟩ = some (.bool true) := by have := hca 0 true (by rw [hB2]; rfl); simpa [BoolAt] using this
    have hl13 : ((B.next.length : Int) == 1) = true := by rw [hB1]; rfl
    have hl13' : (0 : Int) < (B.accept.length : Int) := by rw [hB2]; decide
    have G13 := fun o => (he15.trans (Ext.alloc w15 o)).cell g13
    rw [Nat.add_zero] at G13
    clear g13 hc7 hca hB1 hB2 hA13
    go_wp2_with fail
    go_ret
    exact Grows.mk (by simp) (hend _)

end Go.Proofs.YtajafdblmphglaaGreatDoor.lawFnWeakestAll
