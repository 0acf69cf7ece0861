/- Part of this seat's proofs, cut to what its law needs. -/

import Derived.Test.YtajafdblmphglaaGreatDoorDrawV
import Derived.Test.YtajafdblmphglaaGreatDoorAgD
import Derived.Test.YtajafdblmphglaaGreatDoorWalkWs
import Derived.Test.YtajafdblmphglaaGreatDoorWalkLt
import Derived.Test.YtajafdblmphglaaGreatDoorSafeN
import Derived.Test.YtajafdblmphglaaGreatDoorDrawL
namespace Go.Proofs.YtajafdblmphglaaGreatDoor.lawFnWeakestMinimal
open Go.ChangeShapes Go.WideShapes Go.ChangeAt Go.RowKit
open Go.Proofs.YtajafdblmphglaaGreatDoor
open Go.ChangeMaps (open_string shut_string)
set_option linter.unusedVariables false
set_option linter.unusedSimpArgs false
set_option maxHeartbeats 1600000
set_option maxRecDepth 100000

theorem weak_min {t : Task} {B C : Auto} (h : weakOf t = some B) (k : IsMin (res B 0) B.alphabet C) : C = B := by
  obtain ⟨h1, h2, h3⟩ := weak_acc h
  obtain ⟨k1, -, k3, -⟩ := weakOf_some h
  obtain ⟨a0, a63⟩ := alpha_facts (taskValid_facts k1).2.2
  have e : res B 0 = lngW t := funext fun v => k3.accepts a0 a63 (lngW_blind t) v
  rw [e, h2] at k
  exact k.unique k3
theorem weak_pref {t : Task} {B : Auto} (h : weakOf t = some B) : PrefClosed B := fun u v hv => by
  obtain ⟨-, -, h3⟩ := weak_acc h
  rw [h3] at hv ⊢
  exact hv.prefix (by rw [List.filter_append]; exact List.prefix_append _ _)

theorem walk (v0 : Value) (t0 : List UInt8) (w : World) (hv0 : BytesV w v0 t0) (hD : Deb w) : Calls Tryz.prog 6 #[v0] w (Grows (.bool true) w) := by
  obtain ⟨aB, cB, rfl, hleB, -⟩ := hv0.open
  have HDb := Lib.hid hD
  clear hD
  by_cases hz0 : 1048576 < t0.length
  · go_enter Tryz.func6, Tryz.ntmps6
    go_wp2_with fail
    go_ret
    exact Grows.mk rfl (Ext.refl _)
  go_enter Tryz.func6, Tryz.ntmps6
  go_wp2_with fail
  refine (DrawWeakestAssumption_t _ t0 _ hv0 (by omega)).mono ?_
  rintro e w1 ⟨vt, T, rfl, he1, hTV, hed⟩
  obtain ⟨vE1, vN1, vA1, rfl, hE1, hN1, hA1⟩ := hTV
  obtain ⟨aE1, cE1, rfl, -, -⟩ := hE1.open
  obtain ⟨aN1, cN1, rfl, -, -⟩ := hN1.open
  obtain ⟨aA1, cA1, rfl, -, -⟩ := hA1.open
  have HT := Lib.hid (show ∀ w', Ext w1 w' → TaskV w' (.agg #[.int .i64 T.sys.alphabet, .int .i64 T.sys.states, .slice aE1 T.sys.edges.length cE1, .int .i64 T.prop.alphabet, .slice aN1 T.prop.next.length cN1, .slice aA1 T.prop.accept.length cA1, .int .i64 T.alphabet]) T from fun w' h => ⟨_, _, _, rfl, hE1.mono h, hN1.mono h, hA1.mono h⟩)
  have HSY := Lib.hid (show ∀ w', Ext w1 w' → SysV w' (.agg #[.int .i64 T.sys.alphabet, .int .i64 T.sys.states, .slice aE1 T.sys.edges.length cE1]) T.sys from fun w' h => ⟨_, rfl, hE1.mono h⟩)
  have HAU := Lib.hid (show ∀ w', Ext w1 w' → AutoV w' (.agg #[.int .i64 T.prop.alphabet, .slice aN1 T.prop.next.length cN1, .slice aA1 T.prop.accept.length cA1]) T.prop from fun w' h => ⟨_, _, rfl, hN1.mono h, hA1.mono h⟩)
  have HD := Lib.hid (show ∀ w', Ext w1 w' → Deb w' from fun w' h => HDb.out.ext (he1.trans h))
  obtain ⟨R, hR⟩ : ∃ R, (weakOf T).getD zeroA = R := ⟨_, rfl⟩
  obtain ⟨bb, hbb⟩ : ∃ bb, (weakOf T).isSome = bb := ⟨_, rfl⟩
  have CS := Lib.hid (show ∀ w', Ext w1 w' → Calls Tryz.prog 26 #[.agg #[.int .i64 T.sys.alphabet, .int .i64 T.sys.states, .slice aE1 T.sys.edges.length cE1, .int .i64 T.prop.alphabet, .slice aN1 T.prop.next.length cN1, .slice aA1 T.prop.accept.length cA1, .int .i64 T.alphabet]] w' (fun e w'' => ∃ u, e = .returned (.tuple #[u, .bool bb]) ∧ Ext w' w'' ∧ AutoOwn w'.heap.size w'' u R) from fun w' h => (by have := WeakestAssumption_sd _ T w' (HT.out _ h) (by omega); unfold WeakDet at this; rwa [hR, hbb] at this))
  have CP := Lib.hid (show ∀ w', Ext w1 w' → Calls Tryz.prog 22 #[.agg #[.int .i64 T.sys.alphabet, .int .i64 T.sys.states, .slice aE1 T.sys.edges.length cE1, .int .i64 T.prop.alphabet, .slice aN1 T.prop.next.length cN1, .slice aA1 T.prop.accept.length cA1, .int .i64 T.alphabet]] w' (fun e w'' => ∃ u, e = .returned (.tuple #[u, .bool bb]) ∧ Ext w' w'' ∧ AutoOwn w'.heap.size w'' u R) from fun w' h => (by have := WeakestAssumption_cd _ T w' (HT.out _ h) (HD.out _ h); unfold WeakDet at this; rwa [hR, hbb] at this))
  have HRR := Lib.hid hR
  have HBB := Lib.hid hbb
  clear hE1 hN1 hA1 hR hbb hed
  have hx : Ext w1 (w1.alloc (.cells #[.int .i64 T.sys.alphabet, .int .i64 T.sys.states, .slice aE1 T.sys.edges.length cE1, .int .i64 T.prop.alphabet, .slice aN1 T.prop.next.length cN1, .slice aA1 T.prop.accept.length cA1, .int .i64 T.alphabet] 44)) := Ext.alloc _ _
  have bT : Blk (w1.alloc (.cells #[.int .i64 T.sys.alphabet, .int .i64 T.sys.states, .slice aE1 T.sys.edges.length cE1, .int .i64 T.prop.alphabet, .slice aN1 T.prop.next.length cN1, .slice aA1 T.prop.accept.length cA1, .int .i64 T.alphabet] 44)) w1.heap.size #[.int .i64 T.sys.alphabet, .int .i64 T.sys.states, .slice aE1 T.sys.edges.length cE1, .int .i64 T.prop.alphabet, .slice aN1 T.prop.next.length cN1, .slice aA1 T.prop.accept.length cA1, .int .i64 T.alphabet] 44 := Ext.blk (Ext.refl _)
  go_wp2_with fail
  generalize (w1.alloc (.cells #[.int .i64 T.sys.alphabet, .int .i64 T.sys.states, .slice aE1 T.sys.edges.length cE1, .int .i64 T.prop.alphabet, .slice aN1 T.prop.next.length cN1, .slice aA1 T.prop.accept.length cA1, .int .i64 T.alphabet] 44)) = w2 at hx bT ⊢
  have bT_0 := bT.cell 0 rfl; have bT_1 := bT.cell 1 rfl; have bT_2 := bT.cell 2 rfl; have bT_3 := bT.cell 3 rfl; have bT_4 := bT.cell 4 rfl; have bT_5 := bT.cell 5 rfl; have bT_6 := bT.cell 6 rfl
  go_wp2_with fail
  refine (CP.out _ hx).mono ?_
  rintro e w3 ⟨u4, rfl, he4, hO4⟩
  clear bT_0 bT_1 bT_2 bT_3 bT_4 bT_5 bT_6
  obtain ⟨vN4, vA4, rfl, hO4'⟩ := hO4
  obtain ⟨aN4, cN4, rfl⟩ := hO4'.1.shape
  obtain ⟨aA4, cA4, rfl⟩ := hO4'.2.shape
  have hN4 := hO4'.1.intss
  have hA4 := hO4'.2.bools
  have HW4 := Lib.hid (show ∀ w', Ext w3 w' → AutoV w' (.agg #[.int .i64 R.alphabet, .slice aN4 R.next.length cN4, .slice aA4 R.accept.length cA4]) R from fun w' h => ⟨_, _, rfl, hN4.mono h, hA4.mono h⟩)
  clear hO4' hN4 hA4
  have dbT_0 := fun o => ((bT.ext he4).ext (Ext.alloc w3 o)).cell 0 rfl; have dbT_1 := fun o => ((bT.ext he4).ext (Ext.alloc w3 o)).cell 1 rfl; have dbT_2 := fun o => ((bT.ext he4).ext (Ext.alloc w3 o)).cell 2 rfl; have dbT_3 := fun o => ((bT.ext he4).ext (Ext.alloc w3 o)).cell 3 rfl; have dbT_4 := fun o => ((bT.ext he4).ext (Ext.alloc w3 o)).cell 4 rfl; have dbT_5 := fun o => ((bT.ext he4).ext (Ext.alloc w3 o)).cell 5 rfl; have dbT_6 := fun o => ((bT.ext he4).ext (Ext.alloc w3 o)).cell 6 rfl
  replace bT := (bT.ext he4).ext (Ext.alloc w3 (.cells #[.int .i64 R.alphabet, .slice aN4 R.next.length cN4, .slice aA4 R.accept.length cA4] 29))
  replace hx := (hx.trans he4).trans (Ext.alloc w3 (.cells #[.int .i64 R.alphabet, .slice aN4 R.next.length cN4, .slice aA4 R.accept.length cA4] 29))
  have hy : Ext w3 (w3.alloc (.cells #[.int .i64 R.alphabet, .slice aN4 R.next.length cN4, .slice aA4 R.accept.length cA4] 29)) := Ext.alloc _ _
  clear he4
  have b4 : Blk (w3.alloc (.cells #[.int .i64 R.alphabet, .slice aN4 R.next.length cN4, .slice aA4 R.accept.length cA4] 29)) w3.heap.size #[.int .i64 R.alphabet, .slice aN4 R.next.length cN4, .slice aA4 R.accept.length cA4] 29 := Ext.blk (Ext.refl _)
  go_wp2_with fail
  clear dbT_0 dbT_1 dbT_2 dbT_3 dbT_4 dbT_5 dbT_6
  generalize (w3.alloc (.cells #[.int .i64 R.alphabet, .slice aN4 R.next.length cN4, .slice aA4 R.accept.length cA4] 29)) = w4 at hx hy  bT b4 ⊢
  have bT_0 := bT.cell 0 rfl; have bT_1 := bT.cell 1 rfl; have bT_2 := bT.cell 2 rfl; have bT_3 := bT.cell 3 rfl; have bT_4 := bT.cell 4 rfl; have bT_5 := bT.cell 5 rfl; have bT_6 := bT.cell 6 rfl; have b4_0 := b4.cell 0 rfl; have b4_1 := b4.cell 1 rfl; have b4_2 := b4.cell 2 rfl
  refine (CS.out _ hx).mono ?_
  rintro e w5 ⟨u6, rfl, he6, hO6⟩
  clear bT_0 bT_1 bT_2 bT_3 bT_4 bT_5 bT_6 b4_0 b4_1 b4_2
  obtain ⟨vN6, vA6, rfl, hO6'⟩ := hO6
  obtain ⟨aN6, cN6, rfl⟩ := hO6'.1.shape
  obtain ⟨aA6, cA6, rfl⟩ := hO6'.2.shape
  have hN6 := hO6'.1.intss
  have hA6 := hO6'.2.bools
  have HW6 := Lib.hid (show ∀ w', Ext w5 w' → AutoV w' (.agg #[.int .i64 R.alphabet, .slice aN6 R.next.length cN6, .slice aA6 R.accept.length cA6]) R from fun w' h => ⟨_, _, rfl, hN6.mono h, hA6.mono h⟩)
  clear hO6' hN6 hA6
  have dbT_0 := fun o => ((bT.ext he6).ext (Ext.alloc w5 o)).cell 0 rfl; have dbT_1 := fun o => ((bT.ext he6).ext (Ext.alloc w5 o)).cell 1 rfl; have dbT_2 := fun o => ((bT.ext he6).ext (Ext.alloc w5 o)).cell 2 rfl; have dbT_3 := fun o => ((bT.ext he6).ext (Ext.alloc w5 o)).cell 3 rfl; have dbT_4 := fun o => ((bT.ext he6).ext (Ext.alloc w5 o)).cell 4 rfl; have dbT_5 := fun o => ((bT.ext he6).ext (Ext.alloc w5 o)).cell 5 rfl; have dbT_6 := fun o => ((bT.ext he6).ext (Ext.alloc w5 o)).cell 6 rfl
  replace bT := (bT.ext he6).ext (Ext.alloc w5 (.cells #[.int .i64 R.alphabet, .slice aN6 R.next.length cN6, .slice aA6 R.accept.length cA6] 29))
  have db4_0 := fun o => ((b4.ext he6).ext (Ext.alloc w5 o)).cell 0 rfl; have db4_1 := fun o => ((b4.ext he6).ext (Ext.alloc w5 o)).cell 1 rfl; have db4_2 := fun o => ((b4.ext he6).ext (Ext.alloc w5 o)).cell 2 rfl
  replace b4 := (b4.ext he6).ext (Ext.alloc w5 (.cells #[.int .i64 R.alphabet, .slice aN6 R.next.length cN6, .slice aA6 R.accept.length cA6] 29))
  replace hx := (hx.trans he6).trans (Ext.alloc w5 (.cells #[.int .i64 R.alphabet, .slice aN6 R.next.length cN6, .slice aA6 R.accept.length cA6] 29))
  replace hy := (hy.trans he6).trans (Ext.alloc w5 (.cells #[.int .i64 R.alphabet, .slice aN6 R.next.length cN6, .slice aA6 R.accept.length cA6] 29))
  have hz : Ext w5 (w5.alloc (.cells #[.int .i64 R.alphabet, .slice aN6 R.next.length cN6, .slice aA6 R.accept.length cA6] 29)) := Ext.alloc _ _
  clear he6
  have b6 : Blk (w5.alloc (.cells #[.int .i64 R.alphabet, .slice aN6 R.next.length cN6, .slice aA6 R.accept.length cA6] 29)) w5.heap.size #[.int .i64 R.alphabet, .slice aN6 R.next.length cN6, .slice aA6 R.accept.length cA6] 29 := Ext.blk (Ext.refl _)
  go_wp2_with fail
  clear dbT_0 dbT_1 dbT_2 dbT_3 dbT_4 dbT_5 dbT_6 db4_0 db4_1 db4_2
  generalize (w5.alloc (.cells #[.int .i64 R.alphabet, .slice aN6 R.next.length cN6, .slice aA6 R.accept.length cA6] 29)) = w6 at hx hy hz bT b4 b6 ⊢
  have bT_0 := bT.cell 0 rfl; have bT_1 := bT.cell 1 rfl; have bT_2 := bT.cell 2 rfl; have bT_3 := bT.cell 3 rfl; have bT_4 := bT.cell 4 rfl; have bT_5 := bT.cell 5 rfl; have bT_6 := bT.cell 6 rfl; have b4_0 := b4.cell 0 rfl; have b4_1 := b4.cell 1 rfl; have b4_2 := b4.cell 2 rfl; have b6_0 := b6.cell 0 rfl; have b6_1 := b6.cell 1 rfl; have b6_2 := b6.cell 2 rfl
  have CAG := Lib.hid (show ∀ w', Ext w3 w' → Ext w5 w' → Calls Tryz.prog 27 #[.agg #[.int .i64 R.alphabet, .slice aN4 R.next.length cN4, .slice aA4 R.accept.length cA4], .agg #[.int .i64 R.alphabet, .slice aN6 R.next.length cN6, .slice aA6 R.accept.length cA6]] w' (Grows (.bool true) w') from fun w' h h' => by have := agAutomata_c _ _ R R w' (HW4.out _ h) (HW6.out _ h'); simpa using this)
  refine (CAG.out _ hy hz).mono ?_
  rintro e w7 ⟨rfl, he7⟩
  clear bT_0 bT_1 bT_2 bT_3 bT_4 bT_5 bT_6 b4_0 b4_1 b4_2 b6_0 b6_1 b6_2
  replace bT := bT.ext he7
  replace b4 := b4.ext he7
  replace b6 := b6.ext he7
  replace hx := hx.trans he7
  replace hy := hy.trans he7
  replace hz := hz.trans he7
  clear he7
  have bT_0 := bT.cell 0 rfl; have bT_1 := bT.cell 1 rfl; have bT_2 := bT.cell 2 rfl; have bT_3 := bT.cell 3 rfl; have bT_4 := bT.cell 4 rfl; have bT_5 := bT.cell 5 rfl; have bT_6 := bT.cell 6 rfl; have b4_0 := b4.cell 0 rfl; have b4_1 := b4.cell 1 rfl; have b4_2 := b4.cell 2 rfl; have b6_0 := b6.cell 0 rfl; have b6_1 := b6.cell 1 rfl; have b6_2 := b6.cell 2 rfl
  rcases bb with _ | _
  · go_wp2_with fail
    refine (CAG.out _ hy hz).mono ?_
    rintro e w8 ⟨rfl, he8⟩
    go_wp2_with fail
    go_ret
    exact Grows.mk rfl ((he1.trans hx).trans he8)
  have hwk : weakOf T = some R := by
    have h1 := HRR.out; have h2 := HBB.out
    cases h : weakOf T with
    | none => rw [h] at h2; cases h2
    | some B => rw [h] at h1; cases h1; rfl
  have HWK := Lib.hid hwk
  clear hwk
  have CM := Lib.hid (show ∀ w', Ext w3 w' → Calls Tryz.prog 16 #[.agg #[.int .i64 R.alphabet, .slice aN4 R.next.length cN4, .slice aA4 R.accept.length cA4]] w' (fun e w'' => ∃ u, e = .returned (.tuple #[u, .bool true]) ∧ Ext w' w'' ∧ AutoOwn w'.heap.size w'' u R) from fun w' h => (MinimizeAutomaton_c _ R w' (HW4.out _ h)).mono fun e w'' hM => by
    obtain ⟨he, ⟨hf, -⟩ | ⟨-, u, B, rfl, hB, hO⟩⟩ := hM
    · rw [(weak_acc HWK.out).1] at hf; cases hf
    · obtain rfl := weak_min HWK.out hB
      exact ⟨u, rfl, he, hO⟩)
  have CI := Lib.hid (show ∀ w', Ext w3 w' → Calls Tryz.prog 31 #[.agg #[.int .i64 R.alphabet, .slice aN4 R.next.length cN4, .slice aA4 R.accept.length cA4]] w' (Grows (.bool true) w') from fun w' h => (IsPrefixClosed_x _ R w' (HW4.out _ h)).mono fun e w'' hM => by
    obtain ⟨b, rfl, he, -, h2⟩ := hM
    cases b with
    | true => exact Grows.mk rfl he
    | false => exact absurd (weak_pref HWK.out) (h2 rfl (weak_acc HWK.out).1))
  obtain ⟨sw, hsw⟩ : ∃ sw, safeWord T ByteArray.empty = sw := ⟨_, rfl⟩
  have CA := Lib.hid (show ∀ w', Ext w3 w' → Calls Tryz.prog 29 #[.agg #[.int .i64 R.alphabet, .slice aN4 R.next.length cN4, .slice aA4 R.accept.length cA4], .string ByteArray.empty] w' (Grows (.bool sw) w') from fun w' h => by have := AcceptsWord_c _ R ByteArray.empty w' (HW4.out _ h) (by decide); rwa [weak_word HWK.out, hsw] at this)
  have CB := Lib.hid (show ∀ w', Ext w1 w' → Calls Tryz.prog 30 #[.agg #[.int .i64 T.sys.alphabet, .int .i64 T.sys.states, .slice aE1 T.sys.edges.length cE1, .int .i64 T.prop.alphabet, .slice aN1 T.prop.next.length cN1, .slice aA1 T.prop.accept.length cA1, .int .i64 T.alphabet], .string ByteArray.empty] w' (Grows (.bool sw) w') from fun w' h => by have := SafeWord_c _ T ByteArray.empty w' (HT.out _ h) (by decide) (HD.out _ h); rwa [hsw] at this)
  clear hsw CP CS HRR HBB
  have heq2 : (sw == sw) = true := by simp
  go_wp2_with fail
  refine (CM.out _ hy).mono ?_
  rintro e w8 ⟨u8, rfl, he8, hO8⟩
  clear bT_0 bT_1 bT_2 bT_3 bT_4 bT_5 bT_6 b4_0 b4_1 b4_2 b6_0 b6_1 b6_2
  obtain ⟨vN8, vA8, rfl, hO8'⟩ := hO8
  obtain ⟨aN8, cN8, rfl⟩ := hO8'.1.shape
  obtain ⟨aA8, cA8, rfl⟩ := hO8'.2.shape
  have hN8 := hO8'.1.intss
  have hA8 := hO8'.2.bools
  have HW8 := Lib.hid (show ∀ w', Ext w8 w' → AutoV w' (.agg #[.int .i64 R.alphabet, .slice aN8 R.next.length cN8, .slice aA8 R.accept.length cA8]) R from fun w' h => ⟨_, _, rfl, hN8.mono h, hA8.mono h⟩)
  have CG8 := Lib.hid (show ∀ w', Ext w8 w' → Ext w3 w' → Calls Tryz.prog 27 #[.agg #[.int .i64 R.alphabet, .slice aN8 R.next.length cN8, .slice aA8 R.accept.length cA8], .agg #[.int .i64 R.alphabet, .slice aN4 R.next.length cN4, .slice aA4 R.accept.length cA4]] w' (Grows (.bool true) w') from fun w' h h' => by have := agAutomata_c _ _ R R w' (HW8.out _ h) (HW4.out _ h'); simpa using this)
  clear hO8' hN8 hA8
  replace bT := (bT.ext he8).ext (Ext.alloc w8 (.cells #[.int .i64 R.alphabet, .slice aN8 R.next.length cN8, .slice aA8 R.accept.length cA8] 29))
  replace b4 := (b4.ext he8).ext (Ext.alloc w8 (.cells #[.int .i64 R.alphabet, .slice aN8 R.next.length cN8, .slice aA8 R.accept.length cA8] 29))
  replace hx := (hx.trans he8).trans (Ext.alloc w8 (.cells #[.int .i64 R.alphabet, .slice aN8 R.next.length cN8, .slice aA8 R.accept.length cA8] 29))
  replace hy := (hy.trans he8).trans (Ext.alloc w8 (.cells #[.int .i64 R.alphabet, .slice aN8 R.next.length cN8, .slice aA8 R.accept.length cA8] 29))
  have hu : Ext w8 (w8.alloc (.cells #[.int .i64 R.alphabet, .slice aN8 R.next.length cN8, .slice aA8 R.accept.length cA8] 29)) := Ext.alloc _ _
  have b8 : Blk (w8.alloc (.cells #[.int .i64 R.alphabet, .slice aN8 R.next.length cN8, .slice aA8 R.accept.length cA8] 29)) w8.heap.size #[.int .i64 R.alphabet, .slice aN8 R.next.length cN8, .slice aA8 R.accept.length cA8] 29 := Ext.blk (Ext.refl _)
  clear b6 he8 hz
  go_wp2_with fail
  generalize w8.alloc (.cells #[.int .i64 R.alphabet, .slice aN8 R.next.length cN8, .slice aA8 R.accept.length cA8] 29) = w9 at hx hy hu bT b4 b8 ⊢
  have D50 := fun d os => cell_regrown (bT.cell 0 rfl) d os; have D51 := fun d os => cell_regrown (bT.cell 1 rfl) d os; have D52 := fun d os => cell_regrown (bT.cell 2 rfl) d os; have D53 := fun d os => cell_regrown (bT.cell 3 rfl) d os; have D54 := fun d os => cell_regrown (bT.cell 4 rfl) d os; have D55 := fun d os => cell_regrown (bT.cell 5 rfl) d os; have D56 := fun d os => cell_regrown (bT.cell 6 rfl) d os
  have D60 := fun d os => cell_regrown (b4.cell 0 rfl) d os; have D61 := fun d os => cell_regrown (b4.cell 1 rfl) d os; have D62 := fun d os => cell_regrown (b4.cell 2 rfl) d os
  have D80 := fun d os => cell_regrown (b8.cell 0 rfl) d os; have D81 := fun d os => cell_regrown (b8.cell 1 rfl) d os; have D82 := fun d os => cell_regrown (b8.cell 2 rfl) d os
  refine wp_region_quiet_below (by kernel_rfl) (by kernel_rfl) ?_
  repeat (go_big_quiet_step ((first | (go_at_call 27; exact Grows.quiet (CG8.out _ (hu.trans (below_regrown _ _ _)) (hy.trans (below_regrown _ _ _)))) | (go_at_call 31; exact Grows.quiet (CI.out _ (hy.trans (below_regrown _ _ _)))) | (go_at_call 29; exact Grows.quiet (CA.out _ (hy.trans (below_regrown _ _ _)))) | (go_at_call 30; exact Grows.quiet (CB.out _ (hx.trans (below_regrown _ _ _)))))))
  refine wpQuiet_nil ?_
  intro _ hw'
  obtain ⟨⟨dq, osq⟩, hw''⟩ := hw'
  subst hw''
  have hq2 : Ext w9 (Go.Sort.grow (redrawn w9 dq) osq) := below_regrown w9 dq osq
  generalize Go.Sort.grow (redrawn w9 dq) osq = wq at hq2 ⊢
  go_wp2_with fail
  go_ret
  exact Grows.mk (by simp) ((he1.trans hx).trans hq2)

end Go.Proofs.YtajafdblmphglaaGreatDoor.lawFnWeakestMinimal
