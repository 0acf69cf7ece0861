/- Part of this seat's proofs, cut to what its law needs. -/

import Derived.Test.YtadplnbadfnlfaaGreatDoorDrawE
import Derived.Test.YtadplnbadfnlfaaGreatDoorAgD
import Derived.Test.YtadplnbadfnlfaaGreatDoorWalkMi
import Derived.Test.YtadplnbadfnlfaaGreatDoorPlainQ
import Derived.Test.YtadplnbadfnlfaaGreatDoorWalkTt
import Derived.Test.YtadplnbadfnlfaaGreatDoorDet
import Derived.Test.YtadplnbadfnlfaaGreatDoorDrawL
namespace Go.Proofs.YtadplnbadfnlfaaGreatDoor.lawFnKeepsMinimal
open Go.ChangeShapes Go.WideShapes Go.ChangeAt Go.RowKit
open Go.Proofs.YtadplnbadfnlfaaGreatDoor
open Go.ChangeMaps (open_string shut_string)
set_option linter.unusedVariables false
set_option linter.unusedSimpArgs false
set_option maxHeartbeats 1600000
set_option maxRecDepth 100000

theorem walk (v0 : Value) (t0 : List UInt8) (w : World) (hv0 : BytesV w v0 t0) (hD : Deb w) : Calls Tryz.prog 9 #[v0] w (Grows (.bool true) w) := by
  obtain ⟨aB, cB, rfl, hleB, -⟩ := hv0.open
  have HDb := Lib.hid hD
  clear hD
  by_cases hz0 : 1048576 < t0.length
  · go_enter Tryz.func9, Tryz.ntmps9
    go_wp2_with fail
    go_ret
    exact Grows.mk rfl (Ext.refl _)
  go_enter Tryz.func9, Tryz.ntmps9
  go_wp2_with fail
  refine (DrawFirstViolation_t _ t0 _ hv0 (by omega)).mono ?_
  rintro e w1 ⟨r, D, rfl, he1, hD1, hT1, s, p, rfl, hS, hP⟩
  obtain ⟨S, hSe1, hSV1⟩ := hS.sys hT1
  obtain ⟨vE1, rfl, hE1⟩ := hSV1
  obtain ⟨aE1, cE1, rfl, -, -⟩ := hE1.open
  obtain ⟨P, hPn2, hPa2, hPV2⟩ := hP.auto hT1
  obtain ⟨vN2, vA2, rfl, hN2, hA2⟩ := hPV2
  obtain ⟨aN2, cN2, rfl, -, -⟩ := hN2.open
  obtain ⟨aA2, cA2, rfl, -, -⟩ := hA2.open
  have HS := Lib.hid (show ∀ w', Ext w1 w' → SysV w' (.agg #[.int .i64 S.alphabet, .int .i64 S.states, .slice aE1 S.edges.length cE1]) S from fun w' h => ⟨_, rfl, hE1.mono h⟩)
  have HP := Lib.hid (show ∀ w', Ext w1 w' → AutoV w' (.agg #[.int .i64 P.alphabet, .slice aN2 P.next.length cN2, .slice aA2 P.accept.length cA2]) P from fun w' h => ⟨_, _, rfl, hN2.mono h, hA2.mono h⟩)
  have HD := Lib.hid (show ∀ w', Ext w1 w' → Deb w' from fun w' h => HDb.out.ext (he1.trans h))
  obtain ⟨rr, hrr⟩ : ∃ rr, pvOf [S] P = rr := ⟨_, rfl⟩
  have HR := Lib.hid hrr
  obtain ⟨tx, htx⟩ : ∃ tx, rtext rr = tx := ⟨_, rfl⟩
  obtain ⟨bx, hbx⟩ : ∃ bx, rr.isSome = bx := ⟨_, rfl⟩
  have HTX := Lib.hid htx
  have HBX := Lib.hid hbx
  have C1 := Lib.hid (show ∀ w', Ext w1 w' → Calls Tryz.prog 17 #[.agg #[.int .i64 S.alphabet, .int .i64 S.states, .slice aE1 S.edges.length cE1], .agg #[.int .i64 P.alphabet, .slice aN2 P.next.length cN2, .slice aA2 P.accept.length cA2]] w' (Grows (.tuple #[.string tx, .bool bx]) w') from fun w' h => by have := FirstViolation_cd _ _ S P _ (HS.out _ h) (HP.out _ h) (HD.out _ h); rwa [HR.out, HTX.out, HBX.out] at this)
  have C2 := Lib.hid (show ∀ w', Ext w1 w' → Calls Tryz.prog 42 #[.agg #[.int .i64 S.alphabet, .int .i64 S.states, .slice aE1 S.edges.length cE1], .agg #[.int .i64 P.alphabet, .slice aN2 P.next.length cN2, .slice aA2 P.accept.length cA2]] w' (Grows (.tuple #[.string tx, .bool bx]) w') from fun w' h => by have := FirstViolation_sd _ _ S P _ (HS.out _ h) (HP.out _ h) (by omega); rwa [HR.out, HTX.out, HBX.out] at this)
  have HEL := Lib.hid (show S.edges.length ≤ 100000 by omega)
  clear hE1 hN2 hA2 hS hP hT1 hD1 hrr htx hbx
  have hx : Ext w1 ((w1.alloc (.cells #[.int .i64 S.alphabet, .int .i64 S.states, .slice aE1 S.edges.length cE1] 25)).alloc (.cells #[.int .i64 P.alphabet, .slice aN2 P.next.length cN2, .slice aA2 P.accept.length cA2] 31)) := (Ext.alloc _ _).trans (Ext.alloc _ _)
  have b3 : Blk ((w1.alloc (.cells #[.int .i64 S.alphabet, .int .i64 S.states, .slice aE1 S.edges.length cE1] 25)).alloc (.cells #[.int .i64 P.alphabet, .slice aN2 P.next.length cN2, .slice aA2 P.accept.length cA2] 31)) w1.heap.size #[.int .i64 S.alphabet, .int .i64 S.states, .slice aE1 S.edges.length cE1] 25 := Ext.blk (Ext.alloc _ _)
  have b4 : Blk ((w1.alloc (.cells #[.int .i64 S.alphabet, .int .i64 S.states, .slice aE1 S.edges.length cE1] 25)).alloc (.cells #[.int .i64 P.alphabet, .slice aN2 P.next.length cN2, .slice aA2 P.accept.length cA2] 31)) (w1.heap.size + 1) #[.int .i64 P.alphabet, .slice aN2 P.next.length cN2, .slice aA2 P.accept.length cA2] 31 := Ext.blk1 (Ext.refl _)
  go_wp2_with fail
  generalize ((w1.alloc (.cells #[.int .i64 S.alphabet, .int .i64 S.states, .slice aE1 S.edges.length cE1] 25)).alloc (.cells #[.int .i64 P.alphabet, .slice aN2 P.next.length cN2, .slice aA2 P.accept.length cA2] 31)) = w2 at hx b3 b4 ⊢
  have b3_0 := b3.cell 0 rfl; have b3_1 := b3.cell 1 rfl; have b3_2 := b3.cell 2 rfl; have b4_0 := b4.cell 0 rfl; have b4_1 := b4.cell 1 rfl; have b4_2 := b4.cell 2 rfl
  go_wp2_with fail
  refine (C1.out _ hx).mono ?_
  rintro e wz1 ⟨rfl, hez1⟩
  clear b3_0 b3_1 b3_2 b4_0 b4_1 b4_2
  replace b3 := b3.ext hez1
  replace b4 := b4.ext hez1
  replace hx := hx.trans hez1
  have b3_0 := b3.cell 0 rfl; have b3_1 := b3.cell 1 rfl; have b3_2 := b3.cell 2 rfl; have b4_0 := b4.cell 0 rfl; have b4_1 := b4.cell 1 rfl; have b4_2 := b4.cell 2 rfl
  go_wp2_with fail
  refine (C2.out _ hx).mono ?_
  rintro e wz2 ⟨rfl, hez2⟩
  clear b3_0 b3_1 b3_2 b4_0 b4_1 b4_2
  replace b3 := b3.ext hez2
  replace b4 := b4.ext hez2
  replace hx := hx.trans hez2
  have b3_0 := b3.cell 0 rfl; have b3_1 := b3.cell 1 rfl; have b3_2 := b3.cell 2 rfl; have b4_0 := b4.cell 0 rfl; have b4_1 := b4.cell 1 rfl; have b4_2 := b4.cell 2 rfl
  have heq1 : (tx != tx) = false := by cases tx with | mk d => show (!(d == d)) = false; simp
  have heq2 : (bx != bx) = false := by simp
  have heq3 : (tx == tx) = true := by cases tx with | mk d => show (d == d) = true; simp
  have heq4 : (bx == bx) = true := by simp
  by_cases hs : sysValid S = true
  case neg =>
    have hs : sysValid S = false := by simpa using hs
    go_wp2_with fail
    refine (SystemValid_b hs (HS.out _ hx)).mono ?_
    rintro e wz3 ⟨rfl, hez3⟩
    clear b3_0 b3_1 b3_2 b4_0 b4_1 b4_2
    replace b3 := b3.ext hez3
    replace b4 := b4.ext hez3
    replace hx := hx.trans hez3
    have b3_0 := b3.cell 0 rfl; have b3_1 := b3.cell 1 rfl; have b3_2 := b3.cell 2 rfl; have b4_0 := b4.cell 0 rfl; have b4_1 := b4.cell 1 rfl; have b4_2 := b4.cell 2 rfl
    go_wp2_with fail
    go_ret
    exact Grows.mk (by simp [heq3]) (he1.trans hx)
  go_wp2_with fail
  refine (SystemValid_b hs (HS.out _ hx)).mono ?_
  rintro e wz4 ⟨rfl, hez4⟩
  clear b3_0 b3_1 b3_2 b4_0 b4_1 b4_2
  replace b3 := b3.ext hez4
  replace b4 := b4.ext hez4
  replace hx := hx.trans hez4
  have b3_0 := b3.cell 0 rfl; have b3_1 := b3.cell 1 rfl; have b3_2 := b3.cell 2 rfl; have b4_0 := b4.cell 0 rfl; have b4_1 := b4.cell 1 rfl; have b4_2 := b4.cell 2 rfl
  by_cases hp : autoValid P = true
  case neg =>
    have hp : autoValid P = false := by simpa using hp
    go_wp2_with fail
    refine (AutomatonValid_b hp (HP.out _ hx)).mono ?_
    rintro e wz5 ⟨rfl, hez5⟩
    clear b3_0 b3_1 b3_2 b4_0 b4_1 b4_2
    replace b3 := b3.ext hez5
    replace b4 := b4.ext hez5
    replace hx := hx.trans hez5
    have b3_0 := b3.cell 0 rfl; have b3_1 := b3.cell 1 rfl; have b3_2 := b3.cell 2 rfl; have b4_0 := b4.cell 0 rfl; have b4_1 := b4.cell 1 rfl; have b4_2 := b4.cell 2 rfl
    go_wp2_with fail
    go_ret
    exact Grows.mk (by simp [heq3]) (he1.trans hx)
  go_wp2_with fail
  refine (AutomatonValid_b hp (HP.out _ hx)).mono ?_
  rintro e wz6 ⟨rfl, hez6⟩
  clear b3_0 b3_1 b3_2 b4_0 b4_1 b4_2
  replace b3 := b3.ext hez6
  replace b4 := b4.ext hez6
  replace hx := hx.trans hez6
  have b3_0 := b3.cell 0 rfl; have b3_1 := b3.cell 1 rfl; have b3_2 := b3.cell 2 rfl; have b4_0 := b4.cell 0 rfl; have b4_1 := b4.cell 1 rfl; have b4_2 := b4.cell 2 rfl
  have HVS := Lib.hid hs
  have HVP := Lib.hid hp
  clear hs hp C1 C2
  go_wp2_with fail
  refine (MinimizeAutomaton_c _ P _ (HP.out _ hx)).mono ?_
  rintro e w9 ⟨he9, hM⟩
  obtain ⟨C, u9, rfl, hC, hO9⟩ : ∃ C u, e = .returned (.tuple #[u, .bool true]) ∧ IsMin (res P 0) P.alphabet C ∧ AutoOwn _ w9 u C := by
    rcases hM with ⟨hf, -⟩ | ⟨-, u, C, rfl, hC, hO⟩
    · rw [HVP.out] at hf; cases hf
    · exact ⟨C, u, rfl, hC, hO⟩
  have HC := Lib.hid (show autoValid C = true ∧ ∀ v, accepts C (run C 0 v) = accepts P (run P 0 v) by
    obtain ⟨a0, a63, f1, f2, -⟩ := autoValid_facts HVP.out
    refine ⟨hC.valid (by simp only [isAlpha, Bool.and_eq_true, decide_eq_true_eq]; exact ⟨a0, a63⟩) (Nat.le_trans (IsMin.le HVP.out hC) f2), fun v => ?_⟩
    exact hC.accepts a0 a63 (res_blind P 0) v)
  clear hC
  clear b3_0 b3_1 b3_2 b4_0 b4_1 b4_2
  obtain ⟨vN9, vA9, rfl, hO9'⟩ := hO9
  obtain ⟨aN9, cN9, rfl⟩ := hO9'.1.shape
  obtain ⟨aA9, cA9, rfl⟩ := hO9'.2.shape
  have hN9 := hO9'.1.intss
  have hA9 := hO9'.2.bools
  have HW9 := Lib.hid (show ∀ w', Ext w9 w' → AutoV w' (.agg #[.int .i64 C.alphabet, .slice aN9 C.next.length cN9, .slice aA9 C.accept.length cA9]) C from fun w' h => ⟨_, _, rfl, hN9.mono h, hA9.mono h⟩)
  clear hO9' hN9 hA9
  have db3_0 := fun o => ((b3.ext he9).ext (Ext.alloc w9 o)).cell 0 rfl; have db3_1 := fun o => ((b3.ext he9).ext (Ext.alloc w9 o)).cell 1 rfl; have db3_2 := fun o => ((b3.ext he9).ext (Ext.alloc w9 o)).cell 2 rfl
  replace b3 := (b3.ext he9).ext (Ext.alloc w9 (.cells #[.int .i64 C.alphabet, .slice aN9 C.next.length cN9, .slice aA9 C.accept.length cA9] 31))
  have db4_0 := fun o => ((b4.ext he9).ext (Ext.alloc w9 o)).cell 0 rfl; have db4_1 := fun o => ((b4.ext he9).ext (Ext.alloc w9 o)).cell 1 rfl; have db4_2 := fun o => ((b4.ext he9).ext (Ext.alloc w9 o)).cell 2 rfl
  replace b4 := (b4.ext he9).ext (Ext.alloc w9 (.cells #[.int .i64 C.alphabet, .slice aN9 C.next.length cN9, .slice aA9 C.accept.length cA9] 31))
  replace hx := (hx.trans he9).trans (Ext.alloc w9 (.cells #[.int .i64 C.alphabet, .slice aN9 C.next.length cN9, .slice aA9 C.accept.length cA9] 31))
  have h9 : Ext w9 (w9.alloc (.cells #[.int .i64 C.alphabet, .slice aN9 C.next.length cN9, .slice aA9 C.accept.length cA9] 31)) := Ext.alloc _ _
  clear he9
  have b9 : Blk (w9.alloc (.cells #[.int .i64 C.alphabet, .slice aN9 C.next.length cN9, .slice aA9 C.accept.length cA9] 31)) w9.heap.size #[.int .i64 C.alphabet, .slice aN9 C.next.length cN9, .slice aA9 C.accept.length cA9] 31 := Ext.blk (Ext.refl _)
  go_wp2_with fail
  clear db3_0 db3_1 db3_2 db4_0 db4_1 db4_2
  generalize (w9.alloc (.cells #[.int .i64 C.alphabet, .slice aN9 C.next.length cN9, .slice aA9 C.accept.length cA9] 31)) = w10 at hx h9 b9 b3 b4 ⊢
  have b3_0 := b3.cell 0 rfl; have b3_1 := b3.cell 1 rfl; have b3_2 := b3.cell 2 rfl; have b4_0 := b4.cell 0 rfl; have b4_1 := b4.cell 1 rfl; have b4_2 := b4.cell 2 rfl; have b9_0 := b9.cell 0 rfl; have b9_1 := b9.cell 1 rfl; have b9_2 := b9.cell 2 rfl
  refine (TrimSystem_c _ S _ (HS.out _ hx) HVS.out HEL.out (HD.out _ hx)).mono ?_
  rintro e w11 ⟨f, ve, hf, rfl, he11, hE⟩
  have HF := Lib.hid hf
  clear hf
  have hvE := hE.edges
  obtain ⟨Z, hZ⟩ : ∃ Z, subS S f = Z := ⟨_, rfl⟩
  rw [hZ] at hvE ⊢
  have HZ := Lib.hid hZ
  obtain ⟨aE7, cE7, rfl, -, -⟩ := hvE.open
  have HZV := Lib.hid (show ∀ w', Ext w11 w' → SysV w' (.agg #[.int .i64 Z.alphabet, .int .i64 Z.states, .slice aE7 Z.edges.length cE7]) Z from fun w' h => ⟨_, rfl, hvE.mono h⟩)
  clear hE hvE hZ b3_0 b3_1 b3_2 b4_0 b4_1 b4_2 b9_0 b9_1 b9_2 b3 b4
  have d9_0 := fun o => ((b9.ext he11).ext (Ext.alloc w11 o)).cell 0 rfl
  have d9_1 := fun o => ((b9.ext he11).ext (Ext.alloc w11 o)).cell 1 rfl
  have d9_2 := fun o => ((b9.ext he11).ext (Ext.alloc w11 o)).cell 2 rfl
  go_wp2_with fail
  have hxa := (hx.trans he11).trans (Ext.alloc w11 (.cells #[.int .i64 Z.alphabet, .int .i64 Z.states, .slice aE7 Z.edges.length cE7] 25))
  have h9a := (h9.trans he11).trans (Ext.alloc w11 (.cells #[.int .i64 Z.alphabet, .int .i64 Z.states, .slice aE7 Z.edges.length cE7] 25))
  refine (FirstViolation_cd _ _ Z C _ (HZV.out _ (Ext.alloc _ _)) (HW9.out _ h9a) (HD.out _ hxa)).mono ?_
  rw [show pvOf [Z] C = rr by rw [← HZ.out, pv_forms HVS.out HF.out HVP.out HC.out.1 HC.out.2, HR.out], HTX.out, HBX.out]
  rintro e w12 ⟨rfl, he12⟩
  go_wp2_with fail
  go_ret
  exact Grows.mk (by simp [heq3]) ((he1.trans hxa).trans he12)

end Go.Proofs.YtadplnbadfnlfaaGreatDoor.lawFnKeepsMinimal
