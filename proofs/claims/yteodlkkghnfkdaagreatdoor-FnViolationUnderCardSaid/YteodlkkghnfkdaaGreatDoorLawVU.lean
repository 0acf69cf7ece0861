/- FnViolationUnder: for all bytes, a violation under the drawn assumption is a trace that the assumption accepts and that breaks the property: the law answers true. -/
import Derived.Test.YteodlkkghnfkdaaGreatDoorDrawE
import Derived.Test.YteodlkkghnfkdaaGreatDoorWalkT
import Derived.Test.YteodlkkghnfkdaaGreatDoorDet
import Derived.Test.YteodlkkghnfkdaaGreatDoorCard
import Derived.Test.YteodlkkghnfkdaaGreatDoorDrawL
namespace Go.Proofs.YteodlkkghnfkdaaGreatDoor.lawFnViolationUnder
open Go.ChangeShapes Go.WideShapes Go.ChangeAt Go.RowKit
open Go.Proofs.YteodlkkghnfkdaaGreatDoor
open Go.ChangeMaps (open_string shut_string)
set_option linter.unusedVariables false
set_option linter.unusedSimpArgs false
set_option maxHeartbeats 1600000
set_option maxRecDepth 100000

theorem empty_none : (rtext none).toList.isEmpty = true := by
  show (⟨#[]⟩ : ByteArray).toList.isEmpty = true
  unfold ByteArray.toList ByteArray.toList.loop
  have : ¬ 0 < ByteArray.size { data := #[] } := by decide
  rw [if_neg this]; rfl

theorem walk (v0 : Value) (t0 : List UInt8) (w : World) (hv0 : BytesV w v0 t0) (hD : Deb w) : Calls Tryz.prog 5 #[v0] w (Grows (.bool true) w) := by
  obtain ⟨aB, cB, rfl, hleB, -⟩ := hv0.open
  have HDb := Lib.hid hD
  clear hD
  by_cases hz0 : 1048576 < t0.length
  · go_enter Tryz.func5, Tryz.ntmps5
    go_wp2_with fail
    go_ret
    exact Grows.mk rfl (Ext.refl _)
  go_enter Tryz.func5, Tryz.ntmps5
  go_wp2_with fail
  refine (DrawViolationUnder_t _ t0 _ hv0 (by omega)).mono ?_
  rintro e w1 ⟨r, D, rfl, he1, hD1, hT1, s, a, p, rfl, hS, hA, hP⟩
  obtain ⟨S, hSe1, hSV1⟩ := hS.sys hT1
  obtain ⟨vE1, rfl, hE1⟩ := hSV1
  obtain ⟨aE1, cE1, rfl, -, -⟩ := hE1.open
  obtain ⟨A, hPn2, hPa2, hPV2⟩ := hA.auto hT1
  obtain ⟨vN2, vA2, rfl, hN2, hA2⟩ := hPV2
  obtain ⟨aN2, cN2, rfl, -, -⟩ := hN2.open
  obtain ⟨aA2, cA2, rfl, -, -⟩ := hA2.open
  obtain ⟨P, hPn3, hPa3, hPV3⟩ := hP.auto hT1
  obtain ⟨vN3, vA3, rfl, hN3, hA3⟩ := hPV3
  obtain ⟨aN3, cN3, rfl, -, -⟩ := hN3.open
  obtain ⟨aA3, cA3, rfl, -, -⟩ := hA3.open
  have HS := Lib.hid (show ∀ w', Ext w1 w' → SysV w' (.agg #[.int .i64 S.alphabet, .int .i64 S.states, .slice aE1 S.edges.length cE1]) S from fun w' h => ⟨_, rfl, hE1.mono h⟩)
  have HA := Lib.hid (show ∀ w', Ext w1 w' → AutoV w' (.agg #[.int .i64 A.alphabet, .slice aN2 A.next.length cN2, .slice aA2 A.accept.length cA2]) A from fun w' h => ⟨_, _, rfl, hN2.mono h, hA2.mono h⟩)
  have HP := Lib.hid (show ∀ w', Ext w1 w' → AutoV w' (.agg #[.int .i64 P.alphabet, .slice aN3 P.next.length cN3, .slice aA3 P.accept.length cA3]) P from fun w' h => ⟨_, _, rfl, hN3.mono h, hA3.mono h⟩)
  have HD := Lib.hid (show ∀ w', Ext w1 w' → Deb w' from fun w' h => HDb.out.ext (he1.trans h))
  obtain ⟨rr, hrr⟩ : ∃ rr, vuOf S A P = rr := ⟨_, rfl⟩
  have HR := Lib.hid hrr
  have C1 := Lib.hid (show ∀ w', Ext w1 w' → Calls Tryz.prog 24 #[.agg #[.int .i64 S.alphabet, .int .i64 S.states, .slice aE1 S.edges.length cE1], .agg #[.int .i64 A.alphabet, .slice aN2 A.next.length cN2, .slice aA2 A.accept.length cA2], .agg #[.int .i64 P.alphabet, .slice aN3 P.next.length cN3, .slice aA3 P.accept.length cA3]] w' (Grows (.tuple #[.string (rtext rr), .bool rr.isSome]) w') from fun w' h => by have := ViolationUnder_cd _ _ _ S A P _ (HS.out _ h) (HA.out _ h) (HP.out _ h) (HD.out _ h); rwa [HR.out] at this)
  have C2 := Lib.hid (show ∀ w', Ext w1 w' → Calls Tryz.prog 25 #[.agg #[.int .i64 S.alphabet, .int .i64 S.states, .slice aE1 S.edges.length cE1], .agg #[.int .i64 A.alphabet, .slice aN2 A.next.length cN2, .slice aA2 A.accept.length cA2], .agg #[.int .i64 P.alphabet, .slice aN3 P.next.length cN3, .slice aA3 P.accept.length cA3]] w' (Grows (.tuple #[.string (rtext rr), .bool rr.isSome]) w') from fun w' h => by have := ViolationUnder_sd _ _ _ S A P _ (HS.out _ h) (HA.out _ h) (HP.out _ h) (by omega); rwa [HR.out] at this)
  clear hrr
  clear hE1 hN2 hA2 hN3 hA3 hS hA hP hT1 hD1
  have hx : Ext w1 (((w1.alloc (.cells #[.int .i64 S.alphabet, .int .i64 S.states, .slice aE1 S.edges.length cE1] 25)).alloc (.cells #[.int .i64 A.alphabet, .slice aN2 A.next.length cN2, .slice aA2 A.accept.length cA2] 29)).alloc (.cells #[.int .i64 P.alphabet, .slice aN3 P.next.length cN3, .slice aA3 P.accept.length cA3] 29)) := ((Ext.alloc _ _).trans (Ext.alloc _ _)).trans (Ext.alloc _ _)
  have b3 : Blk (((w1.alloc (.cells #[.int .i64 S.alphabet, .int .i64 S.states, .slice aE1 S.edges.length cE1] 25)).alloc (.cells #[.int .i64 A.alphabet, .slice aN2 A.next.length cN2, .slice aA2 A.accept.length cA2] 29)).alloc (.cells #[.int .i64 P.alphabet, .slice aN3 P.next.length cN3, .slice aA3 P.accept.length cA3] 29)) w1.heap.size #[.int .i64 S.alphabet, .int .i64 S.states, .slice aE1 S.edges.length cE1] 25 := Ext.blk ((Ext.alloc _ _).trans (Ext.alloc _ _))
  have b4 : Blk (((w1.alloc (.cells #[.int .i64 S.alphabet, .int .i64 S.states, .slice aE1 S.edges.length cE1] 25)).alloc (.cells #[.int .i64 A.alphabet, .slice aN2 A.next.length cN2, .slice aA2 A.accept.length cA2] 29)).alloc (.cells #[.int .i64 P.alphabet, .slice aN3 P.next.length cN3, .slice aA3 P.accept.length cA3] 29)) (w1.heap.size + 1) #[.int .i64 A.alphabet, .slice aN2 A.next.length cN2, .slice aA2 A.accept.length cA2] 29 := Ext.blk1 (Ext.alloc _ _)
  have b5 : Blk (((w1.alloc (.cells #[.int .i64 S.alphabet, .int .i64 S.states, .slice aE1 S.edges.length cE1] 25)).alloc (.cells #[.int .i64 A.alphabet, .slice aN2 A.next.length cN2, .slice aA2 A.accept.length cA2] 29)).alloc (.cells #[.int .i64 P.alphabet, .slice aN3 P.next.length cN3, .slice aA3 P.accept.length cA3] 29)) (w1.heap.size + 1 + 1) #[.int .i64 P.alphabet, .slice aN3 P.next.length cN3, .slice aA3 P.accept.length cA3] 29 := Ext.blk2 (Ext.refl _)
  go_wp2_with fail
  generalize (((w1.alloc (.cells #[.int .i64 S.alphabet, .int .i64 S.states, .slice aE1 S.edges.length cE1] 25)).alloc (.cells #[.int .i64 A.alphabet, .slice aN2 A.next.length cN2, .slice aA2 A.accept.length cA2] 29)).alloc (.cells #[.int .i64 P.alphabet, .slice aN3 P.next.length cN3, .slice aA3 P.accept.length cA3] 29)) = w2 at hx b3 b4 b5 ⊢
  have b3_0 := b3.cell 0 rfl; have b3_1 := b3.cell 1 rfl; have b3_2 := b3.cell 2 rfl; have b4_0 := b4.cell 0 rfl; have b4_1 := b4.cell 1 rfl; have b4_2 := b4.cell 2 rfl; have b5_0 := b5.cell 0 rfl; have b5_1 := b5.cell 1 rfl; have b5_2 := b5.cell 2 rfl
  go_wp2_with fail
  refine (C1.out _ hx).mono ?_
  rintro e wz1 ⟨rfl, hez1⟩
  clear b3_0 b3_1 b3_2 b4_0 b4_1 b4_2 b5_0 b5_1 b5_2
  replace b3 := b3.ext hez1
  replace b4 := b4.ext hez1
  replace b5 := b5.ext hez1
  replace hx := hx.trans hez1
  have b3_0 := b3.cell 0 rfl; have b3_1 := b3.cell 1 rfl; have b3_2 := b3.cell 2 rfl; have b4_0 := b4.cell 0 rfl; have b4_1 := b4.cell 1 rfl; have b4_2 := b4.cell 2 rfl; have b5_0 := b5.cell 0 rfl; have b5_1 := b5.cell 1 rfl; have b5_2 := b5.cell 2 rfl
  go_wp2_with fail
  refine (C2.out _ hx).mono ?_
  rintro e wz2 ⟨rfl, hez2⟩
  clear b3_0 b3_1 b3_2 b4_0 b4_1 b4_2 b5_0 b5_1 b5_2
  replace b3 := b3.ext hez2
  replace b4 := b4.ext hez2
  replace b5 := b5.ext hez2
  replace hx := hx.trans hez2
  have b3_0 := b3.cell 0 rfl; have b3_1 := b3.cell 1 rfl; have b3_2 := b3.cell 2 rfl; have b4_0 := b4.cell 0 rfl; have b4_1 := b4.cell 1 rfl; have b4_2 := b4.cell 2 rfl; have b5_0 := b5.cell 0 rfl; have b5_1 := b5.cell 1 rfl; have b5_2 := b5.cell 2 rfl
  have heq2 : (rr.isSome != rr.isSome) = false := by simp
  rcases rr with _ | u
  · by_cases hs : sysValid S = true
    case neg =>
      have hs : sysValid S = false := by simpa using hs
      have hk : underB S A P = false := by unfold underB; rw [hs]; rfl
      have CK := Lib.hid (show ∀ w', Ext w1 w' → Calls Tryz.prog 26 #[.agg #[.int .i64 S.alphabet, .int .i64 S.states, .slice aE1 S.edges.length cE1], .agg #[.int .i64 A.alphabet, .slice aN2 A.next.length cN2, .slice aA2 A.accept.length cA2], .agg #[.int .i64 P.alphabet, .slice aN3 P.next.length cN3, .slice aA3 P.accept.length cA3]] w' (Grows (.bool false) w') from fun w' h => by have := KeepsUnder_cd _ _ _ S A P _ (HS.out _ h) (HA.out _ h) (HP.out _ h) (HD.out _ h); rwa [hk] at this)
      go_wp2_with fail
      refine (SystemValid_b hs (HS.out _ hx)).mono ?_
      rintro e wz3 ⟨rfl, hez3⟩
      clear b3_0 b3_1 b3_2 b4_0 b4_1 b4_2 b5_0 b5_1 b5_2
      replace b3 := b3.ext hez3
      replace b4 := b4.ext hez3
      replace b5 := b5.ext hez3
      replace hx := hx.trans hez3
      have b3_0 := b3.cell 0 rfl; have b3_1 := b3.cell 1 rfl; have b3_2 := b3.cell 2 rfl; have b4_0 := b4.cell 0 rfl; have b4_1 := b4.cell 1 rfl; have b4_2 := b4.cell 2 rfl; have b5_0 := b5.cell 0 rfl; have b5_1 := b5.cell 1 rfl; have b5_2 := b5.cell 2 rfl
      go_wp2_with fail
      refine (CK.out _ hx).mono ?_
      rintro e wz4 ⟨rfl, hez4⟩
      clear b3_0 b3_1 b3_2 b4_0 b4_1 b4_2 b5_0 b5_1 b5_2
      replace b3 := b3.ext hez4
      replace b4 := b4.ext hez4
      replace b5 := b5.ext hez4
      replace hx := hx.trans hez4
      have b3_0 := b3.cell 0 rfl; have b3_1 := b3.cell 1 rfl; have b3_2 := b3.cell 2 rfl; have b4_0 := b4.cell 0 rfl; have b4_1 := b4.cell 1 rfl; have b4_2 := b4.cell 2 rfl; have b5_0 := b5.cell 0 rfl; have b5_1 := b5.cell 1 rfl; have b5_2 := b5.cell 2 rfl
      go_wp2_with fail
      go_ret
      exact Grows.mk (congrArg Value.bool empty_none) (he1.trans hx)
    by_cases ha : autoValid A = true
    case neg =>
      have ha : autoValid A = false := by simpa using ha
      have hk : underB S A P = false := by unfold underB; rw [hs, ha]; rfl
      have CK := Lib.hid (show ∀ w', Ext w1 w' → Calls Tryz.prog 26 #[.agg #[.int .i64 S.alphabet, .int .i64 S.states, .slice aE1 S.edges.length cE1], .agg #[.int .i64 A.alphabet, .slice aN2 A.next.length cN2, .slice aA2 A.accept.length cA2], .agg #[.int .i64 P.alphabet, .slice aN3 P.next.length cN3, .slice aA3 P.accept.length cA3]] w' (Grows (.bool false) w') from fun w' h => by have := KeepsUnder_cd _ _ _ S A P _ (HS.out _ h) (HA.out _ h) (HP.out _ h) (HD.out _ h); rwa [hk] at this)
      go_wp2_with fail
      refine (SystemValid_b hs (HS.out _ hx)).mono ?_
      rintro e wz5 ⟨rfl, hez5⟩
      clear b3_0 b3_1 b3_2 b4_0 b4_1 b4_2 b5_0 b5_1 b5_2
      replace b3 := b3.ext hez5
      replace b4 := b4.ext hez5
      replace b5 := b5.ext hez5
      replace hx := hx.trans hez5
      have b3_0 := b3.cell 0 rfl; have b3_1 := b3.cell 1 rfl; have b3_2 := b3.cell 2 rfl; have b4_0 := b4.cell 0 rfl; have b4_1 := b4.cell 1 rfl; have b4_2 := b4.cell 2 rfl; have b5_0 := b5.cell 0 rfl; have b5_1 := b5.cell 1 rfl; have b5_2 := b5.cell 2 rfl
      go_wp2_with fail
      refine (AutomatonValid_b ha (HA.out _ hx)).mono ?_
      rintro e wz6 ⟨rfl, hez6⟩
      clear b3_0 b3_1 b3_2 b4_0 b4_1 b4_2 b5_0 b5_1 b5_2
      replace b3 := b3.ext hez6
      replace b4 := b4.ext hez6
      replace b5 := b5.ext hez6
      replace hx := hx.trans hez6
      have b3_0 := b3.cell 0 rfl; have b3_1 := b3.cell 1 rfl; have b3_2 := b3.cell 2 rfl; have b4_0 := b4.cell 0 rfl; have b4_1 := b4.cell 1 rfl; have b4_2 := b4.cell 2 rfl; have b5_0 := b5.cell 0 rfl; have b5_1 := b5.cell 1 rfl; have b5_2 := b5.cell 2 rfl
      go_wp2_with fail
      refine (CK.out _ hx).mono ?_
      rintro e wz7 ⟨rfl, hez7⟩
      clear b3_0 b3_1 b3_2 b4_0 b4_1 b4_2 b5_0 b5_1 b5_2
      replace b3 := b3.ext hez7
      replace b4 := b4.ext hez7
      replace b5 := b5.ext hez7
      replace hx := hx.trans hez7
      have b3_0 := b3.cell 0 rfl; have b3_1 := b3.cell 1 rfl; have b3_2 := b3.cell 2 rfl; have b4_0 := b4.cell 0 rfl; have b4_1 := b4.cell 1 rfl; have b4_2 := b4.cell 2 rfl; have b5_0 := b5.cell 0 rfl; have b5_1 := b5.cell 1 rfl; have b5_2 := b5.cell 2 rfl
      go_wp2_with fail
      go_ret
      exact Grows.mk (congrArg Value.bool empty_none) (he1.trans hx)
    by_cases hp : autoValid P = true
    case neg =>
      have hp : autoValid P = false := by simpa using hp
      have hk : underB S A P = false := by unfold underB; rw [hs, ha, hp]; rfl
      have CK := Lib.hid (show ∀ w', Ext w1 w' → Calls Tryz.prog 26 #[.agg #[.int .i64 S.alphabet, .int .i64 S.states, .slice aE1 S.edges.length cE1], .agg #[.int .i64 A.alphabet, .slice aN2 A.next.length cN2, .slice aA2 A.accept.length cA2], .agg #[.int .i64 P.alphabet, .slice aN3 P.next.length cN3, .slice aA3 P.accept.length cA3]] w' (Grows (.bool false) w') from fun w' h => by have := KeepsUnder_cd _ _ _ S A P _ (HS.out _ h) (HA.out _ h) (HP.out _ h) (HD.out _ h); rwa [hk] at this)
      go_wp2_with fail
      refine (SystemValid_b hs (HS.out _ hx)).mono ?_
      rintro e wz8 ⟨rfl, hez8⟩
      clear b3_0 b3_1 b3_2 b4_0 b4_1 b4_2 b5_0 b5_1 b5_2
      replace b3 := b3.ext hez8
      replace b4 := b4.ext hez8
      replace b5 := b5.ext hez8
      replace hx := hx.trans hez8
      have b3_0 := b3.cell 0 rfl; have b3_1 := b3.cell 1 rfl; have b3_2 := b3.cell 2 rfl; have b4_0 := b4.cell 0 rfl; have b4_1 := b4.cell 1 rfl; have b4_2 := b4.cell 2 rfl; have b5_0 := b5.cell 0 rfl; have b5_1 := b5.cell 1 rfl; have b5_2 := b5.cell 2 rfl
      go_wp2_with fail
      refine (AutomatonValid_b ha (HA.out _ hx)).mono ?_
      rintro e wz9 ⟨rfl, hez9⟩
      clear b3_0 b3_1 b3_2 b4_0 b4_1 b4_2 b5_0 b5_1 b5_2
      replace b3 := b3.ext hez9
      replace b4 := b4.ext hez9
      replace b5 := b5.ext hez9
      replace hx := hx.trans hez9
      have b3_0 := b3.cell 0 rfl; have b3_1 := b3.cell 1 rfl; have b3_2 := b3.cell 2 rfl; have b4_0 := b4.cell 0 rfl; have b4_1 := b4.cell 1 rfl; have b4_2 := b4.cell 2 rfl; have b5_0 := b5.cell 0 rfl; have b5_1 := b5.cell 1 rfl; have b5_2 := b5.cell 2 rfl
      go_wp2_with fail
      refine (AutomatonValid_b hp (HP.out _ hx)).mono ?_
      rintro e wz10 ⟨rfl, hez10⟩
      clear b3_0 b3_1 b3_2 b4_0 b4_1 b4_2 b5_0 b5_1 b5_2
      replace b3 := b3.ext hez10
      replace b4 := b4.ext hez10
      replace b5 := b5.ext hez10
      replace hx := hx.trans hez10
      have b3_0 := b3.cell 0 rfl; have b3_1 := b3.cell 1 rfl; have b3_2 := b3.cell 2 rfl; have b4_0 := b4.cell 0 rfl; have b4_1 := b4.cell 1 rfl; have b4_2 := b4.cell 2 rfl; have b5_0 := b5.cell 0 rfl; have b5_1 := b5.cell 1 rfl; have b5_2 := b5.cell 2 rfl
      go_wp2_with fail
      refine (CK.out _ hx).mono ?_
      rintro e wz11 ⟨rfl, hez11⟩
      clear b3_0 b3_1 b3_2 b4_0 b4_1 b4_2 b5_0 b5_1 b5_2
      replace b3 := b3.ext hez11
      replace b4 := b4.ext hez11
      replace b5 := b5.ext hez11
      replace hx := hx.trans hez11
      have b3_0 := b3.cell 0 rfl; have b3_1 := b3.cell 1 rfl; have b3_2 := b3.cell 2 rfl; have b4_0 := b4.cell 0 rfl; have b4_1 := b4.cell 1 rfl; have b4_2 := b4.cell 2 rfl; have b5_0 := b5.cell 0 rfl; have b5_1 := b5.cell 1 rfl; have b5_2 := b5.cell 2 rfl
      go_wp2_with fail
      go_ret
      exact Grows.mk (congrArg Value.bool empty_none) (he1.trans hx)
    have hk : underB S A P = true := by unfold underB; rw [hs, ha, hp, HR.out]; rfl
    have CK := Lib.hid (show ∀ w', Ext w1 w' → Calls Tryz.prog 26 #[.agg #[.int .i64 S.alphabet, .int .i64 S.states, .slice aE1 S.edges.length cE1], .agg #[.int .i64 A.alphabet, .slice aN2 A.next.length cN2, .slice aA2 A.accept.length cA2], .agg #[.int .i64 P.alphabet, .slice aN3 P.next.length cN3, .slice aA3 P.accept.length cA3]] w' (Grows (.bool true) w') from fun w' h => by have := KeepsUnder_cd _ _ _ S A P _ (HS.out _ h) (HA.out _ h) (HP.out _ h) (HD.out _ h); rwa [hk] at this)
    go_wp2_with fail
    refine (SystemValid_b hs (HS.out _ hx)).mono ?_
    rintro e wz12 ⟨rfl, hez12⟩
    clear b3_0 b3_1 b3_2 b4_0 b4_1 b4_2 b5_0 b5_1 b5_2
    replace b3 := b3.ext hez12
    replace b4 := b4.ext hez12
    replace b5 := b5.ext hez12
    replace hx := hx.trans hez12
    have b3_0 := b3.cell 0 rfl; have b3_1 := b3.cell 1 rfl; have b3_2 := b3.cell 2 rfl; have b4_0 := b4.cell 0 rfl; have b4_1 := b4.cell 1 rfl; have b4_2 := b4.cell 2 rfl; have b5_0 := b5.cell 0 rfl; have b5_1 := b5.cell 1 rfl; have b5_2 := b5.cell 2 rfl
    go_wp2_with fail
    refine (AutomatonValid_b ha (HA.out _ hx)).mono ?_
    rintro e wz13 ⟨rfl, hez13⟩
    clear b3_0 b3_1 b3_2 b4_0 b4_1 b4_2 b5_0 b5_1 b5_2
    replace b3 := b3.ext hez13
    replace b4 := b4.ext hez13
    replace b5 := b5.ext hez13
    replace hx := hx.trans hez13
    have b3_0 := b3.cell 0 rfl; have b3_1 := b3.cell 1 rfl; have b3_2 := b3.cell 2 rfl; have b4_0 := b4.cell 0 rfl; have b4_1 := b4.cell 1 rfl; have b4_2 := b4.cell 2 rfl; have b5_0 := b5.cell 0 rfl; have b5_1 := b5.cell 1 rfl; have b5_2 := b5.cell 2 rfl
    go_wp2_with fail
    refine (AutomatonValid_b hp (HP.out _ hx)).mono ?_
    rintro e wz14 ⟨rfl, hez14⟩
    clear b3_0 b3_1 b3_2 b4_0 b4_1 b4_2 b5_0 b5_1 b5_2
    replace b3 := b3.ext hez14
    replace b4 := b4.ext hez14
    replace b5 := b5.ext hez14
    replace hx := hx.trans hez14
    have b3_0 := b3.cell 0 rfl; have b3_1 := b3.cell 1 rfl; have b3_2 := b3.cell 2 rfl; have b4_0 := b4.cell 0 rfl; have b4_1 := b4.cell 1 rfl; have b4_2 := b4.cell 2 rfl; have b5_0 := b5.cell 0 rfl; have b5_1 := b5.cell 1 rfl; have b5_2 := b5.cell 2 rfl
    go_wp2_with fail
    refine (CK.out _ hx).mono ?_
    rintro e wz15 ⟨rfl, hez15⟩
    clear b3_0 b3_1 b3_2 b4_0 b4_1 b4_2 b5_0 b5_1 b5_2
    replace b3 := b3.ext hez15
    replace b4 := b4.ext hez15
    replace b5 := b5.ext hez15
    replace hx := hx.trans hez15
    have b3_0 := b3.cell 0 rfl; have b3_1 := b3.cell 1 rfl; have b3_2 := b3.cell 2 rfl; have b4_0 := b4.cell 0 rfl; have b4_1 := b4.cell 1 rfl; have b4_2 := b4.cell 2 rfl; have b5_0 := b5.cell 0 rfl; have b5_1 := b5.cell 1 rfl; have b5_2 := b5.cell 2 rfl
    go_wp2_with fail
    go_ret
    exact Grows.mk (congrArg Value.bool empty_none) (he1.trans hx)
  · obtain ⟨hV, -⟩ := vu_some HR.out
    have hs := hV.sys
    have ha := hV.assum
    have hp := hV.prop
    have hk : underB S A P = false := by unfold underB; rw [hs, ha, hp, HR.out]; rfl
    have hal := valid_alpha hs
    have haa := autoValid_facts ha
    have hor : bits .or .i64 S.alphabet A.alphabet = allLetters [S] A := by
      obtain ⟨m, hm⟩ := Int.eq_ofNat_of_zero_le hal.1
      obtain ⟨n, hn⟩ := Int.eq_ofNat_of_zero_le haa.1
      have hm2 := hal.2.1
      have hn2 := haa.2.1
      unfold allLetters
      simp only [orTo, List.length_singleton, List.take_succ_cons, List.take_zero, List.foldl_cons, List.foldl_nil, Nat.zero_or]
      rw [hm, hn, Int.toNat_natCast, Int.toNat_natCast]
      exact i64_or_nat m n (by omega) (by omega)
    have hww : wordIn (wtext u) (bits .or .i64 S.alphabet A.alphabet) = true := by rw [hor]; exact hV.word
    have hsz : (wtext u).size ≤ 1048576 := by have := hV.size5; omega
    obtain ⟨R, hR⟩ : ∃ R, restrictW (wtext u) S.alphabet = R := ⟨_, rfl⟩
    have hR2 : restrict (wtext u) S.alphabet = R := by rw [← hR]; unfold restrictW; rw [if_pos (by rw [hV.valid]; simp [isAlpha]; exact ⟨hal.1, hal.2.1⟩)]
    have htr : hasTrace S R = true := by rw [← hR2]; exact hV.hasTrace
    have hszR : R.size ≤ 1048576 := by
      have := wordIn_restrict hal.1 hal.2.1 (s := wtext u) hV.size5
      rw [hR2] at this
      simp only [wordIn, Bool.and_eq_true, decide_eq_true_eq] at this
      omega
    have hb1 := hV.breaks.1
    have hb2 := hV.breaks.2
    have CK := Lib.hid (show ∀ w', Ext w1 w' → Calls Tryz.prog 26 #[.agg #[.int .i64 S.alphabet, .int .i64 S.states, .slice aE1 S.edges.length cE1], .agg #[.int .i64 A.alphabet, .slice aN2 A.next.length cN2, .slice aA2 A.accept.length cA2], .agg #[.int .i64 P.alphabet, .slice aN3 P.next.length cN3, .slice aA3 P.accept.length cA3]] w' (Grows (.bool false) w') from fun w' h => by have := KeepsUnder_cd _ _ _ S A P _ (HS.out _ h) (HA.out _ h) (HP.out _ h) (HD.out _ h); rwa [hk] at this)
    have CW := Lib.hid (show ∀ w', Ext w1 w' → Calls Tryz.prog 27 #[.string (rtext (some u)), .int .i64 (bits .or .i64 S.alphabet A.alphabet)] w' (Same (.bool true) w') from fun w' h => by have := WordWithin_c (wtext u) (bits .or .i64 S.alphabet A.alphabet) w' hsz; rwa [hww] at this)
    have CR := Lib.hid (show ∀ w', Ext w1 w' → Calls Tryz.prog 28 #[.string (rtext (some u)), .int .i64 S.alphabet] w' (Grows (.string R) w') from fun w' h => by have := RestrictWord_c (wtext u) S.alphabet w' hsz; rwa [hR] at this)
    have CH := Lib.hid (show ∀ w', Ext w1 w' → Calls Tryz.prog 15 #[.agg #[.int .i64 S.alphabet, .int .i64 S.states, .slice aE1 S.edges.length cE1], .string R] w' (Grows (.bool true) w') from fun w' h => by have := HasTrace_c _ S R w' (HS.out _ h) hszR (HD.out _ h); rwa [htr] at this)
    have CA := Lib.hid (show ∀ w', Ext w1 w' → Calls Tryz.prog 16 #[.agg #[.int .i64 A.alphabet, .slice aN2 A.next.length cN2, .slice aA2 A.accept.length cA2], .string (rtext (some u))] w' (Grows (.bool false) w') from fun w' h => by have := BreaksProperty_c _ A (wtext u) w' (HA.out _ h) hsz; rwa [hb2] at this)
    have CP := Lib.hid (show ∀ w', Ext w1 w' → Calls Tryz.prog 16 #[.agg #[.int .i64 P.alphabet, .slice aN3 P.next.length cN3, .slice aA3 P.accept.length cA3], .string (rtext (some u))] w' (Grows (.bool true) w') from fun w' h => by have := BreaksProperty_c _ P (wtext u) w' (HP.out _ h) hsz; rwa [hb1] at this)
    clear hV hal haa hor hww hsz hR hR2 htr hszR hb1 hb2
    go_wp2_with fail
    refine (SystemValid_b hs (HS.out _ hx)).mono ?_
    rintro e wz16 ⟨rfl, hez16⟩
    clear b3_0 b3_1 b3_2 b4_0 b4_1 b4_2 b5_0 b5_1 b5_2
    replace b3 := b3.ext hez16
    replace b4 := b4.ext hez16
    replace b5 := b5.ext hez16
    replace hx := hx.trans hez16
    have b3_0 := b3.cell 0 rfl; have b3_1 := b3.cell 1 rfl; have b3_2 := b3.cell 2 rfl; have b4_0 := b4.cell 0 rfl; have b4_1 := b4.cell 1 rfl; have b4_2 := b4.cell 2 rfl; have b5_0 := b5.cell 0 rfl; have b5_1 := b5.cell 1 rfl; have b5_2 := b5.cell 2 rfl
    go_wp2_with fail
    refine (AutomatonValid_b ha (HA.out _ hx)).mono ?_
    rintro e wz17 ⟨rfl, hez17⟩
    clear b3_0 b3_1 b3_2 b4_0 b4_1 b4_2 b5_0 b5_1 b5_2
    replace b3 := b3.ext hez17
    replace b4 := b4.ext hez17
    replace b5 := b5.ext hez17
    replace hx := hx.trans hez17
    have b3_0 := b3.cell 0 rfl; have b3_1 := b3.cell 1 rfl; have b3_2 := b3.cell 2 rfl; have b4_0 := b4.cell 0 rfl; have b4_1 := b4.cell 1 rfl; have b4_2 := b4.cell 2 rfl; have b5_0 := b5.cell 0 rfl; have b5_1 := b5.cell 1 rfl; have b5_2 := b5.cell 2 rfl
    go_wp2_with fail
    refine (AutomatonValid_b hp (HP.out _ hx)).mono ?_
    rintro e wz18 ⟨rfl, hez18⟩
    clear b3_0 b3_1 b3_2 b4_0 b4_1 b4_2 b5_0 b5_1 b5_2
    replace b3 := b3.ext hez18
    replace b4 := b4.ext hez18
    replace b5 := b5.ext hez18
    replace hx := hx.trans hez18
    have b3_0 := b3.cell 0 rfl; have b3_1 := b3.cell 1 rfl; have b3_2 := b3.cell 2 rfl; have b4_0 := b4.cell 0 rfl; have b4_1 := b4.cell 1 rfl; have b4_2 := b4.cell 2 rfl; have b5_0 := b5.cell 0 rfl; have b5_1 := b5.cell 1 rfl; have b5_2 := b5.cell 2 rfl
    go_wp2_with fail
    refine (CK.out _ hx).mono ?_
    rintro e wz19 ⟨rfl, hez19⟩
    clear b3_0 b3_1 b3_2 b4_0 b4_1 b4_2 b5_0 b5_1 b5_2
    replace b3 := b3.ext hez19
    replace b4 := b4.ext hez19
    replace b5 := b5.ext hez19
    replace hx := hx.trans hez19
    have b3_0 := b3.cell 0 rfl; have b3_1 := b3.cell 1 rfl; have b3_2 := b3.cell 2 rfl; have b4_0 := b4.cell 0 rfl; have b4_1 := b4.cell 1 rfl; have b4_2 := b4.cell 2 rfl; have b5_0 := b5.cell 0 rfl; have b5_1 := b5.cell 1 rfl; have b5_2 := b5.cell 2 rfl
    go_wp2_with fail
    clear b3_0 b3_1 b3_2 b4_0 b4_1 b4_2 b5_0 b5_1 b5_2
    have Db30 := fun d os => cell_regrown (b3.cell 0 rfl) d os
    have Db31 := fun d os => cell_regrown (b3.cell 1 rfl) d os
    have Db32 := fun d os => cell_regrown (b3.cell 2 rfl) d os
    have Db40 := fun d os => cell_regrown (b4.cell 0 rfl) d os
    have Db41 := fun d os => cell_regrown (b4.cell 1 rfl) d os
    have Db42 := fun d os => cell_regrown (b4.cell 2 rfl) d os
    have Db50 := fun d os => cell_regrown (b5.cell 0 rfl) d os
    have Db51 := fun d os => cell_regrown (b5.cell 1 rfl) d os
    have Db52 := fun d os => cell_regrown (b5.cell 2 rfl) d os
    refine wp_region_quiet_below (by kernel_rfl) (by kernel_rfl) ?_
    repeat (go_big_quiet_step ((first | (go_at_call 27; exact Same.quiet (CW.out _ (hx.trans (below_regrown _ _ _)))) | (go_at_call 28; exact Grows.quiet (CR.out _ (hx.trans (below_regrown _ _ _)))) | (go_at_call 15; exact Grows.quiet (CH.out _ (hx.trans (below_regrown _ _ _)))) | (go_at_call 16; with_reducible exact Grows.quiet (CA.out _ (hx.trans (below_regrown _ _ _)))) | (go_at_call 16; with_reducible exact Grows.quiet (CP.out _ (hx.trans (below_regrown _ _ _)))))))
    refine wpQuiet_nil ?_
    intro _ hw'
    obtain ⟨⟨dq, osq⟩, hw''⟩ := hw'
    subst hw''
    have hq2 : Ext wz19 (Go.Sort.grow (redrawn wz19 dq) osq) := below_regrown wz19 dq osq
    generalize Go.Sort.grow (redrawn wz19 dq) osq = wq at hq2 ⊢
    go_wp2_with fail
    go_ret
    exact Grows.mk rfl (he1.trans (hx.trans hq2))

theorem own : ownKnob Tryz.prog.godebug = none := by kernel_rfl
theorem laidOut : laidOutB Tryz.prog = true := by kernel_rfl
theorem deb_of_laid {W : World} (h : laidMetH Tryz.prog Rows.fnViolationUnderRow.laid W) : Deb W := debOfLaid h
theorem laid_met (os : Os) (args : Array Value) : laidMetH Tryz.prog Rows.fnViolationUnderRow.laid ((laidWorld os).forCall (fun _ _ => 0) ⟨#[], args, []⟩).memory :=
  (LaidIn.of_run [0, 1] 8 (by kernel_rfl) (by kernel_rfl) (by kernel_rfl) (by kernel_rfl)).met
set_option maxRecDepth 100000 in
theorem lifted (os : Os) (started : os.Started) (H : Type) (enc : TypeId × Value → H) :
    ReturnsInHanded {} Tryz.checked os 5 .any (fun w args => (Rows.fnViolationUnderSpec.pre enc Tryz.prog Tryz.f5 [] false w args ∧ laidMetH Tryz.prog Rows.fnViolationUnderRow.laid w) ∧ sizedMet enc Tryz.prog Tryz.f5 (OpenSpec.ofChange Rows.fnViolationUnderSpec) false w args)
      (Rows.fnViolationUnderSpec.post enc Tryz.prog Tryz.f5 false true false false) := by
  refine returnsInHanded_of_change_and (C := Tryz.checked) (X := fun w _ => laidMetH Tryz.prog Rows.fnViolationUnderRow.laid w) (fun _ _ _ hh h => h.of_heap hh) own started (by kernel_rfl) Tryz.func5
    (ChangeSpec.witness_at (enc := enc) (C := Tryz.checked) (os := os) (X := fun w _ => laidMetH Tryz.prog Rows.fnViolationUnderRow.laid w) false (laidWorld os) #[.slice none 0 0] 8 rfl (by kernel_rfl) (by kernel_rfl) (by kernel_rfl) (by kernel_rfl) (by kernel_rfl) (laid_met os _)) ?_
  intro W base args ds gs before hval0 hW _ _ hL _
  have hval : ∀ (j : Nat) t v, Tryz.f5.params[j]? = some t → args[j]? = some v → Value.okWide Tryz.prog W .any base t v := hval0
  have hW' := hW
  obtain ⟨p, q, hA0, hV, rfl, hfz, hnd⟩ := hW
  have hA : DataW.TrodAll enc Tryz.prog W 0 (fun _ => true) true Tryz.f5.params.toList args.toList ds p := hA0
  rw [Tryz.params5] at hA hval
  obtain ⟨v0, vs0, d0, ds0, p0, q0, hargs, rfl, rfl, h0, r0⟩ := trodAll_cons hA
  obtain ⟨rfl, rfl, rfl⟩ := trodAll_nil r0
  obtain rfl : args = #[v0] := by cases args; simp_all
  obtain ⟨rfl, rfl⟩ := trodVars_none hV
  have k0 := h0
  have lt0 : ∀ x ∈ p0, x.block < W.heap.size := by obtain ⟨m, hm⟩ := k0; exact DataW.trod_lt m _ _ _ hm
  obtain ⟨a0, len0, cap0, rfl⟩ := okWide_slice Tryz.underlying22 (hval 0 _ v0 rfl rfl)
  obtain ⟨t0, w0⟩ : ∃ t, BytesV W (.slice a0 len0 cap0) t := by
    obtain ⟨fuel, hf⟩ := h0
    obtain ⟨v, t, hv, ht⟩ := read_bytes hf
    simp [Value.cells] at hv
    subst hv
    exact ⟨t, ht⟩
  clear hA0 hval0
  refine (walk (.slice a0 len0 cap0) t0 W w0 (deb_of_laid hL)).mono fun e W' ⟨he, bel⟩ => ?_
  subst he
  exact ⟨_, rfl, _, _, _, [], _, [], hW', trodAll_mk1 (shut_bool Tryz.underlying4 _), (trodAll_cons_mk (Below.trod laidOut (by kernel_rfl) (of_decide_eq_true (by kernel_rfl)) k0 bel lt0) trodAll_mk0), rfl, bel.frame _, fun h => by cases h⟩

theorem over : Rows.fnViolationUnderRow.holds Tryz.pinned (OpenSpec.ofChange Rows.fnViolationUnderSpec) :=
  OpenClaim.holds_of_wide 5 Tryz.f5 rfl rfl rfl rfl rfl rfl rfl ⟨rfl, rfl, rfl, rfl, rfl⟩ rfl rfl rfl rfl rfl (by kernel_rfl) Tryz.func5 (by kernel_rfl)
    (of_decide_eq_true (by kernel_rfl)) (by unfold Func.isWrapper; first | (rw [if_pos (by decide +kernel)]; kernel_rfl) | (rw [if_neg (by decide +kernel)]; exact ⟨rfl, rfl⟩))
    (fun os started H enc _ => lifted os started H enc)

theorem card_holds : Rows.FnViolationUnderCardSaid :=
  Claim7.holds_tied_plain_at .later [] [.data, .data] true (true, "0f70196c989befa3bdbd5d7bf29985d9f429865033e550ebe8dd4ee6653ce6cd") false
    over (fun _ h => by cases h) (by kernel_rfl) (fun _ h => by cases h) fnViolationUnder_row_tie rfl ⟨rfl, rfl⟩ (by kernel_rfl) rfl
    (fun f fn hf hfn => by
      obtain rfl : f = 5 := Option.some.inj ((show Tryz.prog.funcNamed "loop.example/assumeguarantee/laws.FnViolationUnder" = some 5 by kernel_rfl).symm.trans hf) |>.symm
      obtain rfl : fn = Tryz.f5 := (Option.some.inj (Tryz.func5.symm.trans hfn)).symm
      refine ⟨by kernel_rfl, fun j t ht => ?_⟩
      rw [Tryz.params5] at ht
      match j, ht with
      | 0, ht =>
        have h0 : t = 22 := by simpa using ht.symm
        subst h0
        exact (show Tryz.prog.wantsStandIn 22 = false by kernel_rfl)
      | j + 1, ht => simp at ht)
    (by kernel_rfl)
#print axioms card_holds
end Go.Proofs.YteodlkkghnfkdaaGreatDoor.lawFnViolationUnder
