/- FnInterfaceOf: for all bytes, the interface of the drawn systems has letters of the other system and all common ones, and its task is a valid copy: the law answers true. -/
import Derived.Test.YteodlkkghnfkdaaDrawO
import Derived.Test.YteodlkkghnfkdaaTaskC
import Derived.Test.YteodlkkghnfkdaaAgD
import Derived.Test.YteodlkkghnfkdaaDrawL
import Derived.Test.YteodlkkghnfkdaaRead
import Derived.Test.YteodlkkghnfkdaaInj
import Derived.Test.YteodlkkghnfkdaaWalkH
namespace Go.Proofs.Yteodlkkghnfkdaa.lawFnInterfaceOf
open Go.ChangeShapes Go.WideShapes Go.ChangeAt Go.RowKit
open Go.Proofs.Yteodlkkghnfkdaa
open Go.ChangeMaps (open_string shut_string)
set_option linter.unusedVariables false
set_option linter.unusedSimpArgs false
set_option maxHeartbeats 1600000
set_option maxRecDepth 100000

theorem interface_facts {S : Sys} {P : Auto} {O : Sys} (h : ¬ interfaceOf S P O < 0) :
    bits .and .i64 (interfaceOf S P O) O.alphabet = interfaceOf S P O ∧ bits .and .i64 (interfaceOf S P O) (bits .and .i64 S.alphabet O.alphabet) = bits .and .i64 S.alphabet O.alphabet ∧ taskValid ⟨S, P, interfaceOf S P O⟩ = true := by
  obtain ⟨vS, vP, vO⟩ := interface_valid h
  have e : interfaceOf S P O = bits .and .i64 (bits .or .i64 S.alphabet P.alphabet) O.alphabet := by unfold interfaceOf; rw [vS, vP, vO]; rfl
  have fS := valid_alpha' vS
  have fP := autoValid_facts vP
  have fO := valid_alpha' vO
  obtain ⟨a, ha⟩ := Int.eq_ofNat_of_zero_le fS.1
  obtain ⟨b, hb⟩ := Int.eq_ofNat_of_zero_le fP.1
  obtain ⟨c, hc⟩ := Int.eq_ofNat_of_zero_le fO.1
  have f1 := fS.2.1
  have f2 := fP.2.1
  have f3 := fO.2.1
  have hab : a ||| b < 2 ^ 6 := Nat.or_lt_two_pow (by omega) (by omega)
  have hac : a &&& c < 2 ^ 6 := Nat.and_lt_two_pow _ (by omega)
  have habc : (a ||| b) &&& c < 2 ^ 6 := Nat.and_lt_two_pow _ (by omega)
  have e2 : interfaceOf S P O = (((a ||| b) &&& c : Nat) : Int) := by rw [e, ha, hb, hc, i64_or_nat a b (by omega) (by omega), i64_and_nat (a ||| b) c (by omega) (by omega)]
  refine ⟨?_, ?_, ?_⟩
  · rw [e2, hc, i64_and_nat _ c (by omega) (by omega)]
    congr 1
    apply Nat.eq_of_testBit_eq; intro i; simp only [Nat.testBit_and, Nat.testBit_or]; cases a.testBit i <;> cases b.testBit i <;> cases c.testBit i <;> rfl
  · rw [e2, ha, hc, i64_and_nat a c (by omega) (by omega), i64_and_nat _ _ (by omega) (by omega)]
    congr 1
    apply Nat.eq_of_testBit_eq; intro i; simp only [Nat.testBit_and, Nat.testBit_or]; cases a.testBit i <;> cases b.testBit i <;> cases c.testBit i <;> rfl
  · unfold taskValid
    rw [vS, vP, e2]
    simp only [isAlpha, Bool.true_and, Bool.and_eq_true, decide_eq_true_eq]
    omega

theorem walk (v0 : Value) (t0 : List UInt8) (w : World) (hv0 : BytesV w v0 t0) : Calls Try.prog 5 #[v0] w (Grows (.bool true) w) := by
  obtain ⟨aB, cB, rfl, hleB, -⟩ := hv0.open
  by_cases hz0 : 1048576 < t0.length
  · go_enter Try.func5, Try.ntmps5
    go_wp2_with fail
    go_ret
    exact Grows.mk rfl (Ext.refl _)
  go_enter Try.func5, Try.ntmps5
  go_wp2_with fail
  refine (DrawTaskOf_t _ t0 _ hv0 (by omega)).mono ?_
  rintro e w1 ⟨r, D, rfl, he1, hD1, hT1, s, p, t, rfl, hS, hP, hO⟩
  obtain ⟨S, hSe1, hSV1⟩ := hS.sys hT1
  obtain ⟨vE1, rfl, hE1⟩ := hSV1
  obtain ⟨aE1, cE1, rfl, -, -⟩ := hE1.open
  obtain ⟨P, hPn2, hPa2, hPV2⟩ := hP.auto hT1
  obtain ⟨vN2, vA2, rfl, hN2, hA2⟩ := hPV2
  obtain ⟨aN2, cN2, rfl, -, -⟩ := hN2.open
  obtain ⟨aA2, cA2, rfl, -, -⟩ := hA2.open
  obtain ⟨O, hSe3, hSV3⟩ := hO.sys hT1
  obtain ⟨vE3, rfl, hE3⟩ := hSV3
  obtain ⟨aE3, cE3, rfl, -, -⟩ := hE3.open
  have HS := Lib.hid (show ∀ w', Ext w1 w' → SysV w' (.agg #[.int .i64 S.alphabet, .int .i64 S.states, .slice aE1 S.edges.length cE1]) S from fun w' h => ⟨_, rfl, hE1.mono h⟩)
  have HP := Lib.hid (show ∀ w', Ext w1 w' → AutoV w' (.agg #[.int .i64 P.alphabet, .slice aN2 P.next.length cN2, .slice aA2 P.accept.length cA2]) P from fun w' h => ⟨_, _, rfl, hN2.mono h, hA2.mono h⟩)
  have HO := Lib.hid (show ∀ w', Ext w1 w' → SysV w' (.agg #[.int .i64 O.alphabet, .int .i64 O.states, .slice aE3 O.edges.length cE3]) O from fun w' h => ⟨_, rfl, hE3.mono h⟩)
  have hSl : S.edges.length ≤ 1048576 := by omega
  clear hE1 hN2 hA2 hE3 hS hP hO hT1 hD1
  obtain ⟨T, hT⟩ : ∃ T, taskOf S P O = T := ⟨_, rfl⟩
  have HT := Lib.hid hT
  obtain ⟨n, hn⟩ : ∃ n, interfaceOf S P O = n := ⟨_, rfl⟩
  have HN := Lib.hid hn
  clear hn hT
  have hx : Ext w1 (((w1.alloc (.cells #[.int .i64 S.alphabet, .int .i64 S.states, .slice aE1 S.edges.length cE1] 33)).alloc (.cells #[.int .i64 P.alphabet, .slice aN2 P.next.length cN2, .slice aA2 P.accept.length cA2] 34)).alloc (.cells #[.int .i64 O.alphabet, .int .i64 O.states, .slice aE3 O.edges.length cE3] 33)) := ((Ext.alloc _ _).trans (Ext.alloc _ _)).trans (Ext.alloc _ _)
  have b3 : Blk (((w1.alloc (.cells #[.int .i64 S.alphabet, .int .i64 S.states, .slice aE1 S.edges.length cE1] 33)).alloc (.cells #[.int .i64 P.alphabet, .slice aN2 P.next.length cN2, .slice aA2 P.accept.length cA2] 34)).alloc (.cells #[.int .i64 O.alphabet, .int .i64 O.states, .slice aE3 O.edges.length cE3] 33)) w1.heap.size #[.int .i64 S.alphabet, .int .i64 S.states, .slice aE1 S.edges.length cE1] 33 := Ext.blk ((Ext.alloc _ _).trans (Ext.alloc _ _))
  have b4 : Blk (((w1.alloc (.cells #[.int .i64 S.alphabet, .int .i64 S.states, .slice aE1 S.edges.length cE1] 33)).alloc (.cells #[.int .i64 P.alphabet, .slice aN2 P.next.length cN2, .slice aA2 P.accept.length cA2] 34)).alloc (.cells #[.int .i64 O.alphabet, .int .i64 O.states, .slice aE3 O.edges.length cE3] 33)) (w1.heap.size + 1) #[.int .i64 P.alphabet, .slice aN2 P.next.length cN2, .slice aA2 P.accept.length cA2] 34 := Ext.blk1 (Ext.alloc _ _)
  have b5 : Blk (((w1.alloc (.cells #[.int .i64 S.alphabet, .int .i64 S.states, .slice aE1 S.edges.length cE1] 33)).alloc (.cells #[.int .i64 P.alphabet, .slice aN2 P.next.length cN2, .slice aA2 P.accept.length cA2] 34)).alloc (.cells #[.int .i64 O.alphabet, .int .i64 O.states, .slice aE3 O.edges.length cE3] 33)) (w1.heap.size + 1 + 1) #[.int .i64 O.alphabet, .int .i64 O.states, .slice aE3 O.edges.length cE3] 33 := Ext.blk2 (Ext.refl _)
  go_wp2_with fail
  generalize (((w1.alloc (.cells #[.int .i64 S.alphabet, .int .i64 S.states, .slice aE1 S.edges.length cE1] 33)).alloc (.cells #[.int .i64 P.alphabet, .slice aN2 P.next.length cN2, .slice aA2 P.accept.length cA2] 34)).alloc (.cells #[.int .i64 O.alphabet, .int .i64 O.states, .slice aE3 O.edges.length cE3] 33)) = w2 at hx b3 b4 b5 ⊢
  have b3_0 := b3.cell 0 rfl; have b3_1 := b3.cell 1 rfl; have b3_2 := b3.cell 2 rfl
  have b4_0 := b4.cell 0 rfl; have b4_1 := b4.cell 1 rfl; have b4_2 := b4.cell 2 rfl
  have b5_0 := b5.cell 0 rfl; have b5_1 := b5.cell 1 rfl; have b5_2 := b5.cell 2 rfl
  go_wp2_with fail
  refine (TaskOf_c2 _ _ _ S P O _ (HS.out _ hx) (HP.out _ hx) (HO.out _ hx) hSl).mono ?_
  rintro e w3 ⟨vt, rfl, he3, ho⟩
  rw [HT.out] at ho
  rw [HN.out]
  replace ho := ho.task
  obtain ⟨vE6, vN6, vA6, rfl, hE6, hN6, hA6⟩ := ho
  obtain ⟨aE6, cE6, rfl, -, -⟩ := hE6.open
  obtain ⟨aN6, cN6, rfl, -, -⟩ := hN6.open
  obtain ⟨aA6, cA6, rfl, -, -⟩ := hA6.open
  clear b3_0 b3_1 b3_2 b4_0 b4_1 b4_2 b5_0 b5_1 b5_2
  have hx3 := he3.trans (Ext.alloc w3 (.cells #[.int .i64 T.sys.alphabet, .int .i64 T.sys.states, .slice aE6 T.sys.edges.length cE6, .int .i64 T.prop.alphabet, .slice aN6 T.prop.next.length cN6, .slice aA6 T.prop.accept.length cA6, .int .i64 T.alphabet] 36))
  replace b3 := b3.ext hx3
  replace b4 := b4.ext hx3
  replace b5 := b5.ext hx3
  replace hx := hx.trans hx3
  have b6 : Blk (w3.alloc (.cells #[.int .i64 T.sys.alphabet, .int .i64 T.sys.states, .slice aE6 T.sys.edges.length cE6, .int .i64 T.prop.alphabet, .slice aN6 T.prop.next.length cN6, .slice aA6 T.prop.accept.length cA6, .int .i64 T.alphabet] 36)) w3.heap.size #[.int .i64 T.sys.alphabet, .int .i64 T.sys.states, .slice aE6 T.sys.edges.length cE6, .int .i64 T.prop.alphabet, .slice aN6 T.prop.next.length cN6, .slice aA6 T.prop.accept.length cA6, .int .i64 T.alphabet] 36 := Blk.new _ _ _
  have HT6 := Lib.hid (show ∀ w', Ext (w3.alloc (.cells #[.int .i64 T.sys.alphabet, .int .i64 T.sys.states, .slice aE6 T.sys.edges.length cE6, .int .i64 T.prop.alphabet, .slice aN6 T.prop.next.length cN6, .slice aA6 T.prop.accept.length cA6, .int .i64 T.alphabet] 36)) w' → TaskV w' (.agg #[.int .i64 T.sys.alphabet, .int .i64 T.sys.states, .slice aE6 T.sys.edges.length cE6, .int .i64 T.prop.alphabet, .slice aN6 T.prop.next.length cN6, .slice aA6 T.prop.accept.length cA6, .int .i64 T.alphabet]) T from fun w' h => ⟨_, _, _, rfl, (hE6.mono (Ext.alloc _ _)).mono h, (hN6.mono (Ext.alloc _ _)).mono h, (hA6.mono (Ext.alloc _ _)).mono h⟩)
  clear hE6 hN6 hA6 he3 hx3
  have b3_0 := b3.cell 0 rfl; have b3_1 := b3.cell 1 rfl; have b3_2 := b3.cell 2 rfl
  have b4_0 := b4.cell 0 rfl; have b4_1 := b4.cell 1 rfl; have b4_2 := b4.cell 2 rfl
  have b5_0 := b5.cell 0 rfl; have b5_1 := b5.cell 1 rfl; have b5_2 := b5.cell 2 rfl
  have b6_0 := b6.cell 0 rfl; have b6_1 := b6.cell 1 rfl; have b6_2 := b6.cell 2 rfl; have b6_3 := b6.cell 3 rfl; have b6_4 := b6.cell 4 rfl; have b6_5 := b6.cell 5 rfl; have b6_6 := b6.cell 6 rfl
  go_wp2_with fail
  clear b3_0 b3_1 b3_2 b4_0 b4_1 b4_2 b5_0 b5_1 b5_2 b6_0 b6_1 b6_2 b6_3 b6_4 b6_5 b6_6
  generalize w3.alloc (.cells #[.int .i64 T.sys.alphabet, .int .i64 T.sys.states, .slice aE6 T.sys.edges.length cE6, .int .i64 T.prop.alphabet, .slice aN6 T.prop.next.length cN6, .slice aA6 T.prop.accept.length cA6, .int .i64 T.alphabet] 36) = w4 at hx b3 b4 b5 b6 HT6 ⊢
  generalize w3.heap.size = G6 at b6 ⊢
  refine (TaskOf_s _ _ _ S P O _ (HS.out _ hx) (HP.out _ hx) (HO.out _ hx) hSl).mono ?_
  rintro e w5 ⟨vt, rfl, he5, ho⟩
  rw [HT.out] at ho
  rw [HN.out]
  replace ho := ho.task
  obtain ⟨vE8, vN8, vA8, rfl, hE8, hN8, hA8⟩ := ho
  obtain ⟨aE8, cE8, rfl, -, -⟩ := hE8.open
  obtain ⟨aN8, cN8, rfl, -, -⟩ := hN8.open
  obtain ⟨aA8, cA8, rfl, -, -⟩ := hA8.open
  have hx5 := he5.trans (Ext.alloc w5 (.cells #[.int .i64 T.sys.alphabet, .int .i64 T.sys.states, .slice aE8 T.sys.edges.length cE8, .int .i64 T.prop.alphabet, .slice aN8 T.prop.next.length cN8, .slice aA8 T.prop.accept.length cA8, .int .i64 T.alphabet] 36))
  replace b3 := b3.ext hx5
  replace b4 := b4.ext hx5
  replace b5 := b5.ext hx5
  replace b6 := b6.ext hx5
  replace hx := hx.trans hx5
  have b8 : Blk (w5.alloc (.cells #[.int .i64 T.sys.alphabet, .int .i64 T.sys.states, .slice aE8 T.sys.edges.length cE8, .int .i64 T.prop.alphabet, .slice aN8 T.prop.next.length cN8, .slice aA8 T.prop.accept.length cA8, .int .i64 T.alphabet] 36)) w5.heap.size #[.int .i64 T.sys.alphabet, .int .i64 T.sys.states, .slice aE8 T.sys.edges.length cE8, .int .i64 T.prop.alphabet, .slice aN8 T.prop.next.length cN8, .slice aA8 T.prop.accept.length cA8, .int .i64 T.alphabet] 36 := Blk.new _ _ _
  have HT8 := Lib.hid (show ∀ w', Ext (w5.alloc (.cells #[.int .i64 T.sys.alphabet, .int .i64 T.sys.states, .slice aE8 T.sys.edges.length cE8, .int .i64 T.prop.alphabet, .slice aN8 T.prop.next.length cN8, .slice aA8 T.prop.accept.length cA8, .int .i64 T.alphabet] 36)) w' → TaskV w' (.agg #[.int .i64 T.sys.alphabet, .int .i64 T.sys.states, .slice aE8 T.sys.edges.length cE8, .int .i64 T.prop.alphabet, .slice aN8 T.prop.next.length cN8, .slice aA8 T.prop.accept.length cA8, .int .i64 T.alphabet]) T from fun w' h => ⟨_, _, _, rfl, (hE8.mono (Ext.alloc _ _)).mono h, (hN8.mono (Ext.alloc _ _)).mono h, (hA8.mono (Ext.alloc _ _)).mono h⟩)
  replace HT6 := Lib.hid (show ∀ w', Ext (w5.alloc (.cells #[.int .i64 T.sys.alphabet, .int .i64 T.sys.states, .slice aE8 T.sys.edges.length cE8, .int .i64 T.prop.alphabet, .slice aN8 T.prop.next.length cN8, .slice aA8 T.prop.accept.length cA8, .int .i64 T.alphabet] 36)) w' → TaskV w' (.agg #[.int .i64 T.sys.alphabet, .int .i64 T.sys.states, .slice aE6 T.sys.edges.length cE6, .int .i64 T.prop.alphabet, .slice aN6 T.prop.next.length cN6, .slice aA6 T.prop.accept.length cA6, .int .i64 T.alphabet]) T from fun w' h => HT6.out _ (hx5.trans h))
  clear hE8 hN8 hA8 he5 hx5
  have b3_0 := b3.cell 0 rfl; have b3_1 := b3.cell 1 rfl; have b3_2 := b3.cell 2 rfl
  have b4_0 := b4.cell 0 rfl; have b4_1 := b4.cell 1 rfl; have b4_2 := b4.cell 2 rfl
  have b5_0 := b5.cell 0 rfl; have b5_1 := b5.cell 1 rfl; have b5_2 := b5.cell 2 rfl
  have b6_0 := b6.cell 0 rfl; have b6_1 := b6.cell 1 rfl; have b6_2 := b6.cell 2 rfl; have b6_3 := b6.cell 3 rfl; have b6_4 := b6.cell 4 rfl; have b6_5 := b6.cell 5 rfl; have b6_6 := b6.cell 6 rfl
  have b8_0 := b8.cell 0 rfl; have b8_1 := b8.cell 1 rfl; have b8_2 := b8.cell 2 rfl; have b8_3 := b8.cell 3 rfl; have b8_4 := b8.cell 4 rfl; have b8_5 := b8.cell 5 rfl; have b8_6 := b8.cell 6 rfl
  go_wp2_with fail
  clear b3_0 b3_1 b3_2 b4_0 b4_1 b4_2 b5_0 b5_1 b5_2 b6_0 b6_1 b6_2 b6_3 b6_4 b6_5 b6_6 b8_0 b8_1 b8_2 b8_3 b8_4 b8_5 b8_6
  generalize w5.alloc (.cells #[.int .i64 T.sys.alphabet, .int .i64 T.sys.states, .slice aE8 T.sys.edges.length cE8, .int .i64 T.prop.alphabet, .slice aN8 T.prop.next.length cN8, .slice aA8 T.prop.accept.length cA8, .int .i64 T.alphabet] 36) = w6 at hx b3 b4 b5 b6 b8 HT6 HT8 ⊢
  generalize w5.heap.size = G8 at b8 ⊢
  refine (InterfaceOf_c _ _ _ S P O _ (HS.out _ hx) (HP.out _ hx) (HO.out _ hx)).mono ?_
  rintro e w7 ⟨rfl, he7⟩
  rw [HN.out]
  replace b3 := b3.ext he7
  replace b4 := b4.ext he7
  replace b5 := b5.ext he7
  replace b6 := b6.ext he7
  replace b8 := b8.ext he7
  replace hx := hx.trans he7
  have hy : Ext w6 w7 := he7
  clear he7
  have b3_0 := b3.cell 0 rfl; have b3_1 := b3.cell 1 rfl; have b3_2 := b3.cell 2 rfl
  have b4_0 := b4.cell 0 rfl; have b4_1 := b4.cell 1 rfl; have b4_2 := b4.cell 2 rfl
  have b5_0 := b5.cell 0 rfl; have b5_1 := b5.cell 1 rfl; have b5_2 := b5.cell 2 rfl
  have b6_0 := b6.cell 0 rfl; have b6_1 := b6.cell 1 rfl; have b6_2 := b6.cell 2 rfl; have b6_3 := b6.cell 3 rfl; have b6_4 := b6.cell 4 rfl; have b6_5 := b6.cell 5 rfl; have b6_6 := b6.cell 6 rfl
  have b8_0 := b8.cell 0 rfl; have b8_1 := b8.cell 1 rfl; have b8_2 := b8.cell 2 rfl; have b8_3 := b8.cell 3 rfl; have b8_4 := b8.cell 4 rfl; have b8_5 := b8.cell 5 rfl; have b8_6 := b8.cell 6 rfl
  have CAG := Lib.hid (show ∀ w', Ext w6 w' → Calls Try.prog 29 #[.agg #[.int .i64 T.sys.alphabet, .int .i64 T.sys.states, .slice aE6 T.sys.edges.length cE6, .int .i64 T.prop.alphabet, .slice aN6 T.prop.next.length cN6, .slice aA6 T.prop.accept.length cA6, .int .i64 T.alphabet], .agg #[.int .i64 T.sys.alphabet, .int .i64 T.sys.states, .slice aE8 T.sys.edges.length cE8, .int .i64 T.prop.alphabet, .slice aN8 T.prop.next.length cN8, .slice aA8 T.prop.accept.length cA8, .int .i64 T.alphabet]] w' (Grows (.bool true) w') from fun w' h => by have := agTasks_c _ _ T T w' (HT6.out _ h) (HT8.out _ h); simpa using this)
  go_wp2_with fail
  refine (CAG.out _ hy).mono ?_
  rintro e w8 ⟨rfl, he8⟩
  clear b3_0 b3_1 b3_2 b4_0 b4_1 b4_2 b5_0 b5_1 b5_2 b6_0 b6_1 b6_2 b6_3 b6_4 b6_5 b6_6 b8_0 b8_1 b8_2 b8_3 b8_4 b8_5 b8_6
  replace b3 := b3.ext he8
  replace b4 := b4.ext he8
  replace b5 := b5.ext he8
  replace b6 := b6.ext he8
  replace b8 := b8.ext he8
  replace hx := hx.trans he8
  replace hy := hy.trans he8
  clear he8
  have b3_0 := b3.cell 0 rfl; have b3_1 := b3.cell 1 rfl; have b3_2 := b3.cell 2 rfl
  have b4_0 := b4.cell 0 rfl; have b4_1 := b4.cell 1 rfl; have b4_2 := b4.cell 2 rfl
  have b5_0 := b5.cell 0 rfl; have b5_1 := b5.cell 1 rfl; have b5_2 := b5.cell 2 rfl
  have b6_0 := b6.cell 0 rfl; have b6_1 := b6.cell 1 rfl; have b6_2 := b6.cell 2 rfl; have b6_3 := b6.cell 3 rfl; have b6_4 := b6.cell 4 rfl; have b6_5 := b6.cell 5 rfl; have b6_6 := b6.cell 6 rfl
  have b8_0 := b8.cell 0 rfl; have b8_1 := b8.cell 1 rfl; have b8_2 := b8.cell 2 rfl; have b8_3 := b8.cell 3 rfl; have b8_4 := b8.cell 4 rfl; have b8_5 := b8.cell 5 rfl; have b8_6 := b8.cell 6 rfl
  by_cases h0 : 0 ≤ n
  case neg =>
    rw [show decide (0 ≤ n) = false from decide_eq_false h0]
    go_wp2_with fail
    refine (CAG.out _ hy).mono ?_
    rintro e w9 ⟨rfl, he9⟩
    go_wp2_with fail
    go_ret
    exact Grows.mk (by show Value.bool (!decide (0 ≤ n)) = _; rw [decide_eq_false (by omega)]; rfl) ((he1.trans hx).trans he9)
  rw [show decide (0 ≤ n) = true from decide_eq_true h0]
  have hneg : ¬ interfaceOf S P O < 0 := by rw [HN.out]; omega
  obtain ⟨f1, f2, f3⟩ := interface_facts hneg
  have hTe : T = ⟨S, P, n⟩ := by rw [← HT.out]; unfold taskOf; rw [if_neg hneg, HN.out]
  rw [HN.out] at f1 f2 f3
  clear CAG hneg
  clear b3_0 b3_1 b3_2 b4_0 b4_1 b4_2 b5_0 b5_1 b5_2 b6_0 b6_1 b6_2 b6_3 b6_4 b6_5 b6_6 b8_0 b8_1 b8_2 b8_3 b8_4 b8_5 b8_6
  obtain ⟨Ts, Tp, Ta⟩ := T
  simp only [Task.mk.injEq] at hTe
  obtain ⟨hTs, hTp, hTa⟩ := hTe
  rw [hTs, hTp, hTa] at b6 b8 HT6
  clear HT8 HT hTs hTp hTa
  have HF3 := Lib.hid f3
  clear f3
  dsimp only at b6 b8 HT6
  have b3_0 := b3.cell 0 rfl; have b3_1 := b3.cell 1 rfl; have b3_2 := b3.cell 2 rfl
  have b4_0 := b4.cell 0 rfl; have b4_1 := b4.cell 1 rfl; have b4_2 := b4.cell 2 rfl
  have b5_0 := b5.cell 0 rfl; have b5_1 := b5.cell 1 rfl; have b5_2 := b5.cell 2 rfl
  have b6_0 := b6.cell 0 rfl; have b6_1 := b6.cell 1 rfl; have b6_2 := b6.cell 2 rfl; have b6_3 := b6.cell 3 rfl; have b6_4 := b6.cell 4 rfl; have b6_5 := b6.cell 5 rfl; have b6_6 := b6.cell 6 rfl
  have b8_0 := b8.cell 0 rfl; have b8_1 := b8.cell 1 rfl; have b8_2 := b8.cell 2 rfl; have b8_3 := b8.cell 3 rfl; have b8_4 := b8.cell 4 rfl; have b8_5 := b8.cell 5 rfl; have b8_6 := b8.cell 6 rfl
  have e1 : (n == n) = true := by simp
  have e2 : (bits .and .i64 S.alphabet O.alphabet == bits .and .i64 S.alphabet O.alphabet) = true := by simp
  have HS6 := Lib.hid (show ∀ w', Ext w6 w' → SysV w' (.agg #[.int .i64 S.alphabet, .int .i64 S.states, .slice aE6 S.edges.length cE6]) S from fun w' h => by obtain ⟨ve, vn, va, he, h1, h2, h3⟩ := HT6.out w' h; cases he; exact ⟨_, rfl, h1⟩)
  have HP6 := Lib.hid (show ∀ w', Ext w6 w' → AutoV w' (.agg #[.int .i64 P.alphabet, .slice aN6 P.next.length cN6, .slice aA6 P.accept.length cA6]) P from fun w' h => by obtain ⟨ve, vn, va, he, h1, h2, h3⟩ := HT6.out w' h; cases he; exact ⟨_, _, rfl, h2, h3⟩)
  go_wp2_with fail
  refine (TaskValid_c _ _ _ (HT6.out _ hy)).mono ?_
  rintro e w9 ⟨rfl, he9⟩
  rw [HF3.out]
  clear b3_0 b3_1 b3_2 b4_0 b4_1 b4_2 b5_0 b5_1 b5_2 b6_0 b6_1 b6_2 b6_3 b6_4 b6_5 b6_6 b8_0 b8_1 b8_2 b8_3 b8_4 b8_5 b8_6
  replace b3 := b3.ext he9
  replace b4 := b4.ext he9
  replace b5 := b5.ext he9
  replace b6 := b6.ext he9
  replace b8 := b8.ext he9
  replace hx := hx.trans he9
  replace hy := hy.trans he9
  clear he9
  have b3_0 := b3.cell 0 rfl; have b3_1 := b3.cell 1 rfl; have b3_2 := b3.cell 2 rfl
  have b4_0 := b4.cell 0 rfl; have b4_1 := b4.cell 1 rfl; have b4_2 := b4.cell 2 rfl
  have b5_0 := b5.cell 0 rfl; have b5_1 := b5.cell 1 rfl; have b5_2 := b5.cell 2 rfl
  have b6_0 := b6.cell 0 rfl; have b6_1 := b6.cell 1 rfl; have b6_2 := b6.cell 2 rfl; have b6_3 := b6.cell 3 rfl; have b6_4 := b6.cell 4 rfl; have b6_5 := b6.cell 5 rfl; have b6_6 := b6.cell 6 rfl
  have b8_0 := b8.cell 0 rfl; have b8_1 := b8.cell 1 rfl; have b8_2 := b8.cell 2 rfl; have b8_3 := b8.cell 3 rfl; have b8_4 := b8.cell 4 rfl; have b8_5 := b8.cell 5 rfl; have b8_6 := b8.cell 6 rfl
  go_wp2_with fail
  refine (agSystems_c _ _ S S _ (HS6.out _ hy) (HS.out _ hx)).mono ?_
  rintro e w10 ⟨rfl, he10⟩
  rw [show decide (S = S) = true from decide_eq_true rfl]
  clear b3_0 b3_1 b3_2 b4_0 b4_1 b4_2 b5_0 b5_1 b5_2 b6_0 b6_1 b6_2 b6_3 b6_4 b6_5 b6_6 b8_0 b8_1 b8_2 b8_3 b8_4 b8_5 b8_6
  replace b3 := b3.ext he10
  replace b4 := b4.ext he10
  replace b5 := b5.ext he10
  replace b6 := b6.ext he10
  replace b8 := b8.ext he10
  replace hx := hx.trans he10
  replace hy := hy.trans he10
  clear he10
  have b3_0 := b3.cell 0 rfl; have b3_1 := b3.cell 1 rfl; have b3_2 := b3.cell 2 rfl
  have b4_0 := b4.cell 0 rfl; have b4_1 := b4.cell 1 rfl; have b4_2 := b4.cell 2 rfl
  have b5_0 := b5.cell 0 rfl; have b5_1 := b5.cell 1 rfl; have b5_2 := b5.cell 2 rfl
  have b6_0 := b6.cell 0 rfl; have b6_1 := b6.cell 1 rfl; have b6_2 := b6.cell 2 rfl; have b6_3 := b6.cell 3 rfl; have b6_4 := b6.cell 4 rfl; have b6_5 := b6.cell 5 rfl; have b6_6 := b6.cell 6 rfl
  have b8_0 := b8.cell 0 rfl; have b8_1 := b8.cell 1 rfl; have b8_2 := b8.cell 2 rfl; have b8_3 := b8.cell 3 rfl; have b8_4 := b8.cell 4 rfl; have b8_5 := b8.cell 5 rfl; have b8_6 := b8.cell 6 rfl
  go_wp2_with fail
  refine (agAutomata_c _ _ P P _ (HP6.out _ hy) (HP.out _ hx)).mono ?_
  rintro e w11 ⟨rfl, he11⟩
  rw [show decide (P = P) = true from decide_eq_true rfl]
  clear b3_0 b3_1 b3_2 b4_0 b4_1 b4_2 b5_0 b5_1 b5_2 b6_0 b6_1 b6_2 b6_3 b6_4 b6_5 b6_6 b8_0 b8_1 b8_2 b8_3 b8_4 b8_5 b8_6
  replace b3 := b3.ext he11
  replace b4 := b4.ext he11
  replace b5 := b5.ext he11
  replace b6 := b6.ext he11
  replace b8 := b8.ext he11
  replace hx := hx.trans he11
  go_wp2_with fail
  go_ret
  exact Grows.mk rfl (he1.trans hx)

theorem own : ownKnob Try.prog.godebug = none := by kernel_rfl
theorem laidOut : laidOutB Try.prog = true := by kernel_rfl
set_option maxRecDepth 100000 in
theorem lifted (os : Os) (started : os.Started) (H : Type) (enc : TypeId × Value → H) :
    ReturnsInHanded {} Try.checked os 5 .any (Rows.fnInterfaceOfSpec.pre6 enc Try.prog Try.f5 Rows.fnInterfaceOfRow.domain false) (Rows.fnInterfaceOfSpec.post enc Try.prog Try.f5 false true false false) := by
  refine returnsInHanded_of_change (C := Try.checked) own started (by kernel_rfl) Try.func5
    (ChangeSpec.witness6 (enc := enc) (C := Try.checked) false ⟨#[], #[.slice none 0 0], []⟩ 8 (by kernel_rfl) (by kernel_rfl) (by kernel_rfl) (by kernel_rfl)) ?_
  intro W base args ds gs before hval0 hW hcnd _
  have hval : ∀ (j : Nat) t v, Try.f5.params[j]? = some t → args[j]? = some v → Value.okWide Try.prog W .any base t v := hval0
  have hW' := hW
  obtain ⟨p, q, hA0, hV, rfl, hfz, hnd⟩ := hW
  have hA : DataW.TrodAll enc Try.prog W 0 (fun _ => true) true Try.f5.params.toList args.toList ds p := hA0
  rw [Try.params5] at hA hval
  obtain ⟨v0, vs0, d0, ds0, p0, q0, hargs, rfl, rfl, h0, r0⟩ := trodAll_cons hA
  obtain ⟨rfl, rfl, rfl⟩ := trodAll_nil r0
  obtain rfl : args = #[v0] := by cases args; simp_all
  obtain ⟨rfl, rfl⟩ := trodVars_none hV
  have k0 := h0
  have lt0 : ∀ x ∈ p0, x.block < W.heap.size := by obtain ⟨m, hm⟩ := k0; exact DataW.trod_lt m _ _ _ hm
  obtain ⟨a0, len0, cap0, rfl⟩ := okWide_slice Try.underlying48 (hval 0 _ v0 rfl rfl)
  obtain ⟨t0, w0⟩ : ∃ t, BytesV W (.slice a0 len0 cap0) t := by
    obtain ⟨fuel, hf⟩ := h0
    obtain ⟨v, t, hv, ht⟩ := read_bytes hf
    simp [Value.cells] at hv
    subst hv
    exact ⟨t, ht⟩
  clear hA0 hval0
  refine (walk (.slice a0 len0 cap0) t0 W w0).mono fun e W' ⟨he, bel⟩ => ?_
  subst he
  exact ⟨_, rfl, _, _, _, [], _, [], hW', trodAll_mk1 (shut_bool Try.underlying4 _), (trodAll_cons_mk (Below.trod laidOut (by kernel_rfl) (of_decide_eq_true (by kernel_rfl)) k0 bel lt0) trodAll_mk0), rfl, bel.frame _, fun h => by cases h⟩

theorem over : Rows.fnInterfaceOfRow.holds Try.pinned (OpenSpec.ofChange Rows.fnInterfaceOfSpec) :=
  OpenClaim.holds_of_wide 5 Try.f5 rfl rfl rfl rfl rfl rfl rfl ⟨rfl, rfl, rfl, rfl, rfl⟩ rfl rfl rfl rfl rfl (by kernel_rfl) Try.func5 (by kernel_rfl)
    (of_decide_eq_true (by kernel_rfl)) (by unfold Func.isWrapper; first | (rw [if_pos (by decide +kernel)]; kernel_rfl) | (rw [if_neg (by decide +kernel)]; exact ⟨rfl, rfl⟩))
    (fun os started H enc _ => lifted os started H enc)

theorem proved : Rows.FnInterfaceOfSaid := over
#print axioms proved
end Go.Proofs.Yteodlkkghnfkdaa.lawFnInterfaceOf
