/- FnRuleSound: for all bytes, two drawn systems keep together what the first one keeps under an assumption that the second one keeps, if the letters are as the rule asks: the law answers true. -/
import Derived.Test.YthpiihblmekijaaGreatDoorDrawC
import Derived.Test.YthpiihblmekijaaGreatDoorDrawB
import Derived.Test.YthpiihblmekijaaGreatDoorPlainC
import Derived.Test.YthpiihblmekijaaGreatDoorDet
import Derived.Test.YthpiihblmekijaaGreatDoorCard
import Derived.Test.YthpiihblmekijaaGreatDoorDrawL
namespace Go.Proofs.YthpiihblmekijaaGreatDoor.lawFnRuleSound
open Go.ChangeShapes Go.WideShapes Go.ChangeAt Go.RowKit
open Go.Proofs.YthpiihblmekijaaGreatDoor
open Go.ChangeMaps (open_string shut_string)
set_option linter.unusedVariables false
set_option linter.unusedSimpArgs false
set_option maxHeartbeats 1600000
set_option maxRecDepth 100000

theorem SyssV.two {w : World} {s t : Sys} {ve vf : Value} (h : EdgesV w ve s.edges) (k : EdgesV w vf t.edges) :
    SyssV (w.alloc (.cells #[.int .i64 s.alphabet, .int .i64 s.states, ve, .int .i64 t.alphabet, .int .i64 t.states, vf] 25)) (.slice (some ⟨w.heap.size, 0, none⟩) 2 2) [s, t] := by
  refine ⟨_, 2, rfl, Nat.le_refl _, by decide, fun _ => ⟨w.heap.size, 0, rfl, by simp, fun i x hi => ?_⟩⟩
  have hb := Blk.new w #[.int .i64 s.alphabet, .int .i64 s.states, ve, .int .i64 t.alphabet, .int .i64 t.states, vf] 25
  match i, hi with
  | 0, hi => simp at hi; subst hi; exact ⟨ve, hb.cell 0 rfl, hb.cell 1 rfl, hb.cell 2 rfl, h.mono (Ext.alloc _ _)⟩
  | 1, hi => simp at hi; subst hi; exact ⟨vf, hb.cell 3 rfl, hb.cell 4 rfl, hb.cell 5 rfl, k.mono (Ext.alloc _ _)⟩
  | i + 2, hi => simp at hi
theorem sub63_all : ∀ t ∈ List.range 64, ∀ i ∈ List.range 6, (63 - t).testBit i = !t.testBit i := by decide
theorem bit_sub {t : Int} (h : 0 ≤ t) (h2 : t ≤ 63) (x : Int) : bit (63 - t) x = (bit 63 x && !bit t x) := by
  obtain ⟨n, rfl⟩ := Int.eq_ofNat_of_zero_le h
  rw [show (63 : Int) - (n : Int) = ((63 - n : Nat) : Int) by omega]
  simp only [bit, Int.toNat_natCast]
  by_cases hx : 0 ≤ x ∧ x < 6
  · have := sub63_all n (List.mem_range.2 (by omega)) x.toNat (List.mem_range.2 (by omega))
    rw [this]
    have h63 : (63 : Int).toNat.testBit x.toNat = true := by
      rw [show (63 : Int).toNat = 2 ^ 6 - 1 from rfl, Nat.testBit_two_pow_sub_one, decide_eq_true_eq]; omega
    rw [h63]
    simp [hx.1]
  · by_cases h0 : 0 ≤ x
    · have h6 : 6 ≤ x.toNat := by omega
      have e1 : (63 - n).testBit x.toNat = false := Nat.testBit_lt_two_pow (Nat.lt_of_lt_of_le (show 63 - n < 2 ^ 6 by omega) (Nat.pow_le_pow_right (by omega) h6))
      have e2 : (63 : Int).toNat.testBit x.toNat = false := Nat.testBit_lt_two_pow (Nat.lt_of_lt_of_le (show (63 : Int).toNat < 2 ^ 6 by decide) (Nat.pow_le_pow_right (by omega) h6))
      rw [e1, e2]; simp
    · simp [h0]
theorem bit_and {a b : Int} (ha : 0 ≤ a) (ha2 : a ≤ 63) (hb : 0 ≤ b) (hb2 : b ≤ 63) : 0 ≤ bits .and .i64 a b ∧ bits .and .i64 a b ≤ 63 ∧ ∀ x, bit (bits .and .i64 a b) x = (bit a x && bit b x) := by
  obtain ⟨m, rfl⟩ := Int.eq_ofNat_of_zero_le ha
  obtain ⟨n, rfl⟩ := Int.eq_ofNat_of_zero_le hb
  rw [i64_and_nat m n (by omega) (by omega)]
  have : m &&& n ≤ m := Nat.and_le_left
  refine ⟨by omega, by omega, fun x => ?_⟩
  simp only [bit, Int.toNat_natCast, Nat.testBit_and]
  cases decide (0 ≤ x) <;> simp
theorem bit_zero (x : Int) : bit 0 x = false := by simp [bit]
theorem bit_in63 {a x : Int} (h : a ≤ 63) (hb : bit a x = true) : bit 63 x = true := by
  have := bit_range h hb; rw [bit63]; simp; omega

theorem walk (v0 : Value) (t0 : List UInt8) (v1 : Value) (t1 : List UInt8) (w : World) (hv0 : BytesV w v0 t0) (hv1 : BytesV w v1 t1) (hD : Deb w) : Calls Tryz.prog 6 #[v0, v1] w (Grows (.bool true) w) := by
  have HV1 := Lib.hid (show ∀ w', Ext w w' → BytesV w' v1 t1 from fun w' h => hv1.mono (fun b o x _ k => h.cell k) h.size)
  obtain ⟨aB, cB, rfl, hleB, -⟩ := hv0.open
  obtain ⟨aM, cM, rfl, hleM, -⟩ := hv1.open
  clear hv1
  have HDb := Lib.hid hD
  clear hD
  by_cases hz0 : 1048576 < t0.length
  · go_enter Tryz.func6, Tryz.ntmps6
    go_wp2_with fail
    go_ret
    exact Grows.mk rfl (Ext.refl _)
  by_cases hz1 : 1048576 < t1.length
  · go_enter Tryz.func6, Tryz.ntmps6
    go_wp2_with fail
    go_ret
    exact Grows.mk rfl (Ext.refl _)
  go_enter Tryz.func6, Tryz.ntmps6
  go_wp2_with fail
  refine (DrawKeepsUnder_t _ t0 _ hv0 (by omega)).mono ?_
  rintro e w1 ⟨r, D, rfl, he1, hD1, hT1, s, a, p, rfl, hS, hA, hP⟩
  obtain ⟨S, hSe1, hSV1⟩ := hS.sys hT1
  obtain ⟨vE1, rfl, hE1⟩ := hSV1
  obtain ⟨aE1, cE1, rfl, -, -⟩ := hE1.open
  obtain ⟨A, hPn2, hPa2, hPV2⟩ := hA.auto hT1
  obtain ⟨vN2, vA2, rfl, hN2, hA2⟩ := hPV2
  obtain ⟨aN2, cN2, rfl, -, -⟩ := hN2.open
  obtain ⟨aA2, cA2, rfl, -, -⟩ := hA2.open
  obtain ⟨P, hPn3, hPa3, hPV3⟩ := hP.auto hT1
  obtain ⟨vN3, vA3, rfl, hN3, hA3⟩ := hPV3
  obtain ⟨aN3, cN3, rfl, -, -⟩ := hN3.open
  obtain ⟨aA3, cA3, rfl, -, -⟩ := hA3.open
  have HS := Lib.hid (show ∀ w', Ext w1 w' → SysV w' (.agg #[.int .i64 S.alphabet, .int .i64 S.states, .slice aE1 S.edges.length cE1]) S from fun w' h => ⟨_, rfl, hE1.mono h⟩)
  have HA := Lib.hid (show ∀ w', Ext w1 w' → AutoV w' (.agg #[.int .i64 A.alphabet, .slice aN2 A.next.length cN2, .slice aA2 A.accept.length cA2]) A from fun w' h => ⟨_, _, rfl, hN2.mono h, hA2.mono h⟩)
  have HP := Lib.hid (show ∀ w', Ext w1 w' → AutoV w' (.agg #[.int .i64 P.alphabet, .slice aN3 P.next.length cN3, .slice aA3 P.accept.length cA3]) P from fun w' h => ⟨_, _, rfl, hN3.mono h, hA3.mono h⟩)
  have HD := Lib.hid (show ∀ w', Ext w1 w' → Deb w' from fun w' h => HDb.out.ext (he1.trans h))
  clear hE1 hN2 hA2 hN3 hA3 hS hA hP hT1 hD1
  have hx : Ext w1 (((w1.alloc (.cells #[.int .i64 S.alphabet, .int .i64 S.states, .slice aE1 S.edges.length cE1] 25)).alloc (.cells #[.int .i64 A.alphabet, .slice aN2 A.next.length cN2, .slice aA2 A.accept.length cA2] 29)).alloc (.cells #[.int .i64 P.alphabet, .slice aN3 P.next.length cN3, .slice aA3 P.accept.length cA3] 29)) := ((Ext.alloc _ _).trans (Ext.alloc _ _)).trans (Ext.alloc _ _)
  have b3 : Blk (((w1.alloc (.cells #[.int .i64 S.alphabet, .int .i64 S.states, .slice aE1 S.edges.length cE1] 25)).alloc (.cells #[.int .i64 A.alphabet, .slice aN2 A.next.length cN2, .slice aA2 A.accept.length cA2] 29)).alloc (.cells #[.int .i64 P.alphabet, .slice aN3 P.next.length cN3, .slice aA3 P.accept.length cA3] 29)) w1.heap.size #[.int .i64 S.alphabet, .int .i64 S.states, .slice aE1 S.edges.length cE1] 25 := Ext.blk ((Ext.alloc _ _).trans (Ext.alloc _ _))
  have b4 : Blk (((w1.alloc (.cells #[.int .i64 S.alphabet, .int .i64 S.states, .slice aE1 S.edges.length cE1] 25)).alloc (.cells #[.int .i64 A.alphabet, .slice aN2 A.next.length cN2, .slice aA2 A.accept.length cA2] 29)).alloc (.cells #[.int .i64 P.alphabet, .slice aN3 P.next.length cN3, .slice aA3 P.accept.length cA3] 29)) (w1.heap.size + 1) #[.int .i64 A.alphabet, .slice aN2 A.next.length cN2, .slice aA2 A.accept.length cA2] 29 := Ext.blk1 (Ext.alloc _ _)
  have b5 : Blk (((w1.alloc (.cells #[.int .i64 S.alphabet, .int .i64 S.states, .slice aE1 S.edges.length cE1] 25)).alloc (.cells #[.int .i64 A.alphabet, .slice aN2 A.next.length cN2, .slice aA2 A.accept.length cA2] 29)).alloc (.cells #[.int .i64 P.alphabet, .slice aN3 P.next.length cN3, .slice aA3 P.accept.length cA3] 29)) (w1.heap.size + 1 + 1) #[.int .i64 P.alphabet, .slice aN3 P.next.length cN3, .slice aA3 P.accept.length cA3] 29 := Ext.blk2 (Ext.refl _)
  go_wp2_with fail
  generalize (((w1.alloc (.cells #[.int .i64 S.alphabet, .int .i64 S.states, .slice aE1 S.edges.length cE1] 25)).alloc (.cells #[.int .i64 A.alphabet, .slice aN2 A.next.length cN2, .slice aA2 A.accept.length cA2] 29)).alloc (.cells #[.int .i64 P.alphabet, .slice aN3 P.next.length cN3, .slice aA3 P.accept.length cA3] 29)) = w2 at hx b3 b4 b5 ⊢
  have b3_0 := b3.cell 0 rfl; have b3_1 := b3.cell 1 rfl; have b3_2 := b3.cell 2 rfl; have b4_0 := b4.cell 0 rfl; have b4_1 := b4.cell 1 rfl; have b4_2 := b4.cell 2 rfl; have b5_0 := b5.cell 0 rfl; have b5_1 := b5.cell 1 rfl; have b5_2 := b5.cell 2 rfl
  refine (DrawKeepsProperty_t _ t1 _ (HV1.out _ (he1.trans hx)) (by omega)).mono ?_
  rintro e wk ⟨r, D, rfl, hewk, -, hTwk, s, p, rfl, hSS, hPP⟩
  obtain ⟨T, hSe4, hSV4⟩ := hSS.sys hTwk
  obtain ⟨vE4, rfl, hE4⟩ := hSV4
  obtain ⟨aE4, cE4, rfl, -, -⟩ := hE4.open
  obtain ⟨Q, hPn5, hPa5, hPV5⟩ := hPP.auto hTwk
  obtain ⟨vN5, vA5, rfl, hN5, hA5⟩ := hPV5
  obtain ⟨aN5, cN5, rfl, -, -⟩ := hN5.open
  obtain ⟨aA5, cA5, rfl, -, -⟩ := hA5.open
  have HT := Lib.hid (show ∀ w', Ext wk w' → SysV w' (.agg #[.int .i64 T.alphabet, .int .i64 T.states, .slice aE4 T.edges.length cE4]) T from fun w' h => ⟨_, rfl, hE4.mono h⟩)
  have HQ := Lib.hid (show ∀ w', Ext wk w' → AutoV w' (.agg #[.int .i64 Q.alphabet, .slice aN5 Q.next.length cN5, .slice aA5 Q.accept.length cA5]) Q from fun w' h => ⟨_, _, rfl, hN5.mono h, hA5.mono h⟩)
  clear hE4 hN5 hA5 hSS hPP hTwk
  have HS := Lib.hid (show ∀ w', Ext wk w' → SysV w' (.agg #[.int .i64 S.alphabet, .int .i64 S.states, .slice aE1 S.edges.length cE1]) S from fun w' h => HS.out _ (hx.trans (hewk.trans h)))
  have HA := Lib.hid (show ∀ w', Ext wk w' → AutoV w' (.agg #[.int .i64 A.alphabet, .slice aN2 A.next.length cN2, .slice aA2 A.accept.length cA2]) A from fun w' h => HA.out _ (hx.trans (hewk.trans h)))
  have HP := Lib.hid (show ∀ w', Ext wk w' → AutoV w' (.agg #[.int .i64 P.alphabet, .slice aN3 P.next.length cN3, .slice aA3 P.accept.length cA3]) P from fun w' h => HP.out _ (hx.trans (hewk.trans h)))
  have HD := Lib.hid (show ∀ w', Ext wk w' → Deb w' from fun w' h => HD.out _ (hx.trans (hewk.trans h)))
  replace he1 := he1.trans (hx.trans hewk)
  clear b3_0 b3_1 b3_2 b4_0 b4_1 b4_2 b5_0 b5_1 b5_2
  have hxn : Ext wk ((wk.alloc (.cells #[.int .i64 T.alphabet, .int .i64 T.states, .slice aE4 T.edges.length cE4] 25)).alloc (.cells #[.int .i64 Q.alphabet, .slice aN5 Q.next.length cN5, .slice aA5 Q.accept.length cA5] 29)) := (Ext.alloc _ _).trans (Ext.alloc _ _)
  replace b3 := b3.ext (hewk.trans hxn)
  replace b4 := b4.ext (hewk.trans hxn)
  replace b5 := b5.ext (hewk.trans hxn)
  have b6 : Blk ((wk.alloc (.cells #[.int .i64 T.alphabet, .int .i64 T.states, .slice aE4 T.edges.length cE4] 25)).alloc (.cells #[.int .i64 Q.alphabet, .slice aN5 Q.next.length cN5, .slice aA5 Q.accept.length cA5] 29)) wk.heap.size #[.int .i64 T.alphabet, .int .i64 T.states, .slice aE4 T.edges.length cE4] 25 := Ext.blk (Ext.alloc _ _)
  have b7 : Blk ((wk.alloc (.cells #[.int .i64 T.alphabet, .int .i64 T.states, .slice aE4 T.edges.length cE4] 25)).alloc (.cells #[.int .i64 Q.alphabet, .slice aN5 Q.next.length cN5, .slice aA5 Q.accept.length cA5] 29)) (wk.heap.size + 1) #[.int .i64 Q.alphabet, .slice aN5 Q.next.length cN5, .slice aA5 Q.accept.length cA5] 29 := Ext.blk1 (Ext.refl _)
  clear hx hewk
  go_upto_region 5 with fail
  generalize ((wk.alloc (.cells #[.int .i64 T.alphabet, .int .i64 T.states, .slice aE4 T.edges.length cE4] 25)).alloc (.cells #[.int .i64 Q.alphabet, .slice aN5 Q.next.length cN5, .slice aA5 Q.accept.length cA5] 29)) = wl at hxn b3 b4 b5 b6 b7 ⊢
  have hx := hxn
  clear hxn
  have b3_0 := b3.cell 0 rfl; have b3_1 := b3.cell 1 rfl; have b3_2 := b3.cell 2 rfl; have b4_0 := b4.cell 0 rfl; have b4_1 := b4.cell 1 rfl; have b4_2 := b4.cell 2 rfl; have b5_0 := b5.cell 0 rfl; have b5_1 := b5.cell 1 rfl; have b5_2 := b5.cell 2 rfl; have b6_0 := b6.cell 0 rfl; have b6_1 := b6.cell 1 rfl; have b6_2 := b6.cell 2 rfl; have b7_0 := b7.cell 0 rfl; have b7_1 := b7.cell 1 rfl; have b7_2 := b7.cell 2 rfl
  obtain ⟨u, hu⟩ : ∃ u, underB S A P = u := ⟨_, rfl⟩
  have HU := Lib.hid hu
  have C1 := Lib.hid (show ∀ w', Ext wk w' → Calls Tryz.prog 17 #[.agg #[.int .i64 S.alphabet, .int .i64 S.states, .slice aE1 S.edges.length cE1], .agg #[.int .i64 A.alphabet, .slice aN2 A.next.length cN2, .slice aA2 A.accept.length cA2], .agg #[.int .i64 P.alphabet, .slice aN3 P.next.length cN3, .slice aA3 P.accept.length cA3]] w' (Grows (.bool u) w') from fun w' h => by have := KeepsUnder_cd _ _ _ S A P _ (HS.out _ h) (HA.out _ h) (HP.out _ h) (HD.out _ h); rwa [hu] at this)
  have C2 := Lib.hid (show ∀ w', Ext wk w' → Calls Tryz.prog 18 #[.agg #[.int .i64 S.alphabet, .int .i64 S.states, .slice aE1 S.edges.length cE1], .agg #[.int .i64 A.alphabet, .slice aN2 A.next.length cN2, .slice aA2 A.accept.length cA2], .agg #[.int .i64 P.alphabet, .slice aN3 P.next.length cN3, .slice aA3 P.accept.length cA3]] w' (Grows (.bool u) w') from fun w' h => by have := KeepsUnder_sd _ _ _ S A P _ (HS.out _ h) (HA.out _ h) (HP.out _ h) (by omega); rwa [hu] at this)
  obtain ⟨kt, hkt⟩ : ∃ kt, keepsB [T] A = kt := ⟨_, rfl⟩
  have HK := Lib.hid hkt
  have C3 := Lib.hid (show ∀ w', Ext wk w' → Calls Tryz.prog 23 #[.agg #[.int .i64 T.alphabet, .int .i64 T.states, .slice aE4 T.edges.length cE4], .agg #[.int .i64 A.alphabet, .slice aN2 A.next.length cN2, .slice aA2 A.accept.length cA2]] w' (Grows (.bool kt) w') from fun w' h => by have := KeepsProperty_cd _ _ T A _ (HT.out _ h) (HA.out _ h) (HD.out _ h); rwa [hkt] at this)
  clear hu hkt
  go_wp2_with fail
  refine (C1.out _ hx).mono ?_
  rintro e wz1 ⟨rfl, hez1⟩
  clear b3_0 b3_1 b3_2 b4_0 b4_1 b4_2 b5_0 b5_1 b5_2 b6_0 b6_1 b6_2 b7_0 b7_1 b7_2
  replace b3 := b3.ext hez1
  replace b4 := b4.ext hez1
  replace b5 := b5.ext hez1
  replace b6 := b6.ext hez1
  replace b7 := b7.ext hez1
  replace hx := hx.trans hez1
  have b3_0 := b3.cell 0 rfl; have b3_1 := b3.cell 1 rfl; have b3_2 := b3.cell 2 rfl; have b4_0 := b4.cell 0 rfl; have b4_1 := b4.cell 1 rfl; have b4_2 := b4.cell 2 rfl; have b5_0 := b5.cell 0 rfl; have b5_1 := b5.cell 1 rfl; have b5_2 := b5.cell 2 rfl; have b6_0 := b6.cell 0 rfl; have b6_1 := b6.cell 1 rfl; have b6_2 := b6.cell 2 rfl; have b7_0 := b7.cell 0 rfl; have b7_1 := b7.cell 1 rfl; have b7_2 := b7.cell 2 rfl
  go_wp2_with fail
  refine (C2.out _ hx).mono ?_
  rintro e wz2 ⟨rfl, hez2⟩
  clear b3_0 b3_1 b3_2 b4_0 b4_1 b4_2 b5_0 b5_1 b5_2 b6_0 b6_1 b6_2 b7_0 b7_1 b7_2
  replace b3 := b3.ext hez2
  replace b4 := b4.ext hez2
  replace b5 := b5.ext hez2
  replace b6 := b6.ext hez2
  replace b7 := b7.ext hez2
  replace hx := hx.trans hez2
  have b3_0 := b3.cell 0 rfl; have b3_1 := b3.cell 1 rfl; have b3_2 := b3.cell 2 rfl; have b4_0 := b4.cell 0 rfl; have b4_1 := b4.cell 1 rfl; have b4_2 := b4.cell 2 rfl; have b5_0 := b5.cell 0 rfl; have b5_1 := b5.cell 1 rfl; have b5_2 := b5.cell 2 rfl; have b6_0 := b6.cell 0 rfl; have b6_1 := b6.cell 1 rfl; have b6_2 := b6.cell 2 rfl; have b7_0 := b7.cell 0 rfl; have b7_1 := b7.cell 1 rfl; have b7_2 := b7.cell 2 rfl
  cases u with
  | false =>
    go_wp2_with fail
    refine (C2.out _ hx).mono ?_
    rintro e wz3 ⟨rfl, hez3⟩
    clear b3_0 b3_1 b3_2 b4_0 b4_1 b4_2 b5_0 b5_1 b5_2 b6_0 b6_1 b6_2 b7_0 b7_1 b7_2
    replace b3 := b3.ext hez3
    replace b4 := b4.ext hez3
    replace b5 := b5.ext hez3
    replace b6 := b6.ext hez3
    replace b7 := b7.ext hez3
    replace hx := hx.trans hez3
    have b3_0 := b3.cell 0 rfl; have b3_1 := b3.cell 1 rfl; have b3_2 := b3.cell 2 rfl; have b4_0 := b4.cell 0 rfl; have b4_1 := b4.cell 1 rfl; have b4_2 := b4.cell 2 rfl; have b5_0 := b5.cell 0 rfl; have b5_1 := b5.cell 1 rfl; have b5_2 := b5.cell 2 rfl; have b6_0 := b6.cell 0 rfl; have b6_1 := b6.cell 1 rfl; have b6_2 := b6.cell 2 rfl; have b7_0 := b7.cell 0 rfl; have b7_1 := b7.cell 1 rfl; have b7_2 := b7.cell 2 rfl
    go_wp2_with fail
    go_ret
    exact Grows.mk rfl (he1.trans hx)
  | true =>
    go_wp2_with fail
    refine (C3.out _ hx).mono ?_
    rintro e wz4 ⟨rfl, hez4⟩
    clear b3_0 b3_1 b3_2 b4_0 b4_1 b4_2 b5_0 b5_1 b5_2 b6_0 b6_1 b6_2 b7_0 b7_1 b7_2
    replace b3 := b3.ext hez4
    replace b4 := b4.ext hez4
    replace b5 := b5.ext hez4
    replace b6 := b6.ext hez4
    replace b7 := b7.ext hez4
    replace hx := hx.trans hez4
    have b3_0 := b3.cell 0 rfl; have b3_1 := b3.cell 1 rfl; have b3_2 := b3.cell 2 rfl; have b4_0 := b4.cell 0 rfl; have b4_1 := b4.cell 1 rfl; have b4_2 := b4.cell 2 rfl; have b5_0 := b5.cell 0 rfl; have b5_1 := b5.cell 1 rfl; have b5_2 := b5.cell 2 rfl; have b6_0 := b6.cell 0 rfl; have b6_1 := b6.cell 1 rfl; have b6_2 := b6.cell 2 rfl; have b7_0 := b7.cell 0 rfl; have b7_1 := b7.cell 1 rfl; have b7_2 := b7.cell 2 rfl
    cases kt with
    | false =>
      go_wp2_with fail
      refine (C2.out _ hx).mono ?_
      rintro e wz5 ⟨rfl, hez5⟩
      clear b3_0 b3_1 b3_2 b4_0 b4_1 b4_2 b5_0 b5_1 b5_2 b6_0 b6_1 b6_2 b7_0 b7_1 b7_2
      replace b3 := b3.ext hez5
      replace b4 := b4.ext hez5
      replace b5 := b5.ext hez5
      replace b6 := b6.ext hez5
      replace b7 := b7.ext hez5
      replace hx := hx.trans hez5
      have b3_0 := b3.cell 0 rfl; have b3_1 := b3.cell 1 rfl; have b3_2 := b3.cell 2 rfl; have b4_0 := b4.cell 0 rfl; have b4_1 := b4.cell 1 rfl; have b4_2 := b4.cell 2 rfl; have b5_0 := b5.cell 0 rfl; have b5_1 := b5.cell 1 rfl; have b5_2 := b5.cell 2 rfl; have b6_0 := b6.cell 0 rfl; have b6_1 := b6.cell 1 rfl; have b6_2 := b6.cell 2 rfl; have b7_0 := b7.cell 0 rfl; have b7_1 := b7.cell 1 rfl; have b7_2 := b7.cell 2 rfl
      go_wp2_with fail
      go_ret
      exact Grows.mk rfl (he1.trans hx)
    | true =>
      obtain ⟨hs, ha, hp, -⟩ := underB_iff.1 HU.out
      have ht : sysValid T = true := by have := (keepsB_iff.1 HK.out).1; rwa [one_areParts] at this
      have fs := sys_alpha hs
      have ft := sys_alpha ht
      have fa := autoValid_facts ha
      have fp := autoValid_facts hp
      obtain ⟨x1, x2, x3⟩ := bit_and fa.1 fa.2.1 fs.1 fs.2
      obtain ⟨y1, y2, y3⟩ := bit_and fp.1 fp.2.1 ft.1 ft.2
      have wt : IntKind.i64.wrap (63 - T.alphabet) = 63 - T.alphabet := IntWalk.i64_in _ (by omega)
      have ws : IntKind.i64.wrap (63 - S.alphabet) = 63 - S.alphabet := IntWalk.i64_in _ (by omega)
      have wa : IntKind.i64.wrap (63 - A.alphabet) = 63 - A.alphabet := IntWalk.i64_in _ (by omega)
      obtain ⟨z1, z2, z3⟩ := bit_and x1 x2 (show 0 ≤ 63 - T.alphabet by omega) (by omega)
      obtain ⟨u1, u2, u3⟩ := bit_and y1 y2 (show 0 ≤ 63 - S.alphabet by omega) (by omega)
      obtain ⟨r1, r2, r3⟩ := bit_and u1 u2 (show 0 ≤ 63 - A.alphabet by omega) (by omega)
      have hend : (bits .and .i64 (bits .and .i64 A.alphabet S.alphabet) (63 - T.alphabet) == 0) = true → (bits .and .i64 (bits .and .i64 (bits .and .i64 P.alphabet T.alphabet) (63 - S.alphabet)) (63 - A.alphabet) == 0) = true → keepsB [S, T] P = true := fun h1 h2 => by
        rw [beq_iff_eq] at h1 h2
        refine rule_sound HU.out HK.out (fun x hxa hxs => ?_) (fun x hxp hxt => ?_)
        · have := z3 x
          rw [h1, bit_zero, x3, hxa, hxs, bit_sub ft.1 ft.2, bit_in63 fs.2 hxs] at this
          cases hb : bit T.alphabet x with
          | true => rfl
          | false => rw [hb] at this; cases this
        · have := r3 x
          rw [h2, bit_zero, u3, y3, hxp, hxt, bit_sub fs.1 fs.2, bit_sub fa.1 fa.2.1, bit_in63 ft.2 hxt] at this
          cases hb : bit S.alphabet x with
          | true => exact .inl rfl
          | false =>
            cases hc : bit A.alphabet x with
            | true => exact .inr rfl
            | false => rw [hb, hc] at this; cases this
      have HEND := Lib.hid hend
      clear hend x1 x2 x3 y1 y2 y3 z1 z2 z3 u1 u2 u3 r1 r2 r3 fs ft fa fp hs ha hp ht
      obtain ⟨c1, hc1⟩ : ∃ c1, bits .and .i64 (bits .and .i64 A.alphabet S.alphabet) (63 - T.alphabet) = c1 := ⟨_, rfl⟩
      obtain ⟨c2, hc2⟩ : ∃ c2, bits .and .i64 (bits .and .i64 (bits .and .i64 P.alphabet T.alphabet) (63 - S.alphabet)) (63 - A.alphabet) = c2 := ⟨_, rfl⟩
      rw [hc1, hc2] at HEND
      by_cases h1 : (c1 == 0) = true
      case neg =>
        have h1' : ¬ c1 = 0 := by simpa using h1
        have h1n : (c1 != 0) = true := by simpa using h1
        go_wp2_with fail
        go_ret
        exact Grows.mk rfl (he1.trans hx)
      have h1n : (c1 != 0) = false := by simpa using h1
      by_cases h2 : (c2 == 0) = true
      case neg =>
        have h2n : (c2 != 0) = true := by simpa using h2
        go_wp2_with fail
        go_ret
        exact Grows.mk rfl (he1.trans hx)
      have h2n : (c2 != 0) = false := by simpa using h2
      have hfin := HEND.out h1 h2
      clear HEND h1 h2
      have d0 := fun o => (b5.ext (Ext.alloc _ o)).cell 0 rfl
      have d1 := fun o => (b5.ext (Ext.alloc _ o)).cell 1 rfl
      have d2 := fun o => (b5.ext (Ext.alloc _ o)).cell 2 rfl
      obtain ⟨vf1, ef1, hf1⟩ := HS.out _ hx
      cases ef1
      obtain ⟨vf4, ef4, hf4⟩ := HT.out _ hx
      cases ef4
      have hSY := Lib.hid (SyssV.two hf1 hf4)
      clear hf1 hf4
      have hxa := hx.trans (Ext.alloc _ (.cells #[.int .i64 S.alphabet, .int .i64 S.states, .slice aE1 S.edges.length cE1, .int .i64 T.alphabet, .int .i64 T.states, .slice aE4 T.edges.length cE4] 25))
      go_wp2_with fail
      refine (PartsKeep_cd _ _ [S, T] P _ hSY.out (by simp) (HP.out _ hxa) (HD.out _ hxa)).mono ?_
      rintro e w9 ⟨rfl, he9⟩
      go_wp2_with fail
      go_ret
      exact Grows.mk rfl ((he1.trans hxa).trans he9)

theorem own : ownKnob Tryz.prog.godebug = none := by kernel_rfl
theorem laidOut : laidOutB Tryz.prog = true := by kernel_rfl
theorem deb_of_laid {W : World} (h : laidMetH Tryz.prog Rows.fnRuleSoundRow.laid W) : Deb W := debOfLaid h
theorem laid_met (os : Os) (args : Array Value) : laidMetH Tryz.prog Rows.fnRuleSoundRow.laid ((laidWorld os).forCall (fun _ _ => 0) ⟨#[], args, []⟩).memory :=
  (LaidIn.of_run [0, 1] 8 (by kernel_rfl) (by kernel_rfl) (by kernel_rfl) (by kernel_rfl)).met
set_option maxRecDepth 100000 in
theorem lifted (os : Os) (started : os.Started) (H : Type) (enc : TypeId × Value → H) :
    ReturnsInHanded {} Tryz.checked os 6 .any (fun w args => (Rows.fnRuleSoundSpec.pre enc Tryz.prog Tryz.f6 [] false w args ∧ laidMetH Tryz.prog Rows.fnRuleSoundRow.laid w) ∧ sizedMet enc Tryz.prog Tryz.f6 (OpenSpec.ofChange Rows.fnRuleSoundSpec) false w args)
      (Rows.fnRuleSoundSpec.post enc Tryz.prog Tryz.f6 false true false false) := by
  refine returnsInHanded_of_change_and (C := Tryz.checked) (X := fun w _ => laidMetH Tryz.prog Rows.fnRuleSoundRow.laid w) (fun _ _ _ hh h => h.of_heap hh) own started (by kernel_rfl) Tryz.func6
    (ChangeSpec.witness_at (enc := enc) (C := Tryz.checked) (os := os) (X := fun w _ => laidMetH Tryz.prog Rows.fnRuleSoundRow.laid w) false (laidWorld os) #[.slice none 0 0, .slice none 0 0] 8 rfl (by kernel_rfl) (by kernel_rfl) (by kernel_rfl) (by kernel_rfl) (by kernel_rfl) (laid_met os _)) ?_
  intro W base args ds gs before hval0 hW _ _ hL _
  have hval : ∀ (j : Nat) t v, Tryz.f6.params[j]? = some t → args[j]? = some v → Value.okWide Tryz.prog W .any base t v := hval0
  have hW' := hW
  obtain ⟨p, q, hA0, hV, rfl, hfz, hnd⟩ := hW
  have hA : DataW.TrodAll enc Tryz.prog W 0 (fun _ => true) true Tryz.f6.params.toList args.toList ds p := hA0
  rw [Tryz.params6] at hA hval
  obtain ⟨v0, vs0, d0, ds0, p0, q0, hargs, rfl, rfl, h0, r0⟩ := trodAll_cons hA
  obtain ⟨v1, vs1, d1, ds1, p1, q1, rfl, rfl, rfl, h1, r1⟩ := trodAll_cons r0
  obtain ⟨rfl, rfl, rfl⟩ := trodAll_nil r1
  obtain rfl : args = #[v0, v1] := by cases args; simp_all
  obtain ⟨rfl, rfl⟩ := trodVars_none hV
  have k0 := h0
  have lt0 : ∀ x ∈ p0, x.block < W.heap.size := by obtain ⟨m, hm⟩ := k0; exact DataW.trod_lt m _ _ _ hm
  obtain ⟨a0, len0, cap0, rfl⟩ := okWide_slice Tryz.underlying22 (hval 0 _ v0 rfl rfl)
  obtain ⟨t0, w0⟩ : ∃ t, BytesV W (.slice a0 len0 cap0) t := by
    obtain ⟨fuel, hf⟩ := h0
    obtain ⟨v, t, hv, ht⟩ := read_bytes hf
    simp [Value.cells] at hv
    subst hv
    exact ⟨t, ht⟩
  have k1 := h1
  have lt1 : ∀ x ∈ p1, x.block < W.heap.size := by obtain ⟨m, hm⟩ := k1; exact DataW.trod_lt m _ _ _ hm
  obtain ⟨a1, len1, cap1, rfl⟩ := okWide_slice Tryz.underlying22 (hval 1 _ v1 rfl rfl)
  obtain ⟨t1, w1⟩ : ∃ t, BytesV W (.slice a1 len1 cap1) t := by
    obtain ⟨fuel, hf⟩ := h1
    obtain ⟨v, t, hv, ht⟩ := read_bytes hf
    simp [Value.cells] at hv
    subst hv
    exact ⟨t, ht⟩
  clear hA0 hval0
  refine (walk (.slice a0 len0 cap0) t0 (.slice a1 len1 cap1) t1 W w0 w1 (deb_of_laid hL)).mono fun e W' ⟨he, bel⟩ => ?_
  subst he
  exact ⟨_, rfl, _, _, _, [], _, [], hW', trodAll_mk1 (shut_bool Tryz.underlying4 _), (trodAll_cons_mk (Below.trod laidOut (by kernel_rfl) (of_decide_eq_true (by kernel_rfl)) k0 bel lt0) (trodAll_cons_mk (Below.trod laidOut (by kernel_rfl) (of_decide_eq_true (by kernel_rfl)) k1 bel lt1) trodAll_mk0)), rfl, bel.frame _, fun h => by cases h⟩

theorem over : Rows.fnRuleSoundRow.holds Tryz.pinned (OpenSpec.ofChange Rows.fnRuleSoundSpec) :=
  OpenClaim.holds_of_wide 6 Tryz.f6 rfl rfl rfl rfl rfl rfl rfl ⟨rfl, rfl, rfl, rfl, rfl⟩ rfl rfl rfl rfl rfl (by kernel_rfl) Tryz.func6 (by kernel_rfl)
    (of_decide_eq_true (by kernel_rfl)) (by unfold Func.isWrapper; first | (rw [if_pos (by decide +kernel)]; kernel_rfl) | (rw [if_neg (by decide +kernel)]; exact ⟨rfl, rfl⟩))
    (fun os started H enc _ => lifted os started H enc)

theorem card_holds : Rows.FnRuleSoundCardSaid :=
  Claim7.holds_tied_plain_at .later [] [.data, .data] true (true, "9a077bff846fc9286c140de7f5544c1180e5c39865adca5fef709ebff2f37226") true
    over (fun _ h => by cases h) (by kernel_rfl) (fun _ h => by cases h) fnRuleSound_row_tie rfl ⟨rfl, rfl⟩ (by kernel_rfl) rfl
    (fun f fn hf hfn => by
      obtain rfl : f = 6 := Option.some.inj ((show Tryz.prog.funcNamed "loop.example/assumeguarantee/laws.FnRuleSound" = some 6 by kernel_rfl).symm.trans hf) |>.symm
      obtain rfl : fn = Tryz.f6 := (Option.some.inj (Tryz.func6.symm.trans hfn)).symm
      refine ⟨by kernel_rfl, fun j t ht => ?_⟩
      rw [Tryz.params6] at ht
      match j, ht with
      | 0, ht =>
        have h0 : t = 22 := by simpa using ht.symm
        subst h0
        exact (show Tryz.prog.wantsStandIn 22 = false by kernel_rfl)
      | 1, ht =>
        have h1 : t = 22 := by simpa using ht.symm
        subst h1
        exact (show Tryz.prog.wantsStandIn 22 = false by kernel_rfl)
      | j + 2, ht => simp at ht)
    (by kernel_rfl)
#print axioms card_holds
end Go.Proofs.YthpiihblmekijaaGreatDoor.lawFnRuleSound
