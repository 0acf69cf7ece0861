/- FnUnderLeast: for all bytes, no word before the first violation under the drawn assumption is one: the law answers true. -/
import Derived.Test.YteodlkkghnfkdaaGreatDoorDrawE
import Derived.Test.YteodlkkghnfkdaaGreatDoorWalkWA
import Derived.Test.YteodlkkghnfkdaaGreatDoorDet
import Derived.Test.YteodlkkghnfkdaaGreatDoorCard
import Derived.Test.YteodlkkghnfkdaaGreatDoorDrawL
namespace Go.Proofs.YteodlkkghnfkdaaGreatDoor.lawFnUnderLeast
open Go.ChangeShapes Go.WideShapes Go.ChangeAt Go.RowKit
open Go.Proofs.YteodlkkghnfkdaaGreatDoor
open Go.ChangeMaps (open_string shut_string)
set_option linter.unusedVariables false
set_option linter.unusedSimpArgs false
set_option maxHeartbeats 1600000
set_option maxRecDepth 100000

theorem word_unique {a : Int} (ha : 0 ≤ a) (ha2 : a ≤ 63) {n : Nat} {u v : List Int} (hu : WordOf a n u) (hv : WordOf a n v) : u = v := by
  by_cases he : u = v
  · exact he
  · rcases slexLe_total u v with h | h
    · have := idx_slex ha ha2 hu.1 hv.1 ⟨h, he⟩
      rw [hu.2, hv.2] at this; omega
    · have := idx_slex ha ha2 hv.1 hu.1 ⟨h, fun e => he e.symm⟩
      rw [hu.2, hv.2] at this; omega
theorem word_text {a : Int} (ha : 0 ≤ a) (ha2 : a ≤ 63) {n : Nat} {u : List Int} (h : WordOf a n u) (h7 : u.length ≤ 7) : chars (wtext u) = u ∧ wordIn (wtext u) a = true ∧ wordValid (wtext u) = true := by
  have e := chars_wtext (u := u) fun x hx => bit_range ha2 (h.1 x hx)
  have hw := wordIn_wtext ha ha2 h.1 (by omega)
  exact ⟨e, hw, wordIn_more (a := a) (by omega) (by omega) hw fun l hl => by have := bit_range ha2 hl; rw [bit63]; simp; omega⟩
theorem or_all {S : Sys} {A : Auto} (hs : sysValid S = true) (ha : autoValid A = true) : bits .or .i64 S.alphabet A.alphabet = allLetters [S] A := by
  have hal := valid_alpha hs
  have haa := autoValid_facts ha
  obtain ⟨m, hm⟩ := Int.eq_ofNat_of_zero_le hal.1
  obtain ⟨n, hn⟩ := Int.eq_ofNat_of_zero_le haa.1
  have hm2 := hal.2.1
  have hn2 := haa.2.1
  unfold allLetters
  simp only [orTo, List.length_singleton, List.take_succ_cons, List.take_zero, List.foldl_cons, List.foldl_nil, Nat.zero_or]
  rw [hm, hn, Int.toNat_natCast, Int.toNat_natCast]
  exact i64_or_nat m n (by omega) (by omega)
theorem all_alpha {S : Sys} {A : Auto} (hs : sysValid S = true) (ha : autoValid A = true) : 0 ≤ allLetters [S] A ∧ allLetters [S] A ≤ 63 ∧ ∀ l, bit (allLetters [S] A) l = true ↔ inAll [S] A l := by
  obtain ⟨h1, h2⟩ := allLetters_facts (parts := [S]) (by simpa using hs) ha
  exact ⟨by unfold allLetters; omega, h1, h2⟩
/-- A violation under the assumption. -/
def Bad (S : Sys) (A P : Auto) (u : List Int) : Prop := TraceV S u ∧ accepts A (run A 0 u) = true ∧ autoValid P = true ∧ accepts P (run P 0 u) = false
theorem bad_iff {S : Sys} {A P : Auto} (hs : sysValid S = true) (ha : autoValid A = true) {n : Nat} {u : List Int} (h : WordOf (allLetters [S] A) n u) (h7 : u.length ≤ 7) :
    Bad S A P u ↔ hasTrace S (restrictW (wtext u) S.alphabet) = true ∧ breaks A (wtext u) = false ∧ breaks P (wtext u) = true := by
  obtain ⟨a0, a1, -⟩ := all_alpha hs ha
  have hal := valid_alpha hs
  obtain ⟨e1, e2, e3⟩ := word_text a0 a1 h h7
  have er : restrictW (wtext u) S.alphabet = restrict (wtext u) S.alphabet := by unfold restrictW; rw [if_pos (by rw [e3]; simp [isAlpha]; exact ⟨hal.1, hal.2.1⟩)]
  unfold Bad
  rw [er, hasTrace_restrict hs (by rw [size_wtext]; omega), e1]
  unfold breaks
  rw [e1, e3, ha]
  simp only [Bool.and_true, Bool.true_and, Bool.and_eq_true, Bool.not_eq_true', Bool.not_eq_false']
theorem least {S : Sys} {A P : Auto} (hs : sysValid S = true) (ha : autoValid A = true) {k : Nat} {u : List Int} (hu : WordOf (allLetters [S] A) k u) (hb : Bad S A P u) (hno : ∀ j v, j < k → WordOf (allLetters [S] A) j v → ¬ Bad S A P v) : vuOf S A P = some u := by
  obtain ⟨a0, a1, a2⟩ := all_alpha hs ha
  rcases vu_cases S A P with ⟨h, _⟩ | ⟨_, h⟩
  · rw [hs, ha, hb.2.2.1] at h; cases h
  · have hiff : ∀ v, BrokenW [S] A P v ↔ (∀ x ∈ v, bit (allLetters [S] A) x = true) ∧ Bad S A P v := fun v => by
      rw [brokenW_iff (by simpa using hs) ha hb.2.2.1]
      unfold Bad
      simp only [a2, List.mem_singleton, forall_eq, true_and, hb.2.2.1]
    exact first_of_word a0 a1 h (fun v hv => ((hiff v).1 hv).1) hu ((hiff u).2 ⟨hu.1, hb⟩) fun j v hj hv hw => hno j v hj hv ((hiff v).1 hw).2

theorem walk (v0 : Value) (t0 : List UInt8) (w : World) (hv0 : BytesV w v0 t0) (hD : Deb w) : Calls Tryz.prog 7 #[v0] w (Grows (.bool true) w) := by
  obtain ⟨aB, cB, rfl, hleB, -⟩ := hv0.open
  have HDb := Lib.hid hD
  clear hD
  by_cases hz0 : 1048576 < t0.length
  · go_enter Tryz.func7, Tryz.ntmps7
    go_wp2_with fail
    go_ret
    exact Grows.mk rfl (Ext.refl _)
  go_enter Tryz.func7, Tryz.ntmps7
  go_wp2_with fail
  refine (DrawViolationUnder_t _ t0 _ hv0 (by omega)).mono ?_
  rintro e w1 ⟨r, D, rfl, he1, hD1, hT1, s, a, p, rfl, hS, hA, hP⟩
  obtain ⟨S, hSe1, hSV1⟩ := hS.sys hT1
  obtain ⟨vE1, rfl, hE1⟩ := hSV1
  obtain ⟨aE1, cE1, rfl, -, -⟩ := hE1.open
  obtain ⟨A, hPn2, hPa2, hPV2⟩ := hA.auto hT1
  obtain ⟨vN2, vA2, rfl, hN2, hA2⟩ := hPV2
  obtain ⟨aN2, cN2, rfl, -, -⟩ := hN2.open
  obtain ⟨aA2, cA2, rfl, -, -⟩ := hA2.open
  obtain ⟨P, hPn3, hPa3, hPV3⟩ := hP.auto hT1
  obtain ⟨vN3, vA3, rfl, hN3, hA3⟩ := hPV3
  obtain ⟨aN3, cN3, rfl, -, -⟩ := hN3.open
  obtain ⟨aA3, cA3, rfl, -, -⟩ := hA3.open
  have HS := Lib.hid (show ∀ w', Ext w1 w' → SysV w' (.agg #[.int .i64 S.alphabet, .int .i64 S.states, .slice aE1 S.edges.length cE1]) S from fun w' h => ⟨_, rfl, hE1.mono h⟩)
  have HA := Lib.hid (show ∀ w', Ext w1 w' → AutoV w' (.agg #[.int .i64 A.alphabet, .slice aN2 A.next.length cN2, .slice aA2 A.accept.length cA2]) A from fun w' h => ⟨_, _, rfl, hN2.mono h, hA2.mono h⟩)
  have HP := Lib.hid (show ∀ w', Ext w1 w' → AutoV w' (.agg #[.int .i64 P.alphabet, .slice aN3 P.next.length cN3, .slice aA3 P.accept.length cA3]) P from fun w' h => ⟨_, _, rfl, hN3.mono h, hA3.mono h⟩)
  have HD := Lib.hid (show ∀ w', Ext w1 w' → Deb w' from fun w' h => HDb.out.ext (he1.trans h))
  obtain ⟨rr, hrr⟩ : ∃ rr, vuOf S A P = rr := ⟨_, rfl⟩
  have HR := Lib.hid hrr
  have C1 := Lib.hid (show ∀ w', Ext w1 w' → Calls Tryz.prog 24 #[.agg #[.int .i64 S.alphabet, .int .i64 S.states, .slice aE1 S.edges.length cE1], .agg #[.int .i64 A.alphabet, .slice aN2 A.next.length cN2, .slice aA2 A.accept.length cA2], .agg #[.int .i64 P.alphabet, .slice aN3 P.next.length cN3, .slice aA3 P.accept.length cA3]] w' (Grows (.tuple #[.string (rtext rr), .bool rr.isSome]) w') from fun w' h => by have := ViolationUnder_cd _ _ _ S A P _ (HS.out _ h) (HA.out _ h) (HP.out _ h) (HD.out _ h); rwa [HR.out] at this)
  have C2 := Lib.hid (show ∀ w', Ext w1 w' → Calls Tryz.prog 25 #[.agg #[.int .i64 S.alphabet, .int .i64 S.states, .slice aE1 S.edges.length cE1], .agg #[.int .i64 A.alphabet, .slice aN2 A.next.length cN2, .slice aA2 A.accept.length cA2], .agg #[.int .i64 P.alphabet, .slice aN3 P.next.length cN3, .slice aA3 P.accept.length cA3]] w' (Grows (.tuple #[.string (rtext rr), .bool rr.isSome]) w') from fun w' h => by have := ViolationUnder_sd _ _ _ S A P _ (HS.out _ h) (HA.out _ h) (HP.out _ h) (by omega); rwa [HR.out] at this)
  clear hrr
  clear hE1 hN2 hA2 hN3 hA3 hS hA hP hT1 hD1
  have hx : Ext w1 (((w1.alloc (.cells #[.int .i64 S.alphabet, .int .i64 S.states, .slice aE1 S.edges.length cE1] 25)).alloc (.cells #[.int .i64 A.alphabet, .slice aN2 A.next.length cN2, .slice aA2 A.accept.length cA2] 29)).alloc (.cells #[.int .i64 P.alphabet, .slice aN3 P.next.length cN3, .slice aA3 P.accept.length cA3] 29)) := ((Ext.alloc _ _).trans (Ext.alloc _ _)).trans (Ext.alloc _ _)
  have b3 : Blk (((w1.alloc (.cells #[.int .i64 S.alphabet, .int .i64 S.states, .slice aE1 S.edges.length cE1] 25)).alloc (.cells #[.int .i64 A.alphabet, .slice aN2 A.next.length cN2, .slice aA2 A.accept.length cA2] 29)).alloc (.cells #[.int .i64 P.alphabet, .slice aN3 P.next.length cN3, .slice aA3 P.accept.length cA3] 29)) w1.heap.size #[.int .i64 S.alphabet, .int .i64 S.states, .slice aE1 S.edges.length cE1] 25 := Ext.blk ((Ext.alloc _ _).trans (Ext.alloc _ _))
  have b4 : Blk (((w1.alloc (.cells #[.int .i64 S.alphabet, .int .i64 S.states, .slice aE1 S.edges.length cE1] 25)).alloc (.cells #[.int .i64 A.alphabet, .slice aN2 A.next.length cN2, .slice aA2 A.accept.length cA2] 29)).alloc (.cells #[.int .i64 P.alphabet, .slice aN3 P.next.length cN3, .slice aA3 P.accept.length cA3] 29)) (w1.heap.size + 1) #[.int .i64 A.alphabet, .slice aN2 A.next.length cN2, .slice aA2 A.accept.length cA2] 29 := Ext.blk1 (Ext.alloc _ _)
  have b5 : Blk (((w1.alloc (.cells #[.int .i64 S.alphabet, .int .i64 S.states, .slice aE1 S.edges.length cE1] 25)).alloc (.cells #[.int .i64 A.alphabet, .slice aN2 A.next.length cN2, .slice aA2 A.accept.length cA2] 29)).alloc (.cells #[.int .i64 P.alphabet, .slice aN3 P.next.length cN3, .slice aA3 P.accept.length cA3] 29)) (w1.heap.size + 1 + 1) #[.int .i64 P.alphabet, .slice aN3 P.next.length cN3, .slice aA3 P.accept.length cA3] 29 := Ext.blk2 (Ext.refl _)
  go_wp2_with fail
  generalize (((w1.alloc (.cells #[.int .i64 S.alphabet, .int .i64 S.states, .slice aE1 S.edges.length cE1] 25)).alloc (.cells #[.int .i64 A.alphabet, .slice aN2 A.next.length cN2, .slice aA2 A.accept.length cA2] 29)).alloc (.cells #[.int .i64 P.alphabet, .slice aN3 P.next.length cN3, .slice aA3 P.accept.length cA3] 29)) = w2 at hx b3 b4 b5 ⊢
  have b3_0 := b3.cell 0 rfl; have b3_1 := b3.cell 1 rfl; have b3_2 := b3.cell 2 rfl; have b4_0 := b4.cell 0 rfl; have b4_1 := b4.cell 1 rfl; have b4_2 := b4.cell 2 rfl; have b5_0 := b5.cell 0 rfl; have b5_1 := b5.cell 1 rfl; have b5_2 := b5.cell 2 rfl
  go_wp2_with fail
  refine (C1.out _ hx).mono ?_
  rintro e wz1 ⟨rfl, hez1⟩
  clear b3_0 b3_1 b3_2 b4_0 b4_1 b4_2 b5_0 b5_1 b5_2
  replace b3 := b3.ext hez1
  replace b4 := b4.ext hez1
  replace b5 := b5.ext hez1
  replace hx := hx.trans hez1
  have b3_0 := b3.cell 0 rfl; have b3_1 := b3.cell 1 rfl; have b3_2 := b3.cell 2 rfl; have b4_0 := b4.cell 0 rfl; have b4_1 := b4.cell 1 rfl; have b4_2 := b4.cell 2 rfl; have b5_0 := b5.cell 0 rfl; have b5_1 := b5.cell 1 rfl; have b5_2 := b5.cell 2 rfl
  go_wp2_with fail
  refine (C2.out _ hx).mono ?_
  rintro e wz2 ⟨rfl, hez2⟩
  clear b3_0 b3_1 b3_2 b4_0 b4_1 b4_2 b5_0 b5_1 b5_2
  replace b3 := b3.ext hez2
  replace b4 := b4.ext hez2
  replace b5 := b5.ext hez2
  replace hx := hx.trans hez2
  have b3_0 := b3.cell 0 rfl; have b3_1 := b3.cell 1 rfl; have b3_2 := b3.cell 2 rfl; have b4_0 := b4.cell 0 rfl; have b4_1 := b4.cell 1 rfl; have b4_2 := b4.cell 2 rfl; have b5_0 := b5.cell 0 rfl; have b5_1 := b5.cell 1 rfl; have b5_2 := b5.cell 2 rfl
  have heq2 : (rr.isSome != rr.isSome) = false := by simp
  have heq3 : (rr.isSome == rr.isSome) = true := by simp
  by_cases hs : sysValid S = true
  case neg =>
    have hs : sysValid S = false := by simpa using hs
    go_wp2_with fail
    refine (SystemValid_b hs (HS.out _ hx)).mono ?_
    rintro e wz3 ⟨rfl, hez3⟩
    clear b3_0 b3_1 b3_2 b4_0 b4_1 b4_2 b5_0 b5_1 b5_2
    replace b3 := b3.ext hez3
    replace b4 := b4.ext hez3
    replace b5 := b5.ext hez3
    replace hx := hx.trans hez3
    have b3_0 := b3.cell 0 rfl; have b3_1 := b3.cell 1 rfl; have b3_2 := b3.cell 2 rfl; have b4_0 := b4.cell 0 rfl; have b4_1 := b4.cell 1 rfl; have b4_2 := b4.cell 2 rfl; have b5_0 := b5.cell 0 rfl; have b5_1 := b5.cell 1 rfl; have b5_2 := b5.cell 2 rfl
    go_wp2_with fail
    go_ret
    exact Grows.mk rfl (he1.trans hx)
  by_cases ha : autoValid A = true
  case neg =>
    have ha : autoValid A = false := by simpa using ha
    go_wp2_with fail
    refine (SystemValid_b hs (HS.out _ hx)).mono ?_
    rintro e wz4 ⟨rfl, hez4⟩
    clear b3_0 b3_1 b3_2 b4_0 b4_1 b4_2 b5_0 b5_1 b5_2
    replace b3 := b3.ext hez4
    replace b4 := b4.ext hez4
    replace b5 := b5.ext hez4
    replace hx := hx.trans hez4
    have b3_0 := b3.cell 0 rfl; have b3_1 := b3.cell 1 rfl; have b3_2 := b3.cell 2 rfl; have b4_0 := b4.cell 0 rfl; have b4_1 := b4.cell 1 rfl; have b4_2 := b4.cell 2 rfl; have b5_0 := b5.cell 0 rfl; have b5_1 := b5.cell 1 rfl; have b5_2 := b5.cell 2 rfl
    go_wp2_with fail
    refine (AutomatonValid_b ha (HA.out _ hx)).mono ?_
    rintro e wz5 ⟨rfl, hez5⟩
    clear b3_0 b3_1 b3_2 b4_0 b4_1 b4_2 b5_0 b5_1 b5_2
    replace b3 := b3.ext hez5
    replace b4 := b4.ext hez5
    replace b5 := b5.ext hez5
    replace hx := hx.trans hez5
    have b3_0 := b3.cell 0 rfl; have b3_1 := b3.cell 1 rfl; have b3_2 := b3.cell 2 rfl; have b4_0 := b4.cell 0 rfl; have b4_1 := b4.cell 1 rfl; have b4_2 := b4.cell 2 rfl; have b5_0 := b5.cell 0 rfl; have b5_1 := b5.cell 1 rfl; have b5_2 := b5.cell 2 rfl
    go_wp2_with fail
    go_ret
    exact Grows.mk rfl (he1.trans hx)
  go_wp2_with fail
  refine (SystemValid_b hs (HS.out _ hx)).mono ?_
  rintro e wz6 ⟨rfl, hez6⟩
  clear b3_0 b3_1 b3_2 b4_0 b4_1 b4_2 b5_0 b5_1 b5_2
  replace b3 := b3.ext hez6
  replace b4 := b4.ext hez6
  replace b5 := b5.ext hez6
  replace hx := hx.trans hez6
  have b3_0 := b3.cell 0 rfl; have b3_1 := b3.cell 1 rfl; have b3_2 := b3.cell 2 rfl; have b4_0 := b4.cell 0 rfl; have b4_1 := b4.cell 1 rfl; have b4_2 := b4.cell 2 rfl; have b5_0 := b5.cell 0 rfl; have b5_1 := b5.cell 1 rfl; have b5_2 := b5.cell 2 rfl
  go_wp2_with fail
  refine (AutomatonValid_b ha (HA.out _ hx)).mono ?_
  rintro e wz7 ⟨rfl, hez7⟩
  clear b3_0 b3_1 b3_2 b4_0 b4_1 b4_2 b5_0 b5_1 b5_2
  replace b3 := b3.ext hez7
  replace b4 := b4.ext hez7
  replace b5 := b5.ext hez7
  replace hx := hx.trans hez7
  have b3_0 := b3.cell 0 rfl; have b3_1 := b3.cell 1 rfl; have b3_2 := b3.cell 2 rfl; have b4_0 := b4.cell 0 rfl; have b4_1 := b4.cell 1 rfl; have b4_2 := b4.cell 2 rfl; have b5_0 := b5.cell 0 rfl; have b5_1 := b5.cell 1 rfl; have b5_2 := b5.cell 2 rfl
  have HSV := Lib.hid hs
  have HAV := Lib.hid ha
  have HOR := Lib.hid (or_all hs ha)
  go_wp2_with fail
  clear hs ha b3_0 b3_1 b3_2 b4_0 b4_1 b4_2 b5_0 b5_1 b5_2
  generalize wz7 = wb at *
  go_loopw [10, 85, 86, 87, 88, 91, 92, 93, 97, 98, 99] (fun i _ _ _ _ _ _ _ _ _ _ wr => ∃ k : Nat, k ≤ 60 ∧ i = .int .i64 k ∧ Ext w1 wr ∧ Blk wr w1.heap.size #[.int .i64 S.alphabet, .int .i64 S.states, .slice aE1 S.edges.length cE1] 25 ∧ Blk wr (w1.heap.size + 1) #[.int .i64 A.alphabet, .slice aN2 A.next.length cN2, .slice aA2 A.accept.length cA2] 29 ∧ Blk wr (w1.heap.size + 1 + 1) #[.int .i64 P.alphabet, .slice aN3 P.next.length cN3, .slice aA3 P.accept.length cA3] 29 ∧ Hid (∀ j v, j < k → WordOf (allLetters [S] A) j v → ¬ Bad S A P v)) (fun i _ _ _ _ _ _ _ _ _ _ _ => 60 - (intOf i).toNat)
  case atStart => exact ⟨0, by omega, rfl, hx, b3, b4, b5, fun j v hj => by omega⟩
  case round =>
    clear hx b3 b4 b5
    obtain ⟨k, hk, rfl, hx, b3, b4, b5, HNO⟩ := hrel
    have b3_0 := b3.cell 0 rfl; have b3_1 := b3.cell 1 rfl; have b3_2 := b3.cell 2 rfl; have b4_0 := b4.cell 0 rfl; have b4_1 := b4.cell 1 rfl; have b4_2 := b4.cell 2 rfl; have b5_0 := b5.cell 0 rfl; have b5_1 := b5.cell 1 rfl; have b5_2 := b5.cell 2 rfl
    by_cases hlt : k < 60
    · go_wp2_with fail
      refine (WordAt_c k (bits .or .i64 S.alphabet A.alphabet) _ (by omega)).mono ?_
      rintro e wa ⟨ru, rfl, hru, hea⟩
      rw [HOR.out] at hru
      have HRU := Lib.hid hru
      clear hru b3_0 b3_1 b3_2 b4_0 b4_1 b4_2 b5_0 b5_1 b5_2
      replace b3 := b3.ext hea
      replace b4 := b4.ext hea
      replace b5 := b5.ext hea
      replace hx := hx.trans hea
      rcases ru with _ | u
      · have b3_0 := b3.cell 0 rfl; have b3_1 := b3.cell 1 rfl; have b3_2 := b3.cell 2 rfl; have b4_0 := b4.cell 0 rfl; have b4_1 := b4.cell 1 rfl; have b4_2 := b4.cell 2 rfl; have b5_0 := b5.cell 0 rfl; have b5_1 := b5.cell 1 rfl; have b5_2 := b5.cell 2 rfl
        go_wp2_with fail
        go_ret
        exact Grows.mk rfl (he1.trans hx)
      · have hsz : (wtext u).size ≤ 1048576 := by
          have := (HRU.out u rfl).2.2
          rw [size_wtext]; omega
        obtain ⟨R, hR⟩ : ∃ R, restrictW (wtext u) S.alphabet = R := ⟨_, rfl⟩
        have hszR : R.size ≤ 1048576 := by
          have hal := valid_alpha HSV.out
          obtain ⟨a0, a1, -⟩ := all_alpha HSV.out HAV.out
          obtain ⟨-, -, e3⟩ := word_text a0 a1 (HRU.out u rfl).2.1 (HRU.out u rfl).2.2
          rw [← hR]
          unfold restrictW
          rw [if_pos (by rw [e3]; simp [isAlpha]; exact ⟨hal.1, hal.2.1⟩)]
          have := wordIn_restrict hal.1 hal.2.1 (s := wtext u) (by have := (HRU.out u rfl).2.2; rw [size_wtext]; omega)
          simp only [wordIn, Bool.and_eq_true, decide_eq_true_eq] at this
          omega
        obtain ⟨ht, hht⟩ : ∃ b, hasTrace S R = b := ⟨_, rfl⟩
        obtain ⟨ba, hba⟩ : ∃ b, breaks A (wtext u) = b := ⟨_, rfl⟩
        obtain ⟨bp, hbp⟩ : ∃ b, breaks P (wtext u) = b := ⟨_, rfl⟩
        have CR := Lib.hid (show ∀ w', Ext w1 w' → Calls Tryz.prog 28 #[.string (rtext (some u)), .int .i64 S.alphabet] w' (Grows (.string R) w') from fun w' h => by have := RestrictWord_c (wtext u) S.alphabet w' hsz; rwa [hR] at this)
        have CH := Lib.hid (show ∀ w', Ext w1 w' → Calls Tryz.prog 15 #[.agg #[.int .i64 S.alphabet, .int .i64 S.states, .slice aE1 S.edges.length cE1], .string R] w' (Grows (.bool ht) w') from fun w' h => by have := HasTrace_c _ S R w' (HS.out _ h) hszR (HD.out _ h); rwa [hht] at this)
        have CA := Lib.hid (show ∀ w', Ext w1 w' → Calls Tryz.prog 16 #[.agg #[.int .i64 A.alphabet, .slice aN2 A.next.length cN2, .slice aA2 A.accept.length cA2], .string (rtext (some u))] w' (Grows (.bool ba) w') from fun w' h => by have := BreaksProperty_c _ A (wtext u) w' (HA.out _ h) hsz; rwa [hba] at this)
        have CP := Lib.hid (show ∀ w', Ext w1 w' → Calls Tryz.prog 16 #[.agg #[.int .i64 P.alphabet, .slice aN3 P.next.length cN3, .slice aA3 P.accept.length cA3], .string (rtext (some u))] w' (Grows (.bool bp) w') from fun w' h => by have := BreaksProperty_c _ P (wtext u) w' (HP.out _ h) hsz; rwa [hbp] at this)
        have hnext : ¬ (ht = true ∧ ba = false ∧ bp = true) → ∀ j v, j < k + 1 → WordOf (allLetters [S] A) j v → ¬ Bad S A P v := fun hn j v hj hv hb => by
          by_cases hjk : j < k
          · exact HNO.out j v hjk hv hb
          · obtain rfl : j = k := by omega
            obtain ⟨a0, a1, -⟩ := all_alpha HSV.out HAV.out
            obtain rfl := word_unique a0 a1 hv (HRU.out u rfl).2.1
            refine hn ?_
            rw [← hht, ← hba, ← hbp, ← hR]
            exact (bad_iff HSV.out HAV.out hv (HRU.out _ rfl).2.2).1 hb
        have HNX := Lib.hid hnext
        have hlast : (ht = true ∧ ba = false ∧ bp = true) → rr = some u := fun hn => by
          rw [← hht, ← hba, ← hbp, ← hR] at hn
          rw [← HR.out]
          exact least HSV.out HAV.out (HRU.out u rfl).2.1 ((bad_iff HSV.out HAV.out (HRU.out u rfl).2.1 (HRU.out u rfl).2.2).2 hn) HNO.out
        have HLA := Lib.hid hlast
        clear hnext hlast hR hht hba hbp hsz hszR
        have b3_0 := b3.cell 0 rfl; have b3_1 := b3.cell 1 rfl; have b3_2 := b3.cell 2 rfl; have b4_0 := b4.cell 0 rfl; have b4_1 := b4.cell 1 rfl; have b4_2 := b4.cell 2 rfl; have b5_0 := b5.cell 0 rfl; have b5_1 := b5.cell 1 rfl; have b5_2 := b5.cell 2 rfl
        go_wp2_with fail
        clear b3_0 b3_1 b3_2 b4_0 b4_1 b4_2 b5_0 b5_1 b5_2
        have Db30 := fun d os => cell_regrown (b3.cell 0 rfl) d os
        have Db31 := fun d os => cell_regrown (b3.cell 1 rfl) d os
        have Db32 := fun d os => cell_regrown (b3.cell 2 rfl) d os
        have Db40 := fun d os => cell_regrown (b4.cell 0 rfl) d os
        have Db41 := fun d os => cell_regrown (b4.cell 1 rfl) d os
        have Db42 := fun d os => cell_regrown (b4.cell 2 rfl) d os
        have Db50 := fun d os => cell_regrown (b5.cell 0 rfl) d os
        have Db51 := fun d os => cell_regrown (b5.cell 1 rfl) d os
        have Db52 := fun d os => cell_regrown (b5.cell 2 rfl) d os
        have hTR : ∀ d os, Ext w1 (Go.Sort.grow (redrawn wa d) os) := fun d os => hx.trans (below_regrown wa d os)
        have HTR := Lib.hid hTR
        clear hTR
        cases ht
        · refine wp_region_quiet_below (by kernel_rfl) (by kernel_rfl) ?_
          repeat (go_big_quiet_step ((first | (go_at_call 28; exact Grows.quiet (CR.out _ (HTR.out _ _))) | (go_at_call 15; exact Grows.quiet (CH.out _ (HTR.out _ _))) | (go_at_call 16; with_reducible exact Grows.quiet (CA.out _ (HTR.out _ _))) | (go_at_call 16; with_reducible exact Grows.quiet (CP.out _ (HTR.out _ _))))))
          refine wpQuiet_nil ?_
          intro _ hw'
          obtain ⟨⟨dq, osq⟩, hw''⟩ := hw'
          subst hw''
          have hq2 : Ext wa (Go.Sort.grow (redrawn wa dq) osq) := below_regrown wa dq osq
          generalize Go.Sort.grow (redrawn wa dq) osq = wq at hq2 ⊢
          go_wp2_with fail
          exact ⟨⟨k + 1, by omega, by go_num, hx.trans hq2, b3.ext hq2, b4.ext hq2, b5.ext hq2, HNX.out fun h => by cases h.1⟩, by simp [intOf]; omega⟩
        cases ba
        · cases bp
          · refine wp_region_quiet_below (by kernel_rfl) (by kernel_rfl) ?_
            repeat (go_big_quiet_step ((first | (go_at_call 28; exact Grows.quiet (CR.out _ (HTR.out _ _))) | (go_at_call 15; exact Grows.quiet (CH.out _ (HTR.out _ _))) | (go_at_call 16; with_reducible exact Grows.quiet (CA.out _ (HTR.out _ _))) | (go_at_call 16; with_reducible exact Grows.quiet (CP.out _ (HTR.out _ _))))))
            refine wpQuiet_nil ?_
            intro _ hw'
            obtain ⟨⟨dq, osq⟩, hw''⟩ := hw'
            subst hw''
            have hq2 : Ext wa (Go.Sort.grow (redrawn wa dq) osq) := below_regrown wa dq osq
            generalize Go.Sort.grow (redrawn wa dq) osq = wq at hq2 ⊢
            go_wp2_with fail
            exact ⟨⟨k + 1, by omega, by go_num, hx.trans hq2, b3.ext hq2, b4.ext hq2, b5.ext hq2, HNX.out fun h => by cases h.2.2⟩, by simp [intOf]; omega⟩
          · obtain rfl := HLA.out ⟨rfl, rfl, rfl⟩
            refine wp_region_quiet_below (by kernel_rfl) (by kernel_rfl) ?_
            repeat (go_big_quiet_step ((first | (go_at_call 28; exact Grows.quiet (CR.out _ (HTR.out _ _))) | (go_at_call 15; exact Grows.quiet (CH.out _ (HTR.out _ _))) | (go_at_call 16; with_reducible exact Grows.quiet (CA.out _ (HTR.out _ _))) | (go_at_call 16; with_reducible exact Grows.quiet (CP.out _ (HTR.out _ _))))))
            refine wpQuiet_nil ?_
            intro _ hw'
            obtain ⟨⟨dq, osq⟩, hw''⟩ := hw'
            subst hw''
            have hq2 : Ext wa (Go.Sort.grow (redrawn wa dq) osq) := below_regrown wa dq osq
            generalize Go.Sort.grow (redrawn wa dq) osq = wq at hq2 ⊢
            go_wp2_with fail
            go_ret
            exact Grows.mk rfl (he1.trans (hx.trans hq2))
        · refine wp_region_quiet_below (by kernel_rfl) (by kernel_rfl) ?_
          repeat (go_big_quiet_step ((first | (go_at_call 28; exact Grows.quiet (CR.out _ (HTR.out _ _))) | (go_at_call 15; exact Grows.quiet (CH.out _ (HTR.out _ _))) | (go_at_call 16; with_reducible exact Grows.quiet (CA.out _ (HTR.out _ _))) | (go_at_call 16; with_reducible exact Grows.quiet (CP.out _ (HTR.out _ _))))))
          refine wpQuiet_nil ?_
          intro _ hw'
          obtain ⟨⟨dq, osq⟩, hw''⟩ := hw'
          subst hw''
          have hq2 : Ext wa (Go.Sort.grow (redrawn wa dq) osq) := below_regrown wa dq osq
          generalize Go.Sort.grow (redrawn wa dq) osq = wq at hq2 ⊢
          go_wp2_with fail
          exact ⟨⟨k + 1, by omega, by go_num, hx.trans hq2, b3.ext hq2, b4.ext hq2, b5.ext hq2, HNX.out fun h => by cases h.2.1⟩, by simp [intOf]; omega⟩
    · obtain rfl : k = 60 := by omega
      go_wp2_with fail
      go_ret
      exact Grows.mk rfl (he1.trans hx)

theorem own : ownKnob Tryz.prog.godebug = none := by kernel_rfl
theorem laidOut : laidOutB Tryz.prog = true := by kernel_rfl
theorem deb_of_laid {W : World} (h : laidMetH Tryz.prog Rows.fnUnderLeastRow.laid W) : Deb W := debOfLaid h
theorem laid_met (os : Os) (args : Array Value) : laidMetH Tryz.prog Rows.fnUnderLeastRow.laid ((laidWorld os).forCall (fun _ _ => 0) ⟨#[], args, []⟩).memory :=
  (LaidIn.of_run [0, 1] 8 (by kernel_rfl) (by kernel_rfl) (by kernel_rfl) (by kernel_rfl)).met
set_option maxRecDepth 100000 in
theorem lifted (os : Os) (started : os.Started) (H : Type) (enc : TypeId × Value → H) :
    ReturnsInHanded {} Tryz.checked os 7 .any (fun w args => (Rows.fnUnderLeastSpec.pre enc Tryz.prog Tryz.f7 [] false w args ∧ laidMetH Tryz.prog Rows.fnUnderLeastRow.laid w) ∧ sizedMet enc Tryz.prog Tryz.f7 (OpenSpec.ofChange Rows.fnUnderLeastSpec) false w args)
      (Rows.fnUnderLeastSpec.post enc Tryz.prog Tryz.f7 false true false false) := by
  refine returnsInHanded_of_change_and (C := Tryz.checked) (X := fun w _ => laidMetH Tryz.prog Rows.fnUnderLeastRow.laid w) (fun _ _ _ hh h => h.of_heap hh) own started (by kernel_rfl) Tryz.func7
    (ChangeSpec.witness_at (enc := enc) (C := Tryz.checked) (os := os) (X := fun w _ => laidMetH Tryz.prog Rows.fnUnderLeastRow.laid w) false (laidWorld os) #[.slice none 0 0] 8 rfl (by kernel_rfl) (by kernel_rfl) (by kernel_rfl) (by kernel_rfl) (by kernel_rfl) (laid_met os _)) ?_
  intro W base args ds gs before hval0 hW _ _ hL _
  have hval : ∀ (j : Nat) t v, Tryz.f7.params[j]? = some t → args[j]? = some v → Value.okWide Tryz.prog W .any base t v := hval0
  have hW' := hW
  obtain ⟨p, q, hA0, hV, rfl, hfz, hnd⟩ := hW
  have hA : DataW.TrodAll enc Tryz.prog W 0 (fun _ => true) true Tryz.f7.params.toList args.toList ds p := hA0
  rw [Tryz.params7] at hA hval
  obtain ⟨v0, vs0, d0, ds0, p0, q0, hargs, rfl, rfl, h0, r0⟩ := trodAll_cons hA
  obtain ⟨rfl, rfl, rfl⟩ := trodAll_nil r0
  obtain rfl : args = #[v0] := by cases args; simp_all
  obtain ⟨rfl, rfl⟩ := trodVars_none hV
  have k0 := h0
  have lt0 : ∀ x ∈ p0, x.block < W.heap.size := by obtain ⟨m, hm⟩ := k0; exact DataW.trod_lt m _ _ _ hm
  obtain ⟨a0, len0, cap0, rfl⟩ := okWide_slice Tryz.underlying22 (hval 0 _ v0 rfl rfl)
  obtain ⟨t0, w0⟩ : ∃ t, BytesV W (.slice a0 len0 cap0) t := by
    obtain ⟨fuel, hf⟩ := h0
    obtain ⟨v, t, hv, ht⟩ := read_bytes hf
    simp [Value.cells] at hv
    subst hv
    exact ⟨t, ht⟩
  clear hA0 hval0
  refine (walk (.slice a0 len0 cap0) t0 W w0 (deb_of_laid hL)).mono fun e W' ⟨he, bel⟩ => ?_
  subst he
  exact ⟨_, rfl, _, _, _, [], _, [], hW', trodAll_mk1 (shut_bool Tryz.underlying4 _), (trodAll_cons_mk (Below.trod laidOut (by kernel_rfl) (of_decide_eq_true (by kernel_rfl)) k0 bel lt0) trodAll_mk0), rfl, bel.frame _, fun h => by cases h⟩

theorem over : Rows.fnUnderLeastRow.holds Tryz.pinned (OpenSpec.ofChange Rows.fnUnderLeastSpec) :=
  OpenClaim.holds_of_wide 7 Tryz.f7 rfl rfl rfl rfl rfl rfl rfl ⟨rfl, rfl, rfl, rfl, rfl⟩ rfl rfl rfl rfl rfl (by kernel_rfl) Tryz.func7 (by kernel_rfl)
    (of_decide_eq_true (by kernel_rfl)) (by unfold Func.isWrapper; first | (rw [if_pos (by decide +kernel)]; kernel_rfl) | (rw [if_neg (by decide +kernel)]; exact ⟨rfl, rfl⟩))
    (fun os started H enc _ => lifted os started H enc)

theorem card_holds : Rows.FnUnderLeastCardSaid :=
  Claim7.holds_tied_plain_at .later [] [.data, .data] true (true, "0f70196c989befa3bdbd5d7bf29985d9f429865033e550ebe8dd4ee6653ce6cd") false
    over (fun _ h => by cases h) (by kernel_rfl) (fun _ h => by cases h) fnUnderLeast_row_tie rfl ⟨rfl, rfl⟩ (by kernel_rfl) rfl
    (fun f fn hf hfn => by
      obtain rfl : f = 7 := Option.some.inj ((show Tryz.prog.funcNamed "loop.example/assumeguarantee/laws.FnUnderLeast" = some 7 by kernel_rfl).symm.trans hf) |>.symm
      obtain rfl : fn = Tryz.f7 := (Option.some.inj (Tryz.func7.symm.trans hfn)).symm
      refine ⟨by kernel_rfl, fun j t ht => ?_⟩
      rw [Tryz.params7] at ht
      match j, ht with
      | 0, ht =>
        have h0 : t = 22 := by simpa using ht.symm
        subst h0
        exact (show Tryz.prog.wantsStandIn 22 = false by kernel_rfl)
      | j + 1, ht => simp at ht)
    (by kernel_rfl)
#print axioms card_holds
end Go.Proofs.YteodlkkghnfkdaaGreatDoor.lawFnUnderLeast
