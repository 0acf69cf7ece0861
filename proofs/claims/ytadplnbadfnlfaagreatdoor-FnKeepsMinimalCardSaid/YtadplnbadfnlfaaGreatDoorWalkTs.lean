/- Part of this seat's proofs, cut to what its law needs. -/

import Derived.Test.YtadplnbadfnlfaaGreatDoorPlainTs
import Derived.Test.YtadplnbadfnlfaaGreatDoorWalkU
import Derived.Test.YtadplnbadfnlfaaGreatDoorSubS
namespace Go.Proofs.YtadplnbadfnlfaaGreatDoor
set_option linter.unusedSimpArgs false
set_option linter.unusedVariables false
open Go Go.RowKit
set_option maxHeartbeats 4000000
set_option maxRecDepth 100000

theorem u64_and_nat (a b : Nat) (ha : a < 9223372036854775808) (hb : b < 9223372036854775808) : bits .and .u64 (a : Int) (b : Int) = ((a &&& b : Nat) : Int) := by
  have hx : a &&& b < 2 ^ 63 := Nat.and_lt_two_pow _ (by omega)
  show IntKind.u64.wrap ((BitVec.ofInt 64 (a : Int) &&& BitVec.ofInt 64 (b : Int)).toNat : Int) = _
  rw [BitVec.toNat_and, ofInt_i64 a ha, ofInt_i64 b hb, IntKind.wrap_u64]
  omega
theorem u64_wide (x : Nat) (hx : x < 18446744073709551616) : IntKind.u64.wrap (x : Int) = (x : Int) := by
  rw [IntKind.wrap_u64]; omega
def n1 (x : Nat) : Nat := (x / 2 &&& 6148914691236517205) + (x &&& 6148914691236517205)
def n2 (x : Nat) : Nat := (x / 4 &&& 3689348814741910323) + (x &&& 3689348814741910323)
def n3 (x : Nat) : Nat := (x / 16 + x) &&& 1085102592571150095
def n4 (x : Nat) : Nat := x + x / 256
def n5 (x : Nat) : Nat := x + x / 65536
def n6 (x : Nat) : Nat := x + x / 4294967296
def ocN (x : Nat) : Nat := n6 (n5 (n4 (n3 (n2 (n1 x))))) &&& 127
theorem o1_n {x : Nat} (hx : x < 65536) : o1 (x : Int) = (n1 x : Int) ∧ n1 x < 131072 := by
  have h1 : x / 2 &&& 6148914691236517205 ≤ x / 2 := Nat.and_le_left
  have h2 : x &&& 6148914691236517205 ≤ x := Nat.and_le_left
  refine ⟨?_, by unfold n1; omega⟩
  unfold o1 n1
  rw [show ((x : Int) / 2) = ((x / 2 : Nat) : Int) by omega]
  have e1 := u64_and_nat (x / 2) 6148914691236517205 (by omega) (by omega)
  have e2 := u64_and_nat x 6148914691236517205 (by omega) (by omega)
  rw [show (6148914691236517205 : Int) = ((6148914691236517205 : Nat) : Int) from rfl, e1, e2, show ∀ a b : Nat, (a : Int) + (b : Int) = ((a + b : Nat) : Int) from fun a b => by omega]
  exact u64_wide _ (by omega)
theorem o2_n {x : Nat} (hx : x < 131072) : o2 (x : Int) = (n2 x : Int) ∧ n2 x < 262144 := by
  have h1 : x / 4 &&& 3689348814741910323 ≤ x / 4 := Nat.and_le_left
  have h2 : x &&& 3689348814741910323 ≤ x := Nat.and_le_left
  refine ⟨?_, by unfold n2; omega⟩
  unfold o2 n2
  rw [show ((x : Int) / 4) = ((x / 4 : Nat) : Int) by omega]
  have e1 := u64_and_nat (x / 4) 3689348814741910323 (by omega) (by omega)
  have e2 := u64_and_nat x 3689348814741910323 (by omega) (by omega)
  rw [show (3689348814741910323 : Int) = ((3689348814741910323 : Nat) : Int) from rfl, e1, e2, show ∀ a b : Nat, (a : Int) + (b : Int) = ((a + b : Nat) : Int) from fun a b => by omega]
  exact u64_wide _ (by omega)
theorem o3_n {x : Nat} (hx : x < 262144) : o3 (x : Int) = (n3 x : Int) ∧ n3 x < 1000000 := by
  have h2 : x / 16 + x &&& 1085102592571150095 ≤ x / 16 + x := Nat.and_le_left
  refine ⟨?_, by unfold n3; omega⟩
  unfold o3 n3
  rw [show ((x : Int) / 16 + (x : Int)) = ((x / 16 + x : Nat) : Int) by omega, u64_wide _ (by omega)]
  exact u64_and_nat (x / 16 + x) 1085102592571150095 (by omega) (by omega)
theorem o456_n {x : Nat} (hx : x < 1000000) : o6 (o5 (o4 (x : Int))) = (n6 (n5 (n4 x)) : Int) ∧ n6 (n5 (n4 x)) < 10000000 := by
  have e4 : o4 (x : Int) = (n4 x : Int) := by
    unfold o4 n4
    rw [show ((x : Int) + (x : Int) / 256) = ((x + x / 256 : Nat) : Int) by omega]; exact u64_wide _ (by omega)
  have b4 : n4 x < 2000000 := by unfold n4; omega
  rw [e4]
  generalize n4 x = y at b4 ⊢
  have e5 : o5 (y : Int) = (n5 y : Int) := by
    unfold o5 n5
    rw [show ((y : Int) + (y : Int) / 65536) = ((y + y / 65536 : Nat) : Int) by omega]; exact u64_wide _ (by omega)
  have b5 : n5 y < 4000000 := by unfold n5; omega
  rw [e5]
  generalize n5 y = z at b5 ⊢
  refine ⟨?_, by unfold n6; omega⟩
  unfold o6 n6
  rw [show ((z : Int) + (z : Int) / 4294967296) = ((z + z / 4294967296 : Nat) : Int) by omega]; exact u64_wide _ (by omega)
theorem oc64_n {x : Nat} (hx : x < 65536) : oc64 (x : Int) = (ocN x : Int) := by
  unfold oc64 ocN
  obtain ⟨e1, b1⟩ := o1_n hx
  obtain ⟨e2, b2⟩ := o2_n b1
  obtain ⟨e3, b3⟩ := o3_n b2
  obtain ⟨e4, b4⟩ := o456_n b3
  rw [e1, e2, e3, e4]
  generalize n6 (n5 (n4 (n3 (n2 (n1 x))))) = y at b4 ⊢
  rw [show wrap64 (y : Int) = (y : Int) from IntWalk.wrap64_in _ (by omega)]
  exact i64_and_nat y 127 (by omega) (by omega)
def popN (x : Nat) : Nat := x % 2 + x / 2 % 2 + x / 4 % 2 + x / 8 % 2 + x / 16 % 2 + x / 32 % 2 + x / 64 % 2 + x / 128 % 2 + x / 256 % 2 + x / 512 % 2 + x / 1024 % 2 + x / 2048 % 2 + x / 4096 % 2 + x / 8192 % 2 + x / 16384 % 2 + x / 32768 % 2
def popOk (lo n : Nat) : Bool := Nat.rec true (fun i r => r && Nat.beq (ocN (lo + i)) (popN (lo + i))) n
theorem popOk_at {lo n i : Nat} (h : popOk lo n = true) (hi : i < n) : ocN (lo + i) = popN (lo + i) := by
  induction n with
  | zero => omega
  | succ n ih =>
    have h' : (popOk lo n && Nat.beq (ocN (lo + n)) (popN (lo + n))) = true := h
    rw [Bool.and_eq_true] at h'
    rcases Nat.lt_or_ge i n with h1 | h1
    · exact ih h'.1 h1
    · obtain rfl : i = n := by omega
      exact Nat.eq_of_beq_eq_true h'.2
theorem popOk_0 : popOk (0 * 4096) 4096 = true := by decide +kernel
theorem popOk_1 : popOk (1 * 4096) 4096 = true := by decide +kernel
theorem popOk_2 : popOk (2 * 4096) 4096 = true := by decide +kernel
theorem popOk_3 : popOk (3 * 4096) 4096 = true := by decide +kernel
theorem popOk_4 : popOk (4 * 4096) 4096 = true := by decide +kernel
theorem popOk_5 : popOk (5 * 4096) 4096 = true := by decide +kernel
theorem popOk_6 : popOk (6 * 4096) 4096 = true := by decide +kernel
theorem popOk_7 : popOk (7 * 4096) 4096 = true := by decide +kernel
theorem popOk_8 : popOk (8 * 4096) 4096 = true := by decide +kernel
theorem popOk_9 : popOk (9 * 4096) 4096 = true := by decide +kernel
theorem popOk_10 : popOk (10 * 4096) 4096 = true := by decide +kernel
theorem popOk_11 : popOk (11 * 4096) 4096 = true := by decide +kernel
theorem popOk_12 : popOk (12 * 4096) 4096 = true := by decide +kernel
theorem popOk_13 : popOk (13 * 4096) 4096 = true := by decide +kernel
theorem popOk_14 : popOk (14 * 4096) 4096 = true := by decide +kernel
theorem popOk_15 : popOk (15 * 4096) 4096 = true := by decide +kernel
theorem popOk_all (j : Nat) (hj : j < 16) : popOk (j * 4096) 4096 = true := by
  match j, hj with
  | 0, _ => exact popOk_0
  | 1, _ => exact popOk_1
  | 2, _ => exact popOk_2
  | 3, _ => exact popOk_3
  | 4, _ => exact popOk_4
  | 5, _ => exact popOk_5
  | 6, _ => exact popOk_6
  | 7, _ => exact popOk_7
  | 8, _ => exact popOk_8
  | 9, _ => exact popOk_9
  | 10, _ => exact popOk_10
  | 11, _ => exact popOk_11
  | 12, _ => exact popOk_12
  | 13, _ => exact popOk_13
  | 14, _ => exact popOk_14
  | 15, _ => exact popOk_15
  | n + 16, h => exact absurd h (by omega)
theorem ocN_pop {x : Nat} (hx : x < 65536) : ocN x = popN x := by
  have hd : x = x / 4096 * 4096 + x % 4096 := by omega
  have hm : x % 4096 < 4096 := Nat.mod_lt _ (by omega)
  have hq : x / 4096 < 16 := by omega
  generalize x % 4096 = i at hd hm
  generalize x / 4096 = j at hd hq
  rw [hd]
  exact popOk_at (popOk_all j hq) hm
theorem one_bit (x i : Nat) : (if x.testBit i = true then 1 else 0) = x / 2 ^ i % 2 := by
  rw [Nat.testBit_eq_decide_div_mod_eq]
  have := Nat.mod_lt (x / 2 ^ i) (show 0 < 2 by omega)
  by_cases h : x / 2 ^ i % 2 = 1
  · rw [if_pos (by simpa using h), h]
  · rw [if_neg (by simpa using h)]; omega
theorem popN_rank (x : Nat) : popN x = rankS x 16 := by
  have h0 := one_bit x 0
  rw [show x / 2 ^ 0 = x by simp] at h0
  simp only [rankS_succ, rankS_zero, one_bit, popN]
  simp
theorem oc64_w (x : Nat) (w : World) (hx : x < 65536) :
    Calls Tryz.prog 279 #[.int .u64 x] w (Same (.int .i64 (rankS x 16)) w) := by
  have hx' : (x : Int) < 18446744073709551616 := by omega
  have HO := Lib.hid (show oc64 (x : Int) = (rankS x 16 : Int) by rw [oc64_n hx, ocN_pop hx, popN_rank])
  go_enter Tryz.func279, Tryz.ntmps279
  go_wp2_with fail
  go_ret
  refine Same.mk ?_
  conv => lhs; whnf
  exact congrArg (Value.int .i64) HO.out
theorem oc_w (x : Nat) (w : World) (hx : x < 65536) :
    Calls Tryz.prog 204 #[.int .u64 x] w (Same (.int .i64 (rankS x 16)) w) := by
  go_enter Tryz.func204, Tryz.ntmps204
  go_wp2_with (go_at_call 279; refine (oc64_w _ _ hx).mono ?_; rintro e w' ⟨rfl, rfl⟩)
  go_ret
  exact Same.mk rfl
theorem oc_xw {X : Int} {x : Nat} (hX : X = (x : Int)) (w : World) (hx : x < 65536) :
    Calls Tryz.prog 204 #[.int .u64 X] w (Same (.int .i64 (rankS x 16)) w) := hX ▸ oc_w x w hx
theorem rank_keyw (s k : Nat) (hs : s < 65536) (hk : k < 16) : IntKind.u64.wrap (bits .and .i64 (s : Int) (wrap64 (wrap64 (2 ^ k) - 1))) = ((s % 2 ^ k : Nat) : Int) := by
  have h1 : 1 ≤ 2 ^ k := Nat.one_le_two_pow
  have h2 : 2 ^ k ≤ 65536 := by rw [show (65536 : Nat) = 2 ^ 16 from rfl]; exact Nat.pow_le_pow_right (by omega) (Nat.le_of_lt hk)
  rw [wrap_pow k hk]
  obtain ⟨p, hp⟩ : ∃ p, 2 ^ k = p := ⟨_, rfl⟩
  have h4 : s &&& (p - 1) = s % p := by rw [← hp]; exact Nat.and_two_pow_sub_one_eq_mod ..
  rw [hp] at h1 h2 ⊢
  have h3 : wrap64 ((p : Int) - 1) = ((p - 1 : Nat) : Int) := by
    rw [show (p : Int) - 1 = ((p - 1 : Nat) : Int) by omega]
    exact IntWalk.wrap64_in _ (by omega)
  rw [h3, i64_and_nat s (p - 1) (by omega) (by omega), h4]
  exact u64_wide _ (by have := Nat.lt_of_le_of_lt (Nat.mod_le s p) hs; omega)
theorem rank_mod (s k : Nat) (hk : k ≤ 16) : rankS (s % 2 ^ k) 16 = rankS s k := by
  have h : ∀ m, m ≤ 16 → rankS (s % 2 ^ k) m = rankS s (min m k) := fun m => by
    induction m with
    | zero => intro _; rw [Nat.zero_min]; rfl
    | succ m ih =>
      intro hm
      rw [rankS_succ, ih (by omega), Nat.testBit_mod_two_pow]
      rcases Nat.lt_or_ge m k with h1 | h1
      · rw [Nat.min_eq_left (by omega), Nat.min_eq_left (by omega), rankS_succ]
        simp [h1]
      · rw [Nat.min_eq_right (by omega), Nat.min_eq_right (by omega)]
        simp [show ¬ m < k by omega]
  rw [h 16 (Nat.le_refl _), Nat.min_eq_right hk]
theorem rank_w (s k : Nat) (w : World) (hs : s < 65536) (hk : k < 16) :
    Calls Tryz.prog 205 #[.int .i64 s, .int .i64 k] w (Same (.int .i64 (rankS s k)) w) := by
  have HK := Lib.hid (rank_keyw s k hs hk)
  have HM := Lib.hid (rank_mod s k (Nat.le_of_lt hk))
  have hlt : s % 2 ^ k < 65536 := Nat.lt_of_le_of_lt (Nat.mod_le _ _) hs
  go_enter Tryz.func205, Tryz.ntmps205
  go_wp2_with fail
  refine (oc_xw HK.out _ hlt).mono ?_
  rw [HM.out]
  rintro e w' ⟨rfl, rfl⟩
  go_wp2_with fail
  go_ret
  exact Same.mk rfl
end Go.Proofs.YtadplnbadfnlfaaGreatDoor
