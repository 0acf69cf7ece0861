/- Plain functions on words, alphabets, systems and automata, and plain facts; no program in sight. -/
import Derived.Laws.BitsAllLaws
import Derived.Laws.BitsLemmas
import Derived.RowKit
namespace Go.Proofs.YtajafdblmphglaaGreatDoor
set_option linter.unusedSimpArgs false
set_option linter.unusedVariables false
open Go

/-- The set s (bits) has n. -/
def bit (s n : Int) : Bool := decide (0 ≤ n) && s.toNat.testBit n.toNat
def isAlpha (a : Int) : Bool := decide (0 ≤ a) && decide (a ≤ 63)
/-- The letters below k of an alphabet. -/
def lettersTo (a : Int) (k : Nat) : List Int := ((List.range k).map Int.ofNat).filter (bit a)
def letters (a : Int) : List Int := lettersTo a 6

theorem ofInt_i64 (a : Nat) (ha : a < 9223372036854775808) : (BitVec.ofInt 64 (a : Int)).toNat = a := by
  rw [BitVec.ofInt_natCast, BitVec.toNat_ofNat]; exact Nat.mod_eq_of_lt (by omega)
theorem i64_and_nat (a b : Nat) (ha : a < 9223372036854775808) (hb : b < 9223372036854775808) : bits .and .i64 (a : Int) (b : Int) = ((a &&& b : Nat) : Int) := by
  have hx : a &&& b < 2 ^ 63 := Nat.and_lt_two_pow _ (by omega)
  show IntKind.i64.wrap ((BitVec.ofInt 64 (a : Int) &&& BitVec.ofInt 64 (b : Int)).toNat : Int) = _
  rw [BitVec.toNat_and, ofInt_i64 a ha, ofInt_i64 b hb, IntKind.wrap_i64]
  omega
theorem i64_or_nat (a b : Nat) (ha : a < 9223372036854775808) (hb : b < 9223372036854775808) : bits .or .i64 (a : Int) (b : Int) = ((a ||| b : Nat) : Int) := by
  have hx : a ||| b < 2 ^ 63 := Nat.or_lt_two_pow (by omega) (by omega)
  show IntKind.i64.wrap ((BitVec.ofInt 64 (a : Int) ||| BitVec.ofInt 64 (b : Int)).toNat : Int) = _
  rw [BitVec.toNat_or, ofInt_i64 a ha, ofInt_i64 b hb, IntKind.wrap_i64]
  omega

/-- The walk's spelling of 'set>>n&1 == 1'. -/
theorem has_bit (s n : Int) (hs : 0 ≤ s) (hs2 : s ≤ 9223372036854775807) : (bits .and .i64 (s / 2 ^ n.toNat) 1 == 1) = s.toNat.testBit n.toNat := by
  obtain ⟨m, rfl⟩ := Int.eq_ofNat_of_zero_le hs
  generalize n.toNat = k
  have e : ((m : Int) / 2 ^ k) = ((m / 2 ^ k : Nat) : Int) := by simp
  have hlt : m / 2 ^ k < 9223372036854775808 := by have := Nat.div_le_self m (2 ^ k); omega
  rw [e]
  have h := i64_and_nat (m / 2 ^ k) 1 hlt (by omega)
  rw [show ((1 : Nat) : Int) = 1 from rfl] at h
  rw [h, Nat.and_one_is_mod, Int.toNat_natCast, Nat.testBit_eq_decide_div_mod_eq, Bool.eq_iff_iff]
  simp only [beq_iff_eq, decide_eq_true_eq]
  omega
theorem bit_nonneg {s n : Int} (h : 0 ≤ n) : bit s n = s.toNat.testBit n.toNat := by simp [bit, h]
theorem bit_neg {s n : Int} (h : n < 0) : bit s n = false := by simp [bit]; omega

theorem lettersTo_succ (a : Int) (k : Nat) : lettersTo a (k + 1) = lettersTo a k ++ (if bit a k then [(k : Int)] else []) := by
  unfold lettersTo
  rw [List.range_succ, List.map_append, List.filter_append]
  simp only [List.map_cons, List.map_nil, List.filter_cons, List.filter_nil]
  rfl
theorem lettersTo_len (a : Int) (k : Nat) : (lettersTo a k).length ≤ k := by
  unfold lettersTo
  exact Nat.le_trans (List.length_filter_le _ _) (by simp)

end Go.Proofs.YtajafdblmphglaaGreatDoor
