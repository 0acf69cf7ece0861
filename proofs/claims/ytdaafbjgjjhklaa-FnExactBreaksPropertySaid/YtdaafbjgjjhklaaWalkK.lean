/- Walks: letters of words, words that are valid. -/
import Derived.Test.YtdaafbjgjjhklaaWalkA
import Derived.Test.YtdaafbjgjjhklaaPlain3
namespace Go.Proofs.Ytdaafbjgjjhklaa
set_option linter.unusedSimpArgs false
set_option linter.unusedVariables false
open Go.RowKit

set_option maxHeartbeats 400000

theorem l1At_c (s : ByteArray) (i : Nat) (w : World) (h : i < s.size) (hs : s.size ≤ 4611686018427387904) :
    Calls Try.prog 88 #[.string s, .int .i64 i] w (Same (.int .i64 (chAt s i)) w) := by
  have h1 := chAt_get s i h
  have h2 := chAt_lo s i
  have h3 := chAt_hi s i
  go_enter Try.func88, Try.ntmps88
  go_wp2_with fail
  go_ret
  exact Same.mk (by rfl)

/-- What the program's letterAt returns. -/
def chOr (s : ByteArray) (i : Nat) : Int := if 0 ≤ chAt s i ∧ chAt s i < 6 then chAt s i else -1
theorem bit_chOr (a : Int) (s : ByteArray) (i : Nat) (ha : a ≤ 63) : bit a (chOr s i) = bit a (chAt s i) := by
  unfold chOr
  split
  · rfl
  · rename_i h
    rw [bit_neg (by omega)]
    by_cases h0 : 0 ≤ chAt s i
    · exact (bit_hi _ _ ha (by omega)).symm
    · exact (bit_neg (by omega)).symm

theorem letterAt_c (s : ByteArray) (i : Nat) (w : World) (h : i < s.size) (hs : s.size ≤ 4611686018427387904) :
    Calls Try.prog 92 #[.string s, .int .i64 i] w (Same (.int .i64 (chOr s i)) w) := by
  have h1 := chAt_get s i h
  have h2 := chAt_lo s i
  have h3 := chAt_hi s i
  by_cases h0 : chAt s i < 0
  · go_enter Try.func92, Try.ntmps92
    go_wp2_with fail
    go_ret
    exact Same.mk (by unfold chOr; rw [if_neg (by omega)]; rfl)
  · by_cases h6 : 6 ≤ chAt s i
    · go_enter Try.func92, Try.ntmps92
      go_wp2_with fail
      go_ret
      exact Same.mk (by unfold chOr; rw [if_neg (by omega)]; rfl)
    · go_enter Try.func92, Try.ntmps92
      go_wp2_with fail
      go_ret
      exact Same.mk (by unfold chOr; rw [if_pos (by omega)]; rfl)

theorem WordValid_s (s : ByteArray) (w : World) (hs : s.size ≤ 1048576) : Calls Try.prog 49 #[.string s] w (Same (.bool (wordValid s)) w) := by
  by_cases hlong : 50000 < s.size
  · go_enter Try.func49, Try.ntmps49
    go_wp2_with fail
    go_ret
    exact Same.mk (by simp [wordValid, wordIn_long hlong])
  · go_enter Try.func49, Try.ntmps49
    go_wp2_with fail
    go_loop [3, 18, 19, 20, 21] (fun i _ _ _ _ => ∃ k : Nat, k ≤ s.size ∧ i = .int .i64 k ∧ Hid (((chars s).take k).all (bit 63) = true)) (fun i _ _ _ _ => s.size - (intOf i).toNat)
    case atStart => exact ⟨0, by omega, rfl, by simp [Hid]⟩
    case round =>
      obtain ⟨k, hk, rfl, hall⟩ := hrel
      by_cases hlt : k < s.size
      · have HC := Lib.hid (chars_at s k hlt)
        have HB := Lib.hid (bit63 (chAt s k))
        have h2 := chAt_lo s k
        have h3 := chAt_hi s k
        by_cases h0 : chAt s k < 0
        · go_wp2_with (go_at_call 88; refine (l1At_c s k _ hlt (by omega)).mono ?_; rintro e w' ⟨rfl, rfl⟩)
          go_ret
          exact Same.mk (by unfold wordValid; rw [wordIn_bad hlt (by rw [HB.out]; simp; omega)]; rfl)
        · by_cases h6 : 6 ≤ chAt s k
          · go_wp2_with (go_at_call 88; refine (l1At_c s k _ hlt (by omega)).mono ?_; rintro e w' ⟨rfl, rfl⟩)
            go_ret
            exact Same.mk (by unfold wordValid; rw [wordIn_bad hlt (by rw [HB.out]; simp; omega)]; rfl)
          · go_wp2_with (go_at_call 88; refine (l1At_c s k _ hlt (by omega)).mono ?_; rintro e w' ⟨rfl, rfl⟩)
            exact ⟨⟨k + 1, by omega, by go_num, by show _ = _; rw [all_take_succ HC.out, hall.out, HB.out]; simp; omega⟩, by simp [intOf]; omega⟩
      · obtain rfl : k = s.size := by omega
        go_wp2_with fail
        go_ret
        exact Same.mk (by unfold wordValid; rw [wordIn_all (by decide) (by omega) hall.out]; rfl)

theorem WordWithin_c (s : ByteArray) (a : Int) (w : World) (hs : s.size ≤ 1048576) : Calls Try.prog 68 #[.string s, .int .i64 a] w (Same (.bool (wordIn s a)) w) := by
  by_cases hA : isAlpha a = true
  case neg =>
    have hA : isAlpha a = false := by simpa using hA
    go_enter Try.func68, Try.ntmps68
    go_wp2_with (go_at_call 62; refine (isAlphabet_c _ _).mono ?_; rintro e w' ⟨rfl, rfl⟩)
    go_ret
    exact Same.mk (by rw [wordIn_alpha hA]; rfl)
  by_cases hlong : 50000 < s.size
  · go_enter Try.func68, Try.ntmps68
    go_wp2_with (go_at_call 62; refine (isAlphabet_c _ _).mono ?_; rintro e w' ⟨rfl, rfl⟩)
    go_ret
    exact Same.mk (by rw [wordIn_long hlong]; rfl)
  · have hal : 0 ≤ a ∧ a ≤ 63 := by simpa [isAlpha] using hA
    obtain ⟨ha, ha2⟩ := hal
    go_enter Try.func68, Try.ntmps68
    go_wp2_with (go_at_call 62; refine (isAlphabet_c _ _).mono ?_; rintro e w' ⟨rfl, rfl⟩)
    go_loop [16] (fun i => ∃ k : Nat, k ≤ s.size ∧ i = .int .i64 k ∧ Hid (((chars s).take k).all (bit a) = true)) (fun i => s.size - (intOf i).toNat)
    case atStart => exact ⟨0, by omega, rfl, by simp [Hid]⟩
    case round =>
      obtain ⟨k, hk, rfl, hall⟩ := hrel
      by_cases hlt : k < s.size
      · have HC := Lib.hid (chars_at s k hlt)
        have HB := Lib.hid (bit_chOr a s k ha2)
        have h4 : chOr s k < 64 := by unfold chOr; split <;> omega
        by_cases hb : bit a (chOr s k) = true
        · go_wp2_with (first | (go_at_call 92; refine (letterAt_c s k _ hlt (by omega)).mono ?_; rintro e w' ⟨rfl, rfl⟩) | (go_at_call 91; refine (has_c _ _ _ (by omega) (by omega) (by omega)).mono ?_; rintro e w' ⟨rfl, rfl⟩))
          exact ⟨⟨k + 1, by omega, by go_num, by show _ = _; rw [all_take_succ HC.out, hall.out, ← HB.out, hb]; rfl⟩, by simp [intOf]; omega⟩
        · have hb : bit a (chOr s k) = false := by simpa using hb
          go_wp2_with (first | (go_at_call 92; refine (letterAt_c s k _ hlt (by omega)).mono ?_; rintro e w' ⟨rfl, rfl⟩) | (go_at_call 91; refine (has_c _ _ _ (by omega) (by omega) (by omega)).mono ?_; rintro e w' ⟨rfl, rfl⟩))
          go_ret
          exact Same.mk (by rw [wordIn_bad hlt (by rw [← HB.out, hb])]; rfl)
      · obtain rfl : k = s.size := by omega
        go_wp2_with fail
        go_ret
        exact Same.mk (by rw [wordIn_all hA (by omega) hall.out]; rfl)

theorem WordValid_c (s : ByteArray) (w : World) (hs : s.size ≤ 1048576) : Calls Try.prog 32 #[.string s] w (Same (.bool (wordValid s)) w) := by
  go_enter Try.func32, Try.ntmps32
  go_wp2_with (go_at_call 68; refine (WordWithin_c s 63 _ hs).mono ?_; rintro e w' ⟨rfl, rfl⟩)
  go_ret
  exact Same.mk (by rfl)

end Go.Proofs.Ytdaafbjgjjhklaa
