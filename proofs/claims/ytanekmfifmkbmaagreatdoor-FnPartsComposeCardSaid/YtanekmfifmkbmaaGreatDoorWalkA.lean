/- Part of this seat's proofs, cut to what its law needs. -/

import Derived.Test.YtanekmfifmkbmaaGreatDoorRows
import Derived.Test.YtanekmfifmkbmaaGreatDoorLaws
import Derived.Test.YtanekmfifmkbmaaGreatDoorPlain2

namespace Go.Proofs.YtanekmfifmkbmaaGreatDoor
set_option linter.unusedSimpArgs false
set_option linter.unusedVariables false
open Go.RowKit

set_option maxHeartbeats 400000

theorem isAlphabet_c (a : Int) (w : World) : Calls Tryz.prog 73 #[.int .i64 a] w (Same (.bool (isAlpha a)) w) := by
  by_cases h : 0 ≤ a
  · go_enter Tryz.func73, Tryz.ntmps73
    go_wp2
    go_ret
    exact ⟨by simp [isAlpha, h], rfl⟩
  · go_enter Tryz.func73, Tryz.ntmps73
    go_wp2
    go_ret
    exact ⟨by simp [isAlpha]; omega, rfl⟩

theorem l1Alphabet_c (a : Int) (w : World) : Calls Tryz.prog 83 #[.int .i64 a] w (Same (.bool (isAlpha a)) w) := by
  by_cases h : 0 ≤ a
  · go_enter Tryz.func83, Tryz.ntmps83
    go_wp2
    go_ret
    exact ⟨by simp [isAlpha, h], rfl⟩
  · go_enter Tryz.func83, Tryz.ntmps83
    go_wp2
    go_ret
    exact ⟨by simp [isAlpha]; omega, rfl⟩

theorem has_c (s n : Int) (w : World) (hs : 0 ≤ s) (hs2 : s ≤ 9223372036854775807) (hn : n < 64) :
    Calls Tryz.prog 75 #[.int .i64 s, .int .i64 n] w (Same (.bool (bit s n)) w) := by
  by_cases h : 0 ≤ n
  · go_enter Tryz.func75, Tryz.ntmps75
    go_wp2
    go_ret
    exact ⟨by rw [bit_nonneg h, ← has_bit s n hs hs2]; rfl, rfl⟩
  · have h : n < 0 := by omega
    go_enter Tryz.func75, Tryz.ntmps75
    go_wp2
    go_ret
    exact ⟨by rw [bit_neg h]; rfl, rfl⟩

theorem l1Has_c (s n : Int) (w : World) (hs : 0 ≤ s) (hs2 : s ≤ 9223372036854775807) (h : 0 ≤ n) (hn : n < 64) :
    Calls Tryz.prog 85 #[.int .i64 s, .int .i64 n] w (Same (.bool (bit s n)) w) := by
  go_enter Tryz.func85, Tryz.ntmps85
  go_wp2
  go_ret
  exact ⟨by rw [bit_nonneg h, ← has_bit s n hs hs2]; rfl, rfl⟩

theorem infoInt : (Tryz.prog.info? 3).map (fun i => (i.zero, i.size, i.bytes)) = some (some (.int .i64 0), 1, 8) := by kernel_rfl

theorem lettersOf_o (a : Int) (w : World) (ha : 0 ≤ a) (ha2 : a ≤ 63) :
    Calls Tryz.prog 33 #[.int .i64 a] w (Gives (fun v w' => IntsOwn 3 w.heap.size w' v (letters a)) w) := by
  go_enter Tryz.func33, Tryz.ntmps33
  go_wp2_with fail
  go_loopw [3, 5] (fun v i wr => ∃ k : Nat, k ≤ 6 ∧ i = .int .i64 k ∧ IntsOwn 3 w.heap.size wr v (lettersTo a k) ∧ Ext w wr) (fun _ i _ => 6 - (intOf i).toNat)
  case atStart => exact ⟨0, by omega, rfl, IntsOwn.nil _ _ _, Ext.refl _⟩
  case round =>
    obtain ⟨k, hk, rfl, hown, hext⟩ := hrel
    have hsz := hext.size
    by_cases hlt : k < 6
    · have HS := Lib.hid (lettersTo_succ a k)
      have hlen := lettersTo_len a k
      by_cases hb : bit a k = true
      · go_wp2_with (first | (go_at_call 75; refine (has_c _ _ _ (by omega) (by omega) (by omega)).mono ?_; rintro e w' ⟨rfl, rfl⟩) | (at_builtin; refine app1 rfl rfl Tryz.underlying80 infoInt rfl (by decide) hown.own rfl rfl rfl (by simp [Value.oneCell']) (by omega) (by decide) (by omega) ?_; intro v1 w1 hown1 hgr1 hbl1))
        exact ⟨⟨k + 1, by omega, by go_num, IntsOwn.push hown1 (by rw [HS.out, if_pos hb]), Below.trans hext hbl1⟩, by simp [intOf]; omega⟩
      · go_wp2_with (first | (go_at_call 75; refine (has_c _ _ _ (by omega) (by omega) (by omega)).mono ?_; rintro e w' ⟨rfl, rfl⟩))
        exact ⟨⟨k + 1, by omega, by go_num, by rw [HS.out, if_neg hb, List.append_nil]; exact hown, hext⟩, by simp [intOf]; omega⟩
    · obtain rfl : k = 6 := by omega
      go_wp2_with fail
      go_ret
      exact Gives.mk rfl hext hown
theorem lettersOf_c (a : Int) (w : World) (ha : 0 ≤ a) (ha2 : a ≤ 63) :
    Calls Tryz.prog 33 #[.int .i64 a] w (Gives (fun v w' => IntsV w' v (letters a)) w) :=
  (lettersOf_o a w ha ha2).mono fun _ _ ⟨v, h1, h2, h3⟩ => ⟨v, h1, h2, h3.ints⟩

theorem IntsOwn.lit (e : TypeId) (w : World) : IntsOwn e w.heap.size (w.alloc (.cells #[] e)) (.slice (some ⟨w.heap.size, 0, none⟩) 0 0) [] :=
  World.ownsRow_made w #[] 0 (Nat.le_refl _) (by unfold maxLen; omega) (by simp)

theorem l1Letters_c (a : Int) (w : World) (ha : 0 ≤ a) (ha2 : a ≤ 63) :
    Calls Tryz.prog 42 #[.int .i64 a] w (Gives (fun v w' => IntsV w' v (letters a)) w) := by
  go_enter Tryz.func42, Tryz.ntmps42
  go_wp2_with fail
  go_loopw [3, 4] (fun v i wr => ∃ k : Nat, k ≤ 6 ∧ i = .int .i64 k ∧ IntsOwn 3 w.heap.size wr v (lettersTo a k) ∧ Ext w wr) (fun _ i _ => 6 - (intOf i).toNat)
  case atStart => exact ⟨0, by omega, rfl, IntsOwn.lit _ _, Ext.alloc _ _⟩
  case round =>
    obtain ⟨k, hk, rfl, hown, hext⟩ := hrel
    have hsz := hext.size
    by_cases hlt : k < 6
    · have HS := Lib.hid (lettersTo_succ a k)
      have hlen := lettersTo_len a k
      by_cases hb : bit a k = true
      · go_wp2_with (first | (go_at_call 85; refine (l1Has_c _ _ _ (by omega) (by omega) (by omega) (by omega)).mono ?_; rintro e w' ⟨rfl, rfl⟩) | (at_builtin; refine app1 rfl rfl Tryz.underlying80 infoInt rfl (by decide) hown.own rfl rfl rfl (by simp [Value.oneCell']) (by omega) (by decide) (by omega) ?_; intro v1 w1 hown1 hgr1 hbl1))
        exact ⟨⟨k + 1, by omega, by go_num, IntsOwn.push hown1 (by rw [HS.out, if_pos hb]), Below.trans hext hbl1⟩, by simp [intOf]; omega⟩
      · go_wp2_with (first | (go_at_call 85; refine (l1Has_c _ _ _ (by omega) (by omega) (by omega) (by omega)).mono ?_; rintro e w' ⟨rfl, rfl⟩))
        exact ⟨⟨k + 1, by omega, by go_num, by rw [HS.out, if_neg hb, List.append_nil]; exact hown, hext⟩, by simp [intOf]; omega⟩
    · obtain rfl : k = 6 := by omega
      go_wp2_with fail
      go_ret
      exact Gives.mk rfl hext hown.ints

end Go.Proofs.YtanekmfifmkbmaaGreatDoor

namespace Go.Proofs.YtanekmfifmkbmaaGreatDoor
set_option linter.unusedSimpArgs false
set_option linter.unusedVariables false
open Go.RowKit

set_option maxHeartbeats 400000

end Go.Proofs.YtanekmfifmkbmaaGreatDoor

namespace Go.Proofs.YtanekmfifmkbmaaGreatDoor
set_option linter.unusedSimpArgs false
set_option linter.unusedVariables false
open Go.RowKit

set_option maxHeartbeats 400000

end Go.Proofs.YtanekmfifmkbmaaGreatDoor

namespace Go.Proofs.YtanekmfifmkbmaaGreatDoor
set_option linter.unusedSimpArgs false
set_option linter.unusedVariables false
open Go.RowKit

set_option maxHeartbeats 400000

theorem infoBool : (Tryz.prog.info? 4).map (fun i => (i.zero, i.size, i.bytes)) = some (some (.bool false), 1, 1) := by kernel_rfl
theorem infoInts : (Tryz.prog.info? 80).map (fun i => (i.zero, i.size, i.bytes)) = some (some (.slice none 0 0), 1, 24) := by kernel_rfl

end Go.Proofs.YtanekmfifmkbmaaGreatDoor
