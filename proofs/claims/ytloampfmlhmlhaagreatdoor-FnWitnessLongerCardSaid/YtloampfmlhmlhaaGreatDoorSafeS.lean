/- Merged: WordS, SafeS, SafeT. -/
import Derived.Test.YtloampfmlhmlhaaGreatDoorWalkK
import Derived.Test.YtloampfmlhmlhaaGreatDoorWalkR
import Derived.Test.YtloampfmlhmlhaaGreatDoorPlainE
import Derived.Test.YtloampfmlhmlhaaGreatDoorSubS
import Derived.Test.YtloampfmlhmlhaaGreatDoorWalkH
import Derived.Test.YtloampfmlhmlhaaGreatDoorWalkSI

namespace Go.Proofs.YtloampfmlhmlhaaGreatDoor
set_option linter.unusedSimpArgs false
set_option linter.unusedVariables false
open Go.RowKit
set_option maxHeartbeats 1000000
set_option maxRecDepth 100000

/-- The letters of a word, as a set. -/
def alphaOf (ls : List Int) : Nat := ls.foldl (fun n l => n ||| 2 ^ l.toNat) 0
theorem alphaOf_bit (ls : List Int) (i : Nat) : (alphaOf ls).testBit i = true ↔ ∃ l ∈ ls, l.toNat = i := by
  have : ∀ (ls : List Int) (n : Nat), (ls.foldl (fun n l => n ||| 2 ^ l.toNat) n).testBit i = true ↔ n.testBit i = true ∨ ∃ l ∈ ls, l.toNat = i := by
    intro ls
    induction ls with
    | nil => intro n; simp
    | cons l ls ih =>
      intro n
      rw [List.foldl_cons, ih, Nat.testBit_or, Bool.or_eq_true, Nat.testBit_two_pow, decide_eq_true_eq]
      simp only [List.mem_cons, exists_eq_or_imp, or_assoc]
  unfold alphaOf; rw [this]; simp
theorem alphaOf_lt {ls : List Int} (h : ∀ l ∈ ls, 0 ≤ l ∧ l < 6) : alphaOf ls < 64 := by
  show alphaOf ls < 2 ^ 6
  refine Nat.lt_pow_two_of_testBit _ fun i hi => ?_
  rw [Bool.eq_false_iff]
  intro hb
  obtain ⟨l, hl, rfl⟩ := (alphaOf_bit ls i).1 hb
  have := h l hl; omega
theorem alphaOf_take {ls : List Int} {k : Nat} {l : Int} (h : ls[k]? = some l) : alphaOf (ls.take (k + 1)) = alphaOf (ls.take k) ||| 2 ^ l.toNat := by
  unfold alphaOf; rw [List.take_add_one, h, List.foldl_append]; rfl
/-- The walk's comparison says that all letters are in the alphabet. -/
theorem alphaOf_in {ls : List Int} {a : Int} (h : ∀ l ∈ ls, 0 ≤ l ∧ l < 6) (ha : 0 ≤ a) (ha2 : a ≤ 63) : (bits .and .i64 (alphaOf ls : Int) a == (alphaOf ls : Int)) = ls.all (bit a) := by
  obtain ⟨n, rfl⟩ := Int.eq_ofNat_of_zero_le ha
  have hl := alphaOf_lt h
  rw [i64_and_nat _ n (by omega) (by omega), Bool.eq_iff_iff, beq_iff_eq, List.all_eq_true]
  constructor
  · intro e l hl
    have e' : alphaOf ls &&& n = alphaOf ls := by omega
    have h0 := h l hl
    have h1 := congrArg (fun m => m.testBit l.toNat) e'
    simp only [Nat.testBit_and] at h1
    rw [(alphaOf_bit ls l.toNat).2 ⟨l, hl, rfl⟩, Bool.true_and] at h1
    rw [bit_nonneg h0.1]; exact h1
  · intro hin
    have : alphaOf ls &&& n = alphaOf ls := by
      refine Nat.eq_of_testBit_eq fun i => ?_
      rw [Nat.testBit_and]
      cases hb : (alphaOf ls).testBit i with
      | false => rfl
      | true =>
        obtain ⟨l, hl, rfl⟩ := (alphaOf_bit ls i).1 hb
        have h1 := hin l hl
        rw [bit_nonneg (h l hl).1] at h1
        rw [Bool.true_and]; exact h1
    omega

theorem AlphabetOf_s (s : ByteArray) (w : World) (hs : s.size ≤ 1048576) : Calls Tryz.prog 158 #[.string s] w (Same (.tuple #[.int .i64 (if wordValid s then (alphaOf (chars s) : Nat) else 0 : Int), .bool (wordValid s)]) w) := by
  by_cases hw : wordValid s = true
  case neg =>
    have hw : wordValid s = false := by simpa using hw
    go_enter Tryz.func158, Tryz.ntmps158
    go_wp2_with (go_at_call 206; refine (WordValid_s s _ hs).mono ?_; rintro e w' ⟨rfl, rfl⟩; rw [hw])
    go_ret2
    exact Same.mk rfl
  have HL := Lib.hid (fun i (h : i < s.size) => wordValid_at hw h)
  have HLT := Lib.hid (fun k => alphaOf_lt (ls := (chars s).take k) fun l hl => by
    obtain ⟨i, hi, e⟩ := List.getElem_of_mem (List.mem_of_mem_take hl)
    have hi' : i < s.size := by rw [← chars_len]; exact hi
    have := chars_at s i hi'
    rw [List.getElem?_eq_getElem hi, e] at this
    cases this
    exact wordValid_at hw hi')
  have HW := Lib.hid hw
  go_enter Tryz.func158, Tryz.ntmps158
  go_wp2_with (go_at_call 206; refine (WordValid_s s _ hs).mono ?_; rintro e w' ⟨rfl, rfl⟩; rw [hw])
  go_loopw [4, 5] (fun n i wr => ∃ k : Nat, k ≤ s.size ∧ i = .int .i64 k ∧ n = .int .i64 (alphaOf ((chars s).take k) : Nat) ∧ w = wr) (fun _ i _ => s.size - (intOf i).toNat)
  case atStart => exact ⟨0, by omega, rfl, rfl, rfl⟩
  case round =>
    obtain ⟨k, hk, rfl, rfl, rfl⟩ := hrel
    have hlt64 := HLT.out k
    by_cases hlt : k < s.size
    · have HR := Lib.hid (alphaOf_take (chars_at s k hlt))
      obtain ⟨hl0, hl6⟩ := HL.out k hlt
      obtain ⟨c, hc⟩ := Int.eq_ofNat_of_zero_le hl0
      rw [hc] at hl6
      have HC := Lib.hid hc
      have HB := Lib.hid (l1Bit_c c w (by omega))
      have HA := Lib.hid (l1At_c s k w hlt (by omega))
      rw [hc] at HA
      rw [hc, Int.toNat_natCast] at HR
      obtain ⟨m, hm⟩ : ∃ m, alphaOf ((chars s).take k) = m := ⟨_, rfl⟩
      rw [hm] at HR hlt64 ⊢
      obtain ⟨P, hP⟩ : ∃ P, 2 ^ c = P := ⟨_, rfl⟩
      have hP64 : P < 64 := by
        rw [← hP]
        have := Nat.pow_lt_pow_right (a := 2) (by omega) (show c < 6 by omega)
        omega
      rw [hP] at HB HR
      have hor := i64_or_nat m P (by omega) (by omega)
      clear hc hl0 hm hP
      go_wp2_with (first | (go_at_call 119; refine HA.out.mono ?_; rintro e w' ⟨rfl, rfl⟩) | (go_at_call 207; refine HB.out.mono ?_; rintro e w' ⟨rfl, rfl⟩))
      exact ⟨⟨k + 1, by omega, by go_num, by rw [HR.out], by first | rfl | trivial⟩, by simp [intOf]; omega⟩
    · obtain rfl : k = s.size := by omega
      go_wp2_with fail
      go_ret2
      refine Same.mk ?_
      rw [← chars_len, List.take_length]; rfl

theorem WordWithin_s (s : ByteArray) (a : Int) (w : World) (hs : s.size ≤ 1048576) : Calls Tryz.prog 80 #[.string s, .int .i64 a] w (Same (.bool (wordIn s a)) w) := by
  have HA := Lib.hid (AlphabetOf_s s w hs)
  by_cases hw : wordValid s = true
  case neg =>
    have hw : wordValid s = false := by simpa using hw
    rw [hw] at HA
    have hno : wordIn s a = false := by
      rw [Bool.eq_false_iff]
      intro h
      have h' := h
      simp only [wordIn, Bool.and_eq_true, decide_eq_true_eq, List.all_eq_true] at h'
      have : wordValid s = true := by
        unfold wordValid wordIn
        simp only [Bool.and_eq_true, decide_eq_true_eq, List.all_eq_true]
        refine ⟨⟨by decide, h'.1.2⟩, fun x hx => ?_⟩
        have ha : a ≤ 63 := by have := h'.1.1; simp [isAlpha] at this; omega
        obtain ⟨h1, h2⟩ := bit_range ha (h'.2 x hx)
        rw [bit63]; simp [h1, h2]
      rw [hw] at this; cases this
    rw [hno]
    go_enter Tryz.func80, Tryz.ntmps80
    go_wp2_with (go_at_call 158; refine HA.out.mono ?_; rintro e w' ⟨rfl, rfl⟩)
    go_ret
    exact Same.mk rfl
  rw [hw] at HA
  by_cases ha : isAlpha a = true
  case neg =>
    have ha : isAlpha a = false := by simpa using ha
    rw [wordIn_alpha ha]
    go_enter Tryz.func80, Tryz.ntmps80
    go_wp2_with (first | (go_at_call 158; refine HA.out.mono ?_; rintro e w' ⟨rfl, rfl⟩) | (go_at_call 157; refine (l1Alphabet_c _ _).mono ?_; rintro e w' ⟨rfl, rfl⟩; rw [ha]))
    go_ret
    exact Same.mk rfl
  obtain ⟨a0, a1⟩ : 0 ≤ a ∧ a ≤ 63 := by simpa [isAlpha] using ha
  have hl : ∀ l ∈ chars s, 0 ≤ l ∧ l < 6 := fun l hl => by
    have h' := hw
    simp only [wordValid, wordIn, Bool.and_eq_true, List.all_eq_true] at h'
    exact bit_range (by omega) (h'.2 l hl)
  have hin := alphaOf_in hl a0 a1
  have hsz := wordValid_size hw
  have hfin : wordIn s a = (chars s).all (bit a) := by unfold wordIn; rw [ha]; simp [hsz]
  rw [hfin]
  have h64 := alphaOf_lt hl
  simp only [if_true] at HA
  generalize alphaOf (chars s) = m at HA hin h64
  clear hfin hl hw
  go_enter Tryz.func80, Tryz.ntmps80
  go_wp2_with (first | (go_at_call 158; refine HA.out.mono ?_; rintro e w' ⟨rfl, rfl⟩) | (go_at_call 157; refine (l1Alphabet_c _ _).mono ?_; rintro e w' ⟨rfl, rfl⟩; rw [ha]))
  go_ret
  exact Same.mk (by rw [← hin]; rfl)

end Go.Proofs.YtloampfmlhmlhaaGreatDoor

namespace Go.Proofs.YtloampfmlhmlhaaGreatDoor
set_option linter.unusedSimpArgs false
set_option linter.unusedVariables false
open Go.RowKit
set_option maxHeartbeats 4000000
set_option maxRecDepth 100000

/-- The reference's sets of a task in memory. -/
def SetsOwn (base n g cap : Nat) (w : World) (f : Sets) : Prop := w.ownsRow base 3 1 (.slice (some ⟨g, 0, none⟩) n cap) n ((setsL n f).map (Value.int .i64))
theorem SetsOwn.cell {base n g cap : Nat} {w : World} {f : Sets} (h : SetsOwn base n g cap w f) {p : Nat} (hp : p < n) : w.cell? ⟨g, p, none⟩ = some (.int .i64 (f p : Int)) := own_cell h (by rw [List.getElem?_map, setsL_at f hp]; rfl)
theorem SetsOwn.fr {base n g cap : Nat} {w : World} {f : Sets} (h : SetsOwn base n g cap w f) (p : Nat) : w.frozen? ⟨g, p, none⟩ = false := World.ownsRow.frozenAt h p
theorem SetsOwn.ext {base n g cap : Nat} {w w' : World} {f : Sets} (h : SetsOwn base n g cap w f) (he : Ext w w') : SetsOwn base n g cap w' f := own_ext h he
theorem SetsOwn.set {base n g cap : Nat} {w : World} {f : Sets} (h : SetsOwn base n g cap w f) {p : Nat} (hp : p < n) (y : Nat) : SetsOwn base n g cap (w.setCell ⟨g, p, none⟩ (.int .i64 (y : Int))) (updS f p y) := by
  have := (World.ownsRow.stored h p (.int .i64 (y : Int))).1
  unfold SetsOwn
  rw [← setsL_set f hp, List.map_set]; exact this
end Go.Proofs.YtloampfmlhmlhaaGreatDoor

namespace Go.Proofs.YtloampfmlhmlhaaGreatDoor
set_option linter.unusedSimpArgs false
set_option linter.unusedVariables false
open Go.RowKit
set_option maxHeartbeats 4000000
set_option maxRecDepth 100000

end Go.Proofs.YtloampfmlhmlhaaGreatDoor
