/- Words before words: WordBefore; a letter's text. -/
import Derived.Test.YtloampfmlhmlhaaGreatDoorAgW
namespace Go.Proofs.YtloampfmlhmlhaaGreatDoor
set_option linter.unusedSimpArgs false
set_option linter.unusedVariables false
open Go Go.RowKit
set_option maxHeartbeats 1600000
set_option maxRecDepth 100000

theorem isNaNS_c (s : ByteArray) (w : World) : Calls Tryz.prog 209 #[.string s] w (Same (.bool false) w) := by
  go_enter Tryz.func209, Tryz.ntmps209
  go_wp2_with fail
  go_ret
  exact Same.mk (by simp)
def cmpS (a b : ByteArray) : Int := if Op.bytesLess a.toList b.toList = true then -1 else if (!a.toList == b.toList) = true then 1 else 0
theorem CompareS_c (a b : ByteArray) (w : World) : Calls Tryz.prog 161 #[.string a, .string b] w (Same (.int .i64 (cmpS a b)) w) := by
  unfold cmpS
  cases h1 : Op.bytesLess a.toList b.toList with
  | true =>
    go_enter Tryz.func161, Tryz.ntmps161
    go_wp2_with (go_at_call 209; refine (isNaNS_c _ _).mono ?_; rintro e w' ⟨rfl, rfl⟩)
    go_ret
    exact Same.mk rfl
  | false =>
    cases h2 : (!a.toList == b.toList) with
    | true =>
      go_enter Tryz.func161, Tryz.ntmps161
      go_wp2_with (go_at_call 209; refine (isNaNS_c _ _).mono ?_; rintro e w' ⟨rfl, rfl⟩)
      go_ret
      exact Same.mk rfl
    | false =>
      go_enter Tryz.func161, Tryz.ntmps161
      go_wp2_with (go_at_call 209; refine (isNaNS_c _ _).mono ?_; rintro e w' ⟨rfl, rfl⟩)
      go_ret
      exact Same.mk rfl
def shortI (a b : ByteArray) : Int := orI [cmpI a.size b.size, cmpS a b]
theorem IntsV.pair (w : World) (x y : Int) : IntsV (w.alloc (.cells #[.int .i64 x, .int .i64 y] 3)) (.slice (some ⟨w.heap.size, 0, none⟩) 2 2) [x, y] := by
  have hb := Blk.new w #[.int .i64 x, .int .i64 y] 3
  refine ⟨_, 2, rfl, Nat.le_refl _, by decide, fun _ => ⟨w.heap.size, 0, rfl, by simp, fun i x hi => ?_⟩⟩
  match i, hi with
  | 0, hi => simp at hi; subst hi; exact hb.cell 0 rfl
  | 1, hi => simp at hi; subst hi; exact hb.cell 1 rfl
  | i + 2, hi => simp at hi
theorem shortlex_c (a b : ByteArray) (w : World) : Calls Tryz.prog 83 #[.string a, .string b] w (Grows (.int .i64 (shortI a b)) w) := by
  go_enter Tryz.func83, Tryz.ntmps83
  go_wp2_with (first
    | (go_at_call 160; refine (Compare_c _ _ _).mono ?_; rintro e w' ⟨rfl, rfl⟩)
    | (go_at_call 161; refine (CompareS_c _ _ _).mono ?_; rintro e w' ⟨rfl, rfl⟩)
    | (go_at_call 159; refine (Or_c _ _ _ (IntsV.pair _ _ _)).mono ?_; rintro e w' ⟨rfl, rfl⟩))
  go_ret
  exact Grows.mk rfl (Ext.alloc _ _)
def beforeB (a b : ByteArray) : Bool := wordValid a && wordValid b && decide (shortI a b < 0)
theorem WordBefore_c (a b : ByteArray) (w : World) (ha : a.size ≤ 1048576) (hb : b.size ≤ 1048576) : Calls Tryz.prog 27 #[.string a, .string b] w (Grows (.bool (beforeB a b)) w) := by
  have CA := Lib.hid (WordValid_c a · ha)
  have CB := Lib.hid (WordValid_c b · hb)
  have HB : Hid (beforeB a b = (wordValid a && wordValid b && decide (shortI a b < 0))) := Lib.hid rfl
  rw [HB.out]
  generalize wordValid a = va at CA
  generalize wordValid b = vb at CB
  cases va with
  | false =>
    go_enter Tryz.func27, Tryz.ntmps27
    go_wp2_with fail
    refine (CA.out w).mono ?_
    rintro e w' ⟨rfl, rfl⟩
    go_wp2_with fail
    go_ret
    exact Grows.mk rfl (Ext.refl _)
  | true =>
    cases vb with
    | false =>
      go_enter Tryz.func27, Tryz.ntmps27
      go_wp2_with fail
      refine (CA.out w).mono ?_
      rintro e w' ⟨rfl, rfl⟩
      go_wp2_with fail
      refine (CB.out w).mono ?_
      rintro e w' ⟨rfl, rfl⟩
      go_wp2_with fail
      go_ret
      exact Grows.mk rfl (Ext.refl _)
    | true =>
      go_enter Tryz.func27, Tryz.ntmps27
      go_wp2_with fail
      refine (CA.out w).mono ?_
      rintro e w' ⟨rfl, rfl⟩
      go_wp2_with fail
      refine (CB.out w).mono ?_
      rintro e w' ⟨rfl, rfl⟩
      go_wp2_with fail
      refine (shortlex_c a b w).mono ?_
      rintro e w1 ⟨rfl, he1⟩
      go_wp2_with fail
      go_ret
      exact Grows.mk rfl he1

theorem lb_inj {a b : Int} (ha : 0 ≤ a ∧ a < 6) (hb : 0 ≤ b ∧ b < 6) (h : a < b) : lb a < lb b := by
  obtain ⟨m, rfl⟩ := Int.eq_ofNat_of_zero_le ha.1
  obtain ⟨n, rfl⟩ := Int.eq_ofNat_of_zero_le hb.1
  unfold lb
  rw [UInt8.lt_iff_toNat_lt]
  simp
  omega
theorem not_less {u : List Int} : ∀ {v : List Int}, (∀ x ∈ u, 0 ≤ x ∧ x < 6) → (∀ x ∈ v, 0 ≤ x ∧ x < 6) → v.length = u.length → lexLe v u → Op.bytesLess (u.map lb) (v.map lb) = false := by
  induction u with
  | nil => intro v _ _ hl _; cases v with
    | nil => rfl
    | cons b v => simp at hl
  | cons a u ih =>
    intro v hu hv hl h
    cases v with
    | nil => rfl
    | cons b v =>
      simp only [List.map_cons, Op.bytesLess]
      have ha := hu a (by simp)
      have hb := hv b (by simp)
      rcases h with h | ⟨rfl, h⟩
      · have h1 := lb_inj hb ha h
        have h2 : ¬ lb a < lb b := fun h3 => by
          rw [UInt8.lt_iff_toNat_lt] at h1 h3; omega
        have h4 : (lb a == lb b) = false := beq_eq_false_iff_ne.2 fun e => by
          rw [e, UInt8.lt_iff_toNat_lt] at h1; omega
        rw [h4, decide_eq_false h2]; rfl
      · have h2 : ¬ lb b < lb b := fun h3 => by rw [UInt8.lt_iff_toNat_lt] at h3; omega
        rw [ih (fun x hx => hu x (by simp [hx])) (fun x hx => hv x (by simp [hx])) (by simpa using hl) h, decide_eq_false h2]; simp
theorem before_no {u v : List Int} (hu : ∀ x ∈ u, 0 ≤ x ∧ x < 6) (hv : ∀ x ∈ v, 0 ≤ x ∧ x < 6) (h : slexLe v u) : beforeB (wtext u) (wtext v) = false := by
  have hs : ¬ shortI (wtext u) (wtext v) < 0 := by
    unfold shortI
    rw [size_wtext, size_wtext]
    rcases h with h | ⟨h, hl⟩
    · have : cmpI (u.length : Int) (v.length : Int) = 1 := by unfold cmpI; rw [if_neg (by omega), if_pos (by omega)]
      rw [this]; simp [orI]
    · have h1 : cmpI (u.length : Int) (v.length : Int) = 0 := by unfold cmpI; rw [if_neg (by omega), if_neg (by omega)]
      have h2 : Op.bytesLess (wtext u).toList (wtext v).toList = false := by
        rw [toList_data, toList_data]
        unfold wtext
        exact not_less hu hv h hl
      rw [h1]
      unfold cmpS
      rw [h2]
      simp only [Bool.false_eq_true, if_false]
      split <;> simp [orI]
  unfold beforeB
  rw [decide_eq_false hs, Bool.and_false]

theorem agLetter_c (l : Nat) (w : World) (hl : l < 6) : Calls Tryz.prog 25 #[.int .i64 l] w (Grows (.string (wtext [(l : Int)])) w) := by
  have hb : BytesOwn 5 w.heap.size (w.alloc (.cells #[byteVal (lb (l : Int))] 5)) (.slice (some ⟨w.heap.size, 0, none⟩) 1 1) [lb (l : Int)] :=
    ⟨by simp, .inr ⟨w.heap.size, 1, #[byteVal (lb (l : Int))], rfl, Nat.le_refl _, heap_alloc_new w _, Nat.le_refl _, by unfold maxLen; omega, by simp, by simp⟩⟩
  have hcv := hb.string
  rw [lb_val l hl, show ((97 + l : Nat) : Int) = 97 + (l : Int) by omega] at hcv
  go_enter Tryz.func25, Tryz.ntmps25
  go_wp2_with fail
  go_ret
  exact Grows.mk rfl (Ext.alloc _ _)
end Go.Proofs.YtloampfmlhmlhaaGreatDoor
