/- Walks: traces of a system and of parts; restricted words; words by number. -/
import Derived.Test.YtloampfmlhmlhaaGreatDoorPlain9
import Derived.Test.YtloampfmlhmlhaaGreatDoorWalkY
namespace Go.Proofs.YtloampfmlhmlhaaGreatDoor
set_option linter.unusedSimpArgs false
set_option linter.unusedVariables false
open Go.RowKit
set_option maxHeartbeats 1000000
set_option maxRecDepth 100000

def statesAfter (s : Sys) (t : ByteArray) : Nat := if (sysValid s && wordIn t s.alphabet) = true then setAfter s (chars t) else 0

theorem StatesAfter_c (v : Value) (s : Sys) (t : ByteArray) (w : World) (hv : SysV w v s) (hs : t.size ≤ 1048576) (hT : Deb w) :
    Calls Tryz.prog 162 #[v, .string t] w (Grows (.int .i64 (statesAfter s t : Nat)) w) := by
  have HV := Lib.hid hv
  have HD := Lib.hid hT
  obtain ⟨ve, rfl, h1⟩ := hv
  obtain ⟨ae, ce, rfl, -, -⟩ := h1.open
  clear h1 hT
  by_cases hx : sysValid s = true
  case neg =>
    have hx : sysValid s = false := by simpa using hx
    go_enter Tryz.func162, Tryz.ntmps162
    go_wp2_with fail
    refine (SystemValid_c _ s _ (HV.out.mono (Ext.alloc _ _))).mono ?_
    rintro e w1 ⟨rfl, he1⟩
    go_wp2_with fail
    go_ret
    exact Grows.mk (by simp [statesAfter, hx]) he1.peel
  by_cases hw : wordIn t s.alphabet = true
  case neg =>
    have hw : wordIn t s.alphabet = false := by simpa using hw
    go_enter Tryz.func162, Tryz.ntmps162
    go_wp2_with fail
    refine (SystemValid_c _ s _ (HV.out.mono (Ext.alloc _ _))).mono ?_
    rintro e w1 ⟨rfl, he1⟩
    have c0 := he1.blk.cell 0 rfl
    go_wp2_with fail
    refine (WordWithin_c t _ _ hs).mono ?_
    rintro e w2 ⟨rfl, rfl⟩
    go_wp2_with fail
    go_ret
    exact Grows.mk (by simp [statesAfter, hw]) he1.peel
  have HS := Lib.hid (stepM_zero s)
  have HW := Lib.hid hw
  have HX := Lib.hid hx
  go_enter Tryz.func162, Tryz.ntmps162
  go_wp2_with fail
  refine (SystemValid_c _ s _ (HV.out.mono (Ext.alloc _ _))).mono ?_
  rintro e w1 ⟨rfl, he1⟩
  have c0 := he1.blk.cell 0 rfl
  have c1 := he1.blk.cell 1 rfl
  have c2 := he1.blk.cell 2 rfl
  have hext1 := he1.peel
  go_wp2_with fail
  refine (WordWithin_c t _ _ hs).mono ?_
  rintro e w2 ⟨rfl, rfl⟩
  go_wp2_with fail
  refine (movesOf_c _ s _ (HV.out.mono hext1) HX.out).mono ?_
  rintro e w3 ⟨vm, rfl, he3, hm⟩
  have hext3 := hext1.trans he3
  have HM := Lib.hid hm
  obtain ⟨bm, csm, rfl, -⟩ := hm
  clear c0 c1 c2 he1 hext1 he3 hx hw
  go_wp2_with fail
  go_loopw [6, 7, 25, 26] (fun st i _ _ wr => ∃ k a : Nat, k ≤ t.size ∧ i = .int .i64 k ∧ st = .int .i64 a ∧ a < 65536 ∧ Hid (a = ((chars t).take k).foldl (stepM s) 1) ∧ Ext w3 wr) (fun _ i _ _ _ => t.size - (intOf i).toNat)
  case atStart => exact ⟨0, 1, by omega, rfl, rfl, by omega, by show 1 = _; simp, Ext.refl _⟩
  case round =>
    obtain ⟨k, a, hk, rfl, rfl, ha, HA, hext⟩ := hrel
    have hfin : ∀ k', ((chars t).take k').foldl (stepM s) 1 = 0 → setAfter s (chars t) = 0 := fun k' h0 => by
      have : ∀ u : List Int, u.foldl (stepM s) 0 = 0 := by
        intro u
        induction u with
        | nil => rfl
        | cons l u ih => rw [List.foldl_cons, HS.out]; exact ih
      unfold setAfter
      rw [← List.take_append_drop k' (chars t), List.foldl_append, h0, this]
    have HF := Lib.hid hfin
    clear hfin
    have hval : statesAfter s t = setAfter s (chars t) := by unfold statesAfter; rw [HX.out, HW.out]; rfl
    have HVal := Lib.hid hval
    clear hval
    by_cases hlt : k < t.size
    · by_cases h0 : a = 0
      · have HZ := Lib.hid h0
        subst h0
        go_wp2_with fail
        go_ret
        exact Grows.mk (by rw [HVal.out, HF.out k HA.out.symm]; rfl) (hext3.trans hext)
      · have hne : ((a : Int) != 0) = true := by simp; exact h0
        have hbit := wordIn_at HW.out hlt
        have hal := valid_alpha HX.out
        obtain ⟨l0, l6⟩ := bit_range hal.2.1 hbit
        obtain ⟨l, hl⟩ := Int.eq_ofNat_of_zero_le l0
        have HL := Lib.hid hl
        have hl6 : l < 6 := by omega
        have HC := Lib.hid (chars_at t k hlt)
        have hst := stepM_lt HX.out a (l : Int)
        clear hbit hal l0 l6 hl
        go_wp2_with fail
        refine (letterAt_in t k l _ hlt hs HL.out hl6).mono ?_
        rintro e w4 ⟨rfl, rfl⟩
        go_wp2_with fail
        refine (step_c _ s a l _ (HM.out.mono hext) HX.out ha hl6 (HD.out.ext (hext3.trans hext))).mono ?_
        rintro e w5 ⟨rfl, he5⟩
        go_wp2_with fail
        refine ⟨⟨k + 1, stepM s a (l : Int), by omega, by go_num, rfl, hst, ?_, hext.trans he5⟩, by simp [intOf]; omega⟩
        show _ = _
        rw [List.take_add_one, HC.out, HL.out, Option.toList_some, List.foldl_append, ← HA.out]; rfl
    · obtain rfl : k = t.size := by omega
      go_wp2_with fail
      go_ret
      have h4 := HA.out
      rw [List.take_of_length_le (by rw [chars_len]; exact Nat.le_refl _)] at h4
      exact Grows.mk (by rw [HVal.out, h4]; rfl) (hext3.trans hext)

theorem HasTrace_c (v : Value) (s : Sys) (t : ByteArray) (w : World) (hv : SysV w v s) (hs : t.size ≤ 1048576) (hT : Deb w) :
    Calls Tryz.prog 84 #[v, .string t] w (Grows (.bool (hasTrace s t)) w) := by
  have HV := Lib.hid hv
  obtain ⟨ve, rfl, h1⟩ := hv
  obtain ⟨ae, ce, rfl, -, -⟩ := h1.open
  clear h1
  go_enter Tryz.func84, Tryz.ntmps84
  go_wp2_with fail
  refine (StatesAfter_c _ s t _ (HV.out.mono (Ext.alloc _ _)) hs (hT.ext (Ext.alloc _ _))).mono ?_
  rintro e w1 ⟨rfl, he1⟩
  go_wp2_with fail
  go_ret
  refine Grows.mk ?_ he1.peel
  congr 1
  unfold hasTrace statesAfter
  cases sysValid s
  · simp
  · cases wordIn t s.alphabet
    · simp
    · simp [bne]; rw [Bool.eq_iff_iff]; simp

def restrictW (t : ByteArray) (a : Int) : ByteArray := if (wordValid t && isAlpha a) = true then restrict t a else ⟨#[]⟩
theorem restrictW_size (t : ByteArray) (a : Int) : (restrictW t a).size ≤ t.size := by
  unfold restrictW
  split
  · rw [← chars_len, ← chars_len, chars_restrict]; exact List.length_filter_le _ _
  · exact Nat.zero_le _
theorem RestrictWord_c (t : ByteArray) (a : Int) (w : World) (hs : t.size ≤ 1048576) :
    Calls Tryz.prog 85 #[.string t, .int .i64 a] w (Grows (.string (restrictW t a)) w) := by
  by_cases hw : wordValid t = true
  · by_cases ha : isAlpha a = true
    · have hra := ha
      simp only [isAlpha, Bool.and_eq_true, decide_eq_true_eq] at hra
      go_enter Tryz.func85, Tryz.ntmps85
      go_wp2_with fail
      refine (WordValid_c t _ hs).mono ?_
      rintro e w1 ⟨rfl, rfl⟩
      go_wp2_with fail
      refine (isAlphabet_c a _).mono ?_
      rintro e w2 ⟨rfl, rfl⟩
      go_wp2_with fail
      refine (restrict_c t a _ hra.1 hra.2 hs).mono ?_
      rintro e w3 ⟨rfl, he3⟩
      go_wp2_with fail
      go_ret
      exact Grows.mk (by simp [restrictW, hw, ha]) he3
    · have ha : isAlpha a = false := by simpa using ha
      go_enter Tryz.func85, Tryz.ntmps85
      go_wp2_with fail
      refine (WordValid_c t _ hs).mono ?_
      rintro e w1 ⟨rfl, rfl⟩
      go_wp2_with fail
      refine (isAlphabet_c a _).mono ?_
      rintro e w2 ⟨rfl, rfl⟩
      go_wp2_with fail
      go_ret
      exact Grows.mk (by simp [restrictW, ha]) (Ext.refl _)
  · have hw : wordValid t = false := by simpa using hw
    go_enter Tryz.func85, Tryz.ntmps85
    go_wp2_with fail
    refine (WordValid_c t _ hs).mono ?_
    rintro e w1 ⟨rfl, rfl⟩
    go_wp2_with fail
    go_ret
    exact Grows.mk (by simp [restrictW, hw]) (Ext.refl _)

end Go.Proofs.YtloampfmlhmlhaaGreatDoor
