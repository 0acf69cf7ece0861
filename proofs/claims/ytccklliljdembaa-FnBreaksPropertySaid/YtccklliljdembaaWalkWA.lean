/- Merged: WalkT, WalkWA. -/
import Derived.Test.YtccklliljdembaaPlain9
import Derived.Test.YtccklliljdembaaWalkY
import Derived.Test.YtccklliljdembaaWalkFB
import Derived.Test.YtccklliljdembaaDrawA

namespace Go.Proofs.Ytccklliljdembaa
set_option linter.unusedSimpArgs false
set_option linter.unusedVariables false
open Go.RowKit
set_option maxHeartbeats 1000000
set_option maxRecDepth 100000

def statesAfter (s : Sys) (t : ByteArray) : Nat := if (sysValid s && wordIn t s.alphabet) = true then setAfter s (chars t) else 0

def restrictW (t : ByteArray) (a : Int) : ByteArray := if (wordValid t && isAlpha a) = true then restrict t a else ⟨#[]⟩
theorem restrictW_size (t : ByteArray) (a : Int) : (restrictW t a).size ≤ t.size := by
  unfold restrictW
  split
  · rw [← chars_len, ← chars_len, chars_restrict]; exact List.length_filter_le _ _
  · exact Nat.zero_le _
theorem RestrictWord_c (t : ByteArray) (a : Int) (w : World) (hs : t.size ≤ 1048576) :
    Calls Try.prog 11 #[.string t, .int .i64 a] w (Grows (.string (restrictW t a)) w) := by
  by_cases hw : wordValid t = true
  · by_cases ha : isAlpha a = true
    · have hra := ha
      simp only [isAlpha, Bool.and_eq_true, decide_eq_true_eq] at hra
      go_enter Try.func11, Try.ntmps11
      go_wp2_with fail
      refine (WordValid_c t _ hs).mono ?_
      rintro e w1 ⟨rfl, rfl⟩
      go_wp2_with fail
      refine (isAlphabet_c a _).mono ?_
      rintro e w2 ⟨rfl, rfl⟩
      go_wp2_with fail
      refine (restrict_c t a _ hra.1 hra.2 hs).mono ?_
      rintro e w3 ⟨rfl, he3⟩
      go_wp2_with fail
      go_ret
      exact Grows.mk (by simp [restrictW, hw, ha]) he3
    · have ha : isAlpha a = false := by simpa using ha
      go_enter Try.func11, Try.ntmps11
      go_wp2_with fail
      refine (WordValid_c t _ hs).mono ?_
      rintro e w1 ⟨rfl, rfl⟩
      go_wp2_with fail
      refine (isAlphabet_c a _).mono ?_
      rintro e w2 ⟨rfl, rfl⟩
      go_wp2_with fail
      go_ret
      exact Grows.mk (by simp [restrictW, ha]) (Ext.refl _)
  · have hw : wordValid t = false := by simpa using hw
    go_enter Try.func11, Try.ntmps11
    go_wp2_with fail
    refine (WordValid_c t _ hs).mono ?_
    rintro e w1 ⟨rfl, rfl⟩
    go_wp2_with fail
    go_ret
    exact Grows.mk (by simp [restrictW, hw]) (Ext.refl _)

def traceOfParts (l : List Sys) (t : ByteArray) : Bool := areParts l && wordIn t (partsAlphabet l) && l.all fun s => hasTrace s (restrict t s.alphabet)

end Go.Proofs.Ytccklliljdembaa

namespace Go.Proofs.Ytccklliljdembaa
set_option linter.unusedSimpArgs false
set_option linter.unusedVariables false
open Go.RowKit
set_option maxHeartbeats 1000000
set_option maxRecDepth 100000

theorem place_of_get {a : Int} (ha : 0 ≤ a) (ha2 : a ≤ 63) {m : Nat} {x : Int} (h : (letters a)[m]? = some x) : bit a x = true ∧ 0 ≤ x ∧ x < 6 ∧ place a x = m := by
  obtain ⟨h1, h2, h3, h4⟩ := letters_mem a x m ha2 h
  exact ⟨h1, h2, h3, ((letters_place a x m ha ha2 h2 h3 h4).1 h).2⟩
/-- A digit more ahead. -/
theorem idx_cons (a : Int) (k : Nat) (x : Int) (u : List Int) : idxFrom a k (x :: u) = idxFrom a (k * nletters a + place a x + 1) u := rfl

end Go.Proofs.Ytccklliljdembaa
