/- Words by number: a word that comes ahead has the lesser number. -/
import Derived.Test.YteodlkkghnfkdaaGreatDoorPlainA
namespace Go.Proofs.YteodlkkghnfkdaaGreatDoor
set_option linter.unusedSimpArgs false
set_option linter.unusedVariables false
open Go

def idxFrom (a : Int) (n : Nat) (u : List Int) : Nat := u.foldl (fun n x => n * nletters a + place a x + 1) n
/-- The word number n over an alphabet. -/
def WordOf (a : Int) (n : Nat) (u : List Int) : Prop := (∀ x ∈ u, bit a x = true) ∧ idxFrom a 0 u = n
theorem place_mono_all : ∀ a ∈ List.range 64, ∀ x ∈ List.range 6, ∀ y ∈ List.range 6, x < y → bit (Int.ofNat a) (Int.ofNat x) = true → place (Int.ofNat a) (Int.ofNat x) < place (Int.ofNat a) (Int.ofNat y) := by decide +kernel
theorem place_mono {a x y : Int} (ha : 0 ≤ a) (ha2 : a ≤ 63) (hx : bit a x = true) (hy : bit a y = true) (h : x < y) : place a x < place a y := by
  obtain ⟨hx0, hx1⟩ := bit_range ha2 hx
  obtain ⟨hy0, hy1⟩ := bit_range ha2 hy
  obtain ⟨a, rfl⟩ := Int.eq_ofNat_of_zero_le ha
  obtain ⟨x, rfl⟩ := Int.eq_ofNat_of_zero_le hx0
  obtain ⟨y, rfl⟩ := Int.eq_ofNat_of_zero_le hy0
  exact place_mono_all a (List.mem_range.2 (by omega)) x (List.mem_range.2 (by omega)) y (List.mem_range.2 (by omega)) (by omega) hx
section
variable {a : Int} (ha : 0 ≤ a) (ha2 : a ≤ 63)
include ha ha2
theorem idx_lt {u v : List Int} (hu : ∀ x ∈ u, bit a x = true) (hl : u.length = v.length) : ∀ {n m : Nat}, n < m → idxFrom a n u < idxFrom a m v := by
  induction u generalizing v with
  | nil => intro n m h; cases v with
    | nil => exact h
    | cons y v => simp at hl
  | cons x u ih =>
    intro n m h
    cases v with
    | nil => simp at hl
    | cons y v =>
      refine ih (v := v) (fun z hz => hu z (by simp [hz])) (by simpa using hl) ?_
      have hp := place_lt a x ha ha2 (hu x (by simp))
      have h1 : (n + 1) * nletters a ≤ m * nletters a := Nat.mul_le_mul_right _ h
      rw [Nat.add_mul] at h1
      show n * nletters a + place a x + 1 < m * nletters a + place a y + 1
      omega
theorem idx_lex {u v : List Int} (hu : ∀ x ∈ u, bit a x = true) (hv : ∀ x ∈ v, bit a x = true) (hl : u.length = v.length) (h : lexLe u v) (hne : u ≠ v) (n : Nat) : idxFrom a n u < idxFrom a n v := by
  induction u generalizing v n with
  | nil => cases v with
    | nil => exact absurd rfl hne
    | cons y v => simp at hl
  | cons x u ih =>
    cases v with
    | nil => simp at hl
    | cons y v =>
      rcases h with h | ⟨rfl, h⟩
      · have := place_mono ha ha2 (hu x (by simp)) (hv y (by simp)) h
        exact idx_lt ha ha2 (u := u) (v := v) (fun z hz => hu z (by simp [hz])) (by simpa using hl) (show n * nletters a + place a x + 1 < n * nletters a + place a y + 1 by omega)
      · exact ih (v := v) (fun z hz => hu z (by simp [hz])) (fun z hz => hv z (by simp [hz])) (by simpa using hl) h (fun e => hne (by rw [e])) _
theorem idx_short {u v : List Int} (hu : ∀ x ∈ u, bit a x = true) (h : u.length < v.length) (n : Nat) : idxFrom a 0 u < idxFrom a n v := by
  induction v generalizing n with
  | nil => simp at h
  | cons y v ih =>
    show _ < idxFrom a _ v
    by_cases he : u.length = v.length
    · exact idx_lt ha ha2 hu he (show 0 < n * nletters a + place a y + 1 by omega)
    · exact ih (by simp at h; omega) _
theorem idx_slex {u v : List Int} (hu : ∀ x ∈ u, bit a x = true) (hv : ∀ x ∈ v, bit a x = true) (h : slexLt u v) : idxFrom a 0 u < idxFrom a 0 v := by
  obtain ⟨h1 | ⟨h1, h2⟩, hne⟩ := h
  · exact idx_short ha ha2 hu h1 0
  · exact idx_lex ha ha2 hu hv h1 h2 hne 0
/-- No word of a lesser number is in W: then the word in W of number n is the first. -/
theorem first_of_word {W : List Int → Prop} {r : Option (List Int)} (hW : FirstIs W r) (hin : ∀ v, W v → ∀ x ∈ v, bit a x = true) {n : Nat} {v : List Int} (hv : WordOf a n v) (hw : W v) (hno : ∀ j u, j < n → WordOf a j u → ¬ W u) : r = some v := by
  cases r with
  | none => exact absurd hw (hW v)
  | some u =>
    by_cases he : u = v
    · rw [he]
    · have := idx_slex ha ha2 (hin u hW.1) hv.1 ⟨hW.2 v hw, he⟩
      rw [hv.2] at this
      exact absurd hW.1 (hno _ u this ⟨hin u hW.1, rfl⟩)
end
/-- A letter more at the end. -/
theorem idx_push (a : Int) (n : Nat) (u : List Int) (x : Int) : idxFrom a n (u ++ [x]) = idxFrom a n u * nletters a + place a x + 1 := by unfold idxFrom; rw [List.foldl_append]; rfl
end Go.Proofs.YteodlkkghnfkdaaGreatDoor
