/- Part of this seat's proofs, cut to what its law needs. -/

import Derived.Test.YtanekmfifmkbmaaGreatDoorDet

namespace Go.Proofs.YtanekmfifmkbmaaGreatDoor
set_option linter.unusedSimpArgs false
set_option linter.unusedVariables false
open Go

theorem letters_iff {a : Int} (l : Int) (h : a ≤ 63) : l ∈ letters a ↔ bit a l = true := by
  constructor
  · intro hl; unfold letters lettersTo at hl; exact (List.mem_filter.1 hl).2
  · intro hb
    obtain ⟨h1, h2⟩ := bit_range h hb
    unfold letters lettersTo
    exact List.mem_filter.2 ⟨List.mem_map.2 ⟨l.toNat, List.mem_range.2 (by omega), by simp; omega⟩, hb⟩



end Go.Proofs.YtanekmfifmkbmaaGreatDoor

namespace Go.Proofs.YtanekmfifmkbmaaGreatDoor
set_option linter.unusedSimpArgs false
set_option linter.unusedVariables false
open Go


theorem chars_wtext {u : List Int} (h : ∀ x ∈ u, 0 ≤ x ∧ x < 6) : chars (wtext u) = u := by
  unfold chars wtext
  simp only [List.map_map]
  have : ∀ x ∈ u, ((fun b : UInt8 => (b.toNat : Int) - 97) ∘ lb) x = x := by
    intro x hx
    obtain ⟨h0, h6⟩ := h x hx
    have : x = 0 ∨ x = 1 ∨ x = 2 ∨ x = 3 ∨ x = 4 ∨ x = 5 := by omega
    rcases this with rfl | rfl | rfl | rfl | rfl | rfl <;> rfl
  rw [List.map_congr_left this, List.map_id'']
  intro x; rfl
theorem size_wtext (u : List Int) : (wtext u).size = u.length := by simp [wtext, ByteArray.size]
theorem wordIn_wtext {u : List Int} {a : Int} (ha : 0 ≤ a) (ha2 : a ≤ 63) (hu : ∀ x ∈ u, bit a x = true) (hl : u.length ≤ 50000) : wordIn (wtext u) a = true := by
  have h6 : ∀ x ∈ u, 0 ≤ x ∧ x < 6 := fun x hx => bit_range ha2 (hu x hx)
  simp only [wordIn, isAlpha, Bool.and_eq_true, decide_eq_true_eq, size_wtext, chars_wtext h6, List.all_eq_true]
  exact ⟨⟨⟨ha, ha2⟩, hl⟩, hu⟩






end Go.Proofs.YtanekmfifmkbmaaGreatDoor

namespace Go.Proofs.YtanekmfifmkbmaaGreatDoor
set_option linter.unusedSimpArgs false
set_option linter.unusedVariables false
open Go

section
variable {a : Int} (ha : 0 ≤ a) (ha2 : a ≤ 63)
include ha ha2
end
end Go.Proofs.YtanekmfifmkbmaaGreatDoor
