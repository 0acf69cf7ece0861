/- Part of this seat's proofs, cut to what its law needs. -/

import Derived.Test.YtccklliljdembaaGreatDoorDet

namespace Go.Proofs.YtccklliljdembaaGreatDoor
set_option linter.unusedSimpArgs false
set_option linter.unusedVariables false
open Go

def TraceV (s : Sys) (v : List Int) : Prop := ∃ q, Leads (sysCh s) 0 v q
theorem letters_iff {a : Int} (l : Int) (h : a ≤ 63) : l ∈ letters a ↔ bit a l = true := by
  constructor
  · intro hl; unfold letters lettersTo at hl; exact (List.mem_filter.1 hl).2
  · intro hb
    obtain ⟨h1, h2⟩ := bit_range h hb
    unfold letters lettersTo
    exact List.mem_filter.2 ⟨List.mem_map.2 ⟨l.toNat, List.mem_range.2 (by omega), by simp; omega⟩, hb⟩



end Go.Proofs.YtccklliljdembaaGreatDoor

namespace Go.Proofs.YtccklliljdembaaGreatDoor
set_option linter.unusedSimpArgs false
set_option linter.unusedVariables false
open Go



theorem ch_bit {s : Sys} (h : sysValid s = true) {l : Int} (hb : bit s.alphabet l = true) (q r : Nat) : r ∈ sysCh s q l ↔ ∃ e ∈ s.edges, e.letter = l ∧ e.src.toNat = q ∧ e.dst.toNat = r := by
  unfold sysCh
  rw [if_pos hb]
  simp only [List.mem_map, List.mem_filter, Bool.and_eq_true, decide_eq_true_eq]
  constructor
  · rintro ⟨e, ⟨he, h1, h2⟩, h3⟩; exact ⟨e, he, h2, by omega, h3⟩
  · rintro ⟨e, he, h1, h2, h3⟩; have := (edges_in h he).2.2.1; exact ⟨e, ⟨he, by omega, h1⟩, h3⟩
theorem nat_ne_zero_bit {n : Nat} : n ≠ 0 ↔ ∃ i, n.testBit i = true := by
  constructor
  · intro h; obtain ⟨i, hi⟩ := Nat.exists_testBit_of_ne_zero h; exact ⟨i, hi⟩
  · rintro ⟨i, hi⟩ rfl; simp at hi

structure PVSome (parts : List Sys) (p : Auto) (w : ByteArray) : Prop where
  okp : areParts parts = true
  prop : autoValid p = true
  size : w.size < (partSizes parts).prod * p.next.length
  size5 : w.size ≤ 50000
  word : wordIn w (partsAlphabet parts) = true
  valid : wordValid w = true
  trace : ∀ s ∈ parts, TraceV s (chars w)
  brk : accepts p (run p 0 (chars w)) = false



structure VUSome (s : Sys) (a p : Auto) (w : ByteArray) : Prop where
  sys : sysValid s = true
  assum : autoValid a = true
  prop : autoValid p = true
  size5 : w.size ≤ 50000
  word : wordIn w (allLetters [s] a) = true
  valid : wordValid w = true
  trace : TraceV s (chars w)
  acc : accepts a (run a 0 (chars w)) = true
  brk : accepts p (run p 0 (chars w)) = false
end Go.Proofs.YtccklliljdembaaGreatDoor

namespace Go.Proofs.YtccklliljdembaaGreatDoor
set_option linter.unusedSimpArgs false
set_option linter.unusedVariables false
open Go

section
variable {a : Int} (ha : 0 ≤ a) (ha2 : a ≤ 63)
include ha ha2
end
end Go.Proofs.YtccklliljdembaaGreatDoor
