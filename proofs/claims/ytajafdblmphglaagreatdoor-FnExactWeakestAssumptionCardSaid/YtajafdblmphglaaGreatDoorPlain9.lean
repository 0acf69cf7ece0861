/- Merged: Plain9, PlainA, PlainB. -/
import Derived.Test.YtajafdblmphglaaGreatDoorDet

namespace Go.Proofs.YtajafdblmphglaaGreatDoor
set_option linter.unusedSimpArgs false
set_option linter.unusedVariables false
open Go

/-- A word leads from the first state of a system somewhere, letters of others left alone. -/
def TraceV (s : Sys) (v : List Int) : Prop := ∃ q, Leads (sysCh s) 0 v q
theorem letters_iff {a : Int} (l : Int) (h : a ≤ 63) : l ∈ letters a ↔ bit a l = true := by
  constructor
  · intro hl; unfold letters lettersTo at hl; exact (List.mem_filter.1 hl).2
  · intro hb
    obtain ⟨h1, h2⟩ := bit_range h hb
    unfold letters lettersTo
    exact List.mem_filter.2 ⟨List.mem_map.2 ⟨l.toNat, List.mem_range.2 (by omega), by simp; omega⟩, hb⟩

/-! ### First words exist -/
/-! ### First words are short -/
end Go.Proofs.YtajafdblmphglaaGreatDoor

namespace Go.Proofs.YtajafdblmphglaaGreatDoor
set_option linter.unusedSimpArgs false
set_option linter.unusedVariables false
open Go

/-! ### Words and texts -/
/-! ### Traces -/
/-! ### Violations of parts -/
/-- A violation of parts, said of its text. -/
structure PVSome (parts : List Sys) (p : Auto) (w : ByteArray) : Prop where
  okp : areParts parts = true
  prop : autoValid p = true
  size : w.size < (partSizes parts).prod * p.next.length
  size5 : w.size ≤ 50000
  word : wordIn w (partsAlphabet parts) = true
  valid : wordValid w = true
  trace : ∀ s ∈ parts, TraceV s (chars w)
  brk : accepts p (run p 0 (chars w)) = false
theorem PVSome.breaks {parts : List Sys} {p : Auto} {w : ByteArray} (h : PVSome parts p w) : breaks p w = true := by
  unfold Go.Proofs.YtajafdblmphglaaGreatDoor.breaks; rw [h.prop, h.valid, h.brk]; rfl
/-! ### The order of parts -/
/-! ### One part for all -/
/-! ### Assumptions -/
structure VUSome (s : Sys) (a p : Auto) (w : ByteArray) : Prop where
  sys : sysValid s = true
  assum : autoValid a = true
  prop : autoValid p = true
  size5 : w.size ≤ 50000
  word : wordIn w (allLetters [s] a) = true
  valid : wordValid w = true
  trace : TraceV s (chars w)
  acc : accepts a (run a 0 (chars w)) = true
  brk : accepts p (run p 0 (chars w)) = false
theorem VUSome.breaks {s : Sys} {a p : Auto} {w : ByteArray} (h : VUSome s a p w) : Go.Proofs.YtajafdblmphglaaGreatDoor.breaks p w = true ∧ Go.Proofs.YtajafdblmphglaaGreatDoor.breaks a w = false := by
  unfold Go.Proofs.YtajafdblmphglaaGreatDoor.breaks; rw [h.prop, h.valid, h.brk, h.assum, h.acc]; exact ⟨rfl, rfl⟩
end Go.Proofs.YtajafdblmphglaaGreatDoor

namespace Go.Proofs.YtajafdblmphglaaGreatDoor
set_option linter.unusedSimpArgs false
set_option linter.unusedVariables false
open Go

section
variable {a : Int} (ha : 0 ≤ a) (ha2 : a ≤ 63)
include ha ha2
end
end Go.Proofs.YtajafdblmphglaaGreatDoor
