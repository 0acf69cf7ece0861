/- Walks: the program's checks: PartsViolation, PartsKeep, ViolationUnder, KeepsUnder, FirstViolation, KeepsProperty. -/
import Derived.Test.YtnahccghglglfaaDoorWalkFC
namespace Go.Proofs.YtnahccghglglfaaDoor
set_option linter.unusedSimpArgs false
set_option linter.unusedVariables false
open Go.RowKit

set_option maxHeartbeats 1600000
set_option maxRecDepth 100000

/-- The end of a check: some answer of which A holds. -/
def AnsEnd (A : Option (List Int) → Prop) (w : World) (e : Ending) (w' : World) : Prop := ∃ r, A r ∧ e = .returned (.tuple #[.string (rtext r), .bool r.isSome]) ∧ Ext w w'
def PV (parts : List Sys) (p : Auto) (r : Option (List Int)) : Prop := if (areParts parts && autoValid p) = true then FirstIs (BrokenW parts trivAuto p) r else r = none
def VU (s : Sys) (a p : Auto) (r : Option (List Int)) : Prop := if (sysValid s && autoValid a && autoValid p) = true then FirstIs (BrokenW [s] a p) r else r = none
theorem PV.unique {parts : List Sys} {p : Auto} {r r' : Option (List Int)} (h : PV parts p r) (h' : PV parts p r') : r = r' := by
  unfold PV at h h'
  split at h
  · rw [if_pos ‹_›] at h'; exact h.unique h'
  · rw [if_neg ‹_›] at h'; rw [h, h']
theorem VU.unique {s : Sys} {a p : Auto} {r r' : Option (List Int)} (h : VU s a p r) (h' : VU s a p r') : r = r' := by
  unfold VU at h h'
  split at h
  · rw [if_pos ‹_›] at h'; exact h.unique h'
  · rw [if_neg ‹_›] at h'; rw [h, h']
theorem trivAuto_valid : autoValid trivAuto = true := by decide
theorem one_parts {s : Sys} (h : sysValid s = true) : areParts [s] = true := by simp [areParts, h]

/-- A struct in a box. -/
theorem AutoV.boxed {w : World} {v : Value} {x : Auto} (h : AutoV w v x) : ∃ vn va, v = .agg #[.int .i64 x.alphabet, vn, va] ∧ IntssV w vn x.next ∧ BoolsV w va x.accept := h

theorem SystemValid_b {v : Value} {x : Sys} {w : World} {b : Bool} (hb : sysValid x = b) (hv : SysV w v x) :
    Calls Tryd.prog 41 #[v] w (Grows (.bool b) w) := hb ▸ SystemValid_c v x w hv

/-- A list of one system, as it lies in memory of its own. -/
theorem SyssV.one {w : World} {s : Sys} {ve : Value} (h : EdgesV w ve s.edges) :
    SyssV (w.alloc (.cells #[.int .i64 s.alphabet, .int .i64 s.states, ve] 35)) (.slice (some ⟨w.heap.size, 0, none⟩) 1 1) [s] := by
  refine ⟨_, 1, rfl, Nat.le_refl _, by decide, fun _ => ⟨w.heap.size, 0, rfl, by simp, fun i x hi => ?_⟩⟩
  obtain rfl : i = 0 := by have := (List.getElem?_eq_some_iff.1 hi).1; simp at this; exact this
  simp at hi
  subst hi
  have hb := Blk.new w #[.int .i64 s.alphabet, .int .i64 s.states, ve] 35
  exact ⟨ve, hb.cell 0 rfl, hb.cell 1 rfl, hb.cell 2 rfl, h.mono (Ext.alloc _ _)⟩

end Go.Proofs.YtnahccghglglfaaDoor
