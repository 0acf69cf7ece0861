/- Merged: WalkSI, WalkSJ, WalkSK, WalkSL. -/
import Derived.Test.YtajafdblmphglaaGreatDoorWalkSE

namespace Go.Proofs.YtajafdblmphglaaGreatDoor
set_option linter.unusedSimpArgs false
set_option linter.unusedVariables false
open Go.RowKit

set_option maxHeartbeats 1600000
set_option maxRecDepth 100000

theorem BytesOwn.one (w : World) (b : UInt8) : BytesOwn 5 w.heap.size (w.alloc (.cells #[byteVal b] 5)) (.slice (some ⟨w.heap.size, 0, none⟩) 1 1) [b] :=
  ⟨by simp, .inr ⟨w.heap.size, 1, #[byteVal b], rfl, Nat.le_refl _, heap_alloc_new w _, Nat.le_refl _, by unfold maxLen; omega, by simp, by simp⟩⟩

end Go.Proofs.YtajafdblmphglaaGreatDoor

namespace Go.Proofs.YtajafdblmphglaaGreatDoor
set_option linter.unusedSimpArgs false
set_option linter.unusedVariables false
open Go.RowKit

set_option maxHeartbeats 1600000
set_option maxRecDepth 100000

theorem AutosV.one {w : World} {a : Auto} {vn va : Value} (h1 : IntssV w vn a.next) (h2 : BoolsV w va a.accept) :
    AutosV (w.alloc (.cells #[.int .i64 a.alphabet, vn, va] 29)) (.slice (some ⟨w.heap.size, 0, none⟩) 1 1) [a] := by
  refine ⟨_, 1, rfl, Nat.le_refl _, by decide, fun _ => ⟨w.heap.size, 0, rfl, by simp, fun i x hi => ?_⟩⟩
  obtain rfl : i = 0 := by have := (List.getElem?_eq_some_iff.1 hi).1; simp at this; exact this
  simp at hi
  subst hi
  have hb := Blk.new w #[.int .i64 a.alphabet, vn, va] 29
  exact ⟨vn, va, hb.cell 0 rfl, hb.cell 1 rfl, hb.cell 2 rfl, h1.mono (Ext.alloc _ _), h2.mono (Ext.alloc _ _)⟩
theorem AutosV.two {w : World} {a p : Auto} {vn va vn' va' : Value} (h1 : IntssV w vn a.next) (h2 : BoolsV w va a.accept) (h3 : IntssV w vn' p.next) (h4 : BoolsV w va' p.accept) :
    AutosV (w.alloc (.cells #[.int .i64 a.alphabet, vn, va, .int .i64 p.alphabet, vn', va'] 29)) (.slice (some ⟨w.heap.size, 0, none⟩) 2 2) [a, p] := by
  have hb := Blk.new w #[.int .i64 a.alphabet, vn, va, .int .i64 p.alphabet, vn', va'] 29
  refine ⟨_, 2, rfl, Nat.le_refl _, by decide, fun _ => ⟨w.heap.size, 0, rfl, by simp, fun i x hi => ?_⟩⟩
  match i, hi with
  | 0, hi =>
    simp at hi; subst hi
    exact ⟨vn, va, hb.cell 0 rfl, hb.cell 1 rfl, hb.cell 2 rfl, h1.mono (Ext.alloc _ _), h2.mono (Ext.alloc _ _)⟩
  | 1, hi =>
    simp at hi; subst hi
    exact ⟨vn', va', hb.cell 3 rfl, hb.cell 4 rfl, hb.cell 5 rfl, h3.mono (Ext.alloc _ _), h4.mono (Ext.alloc _ _)⟩
  | i + 2, hi => simp at hi
end Go.Proofs.YtajafdblmphglaaGreatDoor

namespace Go.Proofs.YtajafdblmphglaaGreatDoor
set_option linter.unusedSimpArgs false
set_option linter.unusedVariables false
open Go.RowKit

set_option maxHeartbeats 1600000
set_option maxRecDepth 100000

end Go.Proofs.YtajafdblmphglaaGreatDoor

namespace Go.Proofs.YtajafdblmphglaaGreatDoor
set_option linter.unusedSimpArgs false
set_option linter.unusedVariables false
open Go.RowKit

set_option maxHeartbeats 1600000
set_option maxRecDepth 100000

end Go.Proofs.YtajafdblmphglaaGreatDoor
