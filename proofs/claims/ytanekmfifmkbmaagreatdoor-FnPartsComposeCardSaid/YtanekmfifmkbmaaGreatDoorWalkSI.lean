/- Part of this seat's proofs, cut to what its law needs. -/

import Derived.Test.YtanekmfifmkbmaaGreatDoorWalkSE

namespace Go.Proofs.YtanekmfifmkbmaaGreatDoor
set_option linter.unusedSimpArgs false
set_option linter.unusedVariables false
open Go.RowKit

set_option maxHeartbeats 1600000
set_option maxRecDepth 100000

end Go.Proofs.YtanekmfifmkbmaaGreatDoor

namespace Go.Proofs.YtanekmfifmkbmaaGreatDoor
set_option linter.unusedSimpArgs false
set_option linter.unusedVariables false
open Go.RowKit

set_option maxHeartbeats 1600000
set_option maxRecDepth 100000

theorem AutosV.two {w : World} {a p : Auto} {vn va vn' va' : Value} (h1 : IntssV w vn a.next) (h2 : BoolsV w va a.accept) (h3 : IntssV w vn' p.next) (h4 : BoolsV w va' p.accept) :
    AutosV (w.alloc (.cells #[.int .i64 a.alphabet, vn, va, .int .i64 p.alphabet, vn', va'] 31)) (.slice (some ⟨w.heap.size, 0, none⟩) 2 2) [a, p] := by
  have hb := Blk.new w #[.int .i64 a.alphabet, vn, va, .int .i64 p.alphabet, vn', va'] 31
  refine ⟨_, 2, rfl, Nat.le_refl _, by decide, fun _ => ⟨w.heap.size, 0, rfl, by simp, fun i x hi => ?_⟩⟩
  match i, hi with
  | 0, hi =>
    simp at hi; subst hi
    exact ⟨vn, va, hb.cell 0 rfl, hb.cell 1 rfl, hb.cell 2 rfl, h1.mono (Ext.alloc _ _), h2.mono (Ext.alloc _ _)⟩
  | 1, hi =>
    simp at hi; subst hi
    exact ⟨vn', va', hb.cell 3 rfl, hb.cell 4 rfl, hb.cell 5 rfl, h3.mono (Ext.alloc _ _), h4.mono (Ext.alloc _ _)⟩
  | i + 2, hi => simp at hi
theorem SystemValid_sb {v : Value} {x : Sys} {w : World} {b : Bool} (hb : sysValid x = b) (hv : SysV w v x) :
    Calls Tryz.prog 38 #[v] w (Grows (.bool b) w) := hb ▸ SystemValid_s v x w hv

end Go.Proofs.YtanekmfifmkbmaaGreatDoor

namespace Go.Proofs.YtanekmfifmkbmaaGreatDoor
set_option linter.unusedSimpArgs false
set_option linter.unusedVariables false
open Go.RowKit

set_option maxHeartbeats 1600000
set_option maxRecDepth 100000

end Go.Proofs.YtanekmfifmkbmaaGreatDoor

namespace Go.Proofs.YtanekmfifmkbmaaGreatDoor
set_option linter.unusedSimpArgs false
set_option linter.unusedVariables false
open Go.RowKit

set_option maxHeartbeats 1600000
set_option maxRecDepth 100000

theorem IntsV.three (w : World) : IntsV (w.alloc (.cells #[.int .i64 0, .int .i64 0, .int .i64 0] 3)) (.slice (some ⟨w.heap.size, 0, none⟩) 3 3) [0, 0, 0] := by
  have hb := Blk.new w #[.int .i64 0, .int .i64 0, .int .i64 0] 3
  refine ⟨_, 3, rfl, Nat.le_refl _, by decide, fun _ => ⟨w.heap.size, 0, rfl, by simp, fun i x hi => ?_⟩⟩
  match i, hi with
  | 0, hi => simp at hi; subst hi; exact hb.cell 0 rfl
  | 1, hi => simp at hi; subst hi; exact hb.cell 1 rfl
  | 2, hi => simp at hi; subst hi; exact hb.cell 2 rfl
  | i + 3, hi => simp at hi

end Go.Proofs.YtanekmfifmkbmaaGreatDoor
