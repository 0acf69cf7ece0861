/- Part of this seat's proofs, cut to what its law needs. -/

import Derived.Test.YtanekmfifmkbmaaGreatDoorWalkA

namespace Go.Proofs.YtanekmfifmkbmaaGreatDoor
set_option linter.unusedSimpArgs false
set_option linter.unusedVariables false
open Go.RowKit

set_option maxHeartbeats 400000

def AutoOwn (base : Nat) (w : World) (v : Value) (x : Auto) : Prop := ∃ vn va, v = .agg #[.int .i64 x.alphabet, vn, va] ∧ IntssOwn 80 3 base w vn x.next ∧ BoolsOwn 4 base w va x.accept
theorem IntssOwn.low {e2 e1 : TypeId} {base base' : Nat} {w : World} {v : Value} {ll : List (List Int)} (h : IntssOwn e2 e1 base w v ll) (hb : base' ≤ base) : IntssOwn e2 e1 base' w v ll :=
  let ⟨vs, h1, h2, h3⟩ := h; ⟨vs, own_base h1 hb, ⟨h2.len, fun j x l hx hl => (h2.row j x l hx hl).low hb, h2.apart⟩, h3⟩
theorem AutoOwn.low {base base' : Nat} {w : World} {v : Value} {x : Auto} (h : AutoOwn base w v x) (hb : base' ≤ base) : AutoOwn base' w v x := let ⟨vn, va, e, h1, h2⟩ := h; ⟨vn, va, e, h1.low hb, h2.low hb⟩
theorem AutoOwn.ext {base : Nat} {w w' : World} {v : Value} {x : Auto} (h : AutoOwn base w v x) (he : Ext w w') : AutoOwn base w' v x := let ⟨vn, va, e, h1, h2⟩ := h; ⟨vn, va, e, h1.ext he, h2.ext he⟩

theorem infoEdge : (Tryz.prog.info? 87).map (fun i => (i.zero, i.size, i.bytes)) = some (some (.agg #[.int .i64 0, .int .i64 0, .int .i64 0]), 3, 24) := by kernel_rfl

end Go.Proofs.YtanekmfifmkbmaaGreatDoor

namespace Go.Proofs.YtanekmfifmkbmaaGreatDoor
set_option linter.unusedSimpArgs false
set_option linter.unusedVariables false
open Go.RowKit

set_option maxHeartbeats 400000

end Go.Proofs.YtanekmfifmkbmaaGreatDoor

namespace Go.Proofs.YtanekmfifmkbmaaGreatDoor
set_option linter.unusedSimpArgs false
set_option linter.unusedVariables false
open Go.RowKit

set_option maxHeartbeats 400000

end Go.Proofs.YtanekmfifmkbmaaGreatDoor
