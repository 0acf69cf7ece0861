/- Part of this seat's proofs, cut to what its law needs. -/

import Derived.Test.YtanekmfifmkbmaaGreatDoorDrawTw
namespace Go.Proofs.YtanekmfifmkbmaaGreatDoor
set_option linter.unusedSimpArgs false
set_option linter.unusedVariables false
open Go.RowKit
set_option maxHeartbeats 1500000
set_option maxRecDepth 100000
attribute [local go_sem ↓] Go.wp_at_zero Go.wp_at_succ

variable {D D' D'' : Nat → Prop} {g q q' : Nat} {w w' : World}

theorem SlOk.short {e : TypeId} {sz n m c : Nat} {a : Option Addr} (h : SlOk D w e sz (.slice a n c) n) (hm : m ≤ n) : SlOk D w e sz (.slice a m c) m := by
  rcases h with ⟨e1, rfl⟩ | ⟨b, cap, cs, e1, hb, hh, hnc, hcm, hcs⟩
  · cases e1
    obtain rfl : m = 0 := by omega
    exact SlOk.nil
  · cases e1
    exact .inr ⟨b, _, cs, rfl, hb, hh, by omega, hcm, hcs⟩
theorem SlOk.capS {e : TypeId} {sz n c : Nat} {a : Option Addr} (h : SlOk D w e sz (.slice a n c) n) : n ≤ c := by
  rcases h with ⟨e1, rfl⟩ | ⟨b, cap, cs, e1, hb, hh, hnc, hcm, hcs⟩
  · omega
  · cases e1; exact hnc
def TwoS (D : Nat → Prop) (q : Nat) (w : World) (v : Value) : Prop := ∃ s p, v = .tuple #[s, p] ∧ SysT D q w s ∧ SysT D q w p
end Go.Proofs.YtanekmfifmkbmaaGreatDoor
