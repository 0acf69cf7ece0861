/- Part of this seat's proofs, cut to what its law needs. -/

import Derived.Test.YtadplnbadfnlfaaGreatDoorWalkE
import Derived.Test.YtadplnbadfnlfaaGreatDoorRegion
import Derived.Test.YtadplnbadfnlfaaGreatDoorWalkH
import Derived.Test.YtadplnbadfnlfaaGreatDoorPlain2

namespace Go.Proofs.YtadplnbadfnlfaaGreatDoor
set_option linter.unusedSimpArgs false
set_option linter.unusedVariables false
open Go.RowKit

set_option maxHeartbeats 800000
set_option maxRecDepth 20000

section
variable {P : Program} {ops : Array Oper} {rest : List Oper} {o : Oper} {a : Act} {Q : Exit → Act → World → Prop}
end

theorem add_none (b off j : Nat) : (⟨b, off, none⟩ : Addr).add j = ⟨b, off + j, none⟩ := by unfold Addr.add; split <;> simp_all
end Go.Proofs.YtadplnbadfnlfaaGreatDoor

namespace Go.Proofs.YtadplnbadfnlfaaGreatDoor
set_option linter.unusedSimpArgs false
set_option linter.unusedVariables false
open Go.RowKit

set_option maxHeartbeats 800000

theorem own_any' {w : World} {base : Nat} {e : TypeId} {size n : Nat} {v : Value} {xs : List Value} (h : w.ownsRow base e size v n xs) : ∃ a c, v = .slice a n c := by
  rcases own_shape h with ⟨rfl, rfl⟩ | ⟨g, cap, rfl, _⟩
  · exact ⟨_, _, rfl⟩
  · exact ⟨_, _, rfl⟩
theorem own_store {w : World} {base : Nat} {e T : TypeId} {size n g : Nat} {v : Value} {xs : List Value} {cs : Array Value} (h : w.ownsRow base e size v n xs) (hG : Blk w g cs T) (hne : T ≠ e) (j : Nat) (u : Value) : (w.setCell ⟨g, j, none⟩ u).ownsRow base e size v n xs := by
  refine ⟨h.1, ?_⟩
  rcases h.2 with h1 | ⟨g1, cap, cur, rfl, hb, hw, r⟩
  · exact .inl h1
  · refine .inr ⟨g1, cap, cur, rfl, hb, ?_, r⟩
    rw [Below.heap_setCell w ⟨g, j, none⟩ u g1 (fun he => by subst he; rw [show w.heap[g1]? = _ from hG] at hw; cases hw; exact hne rfl)]
    exact hw
theorem Blk.grown {w w' : World} {base' b : Nat} {T e' : TypeId} {size' n' : Nat} {u : Value} {us : List Value} {cs : Array Value} (h : Blk w b cs T) (hu : w.ownsRow base' e' size' u n' us) (hg : w.grownBy w' u.ownBlock) (hne : T ≠ e') : Blk w' b cs T := by
  refine (hg.block b h.lt fun he => ?_).trans h
  rcases hu.2 with ⟨rfl, _⟩ | ⟨g1, cap, cur, rfl, _, hw, _⟩
  · simp [Value.ownBlock] at he
  · simp [Value.ownBlock] at he
    subst he
    rw [show w.heap[b]? = _ from h] at hw
    cases hw
    exact hne rfl

end Go.Proofs.YtadplnbadfnlfaaGreatDoor

namespace Go.Proofs.YtadplnbadfnlfaaGreatDoor
set_option linter.unusedSimpArgs false
set_option linter.unusedVariables false
open Go.RowKit

set_option maxHeartbeats 1000000

end Go.Proofs.YtadplnbadfnlfaaGreatDoor

namespace Go.Proofs.YtadplnbadfnlfaaGreatDoor
set_option linter.unusedSimpArgs false
set_option linter.unusedVariables false
open Go.RowKit

set_option maxHeartbeats 1000000

theorem l1Bit_c (n : Nat) (w : World) (hn : n ≤ 16) : Calls Tryz.prog 267 #[.int .i64 n] w (Same (.int .i64 ((2 ^ n : Nat) : Int)) w) := by
  have hc : n = 0 ∨ n = 1 ∨ n = 2 ∨ n = 3 ∨ n = 4 ∨ n = 5 ∨ n = 6 ∨ n = 7 ∨ n = 8 ∨ n = 9 ∨ n = 10 ∨ n = 11 ∨ n = 12 ∨ n = 13 ∨ n = 14 ∨ n = 15 ∨ n = 16 := by omega
  go_enter Tryz.func267, Tryz.ntmps267
  go_wp2_with fail
  go_ret
  refine Same.mk ?_
  show Value.int .i64 (wrap64 (2 ^ n)) = _
  rcases hc with rfl | rfl | rfl | rfl | rfl | rfl | rfl | rfl | rfl | rfl | rfl | rfl | rfl | rfl | rfl | rfl | rfl <;> (refine congrArg _ ?_; unfold wrap64; decide)

end Go.Proofs.YtadplnbadfnlfaaGreatDoor
