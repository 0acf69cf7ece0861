/- Part of this seat's proofs, cut to what its law needs. -/

import Derived.Test.YtanekmfifmkbmaaDoorDrawF
import Derived.Test.YtanekmfifmkbmaaDoorWalkR
import Derived.Test.YtanekmfifmkbmaaDoorDrawO
import Derived.Test.YtanekmfifmkbmaaDoorDrawP
import Derived.Test.YtanekmfifmkbmaaDoorTaskC
import Derived.Deep.RegionHeld3
import Derived.Deep.DeepCutAuto
import Derived.Deep.CutBlock

namespace Go.Proofs.YtanekmfifmkbmaaDoor
set_option linter.unusedSimpArgs false
set_option linter.unusedVariables false
open Go.RowKit
set_option maxHeartbeats 1000000
set_option maxRecDepth 100000
attribute [local go_sem ↓] Go.wp_at_zero Go.wp_at_succ

section
variable {P : Program} {D D' : Nat → Prop} {g q q' : Nat} {w w' w0 : World} {e : TypeId}
end

variable {D D' : Nat → Prop} {g q q' : Nat} {w w' : World}
end Go.Proofs.YtanekmfifmkbmaaDoor

namespace Go.Proofs.YtanekmfifmkbmaaDoor
set_option linter.unusedSimpArgs false
set_option linter.unusedVariables false
open Go.RowKit
set_option maxHeartbeats 1000000
set_option maxRecDepth 100000
attribute [local go_sem ↓] Go.wp_at_zero Go.wp_at_succ

variable {D D' D'' : Nat → Prop} {g q q' : Nat} {w w' : World}

theorem l1Wrong_t (al : Int) (h : St D g q w) (hq : q + 2 ≤ 1000000) :
    Calls Tryd.prog 36 #[.pointer (some ⟨g, 0, none⟩), .int .i64 al] w (Drawn D g q 2 w fun _ _ _ v => ∃ x : Int, v = .int .i64 x) := by
  go_enter Tryd.func36, Tryd.ntmps36
  go_wp2_with fail
  refine (pick_t 12 h (by omega) (by omega)).mono ?_
  rintro e w1 ⟨x, rfl, -, -, hs1, hk1⟩
  have N := (Bare.new h).kept hk1 (c' := 1) hs1
  clear hs1 hk1
  by_cases hx : x = 0
  · subst hx
    go_wp2_with fail
    refine (num_t [64, -1, 63, 0] rfl N.st (by omega) (by decide) (by decide)).mono ?_
    rintro e w2 ⟨y, hm, rfl, hs2, hk2⟩
    have N := N.kept hk2 (c' := 2) (hs2.up (by omega))
    go_wp2_with fail
    go_ret
    exact ⟨_, D, rfl, N.inc, N.st.up (by omega), N.tr, y, rfl⟩
  · have z0 : ((x : Int) == 0) = false := beq_eq_false_iff_ne.2 (by omega)
    go_wp2_with fail
    go_ret
    exact ⟨_, D, rfl, N.inc, N.st.up (by omega), N.tr, al, rfl⟩
end Go.Proofs.YtanekmfifmkbmaaDoor

namespace Go.Proofs.YtanekmfifmkbmaaDoor
set_option linter.unusedSimpArgs false
set_option linter.unusedVariables false
open Go.RowKit
set_option maxHeartbeats 1000000
set_option maxRecDepth 100000
attribute [local go_sem ↓] Go.wp_at_zero Go.wp_at_succ

variable {D D' D'' : Nat → Prop} {g q q' : Nat} {w w' : World}


end Go.Proofs.YtanekmfifmkbmaaDoor
