/- Part of this seat's proofs, cut to what its law needs. -/

import Derived.Test.YtanekmfifmkbmaaDoorPlainC

namespace Go.Proofs.YtanekmfifmkbmaaDoor
set_option linter.unusedSimpArgs false
set_option linter.unusedVariables false
open Go.RowKit


def closedAt (t : Task) (g : Sets) (p : Nat) (l : Int) : Prop := Below' (fun _ => stepM t.sys (g p) l) (fun _ => g (step t.prop p l))
def ClosedUp (t : Task) (g : Sets) (i k : Nat) : Prop := (∀ p, p < i → ∀ l ∈ hiddenOf t, closedAt t g p l) ∧ ∀ l ∈ (hiddenOf t).take k, closedAt t g i l
theorem ClosedUp.row {t : Task} {g : Sets} {i : Nat} (h : ClosedUp t g i (hiddenOf t).length) : ClosedUp t g (i + 1) 0 := by
  refine ⟨fun p hp l hl => ?_, fun l hl => by simp at hl⟩
  rcases Nat.lt_or_ge p i with h1 | h1
  · exact h.1 p h1 l hl
  · obtain rfl : p = i := by omega
    exact h.2 l (by rw [List.take_length]; exact hl)



noncomputable def afterM (t : Task) (f : Sets) (l : Int) : Sets := closeM t (moveM t f l)
end Go.Proofs.YtanekmfifmkbmaaDoor

namespace Go.Proofs.YtanekmfifmkbmaaDoor
set_option linter.unusedSimpArgs false
set_option linter.unusedVariables false
open Go



section
variable {s t : Sys} {p : Auto} {I : Int}
end



end Go.Proofs.YtanekmfifmkbmaaDoor
