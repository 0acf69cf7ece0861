/- Part of this seat's proofs, cut to what its law needs. -/

import Derived.Test.YtadplnbadfnlfaaGreatDoorPlainM
namespace Go.Proofs.YtadplnbadfnlfaaGreatDoor
set_option linter.unusedSimpArgs false
set_option linter.unusedVariables false
open Go
set_option linter.unusedSectionVars false

theorem IsMin.le {A : Auto} (hA : autoValid A = true) {B : Auto} (h : IsMin (res A 0) A.alphabet B) : B.next.length ≤ A.next.length := by
  obtain ⟨nodes, h1, rfl⟩ := h
  have h0 := (autoValid_facts hA).2.2.1
  have hf : ∀ (v : List Int) q, q < A.next.length → ∃ q', q' < A.next.length ∧ v.foldl nxR (res A q) = res A q' := fun v => by
    induction v with
    | nil => intro q hq; exact ⟨q, hq, rfl⟩
    | cons l v ih =>
      intro q hq
      show ∃ q', _ ∧ v.foldl nxR (nxR (res A q) l) = _
      rw [res_step]
      exact ih _ (run_lt hA [l] hq)
  have := nodup_le (m := (List.range A.next.length).map (res A)) h1.nodup fun g hg => by
    obtain ⟨v, -, rfl⟩ := h1.reach g hg
    obtain ⟨q', hq, e⟩ := hf v 0 (by omega)
    exact List.mem_map.2 ⟨q', List.mem_range.2 hq, e.symm⟩
  simpa [autoR, autoN] using this

section
variable {p : Auto}
end
end Go.Proofs.YtadplnbadfnlfaaGreatDoor
