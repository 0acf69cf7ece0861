/- Part of this seat's proofs, cut to what its law needs. -/

import Derived.Test.YtadplnbadfnlfaaGreatDoorDrawD

namespace Go.Proofs.YtadplnbadfnlfaaGreatDoor
set_option linter.unusedSimpArgs false
set_option linter.unusedVariables false
open Go.RowKit
set_option maxHeartbeats 1000000
set_option maxRecDepth 100000
attribute [local go_sem ↓] Go.wp_at_zero Go.wp_at_succ

variable {D D' : Nat → Prop} {g q q' : Nat} {w w' : World}

end Go.Proofs.YtadplnbadfnlfaaGreatDoor

namespace Go.Proofs.YtadplnbadfnlfaaGreatDoor
set_option linter.unusedSimpArgs false
set_option linter.unusedVariables false
open Go.RowKit
set_option maxHeartbeats 1000000
set_option maxRecDepth 100000
attribute [local go_sem ↓] Go.wp_at_zero Go.wp_at_succ

variable {D D' : Nat → Prop} {g q q' : Nat} {w w' : World}

theorem SlOk.store_row {n i : Nat} {v : Value} (hs : SlOk D w 96 1 v n) (h : St D g q w) (hi : i < n) : ∃ b cap r c m, v = .slice (some ⟨b, 0, none⟩) n cap ∧ D b ∧ w.cell? ⟨b, i, none⟩ = some (.slice r m c) ∧ w.frozen? ⟨b, i, none⟩ = false ∧ m ≤ q ∧ SlOk D w 3 1 (.slice r m c) m ∧ (∀ u m', m' ≤ q → SlOk D w 3 1 u m' → St D g q (w.setCell ⟨b, i, none⟩ u) ∧ Tr D g w (w.setCell ⟨b, i, none⟩ u)) := by
  obtain ⟨b, cap, cs, u, k, rfl, hb, hh, h1, hf, h2, h3⟩ := hs.at h.typ hi (j := 0) (by omega)
  have h2' : CK.sl 3 1 = k := Option.some.inj h2
  subst h2'
  obtain ⟨m, hm, h4⟩ := h3
  obtain ⟨r, c, rfl⟩ := h4.shape
  simp only [Nat.mul_one, Nat.add_zero] at h1 hf h2
  exact ⟨b, cap, r, c, m, rfl, hb, h1, hf, hm, h4, fun u m' hm' hu => h.set hb hh h2 ⟨m', hm', hu⟩⟩

def lenOf : Option Value → Nat
  | some (.slice _ k _) => k
  | _ => 0

end Go.Proofs.YtadplnbadfnlfaaGreatDoor
