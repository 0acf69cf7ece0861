/- Draws of the checks' arguments out of bytes, on: of KeepsUnder and PartsKeep; typed systems read as lists. -/
import Derived.Test.YteodlkkghnfkdaaGreatDoorDrawE
namespace Go.Proofs.YteodlkkghnfkdaaGreatDoor
set_option linter.unusedSimpArgs false
set_option linter.unusedVariables false
open Go.RowKit
set_option maxHeartbeats 1000000
set_option maxRecDepth 100000

variable {D D' D'' : Nat → Prop} {g q q' : Nat} {w w' : World}

/-- A typed slice of systems reads as some systems. -/
theorem SlOk.syssT {n : Nat} {v : Value} (hs : SlOk D w 25 3 v n) (hT : Typed D q w) : ∃ l : List Sys, l.length = n ∧ SyssV w v l ∧ ∀ s ∈ l, s.edges.length ≤ q := by
  rcases hs with ⟨rfl, rfl⟩ | ⟨b, cap, cs, rfl, hb, hh, h1, h2, h3⟩
  · exact ⟨[], rfl, ⟨none, 0, rfl, by simp, by simp, fun h => by simp at h⟩, fun s hs => by cases hs⟩
  · obtain ⟨l, h4, h5⟩ := exists_list n (fun i (x : Sys) => SysAt w b (0 + i * 3) x ∧ x.edges.length ≤ q) fun i hi => by
      have hs : SlOk D w 25 3 (.slice (some ⟨b, 0, none⟩) n cap) n := .inr ⟨b, cap, cs, rfl, hb, hh, h1, h2, h3⟩
      obtain ⟨b0, cap0, cs0, u0, k0, hv0, -, -, g0, -, hk0, hc0⟩ := hs.at hT hi (j := 0) (by omega)
      cases hv0
      obtain ⟨b1, cap1, cs1, u1, k1, hv1, -, -, g1, -, hk1, hc1⟩ := hs.at hT hi (j := 1) (by omega)
      cases hv1
      obtain ⟨b2, cap2, cs2, u2, k2, hv2, -, -, g2, -, hk2, hc2⟩ := hs.at hT hi (j := 2) (by omega)
      cases hv2
      rw [show ck 25 (i * 3 + 0) = some .int from per_sys i 0] at hk0
      rw [show ck 25 (i * 3 + 1) = some .int from per_sys i 1] at hk1
      rw [show ck 25 (i * 3 + 2) = some (.sl 59 3) from per_sys i 2] at hk2
      cases hk0; cases hk1; cases hk2
      obtain ⟨al, rfl⟩ := hc0
      obtain ⟨st, rfl⟩ := hc1
      obtain ⟨n1, hn1, hE1⟩ := hc2
      obtain ⟨es, rfl, he⟩ := hE1.edges hT
      exact ⟨⟨al, st, es⟩, by rw [Nat.zero_add]; exact ⟨_, by simpa using g0, g1, g2, he⟩, hn1⟩
    subst h4
    refine ⟨l, rfl, ⟨_, cap, rfl, h1, h2, fun _ => ⟨b, 0, rfl, (Array.getElem?_eq_some_iff.1 hh).1, fun i x hx => (h5 i x hx).1⟩⟩, fun s hs => ?_⟩
    obtain ⟨i, hi⟩ := List.getElem?_of_mem hs
    exact (h5 i s hi).2
end Go.Proofs.YteodlkkghnfkdaaGreatDoor
