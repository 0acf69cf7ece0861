/- Walks: the first word that breaks a property (firstBroken): its nodes, and what is asked of them. -/
import Derived.Test.YtnahccghglglfaaDoorWalkFP
import Derived.Test.YtnahccghglglfaaDoorWalkK
namespace Go.Proofs.YtnahccghglglfaaDoor
set_option linter.unusedSimpArgs false
set_option linter.unusedVariables false
open Go.RowKit

set_option maxHeartbeats 1600000
set_option maxRecDepth 100000

theorem appends_ext {base : Nat} {vo : Value} {l : List Int} {w w1 : World} {e : Ending} {w' : World} (h : Appends base vo l w1 e w') (he : Ext w w1) : Appends base vo l w e w' := by
  obtain ⟨v, h1, h2, h3, h4⟩ := h
  exact ⟨v, h1, h2, (Tnd.ext he).trans h3, fun g hg => (h4 g hg).imp id fun h5 => Nat.le_trans he.size h5⟩

/-- The automaton, of which the table is that of a valid one, or of the trivial one. -/
structure TabOk (a : Auto) : Prop where
  n1 : 1 ≤ a.next.length
  n12 : a.next.length ≤ 12
  lt : ∀ q l, q < a.next.length → step a q l < a.next.length
theorem TabOk.valid {a : Auto} (h : autoValid a = true) : TabOk a := ⟨(autoValid_facts h).2.2.1, (autoValid_facts h).2.2.2.1, fun q l hq => step_lt h hq l⟩
theorem TabOk.triv : TabOk trivAuto := ⟨by decide, by decide, fun q l hq => by rw [triv_step]; exact hq⟩

/-- The first j nodes of those that came have been turned. -/
def turned (P : List Nat) (K M rest j : Nat) : List Nat := (P.take j).map (fun x => x * K * M + rest) ++ P.drop j
theorem turned_zero (P : List Nat) (K M rest : Nat) : turned P K M rest 0 = P := by simp [turned]
theorem turned_full (P : List Nat) (K M rest : Nat) : turned P K M rest P.length = P.map fun x => x * K * M + rest := by simp [turned]
theorem turned_len (P : List Nat) (K M rest j : Nat) (h : j ≤ P.length) : (turned P K M rest j).length = P.length := by simp [turned]; omega
theorem turned_at {P : List Nat} {K M rest j x : Nat} (h : P[j]? = some x) : (turned P K M rest j)[j]? = some x := by
  have hj := (List.getElem?_eq_some_iff.1 h).1
  unfold turned
  rw [List.getElem?_append_right (by simp; omega), List.getElem?_drop]
  simp only [List.length_map, List.length_take, Nat.min_eq_left (Nat.le_of_lt hj), Nat.sub_self, Nat.add_zero]
  exact h
theorem turned_set {P : List Nat} {K M rest j x : Nat} (h : P[j]? = some x) : (turned P K M rest j).set j (x * K * M + rest) = turned P K M rest (j + 1) := by
  have hj := (List.getElem?_eq_some_iff.1 h).1
  have hd : P.drop j = x :: P.drop (j + 1) := by
    rw [List.drop_eq_getElem_cons hj]
    rw [List.getElem?_eq_getElem hj] at h; cases h; rfl
  unfold turned
  rw [List.set_append_right _ _ (by simp; omega), hd, List.take_add_one, h]
  simp [Nat.min_eq_left (Nat.le_of_lt hj)]

def brokenG (a p : Auto) (node : Nat) : Bool := accepts a (node / p.next.length % a.next.length) && !accepts p (node % p.next.length)
def AccOk (a : Auto) : Prop := ∀ q, q < a.next.length → a.accept[q]? = some (accepts a q)
theorem AccOk.valid {a : Auto} (h : autoValid a = true) : AccOk a := fun q hq => accepts_at h hq
theorem AccOk.triv : AccOk trivAuto := fun q hq => by
  have : q = 0 := by simp [trivAuto] at hq; omega
  subst this; rfl
end Go.Proofs.YtnahccghglglfaaDoor
