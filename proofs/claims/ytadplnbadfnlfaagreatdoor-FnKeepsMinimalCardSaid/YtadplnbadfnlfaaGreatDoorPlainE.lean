/- Part of this seat's proofs, cut to what its law needs. -/

import Derived.Test.YtadplnbadfnlfaaGreatDoorPlainC

namespace Go.Proofs.YtadplnbadfnlfaaGreatDoor
set_option linter.unusedSimpArgs false
set_option linter.unusedVariables false
open Go.RowKit

def setsL (n : Nat) (f : Sets) : List Int := (List.range n).map fun p => (f p : Int)
def updS (f : Sets) (p y : Nat) : Sets := fun p' => if p' = p then y else f p'
theorem setsL_len (n : Nat) (f : Sets) : (setsL n f).length = n := by simp [setsL]
theorem setsL_at {n p : Nat} (f : Sets) (h : p < n) : (setsL n f)[p]? = some (f p : Int) := by simp [setsL, h]
theorem setsL_set {n p : Nat} (f : Sets) (h : p < n) (y : Nat) : (setsL n f).set p (y : Int) = setsL n (updS f p y) := by
  apply List.ext_getElem?
  intro i
  by_cases hip : i = p
  · subst hip
    rw [List.getElem?_set_self (by rw [setsL_len]; exact h), setsL_at _ h]; simp [updS]
  · rw [List.getElem?_set_ne (fun e => hip e.symm)]
    by_cases hi : i < n
    · rw [setsL_at _ hi, setsL_at _ hi]; simp [updS, hip]
    · rw [List.getElem?_eq_none (by rw [setsL_len]; omega), List.getElem?_eq_none (by rw [setsL_len]; omega)]

structure OnClose (t : Task) (f g : Sets) : Prop where
  above : Below' f g
  below : Below' g (closeM t f)
  within : Within t g
def closedAt (t : Task) (g : Sets) (p : Nat) (l : Int) : Prop := Below' (fun _ => stepM t.sys (g p) l) (fun _ => g (step t.prop p l))
def ClosedUp (t : Task) (g : Sets) (i k : Nat) : Prop := (∀ p, p < i → ∀ l ∈ hiddenOf t, closedAt t g p l) ∧ ∀ l ∈ (hiddenOf t).take k, closedAt t g i l
theorem ClosedUp.row {t : Task} {g : Sets} {i : Nat} (h : ClosedUp t g i (hiddenOf t).length) : ClosedUp t g (i + 1) 0 := by
  refine ⟨fun p hp l hl => ?_, fun l hl => by simp at hl⟩
  rcases Nat.lt_or_ge p i with h1 | h1
  · exact h.1 p h1 l hl
  · obtain rfl : p = i := by omega
    exact h.2 l (by rw [List.take_length]; exact hl)


structure CloseSt (t : Task) (f g h : Sets) (q p : Nat) (m : Sets) : Prop where
  on : OnClose t f h
  from' : Below' g h
  done : ∀ l ∈ (hiddenOf t).take q, Below' (moveM t g l) h
  now : ∀ p', p' < p → ∀ x, (m p').testBit x = true → (h p').testBit x = true

noncomputable def afterM (t : Task) (f : Sets) (l : Int) : Sets := closeM t (moveM t f l)
structure SafeSt (t : Task) (nodes : List Sets) (rows : List (List Int)) : Prop where
  nodup : nodes.Nodup
  within : ∀ f ∈ nodes, Within t f
  len : rows.length = nodes.length
  six : ∀ r ∈ rows, r.length = 6
  row : ∀ (i : Nat) (f : Sets) (r : List Int), nodes[i]? = some f → rows[i]? = some r → ∀ (l : Nat) (x : Int), r[l]? = some x → x = -1 ∨ ∃ k : Nat, x = (k : Int) ∧ nodes[k]? = some (afterM t f l)
end Go.Proofs.YtadplnbadfnlfaaGreatDoor

namespace Go.Proofs.YtadplnbadfnlfaaGreatDoor
set_option linter.unusedSimpArgs false
set_option linter.unusedVariables false
open Go



section
variable {s t : Sys} {p : Auto} {I : Int}
end



end Go.Proofs.YtadplnbadfnlfaaGreatDoor
