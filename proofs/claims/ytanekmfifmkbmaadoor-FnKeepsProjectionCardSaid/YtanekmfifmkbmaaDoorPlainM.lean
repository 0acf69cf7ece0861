/- Part of this seat's proofs, cut to what its law needs. -/

import Derived.Test.YtanekmfifmkbmaaDoorPlainE

namespace Go.Proofs.YtanekmfifmkbmaaDoor
set_option linter.unusedSimpArgs false
set_option linter.unusedVariables false
open Go
set_option linter.unusedSectionVars false


section
variable {α β : Type} [DecidableEq α] [DecidableEq β]
def dd (l : List α) : List α := l.foldl addN []

variable {nx : α → Int → α} {L : List Int} {s : α} {nx' : β → Int → β} {s' : β}
theorem map_nodup {nodes : List α} (hn : nodes.Nodup) (φ : α → β) (hi : ∀ a ∈ nodes, ∀ b ∈ nodes, φ a = φ b → a = b) : (nodes.map φ).Nodup := by
  induction nodes with
  | nil => exact List.nodup_nil
  | cons x l ih =>
    obtain ⟨h1, h2⟩ := List.nodup_cons.1 hn
    rw [List.map_cons]
    refine List.nodup_cons.2 ⟨fun hm => ?_, ih h2 fun a ha b hb e => hi a (by simp [ha]) b (by simp [hb]) e⟩
    obtain ⟨y, hy, e⟩ := List.mem_map.1 hm
    have := hi y (by simp [hy]) x (by simp) e
    subst this
    exact h1 hy
end


section
variable {α : Type} [DecidableEq α] (f : Nat → α)
variable {f}
end


abbrev Lng := List Int → Bool
noncomputable instance decLng : DecidableEq Lng := fun _ _ => Classical.propDecidable _
def res (A : Auto) (q : Nat) : Lng := fun v => accepts A (run A q v)


def idxD {α : Type} [DecidableEq α] (l : List α) (x : α) : Nat := l.idxOf x
section
variable {α β : Type} [DecidableEq α] [DecidableEq β]
end

section
variable (A : Auto)
def sig (c : Nat → Nat) (q : Nat) : List Nat := c q :: (letters A.alphabet).map fun l => c (step A q l)
def sigD (c : Nat → Nat) : List (List Nat) := dd ((List.range A.next.length).map (sig A c))
def refine1 (c : Nat → Nat) (q : Nat) : Nat := idxD (sigD A c) (sig A c q)
def stage : Nat → Nat → Nat
  | 0 => fun q => if accepts A q then 1 else 0
  | i + 1 => refine1 A (stage i)
variable {A}
def many (A : Auto) (i : Nat) : Nat := (dd ((List.range A.next.length).map (stage A i))).length
end


section
variable (t : Task)
noncomputable def nxW (n : Option Sets) (l : Int) : Option Sets := match n with
  | none => none
  | some f => if badM t (afterM t f l) then none else some (afterM t f l)
noncomputable def startW : Option Sets := if badM t (closeM t startM) then none else some (closeM t startM)
noncomputable instance : DecidableEq Sets := fun _ _ => Classical.propDecidable _
noncomputable instance : DecidableEq (Option Sets) := fun _ _ => Classical.propDecidable _
def TooGood : Prop := ∃ l : List (Option Sets), l.Nodup ∧ 40 < l.length ∧ ∀ n ∈ l, n ≠ none ∧ ReachN (nxW t) (letters t.alphabet) (startW t) n
variable {t}
end
end Go.Proofs.YtanekmfifmkbmaaDoor

namespace Go.Proofs.YtanekmfifmkbmaaDoor
set_option linter.unusedSimpArgs false
set_option linter.unusedVariables false
open Go
set_option linter.unusedSectionVars false

section
variable {t : Task}

end
end Go.Proofs.YtanekmfifmkbmaaDoor

namespace Go.Proofs.YtanekmfifmkbmaaDoor
set_option linter.unusedSimpArgs false
set_option linter.unusedVariables false
open Go
set_option linter.unusedSectionVars false


section
variable {α : Type} [DecidableEq α] {nx : α → Int → α} {s : α} {a : Int} {nodes : List α}
end


section
variable {t : Task}
noncomputable def idxR (list : List Sets) : Option Sets → Nat
  | none => 1
  | some f => if list.idxOf f = 0 then 0 else list.idxOf f + 1
noncomputable def rowR (t : Task) (list : List Sets) (f : Sets) : List Int := (letters t.alphabet).map fun l => ((idxR list (nxW t (some f) l) : Nat) : Int)
def okIn (list : List Sets) : Option Sets → Prop
  | none => True
  | some f => f ∈ list
structure RawSt (t : Task) (list : List Sets) (k : Nat) (rows : List (List Int)) : Prop where
  head : list[0]? = some (closeM t startM)
  nodup : list.Nodup
  safe : ∀ f ∈ list, badM t f = false
  within : ∀ f ∈ list, Within t f
  reach : ∀ f ∈ list, ReachN (nxW t) (letters t.alphabet) (startW t) (some f)
  done : ∀ f ∈ list.take k, ∀ l ∈ letters t.alphabet, okIn list (nxW t (some f) l)
  rows : rows = (list.take k).map (rowR t list)
theorem RawSt.good {list : List Sets} {k : Nat} {rows : List (List Int)} (h : RawSt t list k rows) (h40 : 40 < list.length) : TooGood t := by
  refine ⟨list.map some, ?_, by simpa using h40, fun n hn => ?_⟩
  · exact map_nodup h.nodup some fun a _ b _ e => by cases e; rfl
  · obtain ⟨f, hf, rfl⟩ := List.mem_map.1 hn
    exact ⟨by simp, h.reach f hf⟩
end
end Go.Proofs.YtanekmfifmkbmaaDoor
