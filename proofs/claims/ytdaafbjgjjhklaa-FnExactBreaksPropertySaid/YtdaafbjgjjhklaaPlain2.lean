/- Plain functions: which automata and systems are valid. -/
import Derived.Test.YtdaafbjgjjhklaaBase
import Derived.Test.YtdaafbjgjjhklaaPlain1
namespace Go.Proofs.Ytdaafbjgjjhklaa
set_option linter.unusedSimpArgs false
set_option linter.unusedVariables false
open Go

def qOk (n : Nat) (q : Int) : Bool := decide (0 ≤ q) && decide (q < n)
def rowOk (row : List Int) (width n : Nat) : Bool := decide (row.length = width) && row.all (qOk n)
def nletters (a : Int) : Nat := (letters a).length
def autoValid (x : Auto) : Bool :=
  isAlpha x.alphabet && decide (1 ≤ x.next.length) && decide (x.next.length ≤ 12) && decide (x.accept.length = x.next.length) && x.next.all fun row => rowOk row (nletters x.alphabet) x.next.length

/-- Edges in strictly ascending order. -/
def edgeLt (a b : Edge) : Bool := decide (a.src < b.src) || (decide (a.src = b.src) && (decide (a.letter < b.letter) || (decide (a.letter = b.letter) && decide (a.dst < b.dst))))
def edgeOk (s : Sys) (e : Edge) : Bool := decide (0 ≤ e.src) && decide (e.src < s.states) && decide (0 ≤ e.dst) && decide (e.dst < s.states) && decide (0 ≤ e.letter) && decide (e.letter < 6) && bit s.alphabet e.letter
/-- Edge number i is valid, and behind the one before it. -/
def edgeAt (s : Sys) (i : Nat) : Bool :=
  match s.edges[i]? with
  | none => true
  | some e => edgeOk s e && (match i with | 0 => true | j + 1 => match s.edges[j]? with | none => true | some d => edgeLt d e)
def sysValid (s : Sys) : Bool :=
  isAlpha s.alphabet && decide (1 ≤ s.states) && decide (s.states ≤ 16) && (List.range s.edges.length).all (edgeAt s)

theorem all_take_succ {α : Type} {l : List α} {k : Nat} {x : α} {p : α → Bool} (h : l[k]? = some x) : (l.take (k + 1)).all p = ((l.take k).all p && p x) := by
  rw [List.take_add_one, h, List.all_append]; simp
theorem not_all_of {α : Type} {l : List α} {k : Nat} {x : α} {p : α → Bool} (h : l[k]? = some x) (hp : p x = false) : l.all p = false := by
  rw [List.all_eq_false]
  exact ⟨x, List.mem_of_getElem? h, by simp [hp]⟩
theorem range_all_succ (p : Nat → Bool) (k : Nat) : (List.range (k + 1)).all p = ((List.range k).all p && p k) := by rw [List.range_succ, List.all_append]; simp
theorem range_not_all {p : Nat → Bool} {k n : Nat} (h : k < n) (hp : p k = false) : (List.range n).all p = false := by
  rw [List.all_eq_false]
  exact ⟨k, List.mem_range.2 h, by simp [hp]⟩

/-- cmp.Compare and cmp.Or at int. -/
def cmpI (a b : Int) : Int := if a < b then -1 else if b < a then 1 else 0
def orI (l : List Int) : Int := (l.find? (fun x => x != 0)).getD 0
def cmpEdges (a b : Edge) : Int := orI [cmpI a.src b.src, cmpI a.letter b.letter, cmpI a.dst b.dst]
theorem cmpI_self (a : Int) : cmpI a a = 0 := by simp [cmpI]
theorem cmpEdges_lt (a b : Edge) : decide (0 ≤ cmpEdges a b) = !edgeLt a b := by
  have h1 : ∀ x y : Int, cmpI x y = -1 ∧ x < y ∨ cmpI x y = 1 ∧ y < x ∨ cmpI x y = 0 ∧ x = y := by
    intro x y; unfold cmpI; split
    · exact .inl ⟨rfl, by assumption⟩
    · split
      · exact .inr (.inl ⟨rfl, by assumption⟩)
      · exact .inr (.inr ⟨rfl, by omega⟩)
  unfold cmpEdges edgeLt
  rcases h1 a.src b.src with ⟨e, h⟩ | ⟨e, h⟩ | ⟨e, h⟩
  · simp [orI, e, h]
  · have : ¬ a.src < b.src := by omega
    have : ¬ a.src = b.src := by omega
    simp [orI, e, *]
  · rcases h1 a.letter b.letter with ⟨e2, h2⟩ | ⟨e2, h2⟩ | ⟨e2, h2⟩
    · simp [orI, cmpI_self, e, e2, h, h2]
    · have : ¬ a.letter < b.letter := by omega
      have : ¬ a.letter = b.letter := by omega
      simp [orI, cmpI_self, e, e2, h, *]
    · rcases h1 a.dst b.dst with ⟨e3, h3⟩ | ⟨e3, h3⟩ | ⟨e3, h3⟩
      · simp [orI, cmpI_self, e, e2, e3, h, h2, h3]
      · have : ¬ a.dst < b.dst := by omega
        simp [orI, cmpI_self, e, e2, e3, h, h2, *]
      · have : ¬ a.dst < b.dst := by omega
        simp [orI, cmpI_self, e, e2, e3, h, h2, *]

def taskValid (t : Task) : Bool := sysValid t.sys && autoValid t.prop && isAlpha t.alphabet
def interfaceOf (s : Sys) (p : Auto) (o : Sys) : Int :=
  if sysValid s && autoValid p && sysValid o then bits .and .i64 (bits .or .i64 s.alphabet p.alphabet) o.alphabet else -1
def teacherAlphabet (t : Teacher) : Int :=
  if t.known && autoValid t.target then t.target.alphabet else if !t.known && taskValid t.task then t.task.alphabet else -1

end Go.Proofs.Ytdaafbjgjjhklaa
