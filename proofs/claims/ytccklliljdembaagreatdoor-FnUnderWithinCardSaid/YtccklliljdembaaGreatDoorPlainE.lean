/- Part of this seat's proofs, cut to what its law needs. -/

import Derived.Test.YtccklliljdembaaGreatDoorPlainC

namespace Go.Proofs.YtccklliljdembaaGreatDoor
set_option linter.unusedSimpArgs false
set_option linter.unusedVariables false
open Go.RowKit

def setsL (n : Nat) (f : Sets) : List Int := (List.range n).map fun p => (f p : Int)
def updS (f : Sets) (p y : Nat) : Sets := fun p' => if p' = p then y else f p'

structure OnClose (t : Task) (f g : Sets) : Prop where
  above : Below' f g
  below : Below' g (closeM t f)
  within : Within t g


structure CloseSt (t : Task) (f g h : Sets) (q p : Nat) (m : Sets) : Prop where
  on : OnClose t f h
  from' : Below' g h
  done : ∀ l ∈ (hiddenOf t).take q, Below' (moveM t g l) h
  now : ∀ p', p' < p → ∀ x, (m p').testBit x = true → (h p').testBit x = true
theorem hidden_moved {t : Task} (hs : sysValid t.sys = true) {l : Int} (hl : l ∈ hiddenOf t) (g : Sets) (p : Nat) : movedOne t g l p = stepM t.sys (g p) l := by
  unfold movedOne; rw [if_pos ((hidden_iff hs l).1 hl).1]
theorem CloseSt.or {t : Task} {f g h : Sets} {q p : Nat} {l : Int} (hs : sysValid t.sys = true) (hp : autoValid t.prop = true) (hf : Within t f) (hg : OnClose t f g) (hl : l ∈ hiddenOf t) (c : CloseSt t f g h q p (moveM t g l)) :
    CloseSt t f g (updS h p (h p ||| moveM t g l p)) q (p + 1) (moveM t g l) := by
  have hI := closeM_is hs hf
  have hup : Below' h (updS h p (h p ||| moveM t g l p)) := fun p' x hx => by
    unfold updS; split
    · next e => rw [Nat.testBit_or, ← e, hx]; rfl
    · exact hx
  have hbit : ∀ p' x, (updS h p (h p ||| moveM t g l p) p').testBit x = true → (h p').testBit x = true ∨ (moveM t g l p').testBit x = true := fun p' x hx => by
    unfold updS at hx
    split at hx
    · next e =>
      rw [Nat.testBit_or, Bool.or_eq_true] at hx
      rw [e]; exact hx
    · exact .inl hx
  have hmc : Below' (moveM t g l) (closeM t f) := fun p' x hx => by
    obtain ⟨p0, h1, h2, h3⟩ := (moveTo_bit t g l _ p' x).1 hx
    rw [hidden_moved hs hl] at h3
    obtain ⟨e, he, h4, h5, h6⟩ := (stepM_bit _ _ _ _).1 h3
    rw [← h2]
    exact hI.closed l hl p0 h1 0 x ((stepM_bit _ _ _ _).2 ⟨e, he, h4, hg.below _ _ h5, h6⟩)
  have hmw := move_within hs hp hg.within l
  refine ⟨⟨c.on.above.trans hup, fun p' x hx => ?_, fun p' x hx => ?_⟩, c.from'.trans hup, fun l' hl' => (c.done l' hl').trans hup, fun p' hp' x hx => ?_⟩
  · rcases hbit p' x hx with h1 | h1
    · exact c.on.below p' x h1
    · exact hmc p' x h1
  · rcases hbit p' x hx with h1 | h1
    · exact c.on.within p' x h1
    · exact hmw p' x h1
  · rcases Nat.lt_or_ge p' p with h1 | h1
    · exact hup p' x (c.now p' h1 x hx)
    · obtain rfl : p' = p := by omega
      unfold updS; rw [if_pos rfl, Nat.testBit_or, hx, Bool.or_true]

noncomputable def afterM (t : Task) (f : Sets) (l : Int) : Sets := closeM t (moveM t f l)
structure SafeSt (t : Task) (nodes : List Sets) (rows : List (List Int)) : Prop where
  nodup : nodes.Nodup
  within : ∀ f ∈ nodes, Within t f
  len : rows.length = nodes.length
  six : ∀ r ∈ rows, r.length = 6
  row : ∀ (i : Nat) (f : Sets) (r : List Int), nodes[i]? = some f → rows[i]? = some r → ∀ (l : Nat) (x : Int), r[l]? = some x → x = -1 ∨ ∃ k : Nat, x = (k : Int) ∧ nodes[k]? = some (afterM t f l)
end Go.Proofs.YtccklliljdembaaGreatDoor

namespace Go.Proofs.YtccklliljdembaaGreatDoor
set_option linter.unusedSimpArgs false
set_option linter.unusedVariables false
open Go



section
variable {s t : Sys} {p : Auto} {I : Int}
end



end Go.Proofs.YtccklliljdembaaGreatDoor
