/- Part of this seat's proofs, cut to what its law needs. -/

import Derived.Test.YtadplnbadfnlfaaDoorSafeN
import Derived.Test.YtadplnbadfnlfaaDoorWalkN

namespace Go.Proofs.YtadplnbadfnlfaaDoor
set_option linter.unusedSimpArgs false
set_option linter.unusedVariables false
open Go.RowKit Go.Maps
set_option maxHeartbeats 4000000
set_option maxRecDepth 100000

def Touch (E : TypeId → Bool) (m lo : Nat) (w w' : World) : Prop := Tnd (fun b => b = m ∨ lo ≤ b ∧ ∃ cs T z, w.heap[b]? = some (.cells cs T z) ∧ E T = true) w w'
section
variable {E : TypeId → Bool} {m lo : Nat} {a b c w w' : World}
end

section
variable {K : SK} {w w' : World}
end
attribute [local go_sem ↓] Go.wp_at_zero Go.wp_at_succ
end Go.Proofs.YtadplnbadfnlfaaDoor

namespace Go.Proofs.YtadplnbadfnlfaaDoor
open Go.RowKit Go.Maps
set_option linter.unusedVariables false
set_option linter.unusedSectionVars false
set_option linter.unusedSimpArgs false
set_option maxHeartbeats 4000000
set_option maxRecDepth 100000

section
variable {α : Type} [DecidableEq α] {R R' : Int → α → Prop}
end

def eN (T : TypeId) : Bool := T == 3 || T == 78
def NoCells (w : World) (b : Nat) : Prop := ∀ cs T z, w.heap[b]? ≠ some (.cells cs T z)
structure NxG {α γ : Type} (rep : γ → Int → α → Prop) (J : Nat → γ → World → Prop) (E : TypeId → Bool) (m lo bs : Nat) (L : List Int) (nf : Value) (nx : α → Int → α) : Prop where
  fn : ∃ f caps, nf = .func (.func f) #[] caps ∧ (∀ args w, (callFunc f args).run Tryd.prog w = .ok (.enter f args) w) ∧
    ∀ c g w' x n l, J c g w' → c ≤ 1000 → rep g x n → l ∈ L → Calls Tryd.prog f (#[.int .i64 x, .int .i64 l] ++ caps) w' (fun e w'' => ∃ g' x', e = .returned (.int .i64 x') ∧ (∀ y k, rep g y k → rep g' y k) ∧ rep g' x' (nx n l) ∧ J (c + 1) g' w'' ∧ Touch E m lo w' w'')
  rng : ∀ g x n, rep g x n → -1000000000 ≤ x ∧ x ≤ 1000000000
  inj : ∀ g x y n k, rep g x n → rep g y k → (x = y ↔ n = k)
  keep : ∀ c g w' w'' mN, bs ≤ mN → NoCells w' mN → J c g w' → Touch eN mN bs w' w'' → J c g w''

end Go.Proofs.YtadplnbadfnlfaaDoor
