/- Part of this seat's proofs, cut to what its law needs. -/

import Derived.Test.YtadplnbadfnlfaaDoorPlainC

namespace Go.Proofs.YtadplnbadfnlfaaDoor
set_option linter.unusedSimpArgs false
set_option linter.unusedVariables false
open Go.RowKit


structure OnClose (t : Task) (f g : Sets) : Prop where
  above : Below' f g
  below : Below' g (closeM t f)
  within : Within t g


structure CloseSt (t : Task) (f g h : Sets) (q p : Nat) (m : Sets) : Prop where
  on : OnClose t f h
  from' : Below' g h
  done : ∀ l ∈ (hiddenOf t).take q, Below' (moveM t g l) h
  now : ∀ p', p' < p → ∀ x, (m p').testBit x = true → (h p').testBit x = true

noncomputable def afterM (t : Task) (f : Sets) (l : Int) : Sets := closeM t (moveM t f l)
structure SafeSt (t : Task) (nodes : List Sets) (rows : List (List Int)) : Prop where
  nodup : nodes.Nodup
  within : ∀ f ∈ nodes, Within t f
  len : rows.length = nodes.length
  six : ∀ r ∈ rows, r.length = 6
  row : ∀ (i : Nat) (f : Sets) (r : List Int), nodes[i]? = some f → rows[i]? = some r → ∀ (l : Nat) (x : Int), r[l]? = some x → x = -1 ∨ ∃ k : Nat, x = (k : Int) ∧ nodes[k]? = some (afterM t f l)
end Go.Proofs.YtadplnbadfnlfaaDoor

namespace Go.Proofs.YtadplnbadfnlfaaDoor
set_option linter.unusedSimpArgs false
set_option linter.unusedVariables false
open Go



section
variable {s t : Sys} {p : Auto} {I : Int}
end



end Go.Proofs.YtadplnbadfnlfaaDoor
