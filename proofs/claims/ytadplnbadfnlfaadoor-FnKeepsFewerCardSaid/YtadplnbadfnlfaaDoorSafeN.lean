/- Part of this seat's proofs, cut to what its law needs. -/

import Derived.Test.YtadplnbadfnlfaaDoorPlainE
import Derived.Test.YtadplnbadfnlfaaDoorSubS
import Derived.Test.YtadplnbadfnlfaaDoorWalkK
import Derived.Test.YtadplnbadfnlfaaDoorWalkY
import Derived.DeepKeys4
import Derived.Maps.OwnSet
import Derived.Maps.OwnOps
import Derived.Deep.RegionLaw
import Derived.Deep.DrawnRows
import Derived.Test.YtadplnbadfnlfaaDoorWalkH
import Derived.Test.YtadplnbadfnlfaaDoorWalkE

namespace Go.Proofs.YtadplnbadfnlfaaDoor
set_option linter.unusedSimpArgs false
set_option linter.unusedVariables false
open Go.RowKit Go.Maps
set_option maxHeartbeats 4000000
set_option maxRecDepth 100000


structure SafR (w : World) (sb : Nat) (t : Task) : Prop where
  al : w.cell? ⟨sb, 0, none⟩ = some (.int .i64 t.sys.alphabet)
  mv : ∃ vm, w.cell? ⟨sb, 7, none⟩ = some vm ∧ MovesV w vm t.sys
  rule : ∃ vr, w.cell? ⟨sb, 8, none⟩ = some vr ∧ TabV w vr (table t.prop)
  hid : ∃ vh, w.cell? ⟨sb, 9, none⟩ = some vh ∧ IntsV w vh (hiddenOf t)
end Go.Proofs.YtadplnbadfnlfaaDoor

namespace Go.Proofs.YtadplnbadfnlfaaDoor
set_option linter.unusedSimpArgs false
set_option linter.unusedVariables false
open Go.RowKit Go.Maps
set_option maxHeartbeats 4000000
set_option maxRecDepth 100000


structure SK where
  ve : Value
  vn : Value
  va : Value
  vm : Value
  vr : Value
  vh : Value
  bm : Nat
  B : Nat
def sbox (t : Task) (K : SK) (vs vx vu : Value) : Array Value := #[.int .i64 t.sys.alphabet, .int .i64 t.sys.states, K.ve, .int .i64 t.prop.alphabet, K.vn, K.va, .int .i64 t.alphabet, K.vm, K.vr, K.vh, vs, .map (some K.bm), vx, vu]
def SS (K : SK) (b : Nat) : Prop := b = K.bm ∨ K.B ≤ b
structure SafY (t : Task) (K : SK) (vs vx vu : Value) (pl : List Slc) (D : DataW Unit) (nm : Nat) (w : World) : Prop where
  box : Blk w K.B (sbox t K vs vx vu) 200
  pool : Pool K.B w pl
  ty : ∀ s ∈ pl, 200 ≠ s.e
  map : w.ownsMap Tryd.prog 204 (plainElem (H := Unit) Tryd.prog 3) K.bm nm D
structure SafO (t : Task) (K : SK) (w : World) : Prop where
  mv : MovesV w K.vm t.sys
  rule : TabV w K.vr (table t.prop)
  hid : IntsV w K.vh (hiddenOf t)
  acc : BoolsV w K.va t.prop.accept
section
variable {t : Task} {K : SK} {nodes : List Sets} {rows : List (List Int)} {us : List Bool} {vs vx vu : Value} {D : DataW Unit} {nm : Nat} {w w' : World} {pl : List Slc}
theorem SafY.c5 (h : SafY t K vs vx vu pl D nm w) : w.cell? ⟨K.B, 5, none⟩ = some K.va := h.box.cell 5 rfl
theorem SafY.c10 (h : SafY t K vs vx vu pl D nm w) : w.cell? ⟨K.B, 10, none⟩ = some vs := h.box.cell 10 rfl
theorem SafY.c11 (h : SafY t K vs vx vu pl D nm w) : w.cell? ⟨K.B, 11, none⟩ = some (.map (some K.bm)) := h.box.cell 11 rfl
end
attribute [local go_sem ↓] Go.wp_at_zero Go.wp_at_succ
end Go.Proofs.YtadplnbadfnlfaaDoor

namespace Go.Proofs.YtadplnbadfnlfaaDoor
set_option linter.unusedSimpArgs false
set_option linter.unusedVariables false
open Go.RowKit Go.Maps
set_option maxHeartbeats 4000000
set_option maxRecDepth 100000

section
variable {t : Task} {K : SK} {nodes : List Sets} {rows : List (List Int)} {us : List Bool} {vs vx vu : Value} {D : DataW Unit} {nm : Nat} {w w' : World} {pl : List Slc}
end

end Go.Proofs.YtadplnbadfnlfaaDoor
