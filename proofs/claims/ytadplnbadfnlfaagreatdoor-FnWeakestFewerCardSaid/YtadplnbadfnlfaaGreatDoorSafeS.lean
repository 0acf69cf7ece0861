/- Part of this seat's proofs, cut to what its law needs. -/

import Derived.Test.YtadplnbadfnlfaaGreatDoorWalkK
import Derived.Test.YtadplnbadfnlfaaGreatDoorWalkR
import Derived.Test.YtadplnbadfnlfaaGreatDoorPlainE
import Derived.Test.YtadplnbadfnlfaaGreatDoorSubS
import Derived.Test.YtadplnbadfnlfaaGreatDoorWalkH
import Derived.Test.YtadplnbadfnlfaaGreatDoorDet

namespace Go.Proofs.YtadplnbadfnlfaaGreatDoor
set_option linter.unusedSimpArgs false
set_option linter.unusedVariables false
open Go.RowKit
set_option maxHeartbeats 1000000
set_option maxRecDepth 100000

end Go.Proofs.YtadplnbadfnlfaaGreatDoor

namespace Go.Proofs.YtadplnbadfnlfaaGreatDoor
set_option linter.unusedSimpArgs false
set_option linter.unusedVariables false
open Go.RowKit
set_option maxHeartbeats 4000000
set_option maxRecDepth 100000

def SetsOwn (base n g cap : Nat) (w : World) (f : Sets) : Prop := w.ownsRow base 3 1 (.slice (some ⟨g, 0, none⟩) n cap) n ((setsL n f).map (Value.int .i64))
theorem SetsOwn.cell {base n g cap : Nat} {w : World} {f : Sets} (h : SetsOwn base n g cap w f) {p : Nat} (hp : p < n) : w.cell? ⟨g, p, none⟩ = some (.int .i64 (f p : Int)) := own_cell h (by rw [List.getElem?_map, setsL_at f hp]; rfl)
theorem SetsOwn.fr {base n g cap : Nat} {w : World} {f : Sets} (h : SetsOwn base n g cap w f) (p : Nat) : w.frozen? ⟨g, p, none⟩ = false := World.ownsRow.frozenAt h p
theorem SetsOwn.ext {base n g cap : Nat} {w w' : World} {f : Sets} (h : SetsOwn base n g cap w f) (he : Ext w w') : SetsOwn base n g cap w' f := own_ext h he
theorem SetsOwn.set {base n g cap : Nat} {w : World} {f : Sets} (h : SetsOwn base n g cap w f) {p : Nat} (hp : p < n) (y : Nat) : SetsOwn base n g cap (w.setCell ⟨g, p, none⟩ (.int .i64 (y : Int))) (updS f p y) := by
  have := (World.ownsRow.stored h p (.int .i64 (y : Int))).1
  unfold SetsOwn
  rw [← setsL_set f hp, List.map_set]; exact this
end Go.Proofs.YtadplnbadfnlfaaGreatDoor

namespace Go.Proofs.YtadplnbadfnlfaaGreatDoor
set_option linter.unusedSimpArgs false
set_option linter.unusedVariables false
open Go.RowKit
set_option maxHeartbeats 4000000
set_option maxRecDepth 100000

theorem setsL_zero (n : Nat) : (setsL n fun _ => 0).map (Value.int .i64) = List.replicate n (Value.int .i64 0) := by
  unfold setsL
  induction n with
  | zero => rfl
  | succ n ih => rw [List.range_succ, List.map_append, List.map_append, ih, List.replicate_succ']; rfl
theorem made_sets {w1 : World} {g n b : Nat} (h : w1.ownsRow g 3 1 (.slice (some ⟨g, 0, none⟩) n n) n (madeCells (Value.int .i64 0).cells (n * 1)).toList) {g' : Nat} (hg : g = g') (hb : b ≤ g') : SetsOwn b n g' n w1 (fun _ => 0) := by
  subst hg
  unfold SetsOwn
  rw [setsL_zero]
  refine own_base ?_ hb
  simpa [toList_madeCells_one, Value.cells] using h
end Go.Proofs.YtadplnbadfnlfaaGreatDoor
