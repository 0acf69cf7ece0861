/- Part of this seat's proofs, cut to what its law needs. -/

import Derived.Test.YtadplnbadfnlfaaGreatDoorWalkMs
import Derived.Test.YtadplnbadfnlfaaGreatDoorDet
import Derived.Test.YtadplnbadfnlfaaGreatDoorPlainM
import Derived.Test.YtadplnbadfnlfaaGreatDoorSafeS
import Derived.Deep.DeepCutAuto
import Derived.Test.YtadplnbadfnlfaaGreatDoorWalkWk

namespace Go.Proofs.YtadplnbadfnlfaaGreatDoor
open Go Go.RowKit
set_option linter.unusedVariables false
set_option linter.unusedSimpArgs false
set_option maxHeartbeats 4000000
set_option maxRecDepth 100000




end Go.Proofs.YtadplnbadfnlfaaGreatDoor

namespace Go.Proofs.YtadplnbadfnlfaaGreatDoor
open Go Go.RowKit
set_option linter.unusedVariables false
set_option linter.unusedSimpArgs false
set_option maxHeartbeats 4000000
set_option maxRecDepth 100000

structure RawMem (TC : Array Value) (al : Int) (w : World) (base B4 : Nat) (pl : List Slc) (vN vA : Value) (wr : World) : Prop where
  pool : Pool base wr pl
  ty : ∀ s ∈ pl, s.e = 3 ∨ s.e = 96 ∨ s.e = 4
  b1 : Blk wr w.heap.size TC 57
  b2 : Blk wr (w.heap.size + 1) #[.int .i64 0, .slice none 0 0, .slice none 0 0] 31
  b4 : Blk wr B4 #[.int .i64 al, vN, vA] 31
  ext : Ext w wr
  size : base ≤ wr.heap.size
section
variable {TC : Array Value} {al : Int} {w wr w' : World} {base B4 : Nat} {pl pl' : List Slc} {vN vA : Value}
end
end Go.Proofs.YtadplnbadfnlfaaGreatDoor

namespace Go.Proofs.YtadplnbadfnlfaaGreatDoor
open Go Go.RowKit
set_option linter.unusedVariables false
set_option linter.unusedSimpArgs false
set_option maxHeartbeats 4000000
set_option maxRecDepth 100000

end Go.Proofs.YtadplnbadfnlfaaGreatDoor

namespace Go.Proofs.YtadplnbadfnlfaaGreatDoor
open Go.RowKit
set_option linter.unusedVariables false
set_option maxHeartbeats 1600000
set_option maxRecDepth 100000

open Classical in
noncomputable def weakOf (t : Task) : Option Auto := if h : ∃ r, WeakR t r then h.choose else none
theorem weakOf_eq {t : Task} {r : Option Auto} (h : WeakR t r) : weakOf t = r := by
  unfold weakOf
  rw [dif_pos ⟨r, h⟩]
  exact (Exists.choose_spec (⟨r, h⟩ : ∃ r, WeakR t r)).unique h
theorem weakOf_some {t : Task} {B : Auto} (h : weakOf t = some B) : taskValid t = true ∧ ¬ TooGood t ∧ IsMin (lngW t) t.alphabet B ∧ B.next.length ≤ 12 := by
  unfold weakOf at h
  split at h
  · rename_i hr
    have h1 := hr.choose_spec
    rw [h] at h1
    rcases h1 with ⟨e, -⟩ | ⟨C, e, h2⟩
    · cases e
    · cases e; exact h2
  · cases h
def zeroA : Auto := ⟨0, [], []⟩
theorem zero_own (base : Nat) (w : World) : AutoOwn base w (.agg #[.int .i64 0, .slice none 0 0, .slice none 0 0]) zeroA :=
  Pool.auto (x := zeroA) (vs := []) (((Pool.nil base w).addNil 4 1).addNil 96 1) rfl
theorem weak_det {t : Task} {w w' : World} {e : Ending} (h : WeakEnd t w e w') : ∃ v', e = .returned (.tuple #[v', .bool (weakOf t).isSome]) ∧ Ext w w' ∧ AutoOwn w.heap.size w' v' ((weakOf t).getD zeroA) := by
  obtain ⟨r, hW, he, hr⟩ := h
  rw [weakOf_eq hW]
  rcases hr with ⟨rfl, rfl⟩ | ⟨B, v', rfl, rfl, hO⟩
  · exact ⟨_, rfl, he, zero_own _ _⟩
  · exact ⟨_, rfl, he, hO⟩
def WeakDet (t : Task) (w : World) (e : Ending) (w' : World) : Prop := ∃ v', e = .returned (.tuple #[v', .bool (weakOf t).isSome]) ∧ Ext w w' ∧ AutoOwn w.heap.size w' v' ((weakOf t).getD zeroA)
theorem WeakestAssumption_cd (v : Value) (t : Task) (w : World) (hV : TaskV w v t) (hT : Deb w) : Calls Tryz.prog 39 #[v] w (WeakDet t w) :=
  (WeakestAssumption_c v t w hV hT).mono fun _ _ h => weak_det h
theorem weak_acc {t : Task} {B : Auto} (h : weakOf t = some B) : autoValid B = true ∧ B.alphabet = t.alphabet ∧ ∀ v, accepts B (run B 0 v) = true ↔ SafeV t (v.filter (bit t.alphabet)) := by
  obtain ⟨h1, -, h3, h4⟩ := weakOf_some h
  obtain ⟨vS, vP, hI⟩ := taskValid_facts h1
  obtain ⟨a0, a63⟩ := alpha_facts hI
  refine ⟨h3.valid hI h4, h3.alphabet, fun v => ?_⟩
  rw [h3.accepts a0 a63 (lngW_blind t) v]
  exact startW_safe v vS vP
end Go.Proofs.YtadplnbadfnlfaaGreatDoor
