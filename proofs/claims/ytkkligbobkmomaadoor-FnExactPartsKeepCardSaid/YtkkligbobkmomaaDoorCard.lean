/- What the tied cards share: the tables' condition, a world that meets it, how a list of systems is read. -/
import Derived.Test.YtkkligbobkmomaaDoorDet
import Derived.Test.YtkkligbobkmomaaDoorRows
import Derived.Test.YtkkligbobkmomaaDoorRead
import Derived.Lib.LaidTab
import Derived.Lib.LaidIn
import Derived.ChangeSame
import Derived.ChangeVars
import Derived.JoinedOf
import Derived.LaidLaws
import Derived.LaidHandle
import Derived.Stop.Joined
import Derived.Stop.LaidErr
import Derived.Test.YtkkligbobkmomaaDoorTie
import Derived.Test.YtkkligbobkmomaaDoorCards
import Derived.SevenTiedAt
namespace Go.Proofs.YtkkligbobkmomaaDoor
set_option linter.unusedSimpArgs false
set_option linter.unusedVariables false
open Go.ChangeShapes Go.WideShapes Go.ChangeAt Go.RowKit
set_option maxHeartbeats 1600000

theorem read_syss {H : Type} {enc : TypeId × Value → H} {W : World} {spare : Nat → Bool} {held : Bool} {fuel : Nat} {cs : List Value} {x : DataW H × List MemPlace}
    (h : DataW.trod enc Tryd.prog W 0 spare held fuel 64 cs = some x) : ∃ v l, cs = [v] ∧ SyssV W v l :=
  read_slice Tryd.underlying64 c8 (by decide) (fun n b o cs' y h1 h2 => by
    obtain ⟨S, ve, hS, hS'⟩ := read_sys h2
    have hcs : cs' = [.int .i64 S.alphabet, .int .i64 S.states, ve] := by
      have h5 := Value.agg.inj hS
      have h6 := congrArg Array.toList h5
      simpa using h6
    subst hcs
    have g := (cells_at h1).2
    have g0 := g 0 _ rfl
    have g1 := g 1 _ rfl
    have g2 := g 2 _ rfl
    rw [Go.Proofs.YtkkligbobkmomaaDoor.add_none] at g0 g1 g2
    exact ⟨S, ve, g0, g1, g2, hS'⟩) h

/-- From the row's condition to the table that is read. -/
theorem debOfLaid {W : World} (h : laidMet Tryd.prog [("math/bits.deBruijn32tab", Rows.laid_math_bits_deBruijn32tab), ("math/bits.deBruijn64tab", Lib.tabData .u8 (Lib.deBruijn64tab.map fun (x : Nat) => (x : Int)))] W) : Deb W := by
  have h2 := laidMet.tail h
  have htab : Lib.TabIs Tryd.prog W "math/bits.deBruijn64tab" .u8 (Lib.deBruijn64tab.map fun (x : Nat) => (x : Int)) := Lib.tabIs_of_head (g := 1) (t := 184) (e := 5) (n := 64) (by kernel_rfl) (by kernel_rfl) (by kernel_rfl) (by kernel_rfl) (by kernel_rfl) (by kernel_rfl) h2
  intro j hj
  have := htab.cell (g := 1) (by kernel_rfl) j (by simpa using hj)
  rw [this]
  simp [List.getD_eq_getElem?_getD, hj]

/-- A world that meets the condition. -/
noncomputable def laidWorld (os : Os) : World :=
  let w0 := World.holding Tryd.prog os ⟨#[], #[], []⟩
  { w0 with heap := (w0.heap.modify 0 fun
      | .cells _ t frozen => .cells (Lib.deBruijn32tab.map fun (z : Nat) => Value.int .u8 (z : Int)).toArray t frozen
      | o => o).modify 1 fun
      | .cells _ t frozen => .cells (Lib.deBruijn64tab.map fun (z : Nat) => Value.int .u8 (z : Int)).toArray t frozen
      | o => o }
end Go.Proofs.YtkkligbobkmomaaDoor
