/- A world that meets the condition of the rows that list the tables of strconv and utf8 and the two errors of strconv. -/
import Derived.Test.YthpiihblmekijaaGreatDoorCard

namespace Go.Proofs.YthpiihblmekijaaGreatDoor
set_option linter.unusedSimpArgs false
set_option linter.unusedVariables false
open Go.ChangeShapes Go.WideShapes Go.ChangeAt Go.RowKit
set_option maxHeartbeats 1600000
set_option maxRecDepth 100000

noncomputable def flatD : Nat → DataW Unit → List Value
  | 0, _ => []
  | _ + 1, .lit (.int k v) => [.int k v]
  | n + 1, .agg l => l.flatMap (flatD n)
  | _, _ => []
noncomputable def laidSet (g : Nat) (cs : List Value) (h : Array Obj) : Array Obj := h.modify g fun
  | .cells _ t frozen => .cells cs.toArray t frozen
  | o => o
/-- A world that meets the condition. -/
noncomputable def laidWorld7 (os : Os) : World :=
  let w0 := World.holding Tryz.prog os ⟨#[], #[], []⟩
  { w0 with heap := ((laidSet 0 (flatD 3 Rows.laid_math_bits_deBruijn32tab) <| laidSet 1 (flatD 3 Rows.laid_math_bits_deBruijn64tab) <|
      laidSet 7 (flatD 3 Rows.laid_internal_strconv_uint64pow10) <| laidSet 6 (flatD 3 Rows.laid_unicode_utf8_acceptRanges) <|
      laidSet 5 (flatD 3 Rows.laid_unicode_utf8_first) <| laidSet 4 [.iface 245 (.pointer (some ⟨w0.heap.size, 0, none⟩))] <|
      laidSet 3 [.iface 245 (.pointer (some ⟨w0.heap.size + 1, 0, none⟩))] w0.heap).push (.cells #[.string ⟨#[118, 97, 108, 117, 101, 32, 111, 117, 116, 32, 111, 102, 32, 114, 97, 110, 103, 101]⟩] 247)).push (.cells #[.string ⟨#[105, 110, 118, 97, 108, 105, 100, 32, 115, 121, 110, 116, 97, 120]⟩] 247) }
theorem laid_run7 (os : Os) (args : Array Value) : (DataW.laidRun Tryz.prog ((laidWorld7 os).forCall (fun _ _ => 0) ⟨#[], args, []⟩).memory 8 (Rows.fnUnderNothingRow.laid.map (·.1))).map (·.1) = some Rows.fnUnderNothingRow.laid := by kernel_rfl
theorem laid_met7 (os : Os) (args : Array Value) : laidMetH Tryz.prog Rows.fnUnderNothingRow.laid ((laidWorld7 os).forCall (fun _ _ => 0) ⟨#[], args, []⟩).memory :=
  (LaidIn.of_run [0, 1, 7, 6, 5, 4, 3, (World.holding Tryz.prog os ⟨#[], #[], []⟩).heap.size, (World.holding Tryz.prog os ⟨#[], #[], []⟩).heap.size + 1] 8 (laid_run7 os args) (by kernel_rfl) (by kernel_rfl) (by kernel_rfl)).met
theorem debOfLaid7 {W : World} (h : laidMetH Tryz.prog Rows.fnUnderNothingRow.laid W) : Deb W := by
  have h1 : laidMet Tryz.prog Rows.fnUnderNothingRow.laid W := h
  have h2 := laidMet.tail h1
  have htab : Lib.TabIs Tryz.prog W "math/bits.deBruijn64tab" .u8 (Lib.deBruijn64tab.map fun (x : Nat) => (x : Int)) := Lib.tabIs_of_head (g := 1) (t := 212) (e := 5) (n := 64) (by kernel_rfl) (by kernel_rfl) (by kernel_rfl) (by kernel_rfl) (by kernel_rfl) (by kernel_rfl) h2
  intro j hj
  have := htab.cell (g := 1) (by kernel_rfl) j (by simpa using hj)
  rw [this]
  simp [List.getD_eq_getElem?_getD, hj]
end Go.Proofs.YthpiihblmekijaaGreatDoor
