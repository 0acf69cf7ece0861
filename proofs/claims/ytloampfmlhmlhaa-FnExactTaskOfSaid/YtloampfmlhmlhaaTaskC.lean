/- The program's TaskOf, with no bound on an automaton that is not valid. -/
import Derived.Test.YtloampfmlhmlhaaTaskS
namespace Go.Proofs.Ytloampfmlhmlhaa
set_option linter.unusedSimpArgs false
set_option linter.unusedVariables false
open Go.RowKit
set_option maxHeartbeats 1000000
set_option maxRecDepth 100000

theorem sum_six (ll : List (List Int)) (h : ∀ r ∈ ll, r.length ≤ 6) : (ll.map List.length).sum ≤ ll.length * 6 := by
  induction ll with
  | nil => simp
  | cons r ll ih =>
    have := ih fun x hx => h x (by simp [hx])
    have := h r (by simp)
    simp only [List.map_cons, List.sum_cons, List.length_cons]; omega
theorem szAuto_valid {A : Auto} (hA : autoValid A = true) : szAuto A ≤ 1048576 := by
  have f := autoValid_facts hA
  have h6 : ∀ r ∈ A.next, r.length ≤ 6 := fun r hr => by
    obtain ⟨q, hq⟩ := List.getElem?_of_mem hr
    obtain ⟨row, h5, h6, -⟩ := autoValid_row hA (List.getElem?_eq_some_iff.1 hq).1
    rw [hq] at h5; cases h5
    rw [h6]; have := lettersTo_len A.alphabet 6; unfold nletters letters; omega
  have := sum_six A.next h6
  unfold szAuto szss
  omega
theorem TaskOf_c2 (v u z : Value) (S : Sys) (A : Auto) (O : Sys) (w : World) (hv : SysV w v S) (hu : AutoV w u A) (hz : SysV w z O) (hs : S.edges.length ≤ 1048576) :
    Calls Try.prog 10 #[v, u, z] w (TaskOfEnd S A O w) := by
  by_cases hneg : interfaceOf S A O < 0
  case neg => exact TaskOf_c v u z S A O w hv hu hz hs (szAuto_valid (interface_valid hneg).2.1)
  obtain ⟨ve, rfl, h1⟩ := hv
  obtain ⟨vn, va, rfl, h2, h3⟩ := hu
  obtain ⟨ze, rfl, h4⟩ := hz
  obtain ⟨ae, ce, rfl, -, -⟩ := h1.open
  obtain ⟨an, cn, rfl, -, -⟩ := h2.open
  obtain ⟨aa, ca, rfl, -, -⟩ := h3.open
  have hE : ∀ a b c d, Ext w ((((w.alloc a).alloc b).alloc c).alloc d) := fun _ _ _ _ => (((Ext.alloc _ _).trans (Ext.alloc _ _)).trans (Ext.alloc _ _)).trans (Ext.alloc _ _)
  go_enter Try.func10, Try.ntmps10
  go_wp2_with fail
  refine (InterfaceOf_c _ _ _ S A O _ ⟨_, rfl, h1.mono (hE _ _ _ _)⟩ ⟨_, _, rfl, h2.mono (hE _ _ _ _), h3.mono (hE _ _ _ _)⟩ ⟨_, rfl, h4.mono (hE _ _ _ _)⟩).mono ?_
  rintro e w1 ⟨rfl, he1⟩
  have b3 := he1.blk3
  have hw := he1.peel.peel.peel.peel
  clear hE he1
  have rc0 := b3.cell 0 rfl; have rf0 := b3.fr 0; have rc1 := b3.cell 1 rfl; have rf1 := b3.fr 1; have rc2 := b3.cell 2 rfl; have rf2 := b3.fr 2; have rc3 := b3.cell 3 rfl; have rf3 := b3.fr 3; have rc4 := b3.cell 4 rfl; have rf4 := b3.fr 4; have rc5 := b3.cell 5 rfl; have rf5 := b3.fr 5; have rc6 := b3.cell 6 rfl; have rf6 := b3.fr 6
  go_wp2_with fail
  refine bodyPost_ret (v := .tuple #[.agg #[.int .i64 0, .int .i64 0, .slice none 0 0, .int .i64 0, .slice none 0 0, .slice none 0 0, .int .i64 0], .bool false]) (by simp [results, Try.results10, go_sem, rc0, rc1, rc2, rc3, rc4, rc5, rc6, rf0, rf1, rf2, rf3, rf4, rf5, rf6]) rfl ?_
  have e1 : decide (0 ≤ interfaceOf S A O) = false := by simp; omega
  have e2 : taskOf S A O = zeroTask := by unfold taskOf; rw [if_pos hneg]
  unfold TaskOfEnd
  rw [e1, e2]
  exact ⟨_, rfl, (((((((hw.setCell (p := ⟨(w.heap.size + 1 + 1 + 1), 0, none⟩) (by simp only []; omega) _).setCell (p := ⟨(w.heap.size + 1 + 1 + 1), 1, none⟩) (by simp only []; omega) _).setCell (p := ⟨(w.heap.size + 1 + 1 + 1), 2, none⟩) (by simp only []; omega) _).setCell (p := ⟨(w.heap.size + 1 + 1 + 1), 3, none⟩) (by simp only []; omega) _).setCell (p := ⟨(w.heap.size + 1 + 1 + 1), 4, none⟩) (by simp only []; omega) _).setCell (p := ⟨(w.heap.size + 1 + 1 + 1), 5, none⟩) (by simp only []; omega) _).setCell (p := ⟨(w.heap.size + 1 + 1 + 1), 6, none⟩) (by simp only []; omega) _), _, _, _, rfl, EdgesOwn.nil _ _ _, ⟨[], World.ownsRow_nil _ _ _ _, RowsAre.nil _ _ _, fun j x hx => by simp at hx⟩, BoolsOwn.nil _ _ _⟩
end Go.Proofs.Ytloampfmlhmlhaa
