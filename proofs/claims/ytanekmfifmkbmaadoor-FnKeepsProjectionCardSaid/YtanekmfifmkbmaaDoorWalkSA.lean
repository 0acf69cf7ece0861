/- Part of this seat's proofs, cut to what its law needs. -/

import Derived.Test.YtanekmfifmkbmaaDoorWalkFB
import Derived.BigRegion

namespace Go.Proofs.YtanekmfifmkbmaaDoor
set_option linter.unusedSimpArgs false
set_option linter.unusedVariables false
open Go.RowKit

set_option maxHeartbeats 1600000
set_option maxRecDepth 100000

def AutoAt (w : World) (b o : Nat) (x : Auto) : Prop := ∃ vn va, w.cell? ⟨b, o, none⟩ = some (.int .i64 x.alphabet) ∧ w.cell? ⟨b, o + 1, none⟩ = some vn ∧ w.cell? ⟨b, o + 2, none⟩ = some va ∧ IntssV w vn x.next ∧ BoolsV w va x.accept
abbrev AutosV := SlV AutoAt 3
end Go.Proofs.YtanekmfifmkbmaaDoor

namespace Go.Proofs.YtanekmfifmkbmaaDoor
set_option linter.unusedSimpArgs false
set_option linter.unusedVariables false
open Go.RowKit

set_option maxHeartbeats 1600000
set_option maxRecDepth 100000

theorem edge_dst {s : Sys} (h : sysValid s = true) {k : Nat} {e : Edge} (hk : s.edges[k]? = some e) : 0 ≤ e.dst ∧ e.dst < s.states ∧ s.states ≤ 16 := by
  have h16 := (valid_alpha h).2.2.2
  obtain ⟨hi, rfl⟩ := List.getElem?_eq_some_iff.1 hk
  simp only [sysValid, Bool.and_eq_true, decide_eq_true_eq, List.all_eq_true] at h
  have h4 := h.2 k (List.mem_range.2 hi)
  unfold edgeAt at h4
  rw [List.getElem?_eq_getElem hi] at h4
  simp only [Bool.and_eq_true, edgeOk, decide_eq_true_eq] at h4
  omega

theorem l4In_c (v : Value) (l : List Int) (x : Int) (w : World) (hv : IntsV w v l) (hl : l.length ≤ 4294967296) :
    Calls Tryd.prog 69 #[v, .int .i64 x] w (Same (.bool (decide (x ∈ l))) w) := by
  obtain ⟨a, c, rfl, -, h2⟩ := hv.open
  go_enter Tryd.func69, Tryd.ntmps69
  go_wp2_with fail
  go_loop [5] (fun i => ∃ k : Nat, k ≤ l.length ∧ i = .int .i64 k ∧ Hid (x ∉ l.take k)) (fun i => l.length - (intOf i).toNat)
  case atStart => exact ⟨0, by omega, rfl, Lib.hid (by simp)⟩
  case round =>
    obtain ⟨k, hk, rfl, hno⟩ := hrel
    by_cases hlt : k < l.length
    · obtain ⟨y, hy⟩ : ∃ y, l[k]? = some y := ⟨_, List.getElem?_eq_getElem hlt⟩
      obtain ⟨b, off, rfl, -, hc⟩ := h2 k y hy
      have g1 := hc k y hy
      unfold IntAt at g1
      rw [Nat.mul_one] at g1
      have HY := Lib.hid hy
      clear hc hy h2
      by_cases hxy : y = x
      · subst hxy
        go_wp2_with fail
        go_ret
        exact Same.mk (by simp [List.mem_of_getElem? HY.out])
      · go_wp2_with fail
        refine ⟨⟨k + 1, by omega, by go_num, Lib.hid ?_⟩, by simp [intOf]; omega⟩
        rw [List.take_add_one, HY.out]
        intro hm
        rcases List.mem_append.1 hm with hm | hm
        · exact hno.out hm
        · simp at hm; exact hxy hm.symm
    · obtain rfl : k = l.length := by omega
      go_wp2_with fail
      go_ret
      have := hno.out
      rw [List.take_length] at this
      exact Same.mk (by simp [this])

end Go.Proofs.YtanekmfifmkbmaaDoor

namespace Go.Proofs.YtanekmfifmkbmaaDoor
set_option linter.unusedSimpArgs false
set_option linter.unusedVariables false
open Go.RowKit

set_option maxHeartbeats 1600000
set_option maxRecDepth 100000

end Go.Proofs.YtanekmfifmkbmaaDoor

namespace Go.Proofs.YtanekmfifmkbmaaDoor
set_option linter.unusedSimpArgs false
set_option linter.unusedVariables false
open Go.RowKit

set_option maxHeartbeats 1600000
set_option maxRecDepth 100000

end Go.Proofs.YtanekmfifmkbmaaDoor
