import Derived.Test.YtadplnbadfnlfaaGreatDoorWalkFB
import Derived.BigRegion
/- Part of this seat's proofs, cut to what its law needs. -/


namespace Go.Proofs.YtadplnbadfnlfaaGreatDoor
set_option linter.unusedSimpArgs false
set_option linter.unusedVariables false
open Go.RowKit

set_option maxHeartbeats 1600000
set_option maxRecDepth 100000

structure NetOk (n : Net) : Prop where
  parts : ∀ s ∈ n.parts, sysValid s = true
  autos : ∀ a ∈ n.autos, AutoFit a
  np : n.parts.length ≤ 3
  na : n.autos.length ≤ 2
  al : 0 ≤ n.letters ∧ n.letters ≤ 63
  el : ∀ s ∈ n.parts, s.edges.length ≤ 1048576
  tot : (sizesOf n).prod ≤ 268435456
end Go.Proofs.YtadplnbadfnlfaaGreatDoor

namespace Go.Proofs.YtadplnbadfnlfaaGreatDoor
set_option linter.unusedSimpArgs false
set_option linter.unusedVariables false
open Go.RowKit

set_option maxHeartbeats 1600000
set_option maxRecDepth 100000

theorem edge_dst {s : Sys} (h : sysValid s = true) {k : Nat} {e : Edge} (hk : s.edges[k]? = some e) : 0 ≤ e.dst ∧ e.dst < s.states ∧ s.states ≤ 16 := by
  have h16 := (valid_alpha h).2.2.2
  obtain ⟨hi, rfl⟩ := List.getElem?_eq_some_iff.1 hk
  simp only [sysValid, Bool.and_eq_true, decide_eq_true_eq, List.all_eq_true] at h
  have h4 := h.2 k (List.mem_range.2 hi)
  unfold edgeAt at h4
  rw [List.getElem?_eq_getElem hi] at h4
  simp only [Bool.and_eq_true, edgeOk, decide_eq_true_eq] at h4
  omega

end Go.Proofs.YtadplnbadfnlfaaGreatDoor

namespace Go.Proofs.YtadplnbadfnlfaaGreatDoor
set_option linter.unusedSimpArgs false
set_option linter.unusedVariables false
open Go.RowKit

set_option maxHeartbeats 1600000
set_option maxRecDepth 100000

end Go.Proofs.YtadplnbadfnlfaaGreatDoor

namespace Go.Proofs.YtadplnbadfnlfaaGreatDoor
set_option linter.unusedSimpArgs false
set_option linter.unusedVariables false
open Go.RowKit

set_option maxHeartbeats 1600000
set_option maxRecDepth 100000

end Go.Proofs.YtadplnbadfnlfaaGreatDoor
/- Part of this seat's proofs, cut to what its law needs. -/


namespace Go.Proofs.YtadplnbadfnlfaaGreatDoor
set_option linter.unusedSimpArgs false
set_option linter.unusedVariables false
open Go.RowKit

set_option maxHeartbeats 1600000
set_option maxRecDepth 100000

end Go.Proofs.YtadplnbadfnlfaaGreatDoor

namespace Go.Proofs.YtadplnbadfnlfaaGreatDoor
set_option linter.unusedSimpArgs false
set_option linter.unusedVariables false
open Go.RowKit

set_option maxHeartbeats 1600000
set_option maxRecDepth 100000

end Go.Proofs.YtadplnbadfnlfaaGreatDoor

namespace Go.Proofs.YtadplnbadfnlfaaGreatDoor
set_option linter.unusedSimpArgs false
set_option linter.unusedVariables false
open Go.RowKit

set_option maxHeartbeats 1600000
set_option maxRecDepth 100000

theorem nodup_len (l : List Nat) (n : Nat) (h : l.Nodup) (hb : ∀ x ∈ l, x < n) : l.length ≤ n := by
  induction n generalizing l with
  | zero =>
    cases l with
    | nil => simp
    | cons a l => have := hb a (by simp); omega
  | succ n ih =>
    have h1 := ih (l.erase n) (h.erase n) fun x hx => by
      obtain ⟨h2, h3⟩ := (List.Nodup.mem_erase_iff h).1 hx
      have := hb x h3
      omega
    by_cases hm : n ∈ l
    · rw [List.length_erase_of_mem hm] at h1; omega
    · rw [List.erase_of_not_mem hm] at h1; omega
end Go.Proofs.YtadplnbadfnlfaaGreatDoor

namespace Go.Proofs.YtadplnbadfnlfaaGreatDoor
set_option linter.unusedSimpArgs false
set_option linter.unusedVariables false
open Go.RowKit

set_option maxHeartbeats 1600000
set_option maxRecDepth 100000

def unsetN (D : List Int) : Nat := (D.filter fun x => x == -1).length
def dst (D : List Int) (m : Nat) : Int := D.getD m (-1)
structure Pass (N : Nat → Int → List Nat) (L : List Int) (G : Nat → Bool) (total d i : Nat) (D : List Int) (ch : Bool) : Prop where
  len : D.length = total
  lo : ∀ m, m < i → m < total → Lev N L G ((d : Int) + 1) m (dst D m)
  hi : ∀ m, i ≤ m → m < total → Lev N L G d m (dst D m)
  calm : ch = false → ∀ m, m < i → m < total → dst D m ≠ (d : Int) + 1
  un : unsetN D + d + (if ch = true then 1 else 0) ≤ total
section
variable {N : Nat → Int → List Nat} {L : List Int} {G : Nat → Bool} {total d i : Nat} {D : List Int} {ch : Bool}
end

end Go.Proofs.YtadplnbadfnlfaaGreatDoor
/- Part of this seat's proofs, cut to what its law needs. -/


namespace Go.Proofs.YtadplnbadfnlfaaGreatDoor
set_option linter.unusedSimpArgs false
set_option linter.unusedVariables false
open Go.RowKit

set_option maxHeartbeats 1600000
set_option maxRecDepth 100000

theorem BytesOwn.one (w : World) (b : UInt8) : BytesOwn 5 w.heap.size (w.alloc (.cells #[byteVal b] 5)) (.slice (some ⟨w.heap.size, 0, none⟩) 1 1) [b] :=
  ⟨by simp, .inr ⟨w.heap.size, 1, #[byteVal b], rfl, Nat.le_refl _, heap_alloc_new w _, Nat.le_refl _, by unfold maxLen; omega, by simp, by simp⟩⟩

theorem l1Text_c (l : Nat) (w : World) (hl : l < 6) : Calls Tryz.prog 179 #[.int .i64 l] w (Grows (.string (wtext [(l : Int)])) w) := by
  have hb := BytesOwn.one w (lb (l : Int))
  have hcv := hb.string
  rw [lb_val l hl, show ((97 + l : Nat) : Int) = 97 + (l : Int) by omega] at hcv
  go_enter Tryz.func179, Tryz.ntmps179
  go_wp2_with fail
  go_ret
  exact Grows.mk rfl (Ext.alloc _ _)

end Go.Proofs.YtadplnbadfnlfaaGreatDoor

namespace Go.Proofs.YtadplnbadfnlfaaGreatDoor
set_option linter.unusedSimpArgs false
set_option linter.unusedVariables false
open Go.RowKit

set_option maxHeartbeats 1600000
set_option maxRecDepth 100000

theorem leads_congr {N N' : Nat → Int → List Nat} (h : ∀ node l r, r ∈ N node l ↔ r ∈ N' node l) (s : Nat) (v : List Int) (g : Nat) : Leads N s v g ↔ Leads N' s v g := by
  induction v generalizing s with
  | nil => exact Iff.rfl
  | cons l v ih =>
    show (∃ b, b ∈ N s l ∧ Leads N b v g) ↔ (∃ b, b ∈ N' s l ∧ Leads N' b v g)
    constructor
    · rintro ⟨b, h1, h2⟩; exact ⟨b, (h s l b).1 h1, (ih b).1 h2⟩
    · rintro ⟨b, h1, h2⟩; exact ⟨b, (h s l b).2 h1, (ih b).2 h2⟩
theorem SystemValid_sb {v : Value} {x : Sys} {w : World} {b : Bool} (hb : sysValid x = b) (hv : SysV w v x) :
    Calls Tryz.prog 66 #[v] w (Grows (.bool b) w) := hb ▸ SystemValid_s v x w hv

end Go.Proofs.YtadplnbadfnlfaaGreatDoor

namespace Go.Proofs.YtadplnbadfnlfaaGreatDoor
set_option linter.unusedSimpArgs false
set_option linter.unusedVariables false
open Go.RowKit

set_option maxHeartbeats 1600000
set_option maxRecDepth 100000

end Go.Proofs.YtadplnbadfnlfaaGreatDoor

namespace Go.Proofs.YtadplnbadfnlfaaGreatDoor
set_option linter.unusedSimpArgs false
set_option linter.unusedVariables false
open Go.RowKit

set_option maxHeartbeats 1600000
set_option maxRecDepth 100000

theorem IntsV.three (w : World) : IntsV (w.alloc (.cells #[.int .i64 0, .int .i64 0, .int .i64 0] 3)) (.slice (some ⟨w.heap.size, 0, none⟩) 3 3) [0, 0, 0] := by
  have hb := Blk.new w #[.int .i64 0, .int .i64 0, .int .i64 0] 3
  refine ⟨_, 3, rfl, Nat.le_refl _, by decide, fun _ => ⟨w.heap.size, 0, rfl, by simp, fun i x hi => ?_⟩⟩
  match i, hi with
  | 0, hi => simp at hi; subst hi; exact hb.cell 0 rfl
  | 1, hi => simp at hi; subst hi; exact hb.cell 1 rfl
  | 2, hi => simp at hi; subst hi; exact hb.cell 2 rfl
  | i + 3, hi => simp at hi

end Go.Proofs.YtadplnbadfnlfaaGreatDoor
/- Part of this seat's proofs, cut to what its law needs. -/

namespace Go.Proofs.YtadplnbadfnlfaaGreatDoor
set_option linter.unusedSimpArgs false
set_option linter.unusedVariables false
open Go.RowKit
end Go.Proofs.YtadplnbadfnlfaaGreatDoor
