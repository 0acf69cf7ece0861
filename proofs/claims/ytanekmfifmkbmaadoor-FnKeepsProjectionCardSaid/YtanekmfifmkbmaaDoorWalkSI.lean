/- Part of this seat's proofs, cut to what its law needs. -/

import Derived.Test.YtanekmfifmkbmaaDoorWalkSE

namespace Go.Proofs.YtanekmfifmkbmaaDoor
set_option linter.unusedSimpArgs false
set_option linter.unusedVariables false
open Go.RowKit

set_option maxHeartbeats 1600000
set_option maxRecDepth 100000

theorem BytesOwn.one (w : World) (b : UInt8) : BytesOwn 5 w.heap.size (w.alloc (.cells #[byteVal b] 5)) (.slice (some ⟨w.heap.size, 0, none⟩) 1 1) [b] :=
  ⟨by simp, .inr ⟨w.heap.size, 1, #[byteVal b], rfl, Nat.le_refl _, heap_alloc_new w _, Nat.le_refl _, by unfold maxLen; omega, by simp, by simp⟩⟩

theorem l1Text_c (l : Nat) (w : World) (hl : l < 6) : Calls Tryd.prog 57 #[.int .i64 l] w (Grows (.string (wtext [(l : Int)])) w) := by
  have hb := BytesOwn.one w (lb (l : Int))
  have hcv := hb.string
  rw [lb_val l hl, show ((97 + l : Nat) : Int) = 97 + (l : Int) by omega] at hcv
  go_enter Tryd.func57, Tryd.ntmps57
  go_wp2_with fail
  go_ret
  exact Grows.mk rfl (Ext.alloc _ _)

end Go.Proofs.YtanekmfifmkbmaaDoor

namespace Go.Proofs.YtanekmfifmkbmaaDoor
set_option linter.unusedSimpArgs false
set_option linter.unusedVariables false
open Go.RowKit

set_option maxHeartbeats 1600000
set_option maxRecDepth 100000

theorem leads_congr {N N' : Nat → Int → List Nat} (h : ∀ node l r, r ∈ N node l ↔ r ∈ N' node l) (s : Nat) (v : List Int) (g : Nat) : Leads N s v g ↔ Leads N' s v g := by
  induction v generalizing s with
  | nil => exact Iff.rfl
  | cons l v ih =>
    show (∃ b, b ∈ N s l ∧ Leads N b v g) ↔ (∃ b, b ∈ N' s l ∧ Leads N' b v g)
    constructor
    · rintro ⟨b, h1, h2⟩; exact ⟨b, (h s l b).1 h1, (ih b).1 h2⟩
    · rintro ⟨b, h1, h2⟩; exact ⟨b, (h s l b).2 h1, (ih b).2 h2⟩
theorem AutosV.two {w : World} {a p : Auto} {vn va vn' va' : Value} (h1 : IntssV w vn a.next) (h2 : BoolsV w va a.accept) (h3 : IntssV w vn' p.next) (h4 : BoolsV w va' p.accept) :
    AutosV (w.alloc (.cells #[.int .i64 a.alphabet, vn, va, .int .i64 p.alphabet, vn', va'] 32)) (.slice (some ⟨w.heap.size, 0, none⟩) 2 2) [a, p] := by
  have hb := Blk.new w #[.int .i64 a.alphabet, vn, va, .int .i64 p.alphabet, vn', va'] 32
  refine ⟨_, 2, rfl, Nat.le_refl _, by decide, fun _ => ⟨w.heap.size, 0, rfl, by simp, fun i x hi => ?_⟩⟩
  match i, hi with
  | 0, hi =>
    simp at hi; subst hi
    exact ⟨vn, va, hb.cell 0 rfl, hb.cell 1 rfl, hb.cell 2 rfl, h1.mono (Ext.alloc _ _), h2.mono (Ext.alloc _ _)⟩
  | 1, hi =>
    simp at hi; subst hi
    exact ⟨vn', va', hb.cell 3 rfl, hb.cell 4 rfl, hb.cell 5 rfl, h3.mono (Ext.alloc _ _), h4.mono (Ext.alloc _ _)⟩
  | i + 2, hi => simp at hi
theorem SystemValid_sb {v : Value} {x : Sys} {w : World} {b : Bool} (hb : sysValid x = b) (hv : SysV w v x) :
    Calls Tryd.prog 42 #[v] w (Grows (.bool b) w) := hb ▸ SystemValid_s v x w hv

end Go.Proofs.YtanekmfifmkbmaaDoor

namespace Go.Proofs.YtanekmfifmkbmaaDoor
set_option linter.unusedSimpArgs false
set_option linter.unusedVariables false
open Go.RowKit

set_option maxHeartbeats 1600000
set_option maxRecDepth 100000

end Go.Proofs.YtanekmfifmkbmaaDoor

namespace Go.Proofs.YtanekmfifmkbmaaDoor
set_option linter.unusedSimpArgs false
set_option linter.unusedVariables false
open Go.RowKit

set_option maxHeartbeats 1600000
set_option maxRecDepth 100000

theorem IntsV.three (w : World) : IntsV (w.alloc (.cells #[.int .i64 0, .int .i64 0, .int .i64 0] 3)) (.slice (some ⟨w.heap.size, 0, none⟩) 3 3) [0, 0, 0] := by
  have hb := Blk.new w #[.int .i64 0, .int .i64 0, .int .i64 0] 3
  refine ⟨_, 3, rfl, Nat.le_refl _, by decide, fun _ => ⟨w.heap.size, 0, rfl, by simp, fun i x hi => ?_⟩⟩
  match i, hi with
  | 0, hi => simp at hi; subst hi; exact hb.cell 0 rfl
  | 1, hi => simp at hi; subst hi; exact hb.cell 1 rfl
  | 2, hi => simp at hi; subst hi; exact hb.cell 2 rfl
  | i + 3, hi => simp at hi

end Go.Proofs.YtanekmfifmkbmaaDoor
