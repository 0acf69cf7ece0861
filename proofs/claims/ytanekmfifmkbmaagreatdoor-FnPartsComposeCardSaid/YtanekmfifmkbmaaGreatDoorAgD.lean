/- Part of this seat's proofs, cut to what its law needs. -/

import Derived.Test.YtanekmfifmkbmaaGreatDoorRows
import Derived.Test.YtanekmfifmkbmaaGreatDoorWalkA
import Derived.Test.YtanekmfifmkbmaaGreatDoorWalkE

namespace Go.Proofs.YtanekmfifmkbmaaGreatDoor
set_option linter.unusedSimpArgs false
set_option linter.unusedVariables false
open Go.RowKit

set_option maxHeartbeats 400000

end Go.Proofs.YtanekmfifmkbmaaGreatDoor

namespace Go.Proofs.YtanekmfifmkbmaaGreatDoor
set_option linter.unusedSimpArgs false
set_option linter.unusedVariables false
open Go.RowKit

set_option maxHeartbeats 400000

theorem agSystems_c (v u : Value) (x y : Sys) (w : World) (hv : SysV w v x) (hu : SysV w u y) :
    Calls Tryz.prog 9 #[v, u] w (Grows (.bool (decide (x = y))) w) := by
  obtain ⟨ve, rfl, h1⟩ := hv
  obtain ⟨ue, rfl, k1⟩ := hu
  obtain ⟨al, st, l⟩ := x
  obtain ⟨al', st', m⟩ := y
  simp only at h1 k1
  obtain ⟨a, c, rfl, hc1, h2⟩ := h1.open
  obtain ⟨a', c', rfl, hc2, h2'⟩ := k1.open
  clear h1 k1
  by_cases ha : al = al'
  · subst ha
    by_cases hs : st = st'
    · subst hs
      by_cases hlen : l.length = m.length
      · have HL := Lib.hid hlen
        rw [← hlen]
        clear hlen
        have he0 : Ext w ((w.alloc (.cells #[.int .i64 al, .int .i64 st, .slice a l.length c] 25)).alloc (.cells #[.int .i64 al, .int .i64 st, .slice a' l.length c'] 25)) := (Ext.alloc _ _).trans (Ext.alloc _ _)
        have b0 : Blk ((w.alloc (.cells #[.int .i64 al, .int .i64 st, .slice a l.length c] 25)).alloc (.cells #[.int .i64 al, .int .i64 st, .slice a' l.length c'] 25)) w.heap.size #[.int .i64 al, .int .i64 st, .slice a l.length c] 25 := Ext.blk (Ext.alloc _ _)
        have b1 : Blk ((w.alloc (.cells #[.int .i64 al, .int .i64 st, .slice a l.length c] 25)).alloc (.cells #[.int .i64 al, .int .i64 st, .slice a' l.length c'] 25)) (w.heap.size + 1) #[.int .i64 al, .int .i64 st, .slice a' l.length c'] 25 := Ext.blk1 (Ext.refl _)
        go_enter Tryz.func9, Tryz.ntmps9
        go_wp2_with fail
        generalize (w.alloc (.cells #[.int .i64 al, .int .i64 st, .slice a l.length c] 25)).alloc (.cells #[.int .i64 al, .int .i64 st, .slice a' l.length c'] 25) = w2 at he0 b0 b1 ⊢
        go_loopw [5] (fun i wr => ∃ k : Nat, k ≤ l.length ∧ i = .int .i64 k ∧ Hid (l.take k = m.take k) ∧ Ext w2 wr) (fun i _ => l.length - (intOf i).toNat)
        case atStart => exact ⟨0, by omega, rfl, by simp [Hid], Ext.refl _⟩
        case round =>
          obtain ⟨k, hk, rfl, heq, hext⟩ := hrel
          have gx := (b0.ext hext).cell 2 rfl
          have gy := (b1.ext hext).cell 2 rfl
          by_cases hlt : k < l.length
          · obtain ⟨x, hx⟩ : ∃ x, l[k]? = some x := ⟨_, List.getElem?_eq_getElem hlt⟩
            obtain ⟨y, hy⟩ : ∃ x, m[k]? = some x := ⟨_, List.getElem?_eq_getElem (by rw [← HL.out]; exact hlt)⟩
            obtain ⟨b, off, rfl, -, hc⟩ := h2 k x hx
            obtain ⟨b', off', rfl, -, hc'⟩ := h2' k y hy
            have HX := Lib.hid hx
            have HY := Lib.hid hy
            obtain ⟨q1, q2, q3⟩ := (hc k x hx).mono (he0.trans hext)
            obtain ⟨r1, r2, r3⟩ := (hc' k y hy).mono (he0.trans hext)
            clear hc hc' h2 h2' hx hy
            obtain ⟨x1, x2, x3⟩ := x
            obtain ⟨y1, y2, y3⟩ := y
            simp only at q1 q2 q3 r1 r2 r3
            by_cases e1 : x1 = y1
            · subst e1
              by_cases e2 : x2 = y2
              · subst e2
                by_cases e3 : x3 = y3
                · subst e3
                  go_wp2_with fail
                  go_region
                  all_goals go_wp2_with fail
                  all_goals exact ⟨⟨k + 1, by omega, by go_num, by simp [Hid, List.take_add_one, HX.out, HY.out, heq.out], hext.trans (Ext.drew _)⟩, by simp [intOf]; omega⟩
                · clear heq
                  go_wp2_with fail
                  go_region
                  all_goals go_wp2_with fail
                  all_goals go_ret
                  all_goals refine Grows.mk ?_ (he0.trans (hext.trans (Ext.drew _)))
                  all_goals
                    have : ¬ l = m := fun h => by subst h; have := HX.out; rw [HY.out] at this; cases this; exact e3 rfl
                    simp [this]
              · clear heq
                go_wp2_with fail
                go_region
                all_goals go_wp2_with fail
                all_goals go_ret
                all_goals refine Grows.mk ?_ (he0.trans (hext.trans (Ext.drew _)))
                all_goals
                  have : ¬ l = m := fun h => by subst h; have := HX.out; rw [HY.out] at this; cases this; exact e2 rfl
                  simp [this]
            · clear heq
              go_wp2_with fail
              go_region
              all_goals go_wp2_with fail
              all_goals go_ret
              all_goals refine Grows.mk ?_ (he0.trans (hext.trans (Ext.drew _)))
              all_goals
                have : ¬ l = m := fun h => by subst h; have := HX.out; rw [HY.out] at this; cases this; exact e1 rfl
                simp [this]
          · obtain rfl : k = l.length := by omega
            go_wp2_with fail
            go_ret
            refine Grows.mk ?_ (he0.trans hext)
            have := heq.out
            rw [List.take_length, HL.out, List.take_length] at this
            simp [this]
      · have hne : l ≠ m := fun h => hlen (by rw [h])
        have hl' : ((l.length : Int) == (m.length : Int)) = false := beq_eq_false_iff_ne.2 (by omega)
        go_enter Tryz.func9, Tryz.ntmps9
        go_wp2_with fail
        go_ret
        exact Grows.mk (by simp [hne]) ((Ext.alloc _ _).trans (Ext.alloc _ _))
    · go_enter Tryz.func9, Tryz.ntmps9
      go_wp2_with fail
      go_ret
      exact Grows.mk (by simp [hs]) ((Ext.alloc _ _).trans (Ext.alloc _ _))
  · go_enter Tryz.func9, Tryz.ntmps9
    go_wp2_with fail
    go_ret
    exact Grows.mk (by simp [ha]) ((Ext.alloc _ _).trans (Ext.alloc _ _))
end Go.Proofs.YtanekmfifmkbmaaGreatDoor

namespace Go.Proofs.YtanekmfifmkbmaaGreatDoor
set_option linter.unusedSimpArgs false
set_option linter.unusedVariables false
open Go.RowKit

set_option maxHeartbeats 400000

end Go.Proofs.YtanekmfifmkbmaaGreatDoor

namespace Go.Proofs.YtanekmfifmkbmaaGreatDoor
set_option linter.unusedSimpArgs false
set_option linter.unusedVariables false
open Go.RowKit

set_option maxHeartbeats 400000

end Go.Proofs.YtanekmfifmkbmaaGreatDoor
