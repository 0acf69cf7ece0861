/- Part of this seat's proofs, cut to what its law needs. -/

import Derived.Test.YtanekmfifmkbmaaDoorRows
import Derived.Test.YtanekmfifmkbmaaDoorWalkA
import Derived.Test.YtanekmfifmkbmaaDoorWalkE

namespace Go.Proofs.YtanekmfifmkbmaaDoor
set_option linter.unusedSimpArgs false
set_option linter.unusedVariables false
open Go.RowKit

set_option maxHeartbeats 400000

theorem agInts_c (v u : Value) (l m : List Int) (w : World) (hv : IntsV w v l) (hu : IntsV w u m) :
    Calls Tryd.prog 46 #[v, u] w (Grows (.bool (decide (l = m))) w) := by
  obtain ⟨a, c, rfl, h1, h2⟩ := hv.open
  obtain ⟨a', c', rfl, h1', h2'⟩ := hu.open
  by_cases hlen : l.length = m.length
  · have HL := Lib.hid hlen
    rw [← hlen]
    clear hlen hv hu
    go_enter Tryd.func46, Tryd.ntmps46
    go_wp2_with fail
    go_loopw [5] (fun i wr => ∃ k : Nat, k ≤ l.length ∧ i = .int .i64 k ∧ Hid (l.take k = m.take k) ∧ Ext w wr) (fun i _ => l.length - (intOf i).toNat)
    case atStart => exact ⟨0, by omega, rfl, by simp [Hid], Ext.refl _⟩
    case round =>
      obtain ⟨k, hk, rfl, heq, hext⟩ := hrel
      by_cases hlt : k < l.length
      · obtain ⟨x, hx⟩ : ∃ x, l[k]? = some x := ⟨_, List.getElem?_eq_getElem hlt⟩
        obtain ⟨y, hy⟩ : ∃ x, m[k]? = some x := ⟨_, List.getElem?_eq_getElem (by rw [← HL.out]; exact hlt)⟩
        obtain ⟨b, off, rfl, -, hc⟩ := h2 k x hx
        obtain ⟨b', off', rfl, -, hc'⟩ := h2' k y hy
        have g1 : wr.cell? ⟨b, off + k, none⟩ = some (.int .i64 x) := by have := hc k x hx; rw [Nat.mul_one] at this; exact hext.cell this
        have g2 : wr.cell? ⟨b', off' + k, none⟩ = some (.int .i64 y) := by have := hc' k y hy; rw [Nat.mul_one] at this; exact hext.cell this
        clear hc hc' h2 h2'
        have HX := Lib.hid hx
        have HY := Lib.hid hy
        clear hx hy
        by_cases hxy : x = y
        · subst hxy
          go_wp2_with fail
          go_quiet (fail)
          go_wp2_with fail
          exact ⟨⟨k + 1, by omega, by go_num, by simp [Hid, List.take_add_one, HX.out, HY.out, heq.out], hext.trans (Ext.drewN _ _)⟩, by simp [intOf]; omega⟩
        · go_wp2_with fail
          go_quiet (fail)
          go_wp2_with fail
          go_ret
          refine Grows.mk ?_ (hext.trans (Ext.drewN _ _))
          have : ¬ l = m := fun h => by subst h; have := HX.out; rw [HY.out] at this; cases this; exact hxy rfl
          simp [this]
      · obtain rfl : k = l.length := by omega
        go_wp2_with fail
        go_ret
        refine Grows.mk ?_ hext
        have := heq.out
        rw [List.take_length, HL.out, List.take_length] at this
        simp [this]
  · have hne : l ≠ m := fun h => hlen (by rw [h])
    go_enter Tryd.func46, Tryd.ntmps46
    go_wp2_with fail
    go_ret
    exact Grows.mk (by simp [hne]) (Ext.refl _)
theorem agBools_c (v u : Value) (l m : List Bool) (w : World) (hv : BoolsV w v l) (hu : BoolsV w u m) :
    Calls Tryd.prog 45 #[v, u] w (Grows (.bool (decide (l = m))) w) := by
  obtain ⟨a, c, rfl, h1, h2⟩ := hv.open
  obtain ⟨a', c', rfl, h1', h2'⟩ := hu.open
  by_cases hlen : l.length = m.length
  · have HL := Lib.hid hlen
    rw [← hlen]
    clear hlen hv hu
    go_enter Tryd.func45, Tryd.ntmps45
    go_wp2_with fail
    go_loopw [5] (fun i wr => ∃ k : Nat, k ≤ l.length ∧ i = .int .i64 k ∧ Hid (l.take k = m.take k) ∧ Ext w wr) (fun i _ => l.length - (intOf i).toNat)
    case atStart => exact ⟨0, by omega, rfl, by simp [Hid], Ext.refl _⟩
    case round =>
      obtain ⟨k, hk, rfl, heq, hext⟩ := hrel
      by_cases hlt : k < l.length
      · obtain ⟨x, hx⟩ : ∃ x, l[k]? = some x := ⟨_, List.getElem?_eq_getElem hlt⟩
        obtain ⟨y, hy⟩ : ∃ x, m[k]? = some x := ⟨_, List.getElem?_eq_getElem (by rw [← HL.out]; exact hlt)⟩
        obtain ⟨b, off, rfl, -, hc⟩ := h2 k x hx
        obtain ⟨b', off', rfl, -, hc'⟩ := h2' k y hy
        have g1 : wr.cell? ⟨b, off + k, none⟩ = some (.bool x) := by have := hc k x hx; rw [Nat.mul_one] at this; exact hext.cell this
        have g2 : wr.cell? ⟨b', off' + k, none⟩ = some (.bool y) := by have := hc' k y hy; rw [Nat.mul_one] at this; exact hext.cell this
        clear hc hc' h2 h2'
        have HX := Lib.hid hx
        have HY := Lib.hid hy
        clear hx hy
        by_cases hxy : x = y
        · subst hxy
          go_wp2_with fail
          go_quiet (fail)
          go_wp2_with fail
          exact ⟨⟨k + 1, by omega, by go_num, by simp [Hid, List.take_add_one, HX.out, HY.out, heq.out], hext.trans (Ext.drewN _ _)⟩, by simp [intOf]; omega⟩
        · have hd : (x == y) = false := beq_eq_false_iff_ne.2 hxy
          go_wp2_with fail
          go_quiet (fail)
          go_wp2_with fail
          go_ret
          refine Grows.mk ?_ (hext.trans (Ext.drewN _ _))
          have : ¬ l = m := fun h => by subst h; have := HX.out; rw [HY.out] at this; cases this; exact hxy rfl
          simp [this]
      · obtain rfl : k = l.length := by omega
        go_wp2_with fail
        go_ret
        refine Grows.mk ?_ hext
        have := heq.out
        rw [List.take_length, HL.out, List.take_length] at this
        simp [this]
  · have hne : l ≠ m := fun h => hlen (by rw [h])
    go_enter Tryd.func45, Tryd.ntmps45
    go_wp2_with fail
    go_ret
    exact Grows.mk (by simp [hne]) (Ext.refl _)
end Go.Proofs.YtanekmfifmkbmaaDoor

namespace Go.Proofs.YtanekmfifmkbmaaDoor
set_option linter.unusedSimpArgs false
set_option linter.unusedVariables false
open Go.RowKit

set_option maxHeartbeats 400000

end Go.Proofs.YtanekmfifmkbmaaDoor

namespace Go.Proofs.YtanekmfifmkbmaaDoor
set_option linter.unusedSimpArgs false
set_option linter.unusedVariables false
open Go.RowKit

set_option maxHeartbeats 400000

theorem agAutomata_c (v u : Value) (x y : Auto) (w : World) (hv : AutoV w v x) (hu : AutoV w u y) :
    Calls Tryd.prog 16 #[v, u] w (Grows (.bool (decide (x = y))) w) := by
  obtain ⟨ve, va, rfl, h1, h3⟩ := hv
  obtain ⟨ue, ua, rfl, k1, k3⟩ := hu
  obtain ⟨al, l, ac⟩ := x
  obtain ⟨al', m, ac'⟩ := y
  simp only at h1 h3 k1 k3
  obtain ⟨a, c, rfl, hc1, h2⟩ := h1.open
  obtain ⟨a', c', rfl, hc2, h2'⟩ := k1.open
  clear h1 k1
  by_cases ha : al = al'
  · subst ha
    by_cases hlen : l.length = m.length
    · have HL := Lib.hid hlen
      rw [← hlen]
      clear hlen
      have he0 : Ext w ((w.alloc (.cells #[.int .i64 al, .slice a l.length c, va] 32)).alloc (.cells #[.int .i64 al, .slice a' l.length c', ua] 32)) := (Ext.alloc _ _).trans (Ext.alloc _ _)
      have b0 : Blk ((w.alloc (.cells #[.int .i64 al, .slice a l.length c, va] 32)).alloc (.cells #[.int .i64 al, .slice a' l.length c', ua] 32)) w.heap.size #[.int .i64 al, .slice a l.length c, va] 32 := Ext.blk (Ext.alloc _ _)
      have b1 : Blk ((w.alloc (.cells #[.int .i64 al, .slice a l.length c, va] 32)).alloc (.cells #[.int .i64 al, .slice a' l.length c', ua] 32)) (w.heap.size + 1) #[.int .i64 al, .slice a' l.length c', ua] 32 := Ext.blk1 (Ext.refl _)
      go_enter Tryd.func16, Tryd.ntmps16
      go_wp2_with fail
      generalize (w.alloc (.cells #[.int .i64 al, .slice a l.length c, va] 32)).alloc (.cells #[.int .i64 al, .slice a' l.length c', ua] 32) = w1 at he0 b0 b1 ⊢
      refine (agBools_c va ua ac ac' _ (h3.mono he0) (k3.mono he0)).mono ?_
      rintro e w2 ⟨rfl, he2⟩
      have he0 := he0.trans he2
      have b0 := b0.ext he2
      have b1 := b1.ext he2
      by_cases hb : ac = ac'
      · have hd : decide (ac = ac') = true := decide_eq_true hb
        have HB := Lib.hid hb
        clear hb
        go_wp2_with fail
        go_loopw [5] (fun i wr => ∃ k : Nat, k ≤ l.length ∧ i = .int .i64 k ∧ Hid (l.take k = m.take k) ∧ Ext w2 wr) (fun i _ => l.length - (intOf i).toNat)
        case atStart => exact ⟨0, by omega, rfl, by simp [Hid], Ext.refl _⟩
        case round =>
          obtain ⟨k, hk, rfl, heq, hext⟩ := hrel
          have gx := (b0.ext hext).cell 1 rfl
          have gy := (b1.ext hext).cell 1 rfl
          by_cases hlt : k < l.length
          · obtain ⟨x, hx⟩ : ∃ x, l[k]? = some x := ⟨_, List.getElem?_eq_getElem hlt⟩
            obtain ⟨y, hy⟩ : ∃ x, m[k]? = some x := ⟨_, List.getElem?_eq_getElem (by rw [← HL.out]; exact hlt)⟩
            obtain ⟨b, off, rfl, -, hc⟩ := h2 k x hx
            obtain ⟨b', off', rfl, -, hc'⟩ := h2' k y hy
            have HX := Lib.hid hx
            have HY := Lib.hid hy
            obtain ⟨vx, q1, hvx⟩ := (hc k x hx).mono (he0.trans hext)
            obtain ⟨vy, r1, hvy⟩ := (hc' k y hy).mono (he0.trans hext)
            rw [Nat.mul_one] at q1 r1
            clear hc hc' h2 h2' hx hy
            have gx' := fun d os => cell_regrown gx d os
            have gy' := fun d os => cell_regrown gy d os
            have g1 := fun d os => cell_regrown q1 d os
            have f1 := fun d os => cell_regrown r1 d os
            by_cases hxy : x = y
            · have hd : decide (x = y) = true := decide_eq_true hxy
              have HXY := Lib.hid hxy
              clear hxy
              go_wp2_with fail
              refine wp_region_quiet_below (by kernel_rfl) (by kernel_rfl) ?_
              repeat (go_big_quiet_step ((go_at_call 46; exact Grows.quiet (agInts_c vx vy x y _ (hvx.mono (below_regrown _ _ _)) (hvy.mono (below_regrown _ _ _))))))
              refine wpQuiet_nil ?_
              intro _ hw'
              obtain ⟨⟨dq, osq⟩, hw''⟩ := hw'
              subst hw''
              have hq : Ext wr (Go.Sort.grow (redrawn wr dq) osq) := below_regrown wr dq osq
              generalize Go.Sort.grow (redrawn wr dq) osq = wq at hq ⊢
              go_wp2_with fail
              exact ⟨⟨k + 1, by omega, by go_num, by simp [Hid, List.take_add_one, HX.out, HY.out, heq.out, HXY.out], hext.trans hq⟩, by simp [intOf]; omega⟩
            · have hd : decide (x = y) = false := decide_eq_false hxy
              have HXY := Lib.hid hxy
              clear hxy
              go_wp2_with fail
              refine wp_region_quiet_below (by kernel_rfl) (by kernel_rfl) ?_
              repeat (go_big_quiet_step ((go_at_call 46; exact Grows.quiet (agInts_c vx vy x y _ (hvx.mono (below_regrown _ _ _)) (hvy.mono (below_regrown _ _ _))))))
              refine wpQuiet_nil ?_
              intro _ hw'
              obtain ⟨⟨dq, osq⟩, hw''⟩ := hw'
              subst hw''
              have hq : Ext wr (Go.Sort.grow (redrawn wr dq) osq) := below_regrown wr dq osq
              generalize Go.Sort.grow (redrawn wr dq) osq = wq at hq ⊢
              go_wp2_with fail
              go_ret
              refine Grows.mk ?_ (he0.trans (hext.trans hq))
              have : ¬ l = m := fun h => by subst h; have := HX.out; rw [HY.out] at this; cases this; exact HXY.out rfl
              simp [this]
          · obtain rfl : k = l.length := by omega
            go_wp2_with fail
            go_ret
            refine Grows.mk ?_ (he0.trans hext)
            have := heq.out
            rw [List.take_length, HL.out, List.take_length] at this
            simp [this, HB.out]
      · have hd : decide (ac = ac') = false := decide_eq_false hb
        have HB := Lib.hid hb
        clear hb
        go_wp2_with fail
        go_ret
        exact Grows.mk (by simp [HB.out]) he0
    · have hne : l ≠ m := fun h => hlen (by rw [h])
      have hl' : ((l.length : Int) == (m.length : Int)) = false := beq_eq_false_iff_ne.2 (by omega)
      go_enter Tryd.func16, Tryd.ntmps16
      go_wp2_with fail
      go_ret
      exact Grows.mk (by simp [hne]) ((Ext.alloc _ _).trans (Ext.alloc _ _))
  · go_enter Tryd.func16, Tryd.ntmps16
    go_wp2_with fail
    go_ret
    exact Grows.mk (by simp [ha]) ((Ext.alloc _ _).trans (Ext.alloc _ _))
end Go.Proofs.YtanekmfifmkbmaaDoor

namespace Go.Proofs.YtanekmfifmkbmaaDoor
set_option linter.unusedSimpArgs false
set_option linter.unusedVariables false
open Go.RowKit

set_option maxHeartbeats 400000

end Go.Proofs.YtanekmfifmkbmaaDoor
