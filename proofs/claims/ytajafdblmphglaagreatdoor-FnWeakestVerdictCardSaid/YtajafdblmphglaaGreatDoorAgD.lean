/- Merged: AgA, AgB, AgC, AgD. -/
import Derived.Test.YtajafdblmphglaaGreatDoorRows
import Derived.Test.YtajafdblmphglaaGreatDoorWalkA
import Derived.Test.YtajafdblmphglaaGreatDoorWalkE

namespace Go.Proofs.YtajafdblmphglaaGreatDoor
set_option linter.unusedSimpArgs false
set_option linter.unusedVariables false
open Go.RowKit

set_option maxHeartbeats 400000

theorem agInts_c (v u : Value) (l m : List Int) (w : World) (hv : IntsV w v l) (hu : IntsV w u m) :
    Calls Tryz.prog 75 #[v, u] w (Grows (.bool (decide (l = m))) w) := by
  obtain ⟨a, c, rfl, h1, h2⟩ := hv.open
  obtain ⟨a', c', rfl, h1', h2'⟩ := hu.open
  by_cases hlen : l.length = m.length
  · have HL := Lib.hid hlen
    rw [← hlen]
    clear hlen hv hu
    go_enter Tryz.func75, Tryz.ntmps75
    go_wp2_with fail
    go_loopw [5] (fun i wr => ∃ k : Nat, k ≤ l.length ∧ i = .int .i64 k ∧ Hid (l.take k = m.take k) ∧ Ext w wr) (fun i _ => l.length - (intOf i).toNat)
    case atStart => exact ⟨0, by omega, rfl, by simp [Hid], Ext.refl _⟩
    case round =>
      obtain ⟨k, hk, rfl, heq, hext⟩ := hrel
      by_cases hlt : k < l.length
      · obtain ⟨x, hx⟩ : ∃ x, l[k]? = some x := ⟨_, List.getElem?_eq_getElem hlt⟩
        obtain ⟨y, hy⟩ : ∃ x, m[k]? = some x := ⟨_, List.getElem?_eq_getElem (by rw [← HL.out]; exact hlt)⟩
        obtain ⟨b, off, rfl, -, hc⟩ := h2 k x hx
        obtain ⟨b', off', rfl, -, hc'⟩ := h2' k y hy
        have g1 : wr.cell? ⟨b, off + k, none⟩ = some (.int .i64 x) := by have := hc k x hx; rw [Nat.mul_one] at this; exact hext.cell this
        have g2 : wr.cell? ⟨b', off' + k, none⟩ = some (.int .i64 y) := by have := hc' k y hy; rw [Nat.mul_one] at this; exact hext.cell this
        clear hc hc' h2 h2'
        have HX := Lib.hid hx
        have HY := Lib.hid hy
        clear hx hy
        by_cases hxy : x = y
        · subst hxy
          go_wp2_with fail
          go_quiet (fail)
          go_wp2_with fail
          exact ⟨⟨k + 1, by omega, by go_num, by simp [Hid, List.take_add_one, HX.out, HY.out, heq.out], hext.trans (Ext.drewN _ _)⟩, by simp [intOf]; omega⟩
        · go_wp2_with fail
          go_quiet (fail)
          go_wp2_with fail
          go_ret
          refine Grows.mk ?_ (hext.trans (Ext.drewN _ _))
          have : ¬ l = m := fun h => by subst h; have := HX.out; rw [HY.out] at this; cases this; exact hxy rfl
          simp [this]
      · obtain rfl : k = l.length := by omega
        go_wp2_with fail
        go_ret
        refine Grows.mk ?_ hext
        have := heq.out
        rw [List.take_length, HL.out, List.take_length] at this
        simp [this]
  · have hne : l ≠ m := fun h => hlen (by rw [h])
    go_enter Tryz.func75, Tryz.ntmps75
    go_wp2_with fail
    go_ret
    exact Grows.mk (by simp [hne]) (Ext.refl _)
theorem agBools_c (v u : Value) (l m : List Bool) (w : World) (hv : BoolsV w v l) (hu : BoolsV w u m) :
    Calls Tryz.prog 74 #[v, u] w (Grows (.bool (decide (l = m))) w) := by
  obtain ⟨a, c, rfl, h1, h2⟩ := hv.open
  obtain ⟨a', c', rfl, h1', h2'⟩ := hu.open
  by_cases hlen : l.length = m.length
  · have HL := Lib.hid hlen
    rw [← hlen]
    clear hlen hv hu
    go_enter Tryz.func74, Tryz.ntmps74
    go_wp2_with fail
    go_loopw [5] (fun i wr => ∃ k : Nat, k ≤ l.length ∧ i = .int .i64 k ∧ Hid (l.take k = m.take k) ∧ Ext w wr) (fun i _ => l.length - (intOf i).toNat)
    case atStart => exact ⟨0, by omega, rfl, by simp [Hid], Ext.refl _⟩
    case round =>
      obtain ⟨k, hk, rfl, heq, hext⟩ := hrel
      by_cases hlt : k < l.length
      · obtain ⟨x, hx⟩ : ∃ x, l[k]? = some x := ⟨_, List.getElem?_eq_getElem hlt⟩
        obtain ⟨y, hy⟩ : ∃ x, m[k]? = some x := ⟨_, List.getElem?_eq_getElem (by rw [← HL.out]; exact hlt)⟩
        obtain ⟨b, off, rfl, -, hc⟩ := h2 k x hx
        obtain ⟨b', off', rfl, -, hc'⟩ := h2' k y hy
        have g1 : wr.cell? ⟨b, off + k, none⟩ = some (.bool x) := by have := hc k x hx; rw [Nat.mul_one] at this; exact hext.cell this
        have g2 : wr.cell? ⟨b', off' + k, none⟩ = some (.bool y) := by have := hc' k y hy; rw [Nat.mul_one] at this; exact hext.cell this
        clear hc hc' h2 h2'
        have HX := Lib.hid hx
        have HY := Lib.hid hy
        clear hx hy
        by_cases hxy : x = y
        · subst hxy
          go_wp2_with fail
          go_quiet (fail)
          go_wp2_with fail
          exact ⟨⟨k + 1, by omega, by go_num, by simp [Hid, List.take_add_one, HX.out, HY.out, heq.out], hext.trans (Ext.drewN _ _)⟩, by simp [intOf]; omega⟩
        · have hd : (x == y) = false := beq_eq_false_iff_ne.2 hxy
          go_wp2_with fail
          go_quiet (fail)
          go_wp2_with fail
          go_ret
          refine Grows.mk ?_ (hext.trans (Ext.drewN _ _))
          have : ¬ l = m := fun h => by subst h; have := HX.out; rw [HY.out] at this; cases this; exact hxy rfl
          simp [this]
      · obtain rfl : k = l.length := by omega
        go_wp2_with fail
        go_ret
        refine Grows.mk ?_ hext
        have := heq.out
        rw [List.take_length, HL.out, List.take_length] at this
        simp [this]
  · have hne : l ≠ m := fun h => hlen (by rw [h])
    go_enter Tryz.func74, Tryz.ntmps74
    go_wp2_with fail
    go_ret
    exact Grows.mk (by simp [hne]) (Ext.refl _)
end Go.Proofs.YtajafdblmphglaaGreatDoor

namespace Go.Proofs.YtajafdblmphglaaGreatDoor
set_option linter.unusedSimpArgs false
set_option linter.unusedVariables false
open Go.RowKit

set_option maxHeartbeats 400000

theorem agSystems_c (v u : Value) (x y : Sys) (w : World) (hv : SysV w v x) (hu : SysV w u y) :
    Calls Tryz.prog 63 #[v, u] w (Grows (.bool (decide (x = y))) w) := by
  obtain ⟨ve, rfl, h1⟩ := hv
  obtain ⟨ue, rfl, k1⟩ := hu
  obtain ⟨al, st, l⟩ := x
  obtain ⟨al', st', m⟩ := y
  simp only at h1 k1
  obtain ⟨a, c, rfl, hc1, h2⟩ := h1.open
  obtain ⟨a', c', rfl, hc2, h2'⟩ := k1.open
  clear h1 k1
  by_cases ha : al = al'
  · subst ha
    by_cases hs : st = st'
    · subst hs
      by_cases hlen : l.length = m.length
      · have HL := Lib.hid hlen
        rw [← hlen]
        clear hlen
        have he0 : Ext w ((w.alloc (.cells #[.int .i64 al, .int .i64 st, .slice a l.length c] 25)).alloc (.cells #[.int .i64 al, .int .i64 st, .slice a' l.length c'] 25)) := (Ext.alloc _ _).trans (Ext.alloc _ _)
        have b0 : Blk ((w.alloc (.cells #[.int .i64 al, .int .i64 st, .slice a l.length c] 25)).alloc (.cells #[.int .i64 al, .int .i64 st, .slice a' l.length c'] 25)) w.heap.size #[.int .i64 al, .int .i64 st, .slice a l.length c] 25 := Ext.blk (Ext.alloc _ _)
        have b1 : Blk ((w.alloc (.cells #[.int .i64 al, .int .i64 st, .slice a l.length c] 25)).alloc (.cells #[.int .i64 al, .int .i64 st, .slice a' l.length c'] 25)) (w.heap.size + 1) #[.int .i64 al, .int .i64 st, .slice a' l.length c'] 25 := Ext.blk1 (Ext.refl _)
        go_enter Tryz.func63, Tryz.ntmps63
        go_wp2_with fail
        generalize (w.alloc (.cells #[.int .i64 al, .int .i64 st, .slice a l.length c] 25)).alloc (.cells #[.int .i64 al, .int .i64 st, .slice a' l.length c'] 25) = w2 at he0 b0 b1 ⊢
        go_loopw [5] (fun i wr => ∃ k : Nat, k ≤ l.length ∧ i = .int .i64 k ∧ Hid (l.take k = m.take k) ∧ Ext w2 wr) (fun i _ => l.length - (intOf i).toNat)
        case atStart => exact ⟨0, by omega, rfl, by simp [Hid], Ext.refl _⟩
        case round =>
          obtain ⟨k, hk, rfl, heq, hext⟩ := hrel
          have gx := (b0.ext hext).cell 2 rfl
          have gy := (b1.ext hext).cell 2 rfl
          by_cases hlt : k < l.length
          · obtain ⟨x, hx⟩ : ∃ x, l[k]? = some x := ⟨_, List.getElem?_eq_getElem hlt⟩
            obtain ⟨y, hy⟩ : ∃ x, m[k]? = some x := ⟨_, List.getElem?_eq_getElem (by rw [← HL.out]; exact hlt)⟩
            obtain ⟨b, off, rfl, -, hc⟩ := h2 k x hx
            obtain ⟨b', off', rfl, -, hc'⟩ := h2' k y hy
            have HX := Lib.hid hx
            have HY := Lib.hid hy
            obtain ⟨q1, q2, q3⟩ := (hc k x hx).mono (he0.trans hext)
            obtain ⟨r1, r2, r3⟩ := (hc' k y hy).mono (he0.trans hext)
            clear hc hc' h2 h2' hx hy
            obtain ⟨x1, x2, x3⟩ := x
            obtain ⟨y1, y2, y3⟩ := y
            simp only at q1 q2 q3 r1 r2 r3
            by_cases e1 : x1 = y1
            · subst e1
              by_cases e2 : x2 = y2
              · subst e2
                by_cases e3 : x3 = y3
                · subst e3
                  go_wp2_with fail
                  go_region
                  all_goals go_wp2_with fail
                  all_goals exact ⟨⟨k + 1, by omega, by go_num, by simp [Hid, List.take_add_one, HX.out, HY.out, heq.out], hext.trans (Ext.drew _)⟩, by simp [intOf]; omega⟩
                · clear heq
                  go_wp2_with fail
                  go_region
                  all_goals go_wp2_with fail
                  all_goals go_ret
                  all_goals refine Grows.mk ?_ (he0.trans (hext.trans (Ext.drew _)))
                  all_goals
                    have : ¬ l = m := fun h => by subst h; have := HX.out; rw [HY.out] at this; cases this; exact e3 rfl
                    simp [this]
              · clear heq
                go_wp2_with fail
                go_region
                all_goals go_wp2_with fail
                all_goals go_ret
                all_goals refine Grows.mk ?_ (he0.trans (hext.trans (Ext.drew _)))
                all_goals
                  have : ¬ l = m := fun h => by subst h; have := HX.out; rw [HY.out] at this; cases this; exact e2 rfl
                  simp [this]
            · clear heq
              go_wp2_with fail
              go_region
              all_goals go_wp2_with fail
              all_goals go_ret
              all_goals refine Grows.mk ?_ (he0.trans (hext.trans (Ext.drew _)))
              all_goals
                have : ¬ l = m := fun h => by subst h; have := HX.out; rw [HY.out] at this; cases this; exact e1 rfl
                simp [this]
          · obtain rfl : k = l.length := by omega
            go_wp2_with fail
            go_ret
            refine Grows.mk ?_ (he0.trans hext)
            have := heq.out
            rw [List.take_length, HL.out, List.take_length] at this
            simp [this]
      · have hne : l ≠ m := fun h => hlen (by rw [h])
        have hl' : ((l.length : Int) == (m.length : Int)) = false := beq_eq_false_iff_ne.2 (by omega)
        go_enter Tryz.func63, Tryz.ntmps63
        go_wp2_with fail
        go_ret
        exact Grows.mk (by simp [hne]) ((Ext.alloc _ _).trans (Ext.alloc _ _))
    · go_enter Tryz.func63, Tryz.ntmps63
      go_wp2_with fail
      go_ret
      exact Grows.mk (by simp [hs]) ((Ext.alloc _ _).trans (Ext.alloc _ _))
  · go_enter Tryz.func63, Tryz.ntmps63
    go_wp2_with fail
    go_ret
    exact Grows.mk (by simp [ha]) ((Ext.alloc _ _).trans (Ext.alloc _ _))
end Go.Proofs.YtajafdblmphglaaGreatDoor

namespace Go.Proofs.YtajafdblmphglaaGreatDoor
set_option linter.unusedSimpArgs false
set_option linter.unusedVariables false
open Go.RowKit

set_option maxHeartbeats 400000

theorem agAutomata_c (v u : Value) (x y : Auto) (w : World) (hv : AutoV w v x) (hu : AutoV w u y) :
    Calls Tryz.prog 27 #[v, u] w (Grows (.bool (decide (x = y))) w) := by
  obtain ⟨ve, va, rfl, h1, h3⟩ := hv
  obtain ⟨ue, ua, rfl, k1, k3⟩ := hu
  obtain ⟨al, l, ac⟩ := x
  obtain ⟨al', m, ac'⟩ := y
  simp only at h1 h3 k1 k3
  obtain ⟨a, c, rfl, hc1, h2⟩ := h1.open
  obtain ⟨a', c', rfl, hc2, h2'⟩ := k1.open
  clear h1 k1
  by_cases ha : al = al'
  · subst ha
    by_cases hlen : l.length = m.length
    · have HL := Lib.hid hlen
      rw [← hlen]
      clear hlen
      have he0 : Ext w ((w.alloc (.cells #[.int .i64 al, .slice a l.length c, va] 29)).alloc (.cells #[.int .i64 al, .slice a' l.length c', ua] 29)) := (Ext.alloc _ _).trans (Ext.alloc _ _)
      have b0 : Blk ((w.alloc (.cells #[.int .i64 al, .slice a l.length c, va] 29)).alloc (.cells #[.int .i64 al, .slice a' l.length c', ua] 29)) w.heap.size #[.int .i64 al, .slice a l.length c, va] 29 := Ext.blk (Ext.alloc _ _)
      have b1 : Blk ((w.alloc (.cells #[.int .i64 al, .slice a l.length c, va] 29)).alloc (.cells #[.int .i64 al, .slice a' l.length c', ua] 29)) (w.heap.size + 1) #[.int .i64 al, .slice a' l.length c', ua] 29 := Ext.blk1 (Ext.refl _)
      go_enter Tryz.func27, Tryz.ntmps27
      go_wp2_with fail
      generalize (w.alloc (.cells #[.int .i64 al, .slice a l.length c, va] 29)).alloc (.cells #[.int .i64 al, .slice a' l.length c', ua] 29) = w1 at he0 b0 b1 ⊢
      refine (agBools_c va ua ac ac' _ (h3.mono he0) (k3.mono he0)).mono ?_
      rintro e w2 ⟨rfl, he2⟩
      have he0 := he0.trans he2
      have b0 := b0.ext he2
      have b1 := b1.ext he2
      by_cases hb : ac = ac'
      · have hd : decide (ac = ac') = true := decide_eq_true hb
        have HB := Lib.hid hb
        clear hb
        go_wp2_with fail
        go_loopw [5] (fun i wr => ∃ k : Nat, k ≤ l.length ∧ i = .int .i64 k ∧ Hid (l.take k = m.take k) ∧ Ext w2 wr) (fun i _ => l.length - (intOf i).toNat)
        case atStart => exact ⟨0, by omega, rfl, by simp [Hid], Ext.refl _⟩
        case round =>
          obtain ⟨k, hk, rfl, heq, hext⟩ := hrel
          have gx := (b0.ext hext).cell 1 rfl
          have gy := (b1.ext hext).cell 1 rfl
          by_cases hlt : k < l.length
          · obtain ⟨x, hx⟩ : ∃ x, l[k]? = some x := ⟨_, List.getElem?_eq_getElem hlt⟩
            obtain ⟨y, hy⟩ : ∃ x, m[k]? = some x := ⟨_, List.getElem?_eq_getElem (by rw [← HL.out]; exact hlt)⟩
            obtain ⟨b, off, rfl, -, hc⟩ := h2 k x hx
            obtain ⟨b', off', rfl, -, hc'⟩ := h2' k y hy
            have HX := Lib.hid hx
            have HY := Lib.hid hy
            obtain ⟨vx, q1, hvx⟩ := (hc k x hx).mono (he0.trans hext)
            obtain ⟨vy, r1, hvy⟩ := (hc' k y hy).mono (he0.trans hext)
            rw [Nat.mul_one] at q1 r1
            clear hc hc' h2 h2' hx hy
            have gx' := fun d os => cell_regrown gx d os
            have gy' := fun d os => cell_regrown gy d os
            have g1 := fun d os => cell_regrown q1 d os
            have f1 := fun d os => cell_regrown r1 d os
            by_cases hxy : x = y
            · have hd : decide (x = y) = true := decide_eq_true hxy
              have HXY := Lib.hid hxy
              clear hxy
              go_wp2_with fail
              refine wp_region_quiet_below (by kernel_rfl) (by kernel_rfl) ?_
              repeat (go_big_quiet_step ((go_at_call 75; exact Grows.quiet (agInts_c vx vy x y _ (hvx.mono (below_regrown _ _ _)) (hvy.mono (below_regrown _ _ _))))))
              refine wpQuiet_nil ?_
              intro _ hw'
              obtain ⟨⟨dq, osq⟩, hw''⟩ := hw'
              subst hw''
              have hq : Ext wr (Go.Sort.grow (redrawn wr dq) osq) := below_regrown wr dq osq
              generalize Go.Sort.grow (redrawn wr dq) osq = wq at hq ⊢
              go_wp2_with fail
              exact ⟨⟨k + 1, by omega, by go_num, by simp [Hid, List.take_add_one, HX.out, HY.out, heq.out, HXY.out], hext.trans hq⟩, by simp [intOf]; omega⟩
            · have hd : decide (x = y) = false := decide_eq_false hxy
              have HXY := Lib.hid hxy
              clear hxy
              go_wp2_with fail
              refine wp_region_quiet_below (by kernel_rfl) (by kernel_rfl) ?_
              repeat (go_big_quiet_step ((go_at_call 75; exact Grows.quiet (agInts_c vx vy x y _ (hvx.mono (below_regrown _ _ _)) (hvy.mono (below_regrown _ _ _))))))
              refine wpQuiet_nil ?_
              intro _ hw'
              obtain ⟨⟨dq, osq⟩, hw''⟩ := hw'
              subst hw''
              have hq : Ext wr (Go.Sort.grow (redrawn wr dq) osq) := below_regrown wr dq osq
              generalize Go.Sort.grow (redrawn wr dq) osq = wq at hq ⊢
              go_wp2_with fail
              go_ret
              refine Grows.mk ?_ (he0.trans (hext.trans hq))
              have : ¬ l = m := fun h => by subst h; have := HX.out; rw [HY.out] at this; cases this; exact HXY.out rfl
              simp [this]
          · obtain rfl : k = l.length := by omega
            go_wp2_with fail
            go_ret
            refine Grows.mk ?_ (he0.trans hext)
            have := heq.out
            rw [List.take_length, HL.out, List.take_length] at this
            simp [this, HB.out]
      · have hd : decide (ac = ac') = false := decide_eq_false hb
        have HB := Lib.hid hb
        clear hb
        go_wp2_with fail
        go_ret
        exact Grows.mk (by simp [HB.out]) he0
    · have hne : l ≠ m := fun h => hlen (by rw [h])
      have hl' : ((l.length : Int) == (m.length : Int)) = false := beq_eq_false_iff_ne.2 (by omega)
      go_enter Tryz.func27, Tryz.ntmps27
      go_wp2_with fail
      go_ret
      exact Grows.mk (by simp [hne]) ((Ext.alloc _ _).trans (Ext.alloc _ _))
  · go_enter Tryz.func27, Tryz.ntmps27
    go_wp2_with fail
    go_ret
    exact Grows.mk (by simp [ha]) ((Ext.alloc _ _).trans (Ext.alloc _ _))
end Go.Proofs.YtajafdblmphglaaGreatDoor

namespace Go.Proofs.YtajafdblmphglaaGreatDoor
set_option linter.unusedSimpArgs false
set_option linter.unusedVariables false
open Go.RowKit

set_option maxHeartbeats 400000

theorem agTasks_c (v u : Value) (x y : Task) (w : World) (hv : TaskV w v x) (hu : TaskV w u y) :
    Calls Tryz.prog 21 #[v, u] w (Grows (.bool (decide (x = y))) w) := by
  obtain ⟨ve, vn, va, rfl, h1, h2, h3⟩ := hv
  obtain ⟨ue, un, ua, rfl, k1, k2, k3⟩ := hu
  obtain ⟨S, A, al⟩ := x
  obtain ⟨S', A', al'⟩ := y
  simp only at h1 h2 h3 k1 k2 k3
  have hE : ∀ o1 o2, Ext w ((w.alloc o1).alloc o2) := fun _ _ => ((Ext.alloc _ _).trans (Ext.alloc _ _))
  go_enter Tryz.func21, Tryz.ntmps21
  go_wp2_with fail
  refine (agSystems_c _ _ S S' _ ⟨ve, rfl, h1.mono (hE _ _)⟩ ⟨ue, rfl, k1.mono (hE _ _)⟩).mono ?_
  clear hE
  rintro e w1 ⟨rfl, he1⟩
  have b0 := he1.peel.blk
  have b1 := he1.blk1
  have hw := he1.peel.peel
  have cc3 := b0.cell 3 rfl; have cc4 := b0.cell 4 rfl; have cc5 := b0.cell 5 rfl; have cc6 := b0.cell 6 rfl
  have dc3 := b1.cell 3 rfl; have dc4 := b1.cell 4 rfl; have dc5 := b1.cell 5 rfl; have dc6 := b1.cell 6 rfl
  by_cases hb : S = S'
  · have hd : decide (S = S') = true := decide_eq_true hb
    have HB := Lib.hid hb
    clear hb
    go_wp2_with fail
    refine (agAutomata_c _ _ A A' _ ⟨vn, va, rfl, h2.mono hw, h3.mono hw⟩ ⟨un, ua, rfl, k2.mono hw, k3.mono hw⟩).mono ?_
    rintro e w2 ⟨rfl, he2⟩
    have e0 := he2.cell cc6
    have e1 := he2.cell dc6
    by_cases hc : A = A'
    · have hd2 : decide (A = A') = true := decide_eq_true hc
      have HC := Lib.hid hc
      clear hc
      by_cases ha : al = al'
      · subst ha
        go_wp2_with fail
        go_ret
        exact Grows.mk (by simp [HB.out, HC.out]) (hw.trans he2)
      · go_wp2_with fail
        go_ret
        exact Grows.mk (by simp [ha]) (hw.trans he2)
    · have hd2 : decide (A = A') = false := decide_eq_false hc
      have HC := Lib.hid hc
      clear hc
      go_wp2_with fail
      go_ret
      exact Grows.mk (by simp [HC.out]) (hw.trans he2)
  · have hd : decide (S = S') = false := decide_eq_false hb
    have HB := Lib.hid hb
    clear hb
    go_wp2_with fail
    go_ret
    exact Grows.mk (by simp [HB.out]) hw
end Go.Proofs.YtajafdblmphglaaGreatDoor
