/- Walks: copies and equalities of edges, systems, automata. -/
import Derived.Test.YtdaafbjgjjhklaaWalkA
namespace Go.Proofs.Ytdaafbjgjjhklaa
set_option linter.unusedSimpArgs false
set_option linter.unusedVariables false
open Go.RowKit

set_option maxHeartbeats 400000

theorem eqEdge_c (x y : Edge) (w : World) : Calls Try.prog 99 #[edgeVal x, edgeVal y] w (Grows (.bool (decide (x = y))) w) := by
  obtain ⟨a, b, c⟩ := x
  obtain ⟨a', b', c'⟩ := y
  unfold edgeVal
  by_cases h1 : a = a'
  · subst h1
    by_cases h2 : b = b'
    · subst h2
      by_cases h3 : c = c'
      · subst h3
        go_enter Try.func99, Try.ntmps99
        go_wp2
        go_ret
        exact Grows.mk (by simp) ((Ext.alloc _ _).trans (Ext.alloc _ _))
      · go_enter Try.func99, Try.ntmps99
        go_wp2
        go_ret
        exact Grows.mk (by simp [h3]) ((Ext.alloc _ _).trans (Ext.alloc _ _))
    · go_enter Try.func99, Try.ntmps99
      go_wp2
      go_ret
      exact Grows.mk (by simp [h2]) ((Ext.alloc _ _).trans (Ext.alloc _ _))
  · go_enter Try.func99, Try.ntmps99
    go_wp2
    go_ret
    exact Grows.mk (by simp [h1]) ((Ext.alloc _ _).trans (Ext.alloc _ _))

theorem eqEdgeS_c (v u : Value) (l m : List Edge) (w : World) (hv : EdgesV w v l) (hu : EdgesV w u m) :
    Calls Try.prog 60 #[v, u] w (Grows (.bool (decide (l = m))) w) := by
  obtain ⟨a, c, rfl, h1, h2⟩ := hv.open
  obtain ⟨a', c', rfl, h1', h2'⟩ := hu.open
  by_cases hlen : l.length = m.length
  · have HL := Lib.hid hlen
    rw [← hlen]
    clear hlen hv hu
    go_enter Try.func60, Try.ntmps60
    go_wp2_with fail
    go_loopw [5] (fun i wr => ∃ k : Nat, k ≤ l.length ∧ i = .int .i64 k ∧ Hid (l.take k = m.take k) ∧ Ext w wr) (fun i _ => l.length - (intOf i).toNat)
    case atStart => exact ⟨0, by omega, rfl, by simp [Hid], Ext.refl _⟩
    case round =>
      obtain ⟨k, hk, rfl, heq, hext⟩ := hrel
      by_cases hlt : k < l.length
      · obtain ⟨x, hx⟩ : ∃ x, l[k]? = some x := ⟨_, List.getElem?_eq_getElem hlt⟩
        obtain ⟨y, hy⟩ : ∃ x, m[k]? = some x := ⟨_, List.getElem?_eq_getElem (by rw [← HL.out]; exact hlt)⟩
        obtain ⟨b, off, rfl, -, hc⟩ := h2 k x hx
        obtain ⟨b', off', rfl, -, hc'⟩ := h2' k y hy
        have HX := Lib.hid hx
        have HY := Lib.hid hy
        obtain ⟨q1, q2, q3⟩ := (hc k x hx).mono hext
        obtain ⟨r1, r2, r3⟩ := (hc' k y hy).mono hext
        clear hc hc' h2 h2' hx hy
        have g1 := fun d os => cell_regrown q1 d os
        have g2 := fun d os => cell_regrown q2 d os
        have g3 := fun d os => cell_regrown q3 d os
        have f1 := fun d os => cell_regrown r1 d os
        have f2 := fun d os => cell_regrown r2 d os
        have f3 := fun d os => cell_regrown r3 d os
        by_cases hxy : x = y
        · subst hxy
          go_wp2_with fail
          refine wp_region_quiet_below (by kernel_rfl) (by kernel_rfl) ?_
          repeat (go_big_quiet_step ((go_at_call 99; exact Grows.quiet (eqEdge_c x x _))))
          refine wpQuiet_nil ?_
          intro _ hw'
          obtain ⟨⟨dq, osq⟩, hw''⟩ := hw'
          subst hw''
          have hq : Ext wr (Go.Sort.grow (redrawn wr dq) osq) := below_regrown wr dq osq
          generalize Go.Sort.grow (redrawn wr dq) osq = wq at hq ⊢
          go_wp2_with fail
          exact ⟨⟨k + 1, by omega, by go_num, by simp [Hid, List.take_add_one, HX.out, HY.out, heq.out], hext.trans hq⟩, by simp [intOf]; omega⟩
        · have hd : decide (x = y) = false := decide_eq_false hxy
          go_wp2_with fail
          refine wp_region_quiet_below (by kernel_rfl) (by kernel_rfl) ?_
          repeat (go_big_quiet_step ((go_at_call 99; exact Grows.quiet (eqEdge_c x y _))))
          refine wpQuiet_nil ?_
          intro _ hw'
          obtain ⟨⟨dq, osq⟩, hw''⟩ := hw'
          subst hw''
          have hq : Ext wr (Go.Sort.grow (redrawn wr dq) osq) := below_regrown wr dq osq
          generalize Go.Sort.grow (redrawn wr dq) osq = wq at hq ⊢
          go_wp2_with fail
          go_ret
          refine Grows.mk ?_ (hext.trans hq)
          have : ¬ l = m := fun h => by subst h; have := HX.out; rw [HY.out] at this; cases this; exact hxy rfl
          simp [this]
      · obtain rfl : k = l.length := by omega
        go_wp2_with fail
        go_ret
        refine Grows.mk ?_ hext
        have := heq.out
        rw [List.take_length, HL.out, List.take_length] at this
        simp [this]
  · have hne : l ≠ m := fun h => hlen (by rw [h])
    go_enter Try.func60, Try.ntmps60
    go_wp2_with fail
    go_ret
    exact Grows.mk (by simp [hne]) (Ext.refl _)
end Go.Proofs.Ytdaafbjgjjhklaa
