/- Walks: equalities of structs. -/
import Derived.Test.YtdaafbjgjjhklaaWalkF
namespace Go.Proofs.Ytdaafbjgjjhklaa
set_option linter.unusedSimpArgs false
set_option linter.unusedVariables false
open Go.RowKit

set_option maxHeartbeats 400000

theorem eqIntSS_c (v u : Value) (l m : List (List Int)) (w : World) (hv : IntssV w v l) (hu : IntssV w u m) :
    Calls Try.prog 54 #[v, u] w (Grows (.bool (decide (l = m))) w) := by
  obtain ⟨a, c, rfl, h1, h2⟩ := hv.open
  obtain ⟨a', c', rfl, h1', h2'⟩ := hu.open
  by_cases hlen : l.length = m.length
  · have HL := Lib.hid hlen
    rw [← hlen]
    clear hlen hv hu
    go_enter Try.func54, Try.ntmps54
    go_wp2_with fail
    go_loopw [5] (fun i wr => ∃ k : Nat, k ≤ l.length ∧ i = .int .i64 k ∧ Hid (l.take k = m.take k) ∧ Ext w wr) (fun i _ => l.length - (intOf i).toNat)
    case atStart => exact ⟨0, by omega, rfl, by simp [Hid], Ext.refl _⟩
    case round =>
      obtain ⟨k, hk, rfl, heq, hext⟩ := hrel
      by_cases hlt : k < l.length
      · obtain ⟨x, hx⟩ : ∃ x, l[k]? = some x := ⟨_, List.getElem?_eq_getElem hlt⟩
        obtain ⟨y, hy⟩ : ∃ x, m[k]? = some x := ⟨_, List.getElem?_eq_getElem (by rw [← HL.out]; exact hlt)⟩
        obtain ⟨b, off, rfl, -, hc⟩ := h2 k x hx
        obtain ⟨b', off', rfl, -, hc'⟩ := h2' k y hy
        have HX := Lib.hid hx
        have HY := Lib.hid hy
        obtain ⟨vx, q1, hvx⟩ := (hc k x hx).mono hext
        obtain ⟨vy, r1, hvy⟩ := (hc' k y hy).mono hext
        rw [Nat.mul_one] at q1 r1
        clear hc hc' h2 h2' hx hy
        have g1 := fun d os => cell_regrown q1 d os
        have f1 := fun d os => cell_regrown r1 d os
        by_cases hxy : x = y
        · have hd : decide (x = y) = true := decide_eq_true hxy
          have HXY := Lib.hid hxy
          clear hxy
          go_wp2_with fail
          refine wp_region_quiet_below (by kernel_rfl) (by kernel_rfl) ?_
          repeat (go_big_quiet_step ((go_at_call 93; exact Grows.quiet (eqIntS_c vx vy x y _ (hvx.mono (below_regrown _ _ _)) (hvy.mono (below_regrown _ _ _))))))
          refine wpQuiet_nil ?_
          intro _ hw'
          obtain ⟨⟨dq, osq⟩, hw''⟩ := hw'
          subst hw''
          have hq : Ext wr (Go.Sort.grow (redrawn wr dq) osq) := below_regrown wr dq osq
          generalize Go.Sort.grow (redrawn wr dq) osq = wq at hq ⊢
          go_wp2_with fail
          exact ⟨⟨k + 1, by omega, by go_num, by simp [Hid, List.take_add_one, HX.out, HY.out, heq.out, HXY.out], hext.trans hq⟩, by simp [intOf]; omega⟩
        · have hd : decide (x = y) = false := decide_eq_false hxy
          have HXY := Lib.hid hxy
          clear hxy
          go_wp2_with fail
          refine wp_region_quiet_below (by kernel_rfl) (by kernel_rfl) ?_
          repeat (go_big_quiet_step ((go_at_call 93; exact Grows.quiet (eqIntS_c vx vy x y _ (hvx.mono (below_regrown _ _ _)) (hvy.mono (below_regrown _ _ _))))))
          refine wpQuiet_nil ?_
          intro _ hw'
          obtain ⟨⟨dq, osq⟩, hw''⟩ := hw'
          subst hw''
          have hq : Ext wr (Go.Sort.grow (redrawn wr dq) osq) := below_regrown wr dq osq
          generalize Go.Sort.grow (redrawn wr dq) osq = wq at hq ⊢
          go_wp2_with fail
          go_ret
          refine Grows.mk ?_ (hext.trans hq)
          have : ¬ l = m := fun h => by subst h; have := HX.out; rw [HY.out] at this; cases this; exact HXY.out rfl
          simp [this]
      · obtain rfl : k = l.length := by omega
        go_wp2_with fail
        go_ret
        refine Grows.mk ?_ hext
        have := heq.out
        rw [List.take_length, HL.out, List.take_length] at this
        simp [this]
  · have hne : l ≠ m := fun h => hlen (by rw [h])
    go_enter Try.func54, Try.ntmps54
    go_wp2_with fail
    go_ret
    exact Grows.mk (by simp [hne]) (Ext.refl _)

theorem eqAutomaton_c (v u : Value) (x y : Auto) (w : World) (hv : AutoV w v x) (hu : AutoV w u y) :
    Calls Try.prog 14 #[v, u] w (Grows (.bool (decide (x = y))) w) := by
  obtain ⟨vn, va, rfl, h1, h2⟩ := hv
  obtain ⟨un, ua, rfl, k1, k2⟩ := hu
  obtain ⟨al, nx, ac⟩ := x
  obtain ⟨al', nx', ac'⟩ := y
  simp only at h1 h2 k1 k2
  by_cases ha : al = al'
  · subst ha
    go_enter Try.func14, Try.ntmps14
    go_wp2_with fail
    refine (eqIntSS_c _ _ nx nx' _ (h1.mono ((Ext.alloc _ _).trans (Ext.alloc _ _))) (k1.mono ((Ext.alloc _ _).trans (Ext.alloc _ _)))).mono ?_
    rintro e w1 ⟨rfl, he1⟩
    have c0 := he1.peel.new 2 rfl
    have c1 := he1.new1 2 rfl
    by_cases hb : nx = nx'
    · have hd : decide (nx = nx') = true := decide_eq_true hb
      have HB := Lib.hid hb
      clear hb
      go_wp2_with fail
      refine (eqBoolS_c _ _ ac ac' _ (h2.mono he1.peel.peel) (k2.mono he1.peel.peel)).mono ?_
      rintro e w2 ⟨rfl, he2⟩
      by_cases hc : ac = ac'
      · have hd2 : decide (ac = ac') = true := decide_eq_true hc
        have HC := Lib.hid hc
        clear hc
        go_wp2_with fail
        go_ret
        exact Grows.mk (by simp [HB.out, HC.out]) (he1.peel.peel.trans he2)
      · have hd2 : decide (ac = ac') = false := decide_eq_false hc
        have HC := Lib.hid hc
        clear hc
        go_wp2_with fail
        go_ret
        exact Grows.mk (by simp [HC.out]) (he1.peel.peel.trans he2)
    · have hd : decide (nx = nx') = false := decide_eq_false hb
      have HB := Lib.hid hb
      clear hb
      go_wp2_with fail
      go_ret
      exact Grows.mk (by simp [HB.out]) he1.peel.peel
  · go_enter Try.func14, Try.ntmps14
    go_wp2
    go_ret
    exact Grows.mk (by simp [ha]) ((Ext.alloc _ _).trans (Ext.alloc _ _))

theorem eqSystem_c (v u : Value) (x y : Sys) (w : World) (hv : SysV w v x) (hu : SysV w u y) :
    Calls Try.prog 19 #[v, u] w (Grows (.bool (decide (x = y))) w) := by
  obtain ⟨ve, rfl, h1⟩ := hv
  obtain ⟨ue, rfl, k1⟩ := hu
  obtain ⟨al, st, es⟩ := x
  obtain ⟨al', st', es'⟩ := y
  simp only at h1 k1
  by_cases ha : al = al'
  · subst ha
    by_cases hs : st = st'
    · subst hs
      go_enter Try.func19, Try.ntmps19
      go_wp2_with fail
      refine (eqEdgeS_c _ _ es es' _ (h1.mono ((Ext.alloc _ _).trans (Ext.alloc _ _))) (k1.mono ((Ext.alloc _ _).trans (Ext.alloc _ _)))).mono ?_
      rintro e w1 ⟨rfl, he1⟩
      by_cases hb : es = es'
      · have hd : decide (es = es') = true := decide_eq_true hb
        have HB := Lib.hid hb
        clear hb
        go_wp2_with fail
        go_ret
        exact Grows.mk (by simp [HB.out]) he1.peel.peel
      · have hd : decide (es = es') = false := decide_eq_false hb
        have HB := Lib.hid hb
        clear hb
        go_wp2_with fail
        go_ret
        exact Grows.mk (by simp [HB.out]) he1.peel.peel
    · go_enter Try.func19, Try.ntmps19
      go_wp2_with fail
      go_ret
      exact Grows.mk (by simp [hs]) ((Ext.alloc _ _).trans (Ext.alloc _ _))
  · go_enter Try.func19, Try.ntmps19
    go_wp2_with fail
    go_ret
    exact Grows.mk (by simp [ha]) ((Ext.alloc _ _).trans (Ext.alloc _ _))

theorem eqTask_c (v u : Value) (x y : Task) (w : World) (hv : TaskV w v x) (hu : TaskV w u y) :
    Calls Try.prog 24 #[v, u] w (Grows (.bool (decide (x = y))) w) := by
  obtain ⟨ve, vn, va, rfl, h1, h2, h3⟩ := hv
  obtain ⟨ue, un, ua, rfl, k1, k2, k3⟩ := hu
  obtain ⟨S, A, al⟩ := x
  obtain ⟨S', A', al'⟩ := y
  simp only at h1 h2 h3 k1 k2 k3
  have hE : ∀ o1 o2, Ext w ((w.alloc o1).alloc o2) := fun _ _ => ((Ext.alloc _ _).trans (Ext.alloc _ _))
  go_enter Try.func24, Try.ntmps24
  go_wp2_with fail
  refine (eqSystem_c _ _ S S' _ ⟨ve, rfl, h1.mono (hE _ _)⟩ ⟨ue, rfl, k1.mono (hE _ _)⟩).mono ?_
  clear hE
  rintro e w1 ⟨rfl, he1⟩
  have b0 := he1.peel.blk
  have b1 := he1.blk1
  have hw := he1.peel.peel
  have cc3 := b0.cell 3 rfl; have cc4 := b0.cell 4 rfl; have cc5 := b0.cell 5 rfl; have cc6 := b0.cell 6 rfl
  have dc3 := b1.cell 3 rfl; have dc4 := b1.cell 4 rfl; have dc5 := b1.cell 5 rfl; have dc6 := b1.cell 6 rfl
  by_cases hb : S = S'
  · have hd : decide (S = S') = true := decide_eq_true hb
    have HB := Lib.hid hb
    clear hb
    go_wp2_with fail
    refine (eqAutomaton_c _ _ A A' _ ⟨vn, va, rfl, h2.mono hw, h3.mono hw⟩ ⟨un, ua, rfl, k2.mono hw, k3.mono hw⟩).mono ?_
    rintro e w2 ⟨rfl, he2⟩
    have e0 := he2.cell cc6
    have e1 := he2.cell dc6
    by_cases hc : A = A'
    · have hd2 : decide (A = A') = true := decide_eq_true hc
      have HC := Lib.hid hc
      clear hc
      by_cases ha : al = al'
      · subst ha
        go_wp2_with fail
        go_ret
        exact Grows.mk (by simp [HB.out, HC.out]) (hw.trans he2)
      · go_wp2_with fail
        go_ret
        exact Grows.mk (by simp [ha]) (hw.trans he2)
    · have hd2 : decide (A = A') = false := decide_eq_false hc
      have HC := Lib.hid hc
      clear hc
      go_wp2_with fail
      go_ret
      exact Grows.mk (by simp [HC.out]) (hw.trans he2)
  · have hd : decide (S = S') = false := decide_eq_false hb
    have HB := Lib.hid hb
    clear hb
    go_wp2_with fail
    go_ret
    exact Grows.mk (by simp [HB.out]) hw

theorem eqTeacher_c (v u : Value) (x y : Teacher) (w : World) (hv : TeacherV w v x) (hu : TeacherV w u y) :
    Calls Try.prog 29 #[v, u] w (Grows (.bool (decide (x = y))) w) := by
  obtain ⟨vn, va, ve, vn2, va2, rfl, h1, h2, h3, h4, h5⟩ := hv
  obtain ⟨un, ua, ue, un2, ua2, rfl, k1, k2, k3, k4, k5⟩ := hu
  obtain ⟨kn, A, T⟩ := x
  obtain ⟨kn', A', T'⟩ := y
  simp only at h1 h2 h3 h4 h5 k1 k2 k3 k4 k5
  have hE : ∀ o1 o2, Ext w ((w.alloc o1).alloc o2) := fun _ _ => ((Ext.alloc _ _).trans (Ext.alloc _ _))
  by_cases hk : kn = kn'
  · subst hk
    have hz : (kn != kn) = false := by simp
    go_enter Try.func29, Try.ntmps29
    go_wp2_with fail
    refine (eqAutomaton_c _ _ A A' _ ⟨vn, va, rfl, h1.mono (hE _ _), h2.mono (hE _ _)⟩ ⟨un, ua, rfl, k1.mono (hE _ _), k2.mono (hE _ _)⟩).mono ?_
    clear hE
    rintro e w1 ⟨rfl, he1⟩
    have b0 := he1.peel.blk
    have b1 := he1.blk1
    have hw := he1.peel.peel
    have cc4 := b0.cell 4 rfl; have cc5 := b0.cell 5 rfl; have cc6 := b0.cell 6 rfl; have cc7 := b0.cell 7 rfl; have cc8 := b0.cell 8 rfl; have cc9 := b0.cell 9 rfl; have cc10 := b0.cell 10 rfl
    have dc4 := b1.cell 4 rfl; have dc5 := b1.cell 5 rfl; have dc6 := b1.cell 6 rfl; have dc7 := b1.cell 7 rfl; have dc8 := b1.cell 8 rfl; have dc9 := b1.cell 9 rfl; have dc10 := b1.cell 10 rfl
    by_cases hb : A = A'
    · have hd : decide (A = A') = true := decide_eq_true hb
      have HB := Lib.hid hb
      clear hb
      go_wp2_with fail
      refine (eqTask_c _ _ T T' _ ⟨ve, vn2, va2, rfl, h3.mono hw, h4.mono hw, h5.mono hw⟩ ⟨ue, un2, ua2, rfl, k3.mono hw, k4.mono hw, k5.mono hw⟩).mono ?_
      rintro e w2 ⟨rfl, he2⟩
      by_cases hc : T = T'
      · have hd2 : decide (T = T') = true := decide_eq_true hc
        have HC := Lib.hid hc
        clear hc
        go_wp2_with fail
        go_ret
        exact Grows.mk (by simp [HB.out, HC.out]) (hw.trans he2)
      · have hd2 : decide (T = T') = false := decide_eq_false hc
        have HC := Lib.hid hc
        clear hc
        go_wp2_with fail
        go_ret
        exact Grows.mk (by simp [HC.out]) (hw.trans he2)
    · have hd : decide (A = A') = false := decide_eq_false hb
      have HB := Lib.hid hb
      clear hb
      go_wp2_with fail
      go_ret
      exact Grows.mk (by simp [HB.out]) hw
  · have hz : (kn == kn') = false := beq_eq_false_iff_ne.2 hk
    have hz2 : (kn != kn') = true := by simp [hk]
    have HK := Lib.hid hk
    clear hk
    go_enter Try.func29, Try.ntmps29
    go_wp2_with fail
    go_ret
    exact Grows.mk (by simp [HK.out]) (hE _ _)

end Go.Proofs.Ytdaafbjgjjhklaa
