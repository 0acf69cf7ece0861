/- Walks: sizes. -/
import Derived.Test.YtdaafbjgjjhklaaWalkB
namespace Go.Proofs.Ytdaafbjgjjhklaa
set_option linter.unusedSimpArgs false
set_option linter.unusedVariables false
open Go.RowKit

set_option maxHeartbeats 400000

/-- What a size function hands back: -1, or what is left. -/
def SzS (left : Int) (size : Nat) (w : World) (e : Ending) (w' : World) : Prop := ∃ r : Int, e = .returned (.int .i64 r) ∧ Ext w w' ∧ (r = -1 ∨ (0 ≤ r ∧ Hid (r + size = left)))
def szss (ll : List (List Int)) : Nat := ll.length + (ll.map List.length).sum
def szAuto (a : Auto) : Nat := szss a.next + a.accept.length
def szSys (s : Sys) : Nat := s.edges.length
def szTsk (t : Task) : Nat := szSys t.sys + szAuto t.prop
def szTch (t : Teacher) : Nat := szAuto t.target + szTsk t.task

theorem szIntS_s (v : Value) (l : List Int) (left : Int) (w : World) (hv : IntsV w v l) (hl : 0 ≤ left) (hl2 : left ≤ 1048576) :
    Calls Try.prog 85 #[v, .int .i64 left] w (SzS left l.length w) :=
  (szIntS_c v l left w hv hl hl2).mono fun _ _ ⟨he, hw⟩ => ⟨_, he, hw ▸ Ext.refl _, by split; exact .inl rfl; exact .inr ⟨by omega, by show _ = _; omega⟩⟩
theorem szBoolS_s (v : Value) (l : List Bool) (left : Int) (w : World) (hv : BoolsV w v l) (hl : 0 ≤ left) (hl2 : left ≤ 1048576) :
    Calls Try.prog 47 #[v, .int .i64 left] w (SzS left l.length w) :=
  (szBoolS_c v l left w hv hl hl2).mono fun _ _ ⟨he, hw⟩ => ⟨_, he, hw ▸ Ext.refl _, by split; exact .inl rfl; exact .inr ⟨by omega, by show _ = _; omega⟩⟩
theorem szEdgeS_s (v : Value) (l : List Edge) (left : Int) (w : World) (hv : EdgesV w v l) (hl : 0 ≤ left) (hl2 : left ≤ 1048576) :
    Calls Try.prog 56 #[v, .int .i64 left] w (SzS left l.length w) :=
  (szEdgeS_c v l left w hv hl hl2).mono fun _ _ ⟨he, hw⟩ => ⟨_, he, hw ▸ Ext.refl _, by split; exact .inl rfl; exact .inr ⟨by omega, by show _ = _; omega⟩⟩

theorem szIntSS_s (v : Value) (ll : List (List Int)) (left : Int) (w : World) (hv : IntssV w v ll) (hl : 0 ≤ left) (hl2 : left ≤ 1048576) :
    Calls Try.prog 46 #[v, .int .i64 left] w (SzS left (szss ll) w) := by
  obtain ⟨a, c, rfl, h1, h2⟩ := hv.open
  by_cases h : left - ll.length < 0
  · go_enter Try.func46, Try.ntmps46
    go_wp2_with fail
    go_ret
    exact ⟨_, rfl, Ext.refl _, .inl rfl⟩
  · go_enter Try.func46, Try.ntmps46
    go_wp2_with fail
    go_loopw [1, 5] (fun l i wr => ∃ (k : Nat) (r : Int), k ≤ ll.length ∧ i = .int .i64 k ∧ l = .int .i64 r ∧ 0 ≤ r ∧ r ≤ 1048576 ∧ Hid (r + (ll.length + ((ll.take k).map List.length).sum : Nat) = left) ∧ Ext w wr) (fun _ i _ => ll.length - (intOf i).toNat)
    case atStart => exact ⟨0, left - ll.length, by omega, rfl, rfl, by omega, by omega, by show _ = _; simp, Ext.refl _⟩
    case round =>
      obtain ⟨k, r, hk, rfl, rfl, hr0, hr1, hr, hext⟩ := hrel
      by_cases hlt : k < ll.length
      · obtain ⟨x, hx⟩ : ∃ x, ll[k]? = some x := ⟨_, List.getElem?_eq_getElem hlt⟩
        obtain ⟨b, off, rfl, -, hc⟩ := h2 k x hx
        obtain ⟨vx, g1, hvx⟩ := (hc k x hx).mono hext
        rw [Nat.mul_one] at g1
        have HX := Lib.hid hx
        clear hc hx h2
        go_wp2_with (go_at_call 85; refine (szIntS_s _ x _ _ hvx (by omega) (by omega)).mono ?_; rintro e w' ⟨s, rfl, hext2, hs⟩; rcases hs with rfl | ⟨hs0, hs⟩)
        · go_ret
          exact ⟨_, rfl, hext.trans hext2, .inl rfl⟩
        · have hs' := hs.out
          have hr' := hr.out
          exact ⟨⟨k + 1, s, by omega, by go_num, rfl, by omega, by omega, by show _ = _; rw [List.take_add_one, HX.out, List.map_append, List.sum_append]; simp only [Option.toList_some, List.map_cons, List.map_nil, List.sum_cons, List.sum_nil]; omega, hext.trans hext2⟩, by simp [intOf]; omega⟩
      · obtain rfl : k = ll.length := by omega
        go_wp2_with fail
        go_ret
        refine ⟨_, rfl, hext, .inr ⟨hr0, ?_⟩⟩
        have hr' := hr.out
        rw [List.take_length] at hr'
        exact hr'

theorem szAutomaton_s (v : Value) (x : Auto) (left : Int) (w : World) (hv : AutoV w v x) (hl : 0 ≤ left) (hl2 : left ≤ 1048576) :
    Calls Try.prog 10 #[v, .int .i64 left] w (SzS left (szAuto x) w) := by
  obtain ⟨vn, va, rfl, h1, h2⟩ := hv
  go_enter Try.func10, Try.ntmps10
  go_wp2_with fail
  refine (szIntSS_s _ _ _ _ (h1.mono (Ext.alloc _ _)) hl hl2).mono ?_
  rintro e w1 ⟨r, rfl, he1, hr⟩
  have c2 := he1.new 2 rfl
  replace h2 := h2.mono he1.peel
  rcases hr with rfl | ⟨hr0, hr⟩
  · go_wp2_with fail
    go_ret
    exact ⟨_, rfl, he1.peel, .inl rfl⟩
  · have hr' := hr.out
    have hr1 : r ≤ 1048576 := by omega
    clear hr'
    go_wp2_with fail
    refine (szBoolS_s _ _ _ _ h2 hr0 hr1).mono ?_
    rintro e w2 ⟨s, rfl, he2, hs⟩
    rcases hs with rfl | ⟨hs0, hs⟩
    · go_wp2_with fail
      go_ret
      exact ⟨_, rfl, he1.peel.trans he2, .inl rfl⟩
    · go_wp2_with fail
      go_ret
      refine ⟨_, rfl, he1.peel.trans he2, .inr ⟨hs0, ?_⟩⟩
      have := hr.out; have := hs.out
      show _ = _
      unfold szAuto; omega

theorem szSystem_s (v : Value) (x : Sys) (left : Int) (w : World) (hv : SysV w v x) (hl : 0 ≤ left) (hl2 : left ≤ 1048576) :
    Calls Try.prog 15 #[v, .int .i64 left] w (SzS left (szSys x) w) := by
  obtain ⟨ve, rfl, h1⟩ := hv
  go_enter Try.func15, Try.ntmps15
  go_wp2_with fail
  refine (szEdgeS_s _ _ _ _ (h1.mono (Ext.alloc _ _)) hl hl2).mono ?_
  rintro e w1 ⟨r, rfl, he1, hr⟩
  rcases hr with rfl | ⟨hr0, hr⟩
  · go_wp2_with fail
    go_ret
    exact ⟨_, rfl, he1.peel, .inl rfl⟩
  · go_wp2_with fail
    go_ret
    exact ⟨_, rfl, he1.peel, .inr ⟨hr0, hr⟩⟩

theorem szTask_s (v : Value) (x : Task) (left : Int) (w : World) (hv : TaskV w v x) (hl : 0 ≤ left) (hl2 : left ≤ 1048576) :
    Calls Try.prog 20 #[v, .int .i64 left] w (SzS left (szTsk x) w) := by
  obtain ⟨ve, vn, va, rfl, h1, h2, h3⟩ := hv
  go_enter Try.func20, Try.ntmps20
  go_wp2_with fail
  refine (szSystem_s _ x.sys _ _ ⟨ve, rfl, h1.mono (Ext.alloc _ _)⟩ hl hl2).mono ?_
  rintro e w1 ⟨r, rfl, he1, hr⟩
  have c3 := he1.new 3 rfl
  have c4 := he1.new 4 rfl
  have c5 := he1.new 5 rfl
  rcases hr with rfl | ⟨hr0, hr⟩
  · go_wp2_with fail
    go_ret
    exact ⟨_, rfl, he1.peel, .inl rfl⟩
  · have hr' := hr.out
    have hr1 : r ≤ 1048576 := by omega
    clear hr'
    go_wp2_with fail
    refine (szAutomaton_s _ x.prop _ _ ⟨vn, va, rfl, h2.mono he1.peel, h3.mono he1.peel⟩ hr0 hr1).mono ?_
    rintro e w2 ⟨s, rfl, he2, hs⟩
    rcases hs with rfl | ⟨hs0, hs⟩
    · go_wp2_with fail
      go_ret
      exact ⟨_, rfl, he1.peel.trans he2, .inl rfl⟩
    · go_wp2_with fail
      go_ret
      refine ⟨_, rfl, he1.peel.trans he2, .inr ⟨hs0, ?_⟩⟩
      have := hr.out; have := hs.out
      show _ = _
      unfold szTsk; omega

theorem szTeacher_s (v : Value) (x : Teacher) (left : Int) (w : World) (hv : TeacherV w v x) (hl : 0 ≤ left) (hl2 : left ≤ 1048576) :
    Calls Try.prog 25 #[v, .int .i64 left] w (SzS left (szTch x) w) := by
  obtain ⟨vn, va, ve, vn', va', rfl, h1, h2, h3, h4, h5⟩ := hv
  go_enter Try.func25, Try.ntmps25
  go_wp2_with fail
  refine (szAutomaton_s _ x.target _ _ ⟨vn, va, rfl, h1.mono (Ext.alloc _ _), h2.mono (Ext.alloc _ _)⟩ hl hl2).mono ?_
  rintro e w1 ⟨r, rfl, he1, hr⟩
  have c4 := he1.new 4 rfl
  have c5 := he1.new 5 rfl
  have c6 := he1.new 6 rfl
  have c7 := he1.new 7 rfl
  have c8 := he1.new 8 rfl
  have c9 := he1.new 9 rfl
  have c10 := he1.new 10 rfl
  rcases hr with rfl | ⟨hr0, hr⟩
  · go_wp2_with fail
    go_ret
    exact ⟨_, rfl, he1.peel, .inl rfl⟩
  · have hr' := hr.out
    have hr1 : r ≤ 1048576 := by omega
    clear hr'
    go_wp2_with fail
    refine (szTask_s _ x.task _ _ ⟨ve, vn', va', rfl, h3.mono he1.peel, h4.mono he1.peel, h5.mono he1.peel⟩ hr0 hr1).mono ?_
    rintro e w2 ⟨s, rfl, he2, hs⟩
    rcases hs with rfl | ⟨hs0, hs⟩
    · go_wp2_with fail
      go_ret
      exact ⟨_, rfl, he1.peel.trans he2, .inl rfl⟩
    · go_wp2_with fail
      go_ret
      refine ⟨_, rfl, he1.peel.trans he2, .inr ⟨hs0, ?_⟩⟩
      have := hr.out; have := hs.out
      show _ = _
      unfold szTch; omega

end Go.Proofs.Ytdaafbjgjjhklaa
