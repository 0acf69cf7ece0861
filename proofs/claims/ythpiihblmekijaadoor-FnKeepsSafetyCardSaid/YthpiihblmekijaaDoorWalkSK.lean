/- Walks: the reference's checks, on. -/
import Derived.Test.YthpiihblmekijaaDoorWalkSJ
namespace Go.Proofs.YthpiihblmekijaaDoor
set_option linter.unusedSimpArgs false
set_option linter.unusedVariables false
open Go.RowKit

set_option maxHeartbeats 1600000
set_option maxRecDepth 100000

theorem FirstViolation_s (v vp : Value) (s : Sys) (p : Auto) (w : World) (hv : SysV w v s) (hp : AutoV w vp p) (hel : s.edges.length ≤ 1048576) :
    Calls Tryd.prog 8 #[v, vp] w (AnsEnd (PV [s] p) w) := by
  obtain ⟨ve, rfl, h1⟩ := hv
  obtain ⟨ae, ce, rfl, -, -⟩ := h1.open
  have HV := Lib.hid hp
  obtain ⟨vn, va, rfl, h2, h3⟩ := hp
  obtain ⟨an, cn, rfl, -, -⟩ := h2.open
  obtain ⟨aa, ca, rfl, -, -⟩ := h3.open
  clear h2 h3
  go_enter Tryd.func8, Tryd.ntmps8
  go_wp2_with fail
  have hS := h1.mono ((Ext.alloc w (.cells #[.int .i64 s.alphabet, .int .i64 s.states, .slice ae s.edges.length ce] 25)).trans (Ext.alloc _ (.cells #[.int .i64 p.alphabet, .slice an p.next.length cn, .slice aa p.accept.length ca] 29)))
  have he := ((Ext.alloc w (.cells #[.int .i64 s.alphabet, .int .i64 s.states, .slice ae s.edges.length ce] 25)).trans (Ext.alloc _ (.cells #[.int .i64 p.alphabet, .slice an p.next.length cn, .slice aa p.accept.length ca] 29))).trans (Ext.alloc _ (.cells #[.int .i64 s.alphabet, .int .i64 s.states, .slice ae s.edges.length ce] 25))
  have hone := SyssV.one hS
  simp only [World.size_alloc] at hone
  refine (PartsViolation_s _ _ [s] p _ hone (by simp) (by simpa using hel) (HV.out.mono he)).mono ?_
  rintro e w1 ⟨r, hr, rfl, he1⟩
  go_wp2_with fail
  go_ret2
  exact ⟨r, hr, rfl, he.trans he1⟩

end Go.Proofs.YthpiihblmekijaaDoor
