/- Part of this seat's proofs, cut to what its law needs. -/

import Derived.Test.YtanekmfifmkbmaaGreatDoorSafeS
import Derived.Test.YtanekmfifmkbmaaGreatDoorSafeN

namespace Go.Proofs.YtanekmfifmkbmaaGreatDoor
set_option linter.unusedSimpArgs false
set_option linter.unusedVariables false
open Go.RowKit
set_option maxHeartbeats 1000000

noncomputable def askTeacher (t : Teacher) (s : ByteArray) : Bool := if t.known then acceptsWord t.target s else safeWord t.task s

theorem AskTeacher_s (v : Value) (t : Teacher) (s : ByteArray) (w : World) (hv : TeacherV w v t) (hs : s.size ≤ 1048576) (hel : t.task.sys.edges.length ≤ 1048576) :
    Calls Tryz.prog 194 #[v, .string s] w (Grows (.bool (askTeacher t s)) w) := by
  obtain ⟨a, b, c, d, e, rfl, h1, h2, h3, h4, h5⟩ := hv
  obtain ⟨aa, ca, rfl, -, -⟩ := h1.open
  obtain ⟨ab, cb, rfl, -, -⟩ := h2.open
  obtain ⟨ac, cc, rfl, -, -⟩ := h3.open
  obtain ⟨ad, cd, rfl, -, -⟩ := h4.open
  obtain ⟨ae, ce, rfl, -, -⟩ := h5.open
  cases hk : t.known with
  | true =>
    have HC := Lib.hid (fun w' (h : Ext w w') => AcceptsWord_s _ t.target s w' (⟨_, _, rfl, h1.mono h, h2.mono h⟩ : AutoV w' (.agg #[.int .i64 t.target.alphabet, .slice aa t.target.next.length ca, .slice ab t.target.accept.length cb]) t.target) hs)
    have HF : Hid (askTeacher t s = acceptsWord t.target s) := Lib.hid (by unfold askTeacher; rw [hk]; rfl)
    rw [HF.out]
    clear h1 h2 h3 h4 h5 hk
    go_enter Tryz.func194, Tryz.ntmps194
    go_wp2_with fail
    refine (HC.out _ (Ext.alloc _ _)).mono ?_
    rintro e w1 ⟨rfl, he1⟩
    go_wp2_with fail
    go_ret
    exact Grows.mk rfl he1.peel
  | false =>
    have HC := Lib.hid (fun w' (h : Ext w w') => SafeWord_s _ t.task s w' (⟨_, _, _, rfl, h3.mono h, h4.mono h, h5.mono h⟩ : TaskV w' (.agg #[.int .i64 t.task.sys.alphabet, .int .i64 t.task.sys.states, .slice ac t.task.sys.edges.length cc, .int .i64 t.task.prop.alphabet, .slice ad t.task.prop.next.length cd, .slice ae t.task.prop.accept.length ce, .int .i64 t.task.alphabet]) t.task) hs hel)
    have HF : Hid (askTeacher t s = safeWord t.task s) := Lib.hid (by unfold askTeacher; rw [hk]; rfl)
    rw [HF.out]
    clear h1 h2 h3 h4 h5 hk
    go_enter Tryz.func194, Tryz.ntmps194
    go_wp2_with fail
    refine (HC.out _ (Ext.alloc _ _)).mono ?_
    rintro e w1 ⟨rfl, he1⟩
    go_wp2_with fail
    go_ret
    exact Grows.mk rfl he1.peel
end Go.Proofs.YtanekmfifmkbmaaGreatDoor
