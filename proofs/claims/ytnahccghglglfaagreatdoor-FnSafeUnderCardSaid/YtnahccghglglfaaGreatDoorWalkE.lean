/- Merged: WalkE, WalkF, WalkG. -/
import Derived.Test.YtnahccghglglfaaGreatDoorWalkA

namespace Go.Proofs.YtnahccghglglfaaGreatDoor
set_option linter.unusedSimpArgs false
set_option linter.unusedVariables false
open Go.RowKit

set_option maxHeartbeats 400000

/-- An automaton whose slices are the call's own. -/
def AutoOwn (base : Nat) (w : World) (v : Value) (x : Auto) : Prop := ∃ vn va, v = .agg #[.int .i64 x.alphabet, vn, va] ∧ IntssOwn 52 3 base w vn x.next ∧ BoolsOwn 4 base w va x.accept
theorem AutoOwn.auto {base : Nat} {w : World} {v : Value} {x : Auto} (h : AutoOwn base w v x) : AutoV w v x := let ⟨vn, va, e, h1, h2⟩ := h; ⟨vn, va, e, h1.intss, h2.bools⟩
theorem IntssOwn.low {e2 e1 : TypeId} {base base' : Nat} {w : World} {v : Value} {ll : List (List Int)} (h : IntssOwn e2 e1 base w v ll) (hb : base' ≤ base) : IntssOwn e2 e1 base' w v ll :=
  let ⟨vs, h1, h2, h3⟩ := h; ⟨vs, own_base h1 hb, ⟨h2.len, fun j x l hx hl => (h2.row j x l hx hl).low hb, h2.apart⟩, h3⟩
theorem AutoOwn.low {base base' : Nat} {w : World} {v : Value} {x : Auto} (h : AutoOwn base w v x) (hb : base' ≤ base) : AutoOwn base' w v x := let ⟨vn, va, e, h1, h2⟩ := h; ⟨vn, va, e, h1.low hb, h2.low hb⟩
theorem AutoOwn.ext {base : Nat} {w w' : World} {v : Value} {x : Auto} (h : AutoOwn base w v x) (he : Ext w w') : AutoOwn base w' v x := let ⟨vn, va, e, h1, h2⟩ := h; ⟨vn, va, e, h1.ext he, h2.ext he⟩

/-- A store elsewhere: into a block below all that is owned. -/
theorem own_set {w : World} {base : Nat} {e : TypeId} {size n : Nat} {v : Value} {xs : List Value} (h : w.ownsRow base e size v n xs) {p : Addr} (hp : p.block < base) (u : Value) : (w.setCell p u).ownsRow base e size v n xs := ownsRow_setCell_below h hp u
theorem IntssOwn.set {e2 e1 : TypeId} {base : Nat} {w : World} {v : Value} {ll : List (List Int)} (h : IntssOwn e2 e1 base w v ll) {p : Addr} (hp : p.block < base) (u : Value) : IntssOwn e2 e1 base (w.setCell p u) v ll :=
  let ⟨vs, h1, h2, h3⟩ := h; ⟨vs, own_set h1 hp u, ⟨h2.len, fun j x l hx hl => own_set (h2.row j x l hx hl) hp u, h2.apart⟩, h3⟩
theorem BoolsOwn.set {e : TypeId} {base : Nat} {w : World} {v : Value} {l : List Bool} (h : BoolsOwn e base w v l) {p : Addr} (hp : p.block < base) (u : Value) : BoolsOwn e base (w.setCell p u) v l := own_set h hp u
theorem EdgesOwn.set {e : TypeId} {base : Nat} {w : World} {v : Value} {l : List Edge} (h : EdgesOwn e base w v l) {p : Addr} (hp : p.block < base) (u : Value) : EdgesOwn e base (w.setCell p u) v l := own_set h hp u

theorem infoEdge : (Tryz.prog.info? 38).map (fun i => (i.zero, i.size, i.bytes)) = some (some (.agg #[.int .i64 0, .int .i64 0, .int .i64 0]), 3, 24) := by kernel_rfl

end Go.Proofs.YtnahccghglglfaaGreatDoor

namespace Go.Proofs.YtnahccghglglfaaGreatDoor
set_option linter.unusedSimpArgs false
set_option linter.unusedVariables false
open Go.RowKit

set_option maxHeartbeats 400000

def SysOwn (base : Nat) (w : World) (v : Value) (x : Sys) : Prop := ∃ ve, v = .agg #[.int .i64 x.alphabet, .int .i64 x.states, ve] ∧ EdgesOwn 38 base w ve x.edges
theorem SysOwn.sys {base : Nat} {w : World} {v : Value} {x : Sys} (h : SysOwn base w v x) : SysV w v x := let ⟨ve, e, h1⟩ := h; ⟨ve, e, h1.edges⟩
theorem SysOwn.low {base base' : Nat} {w : World} {v : Value} {x : Sys} (h : SysOwn base w v x) (hb : base' ≤ base) : SysOwn base' w v x := let ⟨ve, e, h1⟩ := h; ⟨ve, e, h1.low hb⟩
theorem SysOwn.ext {base : Nat} {w w' : World} {v : Value} {x : Sys} (h : SysOwn base w v x) (he : Ext w w') : SysOwn base w' v x := let ⟨ve, e, h1⟩ := h; ⟨ve, e, h1.ext he⟩
def TaskOwn (base : Nat) (w : World) (v : Value) (t : Task) : Prop := ∃ ve vn va, v = .agg #[.int .i64 t.sys.alphabet, .int .i64 t.sys.states, ve, .int .i64 t.prop.alphabet, vn, va, .int .i64 t.alphabet] ∧
  EdgesOwn 38 base w ve t.sys.edges ∧ IntssOwn 52 3 base w vn t.prop.next ∧ BoolsOwn 4 base w va t.prop.accept
theorem TaskOwn.task {base : Nat} {w : World} {v : Value} {x : Task} (h : TaskOwn base w v x) : TaskV w v x := let ⟨ve, vn, va, e, h1, h2, h3⟩ := h; ⟨ve, vn, va, e, h1.edges, h2.intss, h3.bools⟩
theorem TaskOwn.low {base base' : Nat} {w : World} {v : Value} {x : Task} (h : TaskOwn base w v x) (hb : base' ≤ base) : TaskOwn base' w v x := let ⟨ve, vn, va, e, h1, h2, h3⟩ := h; ⟨ve, vn, va, e, h1.low hb, h2.low hb, h3.low hb⟩
theorem TaskOwn.ext {base : Nat} {w w' : World} {v : Value} {x : Task} (h : TaskOwn base w v x) (he : Ext w w') : TaskOwn base w' v x := let ⟨ve, vn, va, e, h1, h2, h3⟩ := h; ⟨ve, vn, va, e, h1.ext he, h2.ext he, h3.ext he⟩
def TeacherOwn (base : Nat) (w : World) (v : Value) (t : Teacher) : Prop := ∃ vn va ve vn' va', v = .agg #[.bool t.known, .int .i64 t.target.alphabet, vn, va, .int .i64 t.task.sys.alphabet, .int .i64 t.task.sys.states, ve, .int .i64 t.task.prop.alphabet, vn', va', .int .i64 t.task.alphabet] ∧
  IntssOwn 52 3 base w vn t.target.next ∧ BoolsOwn 4 base w va t.target.accept ∧ EdgesOwn 38 base w ve t.task.sys.edges ∧ IntssOwn 52 3 base w vn' t.task.prop.next ∧ BoolsOwn 4 base w va' t.task.prop.accept
theorem TeacherOwn.teacher {base : Nat} {w : World} {v : Value} {x : Teacher} (h : TeacherOwn base w v x) : TeacherV w v x := let ⟨a, b, c, d, f, e, h1, h2, h3, h4, h5⟩ := h; ⟨a, b, c, d, f, e, h1.intss, h2.bools, h3.edges, h4.intss, h5.bools⟩

end Go.Proofs.YtnahccghglglfaaGreatDoor

namespace Go.Proofs.YtnahccghglglfaaGreatDoor
set_option linter.unusedSimpArgs false
set_option linter.unusedVariables false
open Go.RowKit

set_option maxHeartbeats 400000

end Go.Proofs.YtnahccghglglfaaGreatDoor
