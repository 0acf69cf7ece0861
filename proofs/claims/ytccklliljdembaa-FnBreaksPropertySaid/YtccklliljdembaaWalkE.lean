/- Merged: WalkE, WalkF, WalkG. -/
import Derived.Test.YtccklliljdembaaWalkA

namespace Go.Proofs.Ytccklliljdembaa
set_option linter.unusedSimpArgs false
set_option linter.unusedVariables false
open Go.RowKit

set_option maxHeartbeats 400000

/-- An automaton whose slices are the call's own. -/
def AutoOwn (base : Nat) (w : World) (v : Value) (x : Auto) : Prop := ∃ vn va, v = .agg #[.int .i64 x.alphabet, vn, va] ∧ IntssOwn 43 3 base w vn x.next ∧ BoolsOwn 4 base w va x.accept
theorem AutoOwn.auto {base : Nat} {w : World} {v : Value} {x : Auto} (h : AutoOwn base w v x) : AutoV w v x := let ⟨vn, va, e, h1, h2⟩ := h; ⟨vn, va, e, h1.intss, h2.bools⟩
theorem IntssOwn.low {e2 e1 : TypeId} {base base' : Nat} {w : World} {v : Value} {ll : List (List Int)} (h : IntssOwn e2 e1 base w v ll) (hb : base' ≤ base) : IntssOwn e2 e1 base' w v ll :=
  let ⟨vs, h1, h2, h3⟩ := h; ⟨vs, own_base h1 hb, ⟨h2.len, fun j x l hx hl => (h2.row j x l hx hl).low hb, h2.apart⟩, h3⟩
theorem AutoOwn.low {base base' : Nat} {w : World} {v : Value} {x : Auto} (h : AutoOwn base w v x) (hb : base' ≤ base) : AutoOwn base' w v x := let ⟨vn, va, e, h1, h2⟩ := h; ⟨vn, va, e, h1.low hb, h2.low hb⟩
theorem AutoOwn.ext {base : Nat} {w w' : World} {v : Value} {x : Auto} (h : AutoOwn base w v x) (he : Ext w w') : AutoOwn base w' v x := let ⟨vn, va, e, h1, h2⟩ := h; ⟨vn, va, e, h1.ext he, h2.ext he⟩

/-- A store elsewhere: into a block below all that is owned. -/
theorem own_set {w : World} {base : Nat} {e : TypeId} {size n : Nat} {v : Value} {xs : List Value} (h : w.ownsRow base e size v n xs) {p : Addr} (hp : p.block < base) (u : Value) : (w.setCell p u).ownsRow base e size v n xs := ownsRow_setCell_below h hp u
theorem IntssOwn.set {e2 e1 : TypeId} {base : Nat} {w : World} {v : Value} {ll : List (List Int)} (h : IntssOwn e2 e1 base w v ll) {p : Addr} (hp : p.block < base) (u : Value) : IntssOwn e2 e1 base (w.setCell p u) v ll :=
  let ⟨vs, h1, h2, h3⟩ := h; ⟨vs, own_set h1 hp u, ⟨h2.len, fun j x l hx hl => own_set (h2.row j x l hx hl) hp u, h2.apart⟩, h3⟩
theorem BoolsOwn.set {e : TypeId} {base : Nat} {w : World} {v : Value} {l : List Bool} (h : BoolsOwn e base w v l) {p : Addr} (hp : p.block < base) (u : Value) : BoolsOwn e base (w.setCell p u) v l := own_set h hp u
theorem EdgesOwn.set {e : TypeId} {base : Nat} {w : World} {v : Value} {l : List Edge} (h : EdgesOwn e base w v l) {p : Addr} (hp : p.block < base) (u : Value) : EdgesOwn e base (w.setCell p u) v l := own_set h hp u

end Go.Proofs.Ytccklliljdembaa

namespace Go.Proofs.Ytccklliljdembaa
set_option linter.unusedSimpArgs false
set_option linter.unusedVariables false
open Go.RowKit

set_option maxHeartbeats 400000

end Go.Proofs.Ytccklliljdembaa

namespace Go.Proofs.Ytccklliljdembaa
set_option linter.unusedSimpArgs false
set_option linter.unusedVariables false
open Go.RowKit

set_option maxHeartbeats 400000

end Go.Proofs.Ytccklliljdembaa
