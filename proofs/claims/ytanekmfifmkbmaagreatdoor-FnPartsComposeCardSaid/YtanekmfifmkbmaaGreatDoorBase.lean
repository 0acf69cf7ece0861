/- Part of this seat's proofs, cut to what its law needs. -/

import Derived.WalkKit
import Derived.WalkSpells
import Derived.WalkLawsBesides
import Derived.Lib.Hide
import Derived.Deep.QuietTactic
import Derived.BigQuiet
import Derived.Lib.QuietBelow
import Derived.Deep.LoopGhost
import Derived.Deep.DeepFit
import Derived.Deep.DeepMust
namespace Go.Proofs.YtanekmfifmkbmaaGreatDoor
set_option linter.unusedSimpArgs false
set_option linter.unusedVariables false
open Go.RowKit

abbrev Ext (w w' : World) : Prop := Below w.heap.size w w'
theorem Ext.refl (w : World) : Ext w w := Below.refl _ _
theorem Ext.trans {a b c : World} (h : Ext a b) (k : Ext b c) : Ext a c := Below.trans h (k.mono h.size)
theorem Ext.cell {w w' : World} (h : Ext w w') {p : Addr} {v : Value} (hp : w.cell? p = some v) : w'.cell? p = some v :=
  (Below.cell h (World.block_lt_of_cell? w p hp)).trans hp
theorem Ext.alloc (w : World) (o : Obj) : Ext w (w.alloc o) := (Below.refl _ _).alloc (Nat.le_refl _) o
theorem Ext.drew (w : World) : Ext w w.drew := (Below.refl _ _).drew
theorem Ext.drewN (w : World) (n : Nat) : Ext w (w.drewN n) := below_drewN (Below.refl _ _) n

theorem Ext.peel {w w' : World} {o : Obj} (h : Ext (w.alloc o) w') : Ext w w' := (Ext.alloc w o).trans h
theorem Ext.new {w w' : World} {cs : Array Value} {t : TypeId} (h : Ext (w.alloc (.cells cs t)) w') (j : Nat) {v : Value} (hj : cs[j]? = some v) : w'.cell? ⟨w.heap.size, j, none⟩ = some v := by
  refine h.cell ?_
  unfold World.cell?
  rw [show (w.alloc (.cells cs t)).heap[w.heap.size]? = some (.cells cs t) from heap_alloc_new w _]
  simpa using hj
theorem Ext.new1 {w w' : World} {cs : Array Value} {t : TypeId} {o : Obj} (h : Ext ((w.alloc o).alloc (.cells cs t)) w') (j : Nat) {v : Value} (hj : cs[j]? = some v) : w'.cell? ⟨w.heap.size + 1, j, none⟩ = some v := by
  have := Ext.new h j hj; rw [World.size_alloc] at this; exact this
def Blk (w : World) (b : Nat) (cs : Array Value) (t : TypeId) : Prop := w.heap[b]? = some (.cells cs t (0, 0))
theorem Blk.cell {w : World} {b : Nat} {cs : Array Value} {t : TypeId} (h : Blk w b cs t) (j : Nat) {v : Value} (hj : cs[j]? = some v) : w.cell? ⟨b, j, none⟩ = some v := by
  unfold World.cell?; rw [show w.heap[b]? = _ from h]; simpa using hj
theorem Blk.fr {w : World} {b : Nat} {cs : Array Value} {t : TypeId} (h : Blk w b cs t) (j : Nat) : w.frozen? ⟨b, j, none⟩ = false := by
  unfold World.frozen?; rw [show w.heap[b]? = _ from h]; simp
theorem Blk.lt {w : World} {b : Nat} {cs : Array Value} {t : TypeId} (h : Blk w b cs t) : b < w.heap.size := (Array.getElem?_eq_some_iff.1 h).1
theorem Blk.ext {w w' : World} {b : Nat} {cs : Array Value} {t : TypeId} (h : Blk w b cs t) (he : Ext w w') : Blk w' b cs t := (he.block b h.lt).trans h
theorem Blk.set {w : World} {b : Nat} {cs : Array Value} {t : TypeId} (h : Blk w b cs t) (j : Nat) (v : Value) : Blk (w.setCell ⟨b, j, none⟩ v) b (cs.setIfInBounds j v) t := heap_setCell_same w b j cs t v h
theorem Blk.other {w : World} {b : Nat} {cs : Array Value} {t : TypeId} (h : Blk w b cs t) {p : Addr} (hp : b ≠ p.block) (v : Value) : Blk (w.setCell p v) b cs t := (Below.heap_setCell w p v b hp).trans h
theorem Blk.new (w : World) (cs : Array Value) (t : TypeId) : Blk (w.alloc (.cells cs t)) w.heap.size cs t := heap_alloc_new w _
theorem Ext.blk {w w' : World} {cs : Array Value} {t : TypeId} (h : Ext (w.alloc (.cells cs t)) w') : Blk w' w.heap.size cs t := (Blk.new w cs t).ext h
theorem Ext.blk1 {w w' : World} {o : Obj} {cs : Array Value} {t : TypeId} (h : Ext ((w.alloc o).alloc (.cells cs t)) w') : Blk w' (w.heap.size + 1) cs t := by have := h.blk; rwa [World.size_alloc] at this
theorem Ext.blk2 {w w' : World} {o o' : Obj} {cs : Array Value} {t : TypeId} (h : Ext (((w.alloc o).alloc o').alloc (.cells cs t)) w') : Blk w' (w.heap.size + 1 + 1) cs t := by have := h.blk; rwa [World.size_alloc, World.size_alloc] at this
theorem Ext.setCell {w w' : World} (h : Ext w w') {p : Addr} (hp : w.heap.size ≤ p.block) (v : Value) : Ext w (w'.setCell p v) := Below.setCell h hp v

def Same (v : Value) (w : World) (e : Ending) (w' : World) : Prop := e = .returned v ∧ w = w'
def Grows (v : Value) (w : World) (e : Ending) (w' : World) : Prop := e = .returned v ∧ Ext w w'
def Gives (Φ : Value → World → Prop) (w : World) (e : Ending) (w' : World) : Prop := ∃ v, e = .returned v ∧ Ext w w' ∧ Φ v w'

def SlV {α : Type} (E : World → Nat → Nat → α → Prop) (sz : Nat) (w : World) (v : Value) (xs : List α) : Prop :=
  ∃ a c, v = .slice a xs.length c ∧ xs.length ≤ c ∧ c ≤ maxLen ∧
    (0 < xs.length → ∃ b off, a = some ⟨b, off, none⟩ ∧ b < w.heap.size ∧ ∀ i x, xs[i]? = some x → E w b (off + i * sz) x)

theorem SlV.mono {α : Type} {E : World → Nat → Nat → α → Prop} {sz : Nat} {w w' : World} {v : Value} {xs : List α} (h : SlV E sz w v xs)
    (hE : ∀ b o x, b < w.heap.size → E w b o x → E w' b o x) (hs : w.heap.size ≤ w'.heap.size) : SlV E sz w' v xs := by
  obtain ⟨a, c, rfl, h1, h2, h3⟩ := h
  exact ⟨a, c, rfl, h1, h2, fun h0 => let ⟨b, off, e, hb, hx⟩ := h3 h0; ⟨b, off, e, Nat.lt_of_lt_of_le hb hs, fun i x hi => hE _ _ _ hb (hx i x hi)⟩⟩

theorem SlV.open {α : Type} {E : World → Nat → Nat → α → Prop} {sz : Nat} {w : World} {v : Value} {xs : List α} (h : SlV E sz w v xs) :
    ∃ a c, v = .slice a xs.length c ∧ xs.length ≤ 9223372036854775807 ∧ (∀ (k : Nat) (x : α), xs[k]? = some x → ∃ b off, a = some ⟨b, off, none⟩ ∧ b < w.heap.size ∧ ∀ (i : Nat) (x : α), xs[i]? = some x → E w b (off + i * sz) x) := by
  obtain ⟨a, c, rfl, h1, h2, h3⟩ := h
  unfold maxLen at h2
  exact ⟨a, c, rfl, by omega, fun k x hk => h3 (by have := (List.getElem?_eq_some_iff.1 hk).1; omega)⟩

def IntAt (w : World) (b o : Nat) (x : Int) : Prop := w.cell? ⟨b, o, none⟩ = some (.int .i64 x)
def BoolAt (w : World) (b o : Nat) (x : Bool) : Prop := w.cell? ⟨b, o, none⟩ = some (.bool x)
abbrev IntsV := SlV IntAt 1
abbrev BoolsV := SlV BoolAt 1
def RowAt (w : World) (b o : Nat) (l : List Int) : Prop := ∃ v, w.cell? ⟨b, o, none⟩ = some v ∧ IntsV w v l
abbrev IntssV := SlV RowAt 1

theorem IntAt.mono {w w' : World} (h : Ext w w') {b o : Nat} {x : Int} (k : IntAt w b o x) : IntAt w' b o x := h.cell k
theorem BoolAt.mono {w w' : World} (h : Ext w w') {b o : Nat} {x : Bool} (k : BoolAt w b o x) : BoolAt w' b o x := h.cell k
theorem IntsV.mono {w w' : World} (h : Ext w w') {v : Value} {l : List Int} (k : IntsV w v l) : IntsV w' v l := SlV.mono k (fun _ _ _ _ => IntAt.mono h) h.size
theorem BoolsV.mono {w w' : World} (h : Ext w w') {v : Value} {l : List Bool} (k : BoolsV w v l) : BoolsV w' v l := SlV.mono k (fun _ _ _ _ => BoolAt.mono h) h.size
theorem RowAt.mono {w w' : World} (h : Ext w w') {b o : Nat} {x : List Int} (k : RowAt w b o x) : RowAt w' b o x := let ⟨v, hc, hv⟩ := k; ⟨v, h.cell hc, hv.mono h⟩
theorem IntssV.mono {w w' : World} (h : Ext w w') {v : Value} {l : List (List Int)} (k : IntssV w v l) : IntssV w' v l := SlV.mono k (fun _ _ _ _ => RowAt.mono h) h.size


structure Edge where
  src : Int
  letter : Int
  dst : Int
structure Sys where
  alphabet : Int
  states : Int
  edges : List Edge
structure Auto where
  alphabet : Int
  next : List (List Int)
  accept : List Bool
structure Task where
  sys : Sys
  prop : Auto
  alphabet : Int
structure Teacher where
  known : Bool
  target : Auto
  task : Task
instance : DecidableEq Edge := fun a b => decidable_of_iff (a.src = b.src ∧ a.letter = b.letter ∧ a.dst = b.dst) (by cases a; cases b; simp)
instance : DecidableEq Sys := fun a b => decidable_of_iff (a.alphabet = b.alphabet ∧ a.states = b.states ∧ a.edges = b.edges) (by cases a; cases b; simp)
instance : DecidableEq Auto := fun a b => decidable_of_iff (a.alphabet = b.alphabet ∧ a.next = b.next ∧ a.accept = b.accept) (by cases a; cases b; simp)
instance : DecidableEq Task := fun a b => decidable_of_iff (a.sys = b.sys ∧ a.prop = b.prop ∧ a.alphabet = b.alphabet) (by cases a; cases b; simp)
instance : DecidableEq Teacher := fun a b => decidable_of_iff (a.known = b.known ∧ a.target = b.target ∧ a.task = b.task) (by cases a; cases b; simp)

def EdgeAt (w : World) (b o : Nat) (x : Edge) : Prop :=
  w.cell? ⟨b, o, none⟩ = some (.int .i64 x.src) ∧ w.cell? ⟨b, o + 1, none⟩ = some (.int .i64 x.letter) ∧ w.cell? ⟨b, o + 2, none⟩ = some (.int .i64 x.dst)
abbrev EdgesV := SlV EdgeAt 3
theorem EdgeAt.mono {w w' : World} (h : Ext w w') {b o : Nat} {x : Edge} (k : EdgeAt w b o x) : EdgeAt w' b o x := ⟨h.cell k.1, h.cell k.2.1, h.cell k.2.2⟩
theorem EdgesV.mono {w w' : World} (h : Ext w w') {v : Value} {l : List Edge} (k : EdgesV w v l) : EdgesV w' v l := SlV.mono k (fun _ _ _ _ => EdgeAt.mono h) h.size

def edgeVal (e : Edge) : Value := .agg #[.int .i64 e.src, .int .i64 e.letter, .int .i64 e.dst]
def SysV (w : World) (v : Value) (s : Sys) : Prop := ∃ ve, v = .agg #[.int .i64 s.alphabet, .int .i64 s.states, ve] ∧ EdgesV w ve s.edges
def AutoV (w : World) (v : Value) (a : Auto) : Prop := ∃ vn va, v = .agg #[.int .i64 a.alphabet, vn, va] ∧ IntssV w vn a.next ∧ BoolsV w va a.accept
theorem SysV.mono {w w' : World} (h : Ext w w') {v : Value} {s : Sys} (k : SysV w v s) : SysV w' v s := let ⟨ve, e, h1⟩ := k; ⟨ve, e, h1.mono h⟩
theorem AutoV.mono {w w' : World} (h : Ext w w') {v : Value} {s : Auto} (k : AutoV w v s) : AutoV w' v s := let ⟨vn, va, e, h1, h2⟩ := k; ⟨vn, va, e, h1.mono h, h2.mono h⟩
theorem Grows.quiet {P : Program} {f : FuncId} {args : Array Value} {w : World} {d : Nat} {os : Array Obj} {v : Value}
    (h : Calls P f args (Go.Sort.grow (redrawn w d) os) (Grows v (Go.Sort.grow (redrawn w d) os))) : Calls P f args (Go.Sort.grow (redrawn w d) os) fun e w'' => e = .returned v ∧ ∃ p : Regrown, w'' = Go.Sort.grow (redrawn w p.d) p.os :=
  Calls.regrown_of (h.mono fun _ _ h => h)
theorem Same.quiet {P : Program} {f : FuncId} {args : Array Value} {w : World} {d : Nat} {os : Array Obj} {v : Value}
    (h : Calls P f args (Go.Sort.grow (redrawn w d) os) (Same v (Go.Sort.grow (redrawn w d) os))) : Calls P f args (Go.Sort.grow (redrawn w d) os) fun e w'' => e = .returned v ∧ ∃ p : Regrown, w'' = Go.Sort.grow (redrawn w p.d) p.os :=
  Calls.regrown_of (h.mono fun _ _ h => ⟨h.1, h.2 ▸ Below.refl _ _⟩)

end Go.Proofs.YtanekmfifmkbmaaGreatDoor
