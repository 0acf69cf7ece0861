/- Merged: WalkP, WalkQ. -/
import Derived.Test.YtccklliljdembaaWalkE

namespace Go.Proofs.Ytccklliljdembaa
set_option linter.unusedSimpArgs false
set_option linter.unusedVariables false
open Go.RowKit

set_option maxHeartbeats 800000

/-- Only blocks from lo up to hi have turned. -/
structure Chg (lo hi : Nat) (w w' : World) : Prop where
  os : w'.os = w.os
  tape : w'.tape = w.tape
  output : w'.output = w.output
  size : w.heap.size ≤ w'.heap.size
  block : ∀ b, b < w.heap.size → ¬ (lo ≤ b ∧ b < hi) → w'.heap[b]? = w.heap[b]?
theorem Chg.refl (lo hi : Nat) (w : World) : Chg lo hi w w := ⟨rfl, rfl, rfl, Nat.le_refl _, fun _ _ _ => rfl⟩
theorem Chg.trans {lo hi : Nat} {a b c : World} (h : Chg lo hi a b) (k : Chg lo hi b c) : Chg lo hi a c :=
  ⟨k.os.trans h.os, k.tape.trans h.tape, k.output.trans h.output, Nat.le_trans h.size k.size, fun i hi hn => (k.block i (Nat.lt_of_lt_of_le hi h.size) hn).trans (h.block i hi hn)⟩
theorem Chg.ext {lo hi : Nat} {w w' : World} (h : Ext w w') : Chg lo hi w w' := ⟨h.os, h.tape, h.output, h.size, fun b hb _ => h.block b hb⟩
theorem Chg.grown {lo hi g : Nat} {w w' : World} (h : w.grownBy w' (some g)) (h1 : lo ≤ g) (h2 : g < hi) : Chg lo hi w w' :=
  ⟨h.os, h.tape, h.output, h.size, fun b hb hn => h.block b hb (fun e => by cases e; exact hn ⟨h1, h2⟩)⟩
theorem Chg.wide {lo hi lo' hi' : Nat} {w w' : World} (h : Chg lo hi w w') (h1 : lo' ≤ lo) (h2 : hi ≤ hi') : Chg lo' hi' w w' :=
  ⟨h.os, h.tape, h.output, h.size, fun b hb hn => h.block b hb fun e => hn ⟨by omega, by omega⟩⟩
theorem Chg.below {lo hi : Nat} {w w' : World} (h : Chg lo hi w w') (hl : lo ≤ w.heap.size) : Below lo w w' :=
  ⟨h.os, h.tape, h.output, h.size, fun b hb => h.block b (by omega) fun e => by omega⟩
theorem Chg.own {lo hi base : Nat} {w w' : World} {e : TypeId} {size n : Nat} {v : Value} {xs : List Value} (h : Chg lo hi w w') (ho : w.ownsRow base e size v n xs) (hv : ∀ g, v.ownBlock = some g → ¬ (lo ≤ g ∧ g < hi)) : w'.ownsRow base e size v n xs := by
  refine ⟨ho.1, ?_⟩
  rcases ho.2 with h1 | ⟨g, cap, cur, rfl, hb, hg, r⟩
  · exact .inl h1
  · exact .inr ⟨g, cap, cur, rfl, hb, by rw [h.block g (Array.getElem?_eq_some_iff.1 hg).1 (hv g rfl)]; exact hg, r⟩
/-- Slices of different elements lie in different blocks. -/
theorem own_apart {w : World} {base base' : Nat} {e e' : TypeId} {size size' n n' : Nat} {v v' : Value} {xs xs' : List Value} (h : w.ownsRow base e size v n xs) (h' : w.ownsRow base' e' size' v' n' xs') (hne : e ≠ e') : ∀ g, v.ownBlock = some g → v'.ownBlock ≠ some g := by
  intro g hg hg'
  rcases h.2 with ⟨rfl, _⟩ | ⟨g1, cap, cur, rfl, hb, hw, r⟩
  · simp [Value.ownBlock] at hg
  · rcases h'.2 with ⟨rfl, _⟩ | ⟨g2, cap', cur', rfl, hb', hw', r'⟩
    · simp [Value.ownBlock] at hg'
    · simp [Value.ownBlock] at hg hg'
      subst hg; subst hg'
      rw [hw] at hw'
      cases hw'
      exact hne rfl

/-- Number j of the marks that begin with n. -/
def markI (n : Int) (j : Nat) : Value := .int .i64 (n + j)
def markB (n : Int) (j : Nat) : Value := .bool (decide ((n + j) % 3 = 0))
def MarkTo (f : Nat → Value) (L : List Value) (k : Nat) : Prop := ∀ j, j < k → L[j]? = some (f j)
theorem MarkTo.set {f : Nat → Value} {L : List Value} {k : Nat} (h : MarkTo f L k) (hk : k < L.length) : MarkTo f (L.set k (f k)) (k + 1) := fun j hj => by
  by_cases he : j = k
  · subst he; rw [List.getElem?_set_self hk]
  · rw [List.getElem?_set_ne (by omega)]; exact h j (by omega)
theorem MarkTo.all {f : Nat → Value} {L : List Value} (h : MarkTo f L L.length) : L = (List.range L.length).map f := by
  apply List.ext_getElem?
  intro j
  by_cases hj : j < L.length
  · rw [h j hj]; simp [hj]
  · rw [List.getElem?_eq_none (by omega), List.getElem?_eq_none (by simp; omega)]
/-- A slice of the call's own that holds the marks f. -/
def Marked (e : TypeId) (size base : Nat) (w : World) (v : Value) (n : Nat) (f : Nat → Value) : Prop := w.ownsRow base e size v n ((List.range (n * size)).map f)
/-- The block of a slice lies below hi. -/
def Under (hi : Nat) (v : Value) : Prop := ∀ g, v.ownBlock = some g → g < hi

theorem own_any {w : World} {base : Nat} {e : TypeId} {size n : Nat} {v : Value} {xs : List Value} (h : w.ownsRow base e size v n xs) : ∃ a c, v = .slice a n c := by
  rcases own_shape h with ⟨rfl, rfl⟩ | ⟨g, cap, rfl, _⟩
  · exact ⟨_, _, rfl⟩
  · exact ⟨_, _, rfl⟩
theorem own_some {w : World} {base : Nat} {e : TypeId} {size n : Nat} {a : Option Addr} {c : Nat} {xs : List Value} (h : w.ownsRow base e size (.slice a n c) n xs) (hn : 0 < n) : ∃ g, a = some ⟨g, 0, none⟩ ∧ base ≤ g := by
  rcases own_shape h with ⟨_, rfl⟩ | ⟨g, cap, he, hb, _⟩
  · omega
  · cases he; exact ⟨g, rfl, hb⟩

theorem mark_at (f : Nat → Value) {m j : Nat} (h : j < m) : ((List.range m).map f)[j]? = some (f j) := by simp [h]

theorem own_tight {w : World} {base : Nat} {e : TypeId} {size n : Nat} {g c : Nat} {xs : List Value} (h : w.ownsRow base e size (.slice (some ⟨g, 0, none⟩) n c) n xs) : w.ownsRow g e size (.slice (some ⟨g, 0, none⟩) n c) n xs := by
  refine ⟨h.1, ?_⟩
  rcases h.2 with ⟨h1, _⟩ | ⟨g1, cap, cur, he, hb, hg, r⟩
  · cases h1
  · cases he; exact .inr ⟨g, c, cur, rfl, Nat.le_refl _, hg, r⟩
theorem own_nil {w w' : World} {base base' : Nat} {e : TypeId} {size : Nat} {xs : List Value} (h : w.ownsRow base e size (.slice none 0 0) 0 xs) : w'.ownsRow base' e size (.slice none 0 0) 0 xs := by
  refine ⟨h.1, ?_⟩
  rcases h.2 with h1 | ⟨g1, cap, cur, he, _⟩
  · exact .inl h1
  · cases he
/-- What a leaf's contract says for every range, it says for the one block. -/
theorem one_block {w : World} {base : Nat} {e : TypeId} {size k : Nat} {v r : Value} {xs : List Value} {f : Nat → Value} {F : FuncId} {args : Array Value} {P : Program} (h : w.ownsRow base e size v k xs)
    (hc : ∀ lo hi, w.ownsRow lo e size v k xs → Under hi v → Calls P F args w (fun E w' => E = .returned r ∧ Chg lo hi w w' ∧ Marked e size lo w' v k f)) :
    Calls P F args w (fun E w' => E = .returned r ∧ w.grownBy w' v.ownBlock ∧ Marked e size base w' v k f) := by
  rcases own_shape h with ⟨rfl, rfl⟩ | ⟨g, cap, rfl, hg, hlt, -, -⟩
  · refine (hc 0 0 (own_nil h) (fun g hg => by simp [Value.ownBlock] at hg)).mono fun E w' ⟨h1, h2, h3⟩ => ⟨h1, ⟨h2.os, h2.tape, h2.output, h2.size, fun b hb _ => h2.block b hb (by omega)⟩, own_nil h3⟩
  · refine (hc g (g + 1) (own_tight h) (fun g' hg' => by simp [Value.ownBlock] at hg'; omega)).mono fun E w' ⟨h1, h2, h3⟩ => ⟨h1, ⟨h2.os, h2.tape, h2.output, h2.size, fun b hb hne => h2.block b hb (fun hx => hne (by simp [Value.ownBlock]; omega))⟩, own_base h3 hg⟩
/-- Only blocks of S have turned. -/
structure Tnd (S : Nat → Prop) (w w' : World) : Prop where
  os : w'.os = w.os
  tape : w'.tape = w.tape
  output : w'.output = w.output
  size : w.heap.size ≤ w'.heap.size
  block : ∀ b, b < w.heap.size → ¬ S b → w'.heap[b]? = w.heap[b]?
theorem Tnd.refl (S : Nat → Prop) (w : World) : Tnd S w w := ⟨rfl, rfl, rfl, Nat.le_refl _, fun _ _ _ => rfl⟩
theorem Tnd.trans {S : Nat → Prop} {a b c : World} (h : Tnd S a b) (k : Tnd S b c) : Tnd S a c :=
  ⟨k.os.trans h.os, k.tape.trans h.tape, k.output.trans h.output, Nat.le_trans h.size k.size, fun i hi hn => (k.block i (Nat.lt_of_lt_of_le hi h.size) hn).trans (h.block i hi hn)⟩
theorem Tnd.ext {S : Nat → Prop} {w w' : World} (h : Ext w w') : Tnd S w w' := ⟨h.os, h.tape, h.output, h.size, fun b hb _ => h.block b hb⟩
theorem Tnd.grown {S : Nat → Prop} {row : Option Nat} {w w' : World} (h : w.grownBy w' row) (hS : ∀ g, row = some g → S g) : Tnd S w w' :=
  ⟨h.os, h.tape, h.output, h.size, fun b hb hn => h.block b hb (fun e => hn (hS b e.symm))⟩
theorem Tnd.imp {S S' : Nat → Prop} {w w' : World} (h : Tnd S w w') (hS : ∀ b, S b → S' b) : Tnd S' w w' := ⟨h.os, h.tape, h.output, h.size, fun b hb hn => h.block b hb fun e => hn (hS b e)⟩
theorem Tnd.below {S : Nat → Prop} {lo : Nat} {w w' : World} (h : Tnd S w w') (hl : lo ≤ w.heap.size) (hS : ∀ b, S b → lo ≤ b) : Below lo w w' :=
  ⟨h.os, h.tape, h.output, h.size, fun b hb => h.block b (by omega) fun e => by have := hS b e; omega⟩
theorem Tnd.own {S : Nat → Prop} {base : Nat} {w w' : World} {e : TypeId} {size n : Nat} {v : Value} {xs : List Value} (h : Tnd S w w') (ho : w.ownsRow base e size v n xs) (hv : ∀ g, v.ownBlock = some g → ¬ S g) : w'.ownsRow base e size v n xs := by
  refine ⟨ho.1, ?_⟩
  rcases ho.2 with h1 | ⟨g, cap, cur, rfl, hb, hg, r⟩
  · exact .inl h1
  · exact .inr ⟨g, cap, cur, rfl, hb, by rw [h.block g (Array.getElem?_eq_some_iff.1 hg).1 (hv g rfl)]; exact hg, r⟩
def RowsB (vs : List Value) (b : Nat) : Prop := ∃ (i : Nat) (x : Value), vs[i]? = some x ∧ x.ownBlock = some b
def SlB (v : Value) (b : Nat) : Prop := v.ownBlock = some b

/-- How many ints lie in the rows ahead. -/
def sumTo (ks : List Nat) (j : Nat) : Nat := (ks.take j).sum
theorem sumTo_succ {ks : List Nat} {j k : Nat} (h : ks[j]? = some k) : sumTo ks (j + 1) = sumTo ks j + k := by
  unfold sumTo; rw [List.take_add_one, h]; simp
theorem sumTo_le (ks : List Nat) (j : Nat) : sumTo ks j ≤ ks.sum := by
  unfold sumTo
  conv => rhs; rw [← List.take_append_drop j ks]
  rw [List.sum_append]; omega
theorem sumTo_full (ks : List Nat) : sumTo ks ks.length = ks.sum := by unfold sumTo; rw [List.take_length]

/-- Slices of ints of the call's own, each in a block of its own, with lengths ks; those ahead of j hold the marks that begin with n. -/
structure RowsMk (base : Nat) (w : World) (v : Value) (vs : List Value) (ks : List Nat) (n : Int) (j : Nat) : Prop where
  own : w.ownsRow base 43 1 v ks.length vs
  row : ∀ (i : Nat) x k, vs[i]? = some x → ks[i]? = some k → ∃ xs, w.ownsRow base 3 1 x k xs
  apart : ∀ (i i' : Nat) x y g, i ≠ i' → vs[i]? = some x → vs[i']? = some y → x.ownBlock = some g → y.ownBlock ≠ some g
  marks : ∀ (i : Nat) x k, i < j → vs[i]? = some x → ks[i]? = some k → Marked 3 1 base w x k (markI (n + sumTo ks i))

end Go.Proofs.Ytccklliljdembaa

namespace Go.Proofs.Ytccklliljdembaa
set_option linter.unusedSimpArgs false
set_option linter.unusedVariables false
open Go.RowKit

set_option maxHeartbeats 800000

/-- The blocks from lo up to hi. -/
def Span (lo hi : Nat) (b : Nat) : Prop := lo ≤ b ∧ b < hi
theorem own_span {w : World} {base : Nat} {e : TypeId} {size n : Nat} {v : Value} {xs : List Value} (h : w.ownsRow base e size v n xs) : ∀ b, v.ownBlock = some b → Span base w.heap.size b := fun b hb => World.ownsRow.lt h b hb
theorem Span.up {lo hi hi' b : Nat} (h : Span lo hi b) (hh : hi ≤ hi') : Span lo hi' b := ⟨h.1, Nat.lt_of_lt_of_le h.2 hh⟩

theorem RowsMk.of_own {base : Nat} {w : World} {v : Value} {ll : List (List Int)} (h : IntssOwn 43 3 base w v ll) (n : Int) : ∃ vs, RowsMk base w v vs (ll.map List.length) n 0 := by
  obtain ⟨vs, h1, h2, h3⟩ := h
  refine ⟨vs, by rw [List.length_map]; exact h1, fun i x k hx hk => ?_, fun i i' x y g hne hx hy hb hb' => ?_, fun i x k hi => by omega⟩
  · rw [List.getElem?_map] at hk
    obtain ⟨l, hl, rfl⟩ := Option.map_eq_some_iff.1 hk
    exact ⟨_, h2.row i x l hx hl⟩
  · rcases Nat.lt_or_gt_of_ne hne with h | h
    · rcases h2.apart i i' x y h hx hy with h4 | h4
      · rw [h4] at hb; cases hb
      · exact h4 (hb.trans hb'.symm)
    · rcases h2.apart i' i y x h hy hx with h4 | h4
      · rw [h4] at hb'; cases hb'
      · exact h4 (hb'.trans hb.symm)
theorem RowsMk.ext {base : Nat} {w w' : World} {v : Value} {vs : List Value} {ks : List Nat} {n : Int} {j : Nat} (h : RowsMk base w v vs ks n j) (he : Ext w w') : RowsMk base w' v vs ks n j :=
  ⟨own_ext h.own he, fun i x k hx hk => let ⟨xs, hr⟩ := h.row i x k hx hk; ⟨xs, own_ext hr he⟩, h.apart, fun i x k hi hx hk => own_ext (h.marks i x k hi hx hk) he⟩
theorem RowsMk.tnd {S : Nat → Prop} {base : Nat} {w w' : World} {v : Value} {vs : List Value} {ks : List Nat} {n : Int} {j : Nat} (h : RowsMk base w v vs ks n j) (ht : Tnd S w w') (hv : ∀ b, v.ownBlock = some b → ¬ S b) (hr : ∀ b, RowsB vs b → ¬ S b) : RowsMk base w' v vs ks n j :=
  ⟨ht.own h.own hv, fun i x k hx hk => let ⟨xs, hq⟩ := h.row i x k hx hk; ⟨xs, ht.own hq fun b hb => hr b ⟨i, x, hx, hb⟩⟩, h.apart, fun i x k hi hx hk => ht.own (h.marks i x k hi hx hk) fun b hb => hr b ⟨i, x, hx, hb⟩⟩
theorem RowsMk.span {base : Nat} {w : World} {v : Value} {vs : List Value} {ks : List Nat} {n : Int} {j : Nat} (h : RowsMk base w v vs ks n j) : ∀ b, RowsB vs b → Span base w.heap.size b := by
  rintro b ⟨i, x, hx, hb⟩
  have hl := h.own.1
  obtain ⟨k, hk⟩ : ∃ k, ks[i]? = some k := ⟨_, List.getElem?_eq_getElem (by have := (List.getElem?_eq_some_iff.1 hx).1; omega)⟩
  obtain ⟨xs, hq⟩ := h.row i x k hx hk
  exact own_span hq b hb
/-- A slice of another kind is none of the rows. -/
theorem RowsMk.apart_of {base base' : Nat} {w : World} {v u : Value} {vs us : List Value} {ks : List Nat} {n : Int} {j : Nat} {e : TypeId} {size m : Nat} (h : RowsMk base w v vs ks n j) (ho : w.ownsRow base' e size u m us) (hne : e ≠ 3) : ∀ b, u.ownBlock = some b → ¬ RowsB vs b := by
  rintro b hb ⟨i, x, hx, hb'⟩
  have hl := h.own.1
  obtain ⟨k, hk⟩ : ∃ k, ks[i]? = some k := ⟨_, List.getElem?_eq_getElem (by have := (List.getElem?_eq_some_iff.1 hx).1; omega)⟩
  obtain ⟨xs, hq⟩ := h.row i x k hx hk
  exact own_apart ho hq hne b hb hb'

theorem Blk.tnd {S : Nat → Prop} {w w' : World} {b : Nat} {cs : Array Value} {t : TypeId} (h : Blk w b cs t) (ht : Tnd S w w') (hb : ¬ S b) : Blk w' b cs t := (ht.block b h.lt hb).trans h

def AutoMk (base : Nat) (w : World) (v : Value) (ks : List Nat) (m : Nat) (n : Int) : Prop := ∃ a vn va vs, v = .agg #[.int .i64 a, vn, va] ∧ RowsMk base w vn vs ks n ks.length ∧ Marked 4 1 base w va m (markB (n + ks.sum))

end Go.Proofs.Ytccklliljdembaa
