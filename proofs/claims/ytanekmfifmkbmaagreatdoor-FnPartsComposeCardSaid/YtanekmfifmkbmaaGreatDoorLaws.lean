/- Part of this seat's proofs, cut to what its law needs. -/

import Derived.Test.YtanekmfifmkbmaaGreatDoorBase
namespace Go.Proofs.YtanekmfifmkbmaaGreatDoor
set_option linter.unusedSimpArgs false
set_option linter.unusedVariables false
open Go.RowKit

theorem new_cell (w : World) (cs : Array Value) (t : TypeId) (j : Nat) (u : Value) (h : cs[j]? = some u) : (w.alloc (.cells cs t)).cell? ⟨w.heap.size, j, none⟩ = some u := by
  unfold World.cell?
  rw [show (w.alloc (.cells cs t)).heap[w.heap.size]? = some (.cells cs t) from heap_alloc_new w _]
  simpa using h

section
variable {P : Program} {ops : Array Oper} {rest : List Oper} {o : Oper} {a : Act} {Q : Exit → Act → World → Prop}

theorem app1 {wr : World} {s x : Operand} {t e e' : TypeId} {base size bytes n : Nat} {z v : Value} {xs news : List Value} (hgd : o.guard = none)
    (ho : o.op = .call { callee := .builtin .append, args := #[s, x], argTypes := #[t, t] })
    (ht : P.underlying t = some (.slice e)) (hinfo : (P.info? e).map (fun i => (i.zero, i.size, i.bytes)) = some (some z, size, bytes)) (hzs : z.cells.size = size) (hsz : 0 < size)
    (hown : wr.ownsRow base e size v n xs) (hs : a.eval s = v) (hx : a.eval x = .slice (some ⟨wr.heap.size, 0, none⟩) 1 1) (hl : news.length = size) (h1 : ∀ u ∈ news, u.oneCell' = true)
    (hn : n ≤ 4294967296) (hb : bytes ≤ 1024) (hbase : base ≤ wr.heap.size)
    (h : ∀ v' w', w'.ownsRow base e size v' (n + 1) (xs ++ news) → wr.grownBy w' v.ownBlock → Below base wr w' → wpList P ops Q rest (a.put o.dst v') w') :
    wpList P ops Q (o :: rest) a (wr.alloc (.cells news.toArray e')) := by
  obtain ⟨i, hi, hz, hsize, hby⟩ := info_parts hinfo
  refine wpList_append_own _ hgd s x t ho base e i z size bytes ht hi hz hsize hby hzs hsz v n xs hs (hown.alloc _) ⟨wr.heap.size, 0, none⟩ 1 1 news hx (by omega) ?_ h1 (by unfold maxLen; omega) ?_ (by simp; omega) ?_
  · intro j u hj
    have hadd : (⟨wr.heap.size, 0, none⟩ : Addr).add j = ⟨wr.heap.size, j, none⟩ := by unfold Addr.add; split <;> simp_all
    rw [hadd]
    exact new_cell wr _ _ _ _ (by simpa using hj)
  · have := Nat.mul_le_mul (show n + 1 ≤ 4294967297 by omega) hb; omega
  · intro v' w' h1 h2 _
    have hg : wr.grownBy w' v.ownBlock := by
      have h3 := World.grownBy_alloc wr (.cells news.toArray e') v.ownBlock
      exact ⟨h2.os.trans h3.os, h2.tape.trans h3.tape, h2.output.trans h3.output, Nat.le_trans h3.size h2.size, fun k hk hne => (h2.block k (by simp; omega) hne).trans (h3.block k hk hne)⟩
    exact h v' w' h1 hg ((Below.refl _ _).grown hg hbase fun k hk => (World.ownsRow.lt hown k hk).1)

theorem make1 {w : World} {l c : Operand} {t e : TypeId} {base size bytes n : Nat} {z : Value} {kl kc : IntKind} {L C : Int} (hg : o.guard = none) (hop : o.op = Op.makeSlice t l c)
    (ht : P.underlying t = some (.slice e)) (hinfo : (P.info? e).map (fun i => (i.zero, i.size, i.bytes)) = some (some z, size, bytes))
    (hl : a.eval l = .int kl L) (hc : a.eval c = .int kc C) (hL : L = (n : Int)) (hC : C = (n : Int)) (hn : n ≤ 4294967296) (hb : bytes ≤ 1024) (hbase : base ≤ w.heap.size)
    (hK : ∀ w', w'.ownsRow base e size (.slice (some ⟨w.heap.size, 0, none⟩) n n) n (madeCells z.cells (n * size)).toList → Ext w w' → w.heap.size < w'.heap.size → wpList P ops Q rest (a.put o.dst (.slice (some ⟨w.heap.size, 0, none⟩) n n)) w') :
    wpList P ops Q (o :: rest) a w := by
  obtain ⟨i, hi, hz, hsize, hby⟩ := info_parts hinfo
  refine wpList_make_full w hg l c t hop base e i z size ht hi hz hsize kl kc L C n hl hc hL hC (by rw [hby]; have := Nat.mul_le_mul hb hn; omega) (by unfold maxLen; omega) hbase ?_
  intro w' h1 h2
  refine hK w' h1 ((Below.refl _ _).grown h2 (Nat.le_refl _) fun k hk => by cases hk) ?_
  rcases h1.2 with ⟨h, _⟩ | ⟨g, cap, cur, h, _, hg', _⟩
  · cases h
  · simp at h; obtain ⟨rfl, _⟩ := h; exact (Array.getElem?_eq_some_iff.1 hg').1
end


theorem own_cell {w : World} {base : Nat} {e : TypeId} {size g n cap : Nat} {xs : List Value} (h : w.ownsRow base e size (.slice (some ⟨g, 0, none⟩) n cap) n xs) {j : Nat} {u : Value} (hu : xs[j]? = some u) :
    w.cell? ⟨g, j, none⟩ = some u := by
  have hl := h.1
  obtain ⟨hj, _⟩ := List.getElem?_eq_some_iff.1 hu
  rw [World.ownsRow.cellAt h j (by omega), hu]

theorem own_shape {w : World} {base : Nat} {e : TypeId} {size n : Nat} {v : Value} {xs : List Value} (h : w.ownsRow base e size v n xs) :
    (v = .slice none 0 0 ∧ n = 0) ∨ ∃ g cap, v = .slice (some ⟨g, 0, none⟩) n cap ∧ base ≤ g ∧ g < w.heap.size ∧ n ≤ cap ∧ cap ≤ maxLen := by
  rcases h.2 with h1 | ⟨g, cap, cur, rfl, hb, hg, h1, h2, _⟩
  · exact .inl h1
  · exact .inr ⟨g, cap, rfl, hb, (Array.getElem?_eq_some_iff.1 hg).1, h1, h2⟩

theorem SlV_of_own {α : Type} {E : World → Nat → Nat → α → Prop} {w : World} {base : Nat} {e : TypeId} {size : Nat} {v : Value} {xs : List α} {cs : List Value} (h : w.ownsRow base e size v xs.length cs)
    (hE : ∀ g cap, v = .slice (some ⟨g, 0, none⟩) xs.length cap → ∀ i x, xs[i]? = some x → E w g (i * size) x) : SlV E size w v xs := by
  rcases own_shape h with ⟨rfl, hn⟩ | ⟨g, cap, rfl, hb, hg, h1, h2⟩
  · exact ⟨none, 0, by rw [hn], by omega, by omega, fun h0 => by omega⟩
  · exact ⟨_, cap, rfl, h1, h2, fun _ => ⟨g, 0, rfl, hg, fun i x hi => by rw [Nat.zero_add]; exact hE g cap rfl i x hi⟩⟩

theorem IntsV_of_own {w : World} {base : Nat} {e : TypeId} {v : Value} {l : List Int} (h : w.ownsRow base e 1 v l.length (l.map (Value.int .i64))) : IntsV w v l :=
  SlV_of_own h fun g cap hv i x hi => by subst hv; rw [Nat.mul_one]; exact own_cell h (by simp [hi])
theorem BoolsV_of_own {w : World} {base : Nat} {e : TypeId} {v : Value} {l : List Bool} (h : w.ownsRow base e 1 v l.length (l.map Value.bool)) : BoolsV w v l :=
  SlV_of_own h fun g cap hv i x hi => by subst hv; rw [Nat.mul_one]; exact own_cell h (by simp [hi])

def IntsOwn (e : TypeId) (base : Nat) (w : World) (v : Value) (l : List Int) : Prop := w.ownsRow base e 1 v l.length (l.map (Value.int .i64))
theorem IntsOwn.nil (e : TypeId) (base : Nat) (w : World) : IntsOwn e base w (.slice none 0 0) [] := World.ownsRow_nil _ _ _ _
theorem IntsOwn.push {e : TypeId} {base : Nat} {w : World} {v : Value} {l l' : List Int} {x : Int} (h : w.ownsRow base e 1 v (l.length + 1) (l.map (Value.int .i64) ++ [.int .i64 x])) (hl : l' = l ++ [x]) : IntsOwn e base w v l' := by
  subst hl; unfold IntsOwn; simpa using h
theorem IntsOwn.ints {e : TypeId} {base : Nat} {w : World} {v : Value} {l : List Int} (h : IntsOwn e base w v l) : IntsV w v l := IntsV_of_own h
theorem IntsOwn.own {e : TypeId} {base : Nat} {w : World} {v : Value} {l : List Int} (h : IntsOwn e base w v l) : w.ownsRow base e 1 v l.length (l.map (Value.int .i64)) := h

theorem Gives.mk {Φ : Value → World → Prop} {w w' : World} {v u : Value} (hv : u = v) (he : Ext w w') (h : Φ v w') : Gives Φ w (.returned u) w' := ⟨v, by rw [hv], he, h⟩
theorem Same.mk {v u : Value} {w : World} (hv : u = v) : Same v w (.returned u) w := ⟨by rw [hv], rfl⟩
theorem Grows.mk {v u : Value} {w w' : World} (hv : u = v) (he : Ext w w') : Grows v w (.returned u) w' := ⟨by rw [hv], he⟩

def filled (xs : List Value) (k : Nat) (z : Value) : List Value := xs.take k ++ List.replicate (xs.length - k) z
theorem grown_below {w w1 w2 : World} {B : Nat} {row : Option Nat} (h : Below B w w1) (hg : w1.grownBy w2 row) (hB : B ≤ w1.heap.size) (hr : ∀ k, row = some k → B ≤ k) : Below B w w2 := h.grown hg hB hr

theorem own_ext {w w' : World} {base : Nat} {e : TypeId} {size n : Nat} {v : Value} {xs : List Value} (h : w.ownsRow base e size v n xs) (he : Ext w w') : w'.ownsRow base e size v n xs := by
  refine ⟨h.1, ?_⟩
  rcases h.2 with h1 | ⟨g, cap, cur, rfl, hb, hg, r⟩
  · exact .inl h1
  · exact .inr ⟨g, cap, cur, rfl, hb, by rw [he.block g (Array.getElem?_eq_some_iff.1 hg).1]; exact hg, r⟩
theorem own_base {w : World} {base base' : Nat} {e : TypeId} {size n : Nat} {v : Value} {xs : List Value} (h : w.ownsRow base e size v n xs) (hb : base' ≤ base) : w.ownsRow base' e size v n xs := by
  refine ⟨h.1, ?_⟩
  rcases h.2 with h1 | ⟨g, cap, cur, rfl, hg, r⟩
  · exact .inl h1
  · exact .inr ⟨g, cap, cur, rfl, by omega, r⟩
theorem IntsOwn.ext {e : TypeId} {base : Nat} {w w' : World} {v : Value} {l : List Int} (h : IntsOwn e base w v l) (he : Ext w w') : IntsOwn e base w' v l := own_ext h he
theorem IntsOwn.low {e : TypeId} {base base' : Nat} {w : World} {v : Value} {l : List Int} (h : IntsOwn e base w v l) (hb : base' ≤ base) : IntsOwn e base' w v l := own_base h hb
theorem IntsOwn.shape {e : TypeId} {base : Nat} {w : World} {v : Value} {l : List Int} (h : IntsOwn e base w v l) : ∃ a c, v = .slice a l.length c := by
  rcases own_shape h with ⟨rfl, h0⟩ | ⟨g, cap, rfl, _⟩
  · exact ⟨none, 0, by rw [h0]⟩
  · exact ⟨_, _, rfl⟩

structure RowsAre (e : TypeId) (base : Nat) (w : World) (vs : List Value) (ll : List (List Int)) : Prop where
  len : vs.length = ll.length
  row : ∀ (j : Nat) x l, vs[j]? = some x → ll[j]? = some l → IntsOwn e base w x l
  apart : ∀ (i j : Nat) x y, i < j → vs[i]? = some x → vs[j]? = some y → x.ownBlock = none ∨ x.ownBlock ≠ y.ownBlock
theorem RowsAre.ext {e : TypeId} {base : Nat} {w w' : World} {vs : List Value} {ll : List (List Int)} (h : RowsAre e base w vs ll) (he : Ext w w') : RowsAre e base w' vs ll :=
  ⟨h.len, fun j x l hx hl => (h.row j x l hx hl).ext he, h.apart⟩
def IntssOwn (e2 e1 : TypeId) (base : Nat) (w : World) (v : Value) (ll : List (List Int)) : Prop :=
  ∃ vs, w.ownsRow base e2 1 v ll.length vs ∧ RowsAre e1 base w vs ll ∧ ∀ (j : Nat) x, vs[j]? = some x → x.ownBlock = none ∨ x.ownBlock ≠ v.ownBlock
theorem IntssOwn.ext {e2 e1 : TypeId} {base : Nat} {w w' : World} {v : Value} {ll : List (List Int)} (h : IntssOwn e2 e1 base w v ll) (he : Ext w w') : IntssOwn e2 e1 base w' v ll :=
  let ⟨vs, h1, h2, h3⟩ := h; ⟨vs, own_ext h1 he, h2.ext he, h3⟩
theorem IntssOwn.shape {e2 e1 : TypeId} {base : Nat} {w : World} {v : Value} {l : List (List Int)} (h : IntssOwn e2 e1 base w v l) : ∃ a c, v = .slice a l.length c := by
  obtain ⟨vs, h, _⟩ := h
  rcases own_shape h with ⟨rfl, h0⟩ | ⟨g, cap, rfl, _⟩
  · exact ⟨none, 0, by rw [h0]⟩
  · exact ⟨_, _, rfl⟩

def BoolsOwn (e : TypeId) (base : Nat) (w : World) (v : Value) (l : List Bool) : Prop := w.ownsRow base e 1 v l.length (l.map Value.bool)
theorem BoolsOwn.bools {e : TypeId} {base : Nat} {w : World} {v : Value} {l : List Bool} (h : BoolsOwn e base w v l) : BoolsV w v l := BoolsV_of_own h
theorem BoolsOwn.own {e : TypeId} {base : Nat} {w : World} {v : Value} {l : List Bool} (h : BoolsOwn e base w v l) : w.ownsRow base e 1 v l.length (l.map Value.bool) := h
theorem BoolsOwn.ext {e : TypeId} {base : Nat} {w w' : World} {v : Value} {l : List Bool} (h : BoolsOwn e base w v l) (he : Ext w w') : BoolsOwn e base w' v l := own_ext h he
theorem BoolsOwn.low {e : TypeId} {base base' : Nat} {w : World} {v : Value} {l : List Bool} (h : BoolsOwn e base w v l) (hb : base' ≤ base) : BoolsOwn e base' w v l := own_base h hb
theorem BoolsOwn.shape {e : TypeId} {base : Nat} {w : World} {v : Value} {l : List Bool} (h : BoolsOwn e base w v l) : ∃ a c, v = .slice a l.length c := by
  rcases own_shape h with ⟨rfl, h0⟩ | ⟨g, cap, rfl, _⟩
  · exact ⟨none, 0, by rw [h0]⟩
  · exact ⟨_, _, rfl⟩

def edgeCells (es : List Edge) : List Value := es.flatMap fun e => [.int .i64 e.src, .int .i64 e.letter, .int .i64 e.dst]
theorem edgeCells_at (es : List Edge) (i : Nat) (e : Edge) (h : es[i]? = some e) :
    (edgeCells es)[i * 3]? = some (.int .i64 e.src) ∧ (edgeCells es)[i * 3 + 1]? = some (.int .i64 e.letter) ∧ (edgeCells es)[i * 3 + 2]? = some (.int .i64 e.dst) := by
  induction es generalizing i with
  | nil => simp at h
  | cons x es ih =>
    cases i with
    | zero => simp at h; subst h; simp [edgeCells]
    | succ i =>
      have := ih i (by simpa using h)
      have e0 : edgeCells (x :: es) = [.int .i64 x.src, .int .i64 x.letter, .int .i64 x.dst] ++ edgeCells es := rfl
      have g : ∀ j, (edgeCells (x :: es))[(i + 1) * 3 + j]? = (edgeCells es)[i * 3 + j]? := fun j => by
        rw [e0, List.getElem?_append_right (by simp; omega)]
        congr 1; simp; omega
      exact ⟨(g 0).trans this.1, (g 1).trans this.2.1, (g 2).trans this.2.2⟩
def EdgesOwn (e : TypeId) (base : Nat) (w : World) (v : Value) (l : List Edge) : Prop := w.ownsRow base e 3 v l.length (edgeCells l)
theorem EdgesOwn.nil (e : TypeId) (base : Nat) (w : World) : EdgesOwn e base w (.slice none 0 0) [] := World.ownsRow_nil _ _ _ _
theorem EdgesOwn.edges {e : TypeId} {base : Nat} {w : World} {v : Value} {l : List Edge} (h : EdgesOwn e base w v l) : EdgesV w v l :=
  SlV_of_own h fun g cap hv i x hx => by
    subst hv
    have := edgeCells_at l i x hx
    exact ⟨own_cell h this.1, own_cell h this.2.1, own_cell h this.2.2⟩
end Go.Proofs.YtanekmfifmkbmaaGreatDoor
