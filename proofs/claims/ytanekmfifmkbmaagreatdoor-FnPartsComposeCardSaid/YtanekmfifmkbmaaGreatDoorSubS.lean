/- Part of this seat's proofs, cut to what its law needs. -/

import Derived.Test.YtanekmfifmkbmaaGreatDoorWalkP
import Derived.Test.YtanekmfifmkbmaaGreatDoorWalkY
import Derived.Maps.AppendAt
import Derived.Maps.OwnSet
import Derived.Maps.OwnOps
import Derived.Test.YtanekmfifmkbmaaGreatDoorPlainC
import Derived.Test.YtanekmfifmkbmaaGreatDoorWalkR
import Derived.Test.YtanekmfifmkbmaaGreatDoorWalkSA
import Derived.Test.YtanekmfifmkbmaaGreatDoorWalkSE

namespace Go.Proofs.YtanekmfifmkbmaaGreatDoor
set_option linter.unusedSimpArgs false
set_option linter.unusedVariables false
open Go.RowKit

structure Slc where
  e : TypeId
  sz : Nat
  v : Value
  n : Nat
  xs : List Value
def Apt (v u : Value) : Prop := ∀ k, v.ownBlock = some k → u.ownBlock ≠ some k
theorem Apt.symm {v u : Value} (h : Apt v u) : Apt u v := fun k h1 h2 => h k h2 h1
theorem Apt.nil (u : Value) : Apt (.slice none 0 0) u := fun k h => by cases h
structure Pool (base : Nat) (w : World) (l : List Slc) : Prop where
  own : ∀ s ∈ l, w.ownsRow base s.e s.sz s.v s.n s.xs
  apt : l.Pairwise fun a b => Apt a.v b.v

theorem own_lt {w : World} {base : Nat} {e : TypeId} {sz n : Nat} {v : Value} {xs : List Value} (h : w.ownsRow base e sz v n xs) {k : Nat} (hk : v.ownBlock = some k) : base ≤ k ∧ k < w.heap.size := by
  rcases h.2 with ⟨rfl, _⟩ | ⟨g, cap, cur, rfl, hb, hg, _⟩
  · cases hk
  · cases hk; exact ⟨hb, (Array.getElem?_eq_some_iff.1 hg).1⟩
theorem own_kept {w w' : World} {base : Nat} {e : TypeId} {sz n : Nat} {v u : Value} {xs : List Value} (h : w.ownsRow base e sz v n xs) (hg : w.grownBy w' u.ownBlock) (ha : Apt v u) : w'.ownsRow base e sz v n xs := by
  refine ⟨h.1, ?_⟩
  rcases h.2 with h1 | ⟨g, cap, cur, rfl, hb, hh, h2⟩
  · exact .inl h1
  · refine .inr ⟨g, cap, cur, rfl, hb, ?_, h2⟩
    rw [hg.block g (Array.getElem?_eq_some_iff.1 hh).1 (fun e => ha g rfl e.symm)]; exact hh
theorem Pool.perm {base : Nat} {w : World} {l l' : List Slc} (h : Pool base w l) (hp : l.Perm l') : Pool base w l' :=
  ⟨fun s hs => h.own s (hp.mem_iff.2 hs), hp.pairwise h.apt fun {a b} hab => hab.symm⟩
theorem Pool.ext {base : Nat} {w w' : World} {l : List Slc} (h : Pool base w l) (he : Ext w w') : Pool base w' l := ⟨fun s hs => own_ext (h.own s hs) he, h.apt⟩
theorem Pool.nil (base : Nat) (w : World) : Pool base w [] := ⟨fun s hs => absurd hs (by simp), List.Pairwise.nil⟩
theorem Pool.head {base : Nat} {w : World} {s : Slc} {l : List Slc} (h : Pool base w (s :: l)) : w.ownsRow base s.e s.sz s.v s.n s.xs := h.own s (by simp)
theorem Pool.tail {base : Nat} {w : World} {s : Slc} {l : List Slc} (h : Pool base w (s :: l)) : Pool base w l := ⟨fun t ht => h.own t (by simp [ht]), (List.pairwise_cons.1 h.apt).2⟩
theorem Pool.hd {base : Nat} {w : World} {e : TypeId} {sz n : Nat} {v : Value} {xs : List Value} {l : List Slc} (h : Pool base w (⟨e, sz, v, n, xs⟩ :: l)) : w.ownsRow base e sz v n xs := h.head
theorem Pool.hd2 {base : Nat} {w : World} {s : Slc} {e : TypeId} {sz n : Nat} {v : Value} {xs : List Value} {l : List Slc} (h : Pool base w (s :: ⟨e, sz, v, n, xs⟩ :: l)) : w.ownsRow base e sz v n xs := h.tail.head
theorem Pool.hd3 {base : Nat} {w : World} {s t : Slc} {e : TypeId} {sz n : Nat} {v : Value} {xs : List Value} {l : List Slc} (h : Pool base w (s :: t :: ⟨e, sz, v, n, xs⟩ :: l)) : w.ownsRow base e sz v n xs := h.tail.tail.head
theorem Pool.hd4 {base : Nat} {w : World} {s t r : Slc} {e : TypeId} {sz n : Nat} {v : Value} {xs : List Value} {l : List Slc} (h : Pool base w (s :: t :: r :: ⟨e, sz, v, n, xs⟩ :: l)) : w.ownsRow base e sz v n xs := h.tail.tail.tail.head
theorem Pool.app {base : Nat} {w w' : World} {s : Slc} {l : List Slc} (h : Pool base w (s :: l)) {v' : Value} {n' : Nat} {xs' : List Value} (hown : w'.ownsRow base s.e s.sz v' n' xs') (hg : w.grownBy w' s.v.ownBlock) (hloc : v'.ownBlock = s.v.ownBlock ∨ ∃ b, v'.ownBlock = some b ∧ w.heap.size ≤ b) : Pool base w' (⟨s.e, s.sz, v', n', xs'⟩ :: l) := by
  have hap := List.pairwise_cons.1 h.apt
  refine ⟨fun t ht => ?_, List.pairwise_cons.2 ⟨fun t ht => ?_, hap.2⟩⟩
  · rcases List.mem_cons.1 ht with rfl | ht
    · exact hown
    · exact own_kept (h.own t (by simp [ht])) hg (hap.1 t ht).symm
  · rcases hloc with hl | ⟨b, hl, hb⟩
    · intro k hk; exact hap.1 t ht k (by rw [← hl]; exact hk)
    · intro k hk hk2
      have h1 : v'.ownBlock = some k := hk
      rw [hl] at h1; cases h1
      have := (own_lt (h.own t (by simp [ht])) hk2).2
      omega
theorem Pool.set {base : Nat} {w : World} {l : List Slc} (h : Pool base w l) {g : Nat} {cs : Array Value} {T : TypeId} (hG : Blk w g cs T) (hne : ∀ s ∈ l, T ≠ s.e) (j : Nat) (u : Value) : Pool base (w.setCell ⟨g, j, none⟩ u) l :=
  ⟨fun s hs => own_store (h.own s hs) hG (hne s hs) j u, h.apt⟩
theorem Pool.add {base : Nat} {w w' : World} {l : List Slc} (h : Pool base w l) (he : Ext w w') (s : Slc) {b : Nat} (hb : w.heap.size ≤ b) (hb2 : base ≤ b) (hs : w'.ownsRow b s.e s.sz s.v s.n s.xs) : Pool base w' (s :: l) := by
  refine ⟨fun t ht => ?_, List.pairwise_cons.2 ⟨fun t ht k hk hk2 => ?_, h.apt⟩⟩
  · rcases List.mem_cons.1 ht with rfl | ht
    · exact own_base hs hb2
    · exact own_ext (h.own t ht) he
  · have h1 := (own_lt hs hk).1
    have h2 := (own_lt (h.own t ht) hk2).2
    omega
theorem Pool.addNil {base : Nat} {w : World} {l : List Slc} (h : Pool base w l) (e : TypeId) (sz : Nat) : Pool base w (⟨e, sz, .slice none 0 0, 0, []⟩ :: l) :=
  ⟨fun t ht => by rcases List.mem_cons.1 ht with rfl | ht; exact World.ownsRow_nil _ _ _ _; exact h.own t ht, List.pairwise_cons.2 ⟨fun t _ => Apt.nil _, h.apt⟩⟩
theorem Pool.addLit {base : Nat} {w w' : World} {l : List Slc} (h : Pool base w l) (e : TypeId) (sz : Nat) {b : Nat} (hb : w.heap.size ≤ b) (hb2 : base ≤ b) (he : Ext w w') (hB : Blk w' b #[] e) : Pool base w' (⟨e, sz, .slice (some ⟨b, 0, none⟩) 0 0, 0, []⟩ :: l) :=
  h.add he _ hb hb2 ⟨by simp, .inr ⟨b, 0, #[], rfl, Nat.le_refl _, hB, Nat.le_refl _, by unfold maxLen; omega, by simp, by simp⟩⟩

section
variable {P : Program} {ops : Array Oper} {rest : List Oper} {o : Oper} {a : Act} {Q : Exit → Act → World → Prop}
theorem appP {base : Nat} {wr : World} {s x : Operand} {t e' : TypeId} {bytes : Nat} {z v : Value} {e : TypeId} {sz n : Nat} {xs : List Value} {l : List Slc} {news : List Value} (hgd : o.guard = none)
    (ho : o.op = .call { callee := .builtin .append, args := #[s, x], argTypes := #[t, t] })
    (ht : P.underlying t = some (.slice e)) (hinfo : (P.info? e).map (fun i => (i.zero, i.size, i.bytes)) = some (some z, sz, bytes)) (hzs : z.cells.size = sz) (hsz : 0 < sz)
    (hp : Pool base wr (⟨e, sz, v, n, xs⟩ :: l)) (hs : a.eval s = v) (hx : a.eval x = .slice (some ⟨wr.heap.size, 0, none⟩) 1 1) (hl : news.length = sz) (h1 : ∀ u ∈ news, u.oneCell' = true)
    (hn : n ≤ 4294967296) (hb : bytes ≤ 1024) (hbase : base ≤ wr.heap.size)
    (h : ∀ v' w', Pool base w' (⟨e, sz, v', n + 1, xs ++ news⟩ :: l) → wr.grownBy w' v.ownBlock → Below base wr w' → wpList P ops Q rest (a.put o.dst v') w') :
    wpList P ops Q (o :: rest) a (wr.alloc (.cells news.toArray e')) := by
  obtain ⟨i, hi, hz, hsize, hby⟩ := info_parts hinfo
  have hown := Pool.hd hp
  refine wpList_append_own_at _ hgd s x t ho base e i z sz bytes ht hi hz hsize hby hzs hsz v n xs hs (hown.alloc _) ⟨wr.heap.size, 0, none⟩ 1 1 news hx (by omega) ?_ h1 (by unfold maxLen; omega) ?_ (by simp; omega) ?_
  · intro j u hj
    have hadd : (⟨wr.heap.size, 0, none⟩ : Addr).add j = ⟨wr.heap.size, j, none⟩ := by unfold Addr.add; split <;> simp_all
    rw [hadd]
    exact new_cell wr _ _ _ _ (by simpa using hj)
  · have := Nat.mul_le_mul (show n + 1 ≤ 4294967297 by omega) hb; omega
  · intro v' w' h1 h2 _ hloc
    have hg : wr.grownBy w' v.ownBlock := by
      have h3 := World.grownBy_alloc wr (.cells news.toArray e') v.ownBlock
      exact ⟨h2.os.trans h3.os, h2.tape.trans h3.tape, h2.output.trans h3.output, Nat.le_trans h3.size h2.size, fun k hk hne => (h2.block k (by simp; omega) hne).trans (h3.block k hk hne)⟩
    refine h v' w' (hp.app h1 hg ?_) hg ((Below.refl _ _).grown hg hbase fun k hk => (own_lt hown hk).1)
    rcases hloc with hl | hl
    · exact .inl hl
    · exact .inr ⟨_, hl, by simp⟩
theorem appPN {base m c : Nat} {wr : World} {ad : Addr} {s x : Operand} {t : TypeId} {bytes : Nat} {z v : Value} {e : TypeId} {sz n : Nat} {xs : List Value} {l : List Slc} {news : List Value} (hgd : o.guard = none)
    (ho : o.op = .call { callee := .builtin .append, args := #[s, x], argTypes := #[t, t] })
    (ht : P.underlying t = some (.slice e)) (hinfo : (P.info? e).map (fun i => (i.zero, i.size, i.bytes)) = some (some z, sz, bytes)) (hzs : z.cells.size = sz) (hsz : 0 < sz)
    (hp : Pool base wr (⟨e, sz, v, n, xs⟩ :: l)) (hs : a.eval s = v) (hx : a.eval x = .slice (some ad) m c) (hl : news.length = m * sz) (hnews : ∀ j u, news[j]? = some u → wr.cell? (ad.add j) = some u) (h1 : ∀ u ∈ news, u.oneCell' = true)
    (hn : n + m ≤ 4294967296) (hb : bytes ≤ 1024) (hbase : base ≤ wr.heap.size)
    (h : ∀ v' w', Pool base w' (⟨e, sz, v', n + m, xs ++ news⟩ :: l) → wr.grownBy w' v.ownBlock → Below base wr w' → wpList P ops Q rest (a.put o.dst v') w') :
    wpList P ops Q (o :: rest) a wr := by
  obtain ⟨i, hi, hz, hsize, hby⟩ := info_parts hinfo
  have hown := Pool.hd hp
  refine wpList_append_own_at _ hgd s x t ho base e i z sz bytes ht hi hz hsize hby hzs hsz v n xs hs hown ad m c news hx hl hnews h1 (by unfold maxLen; omega) ?_ hbase ?_
  · have := Nat.mul_le_mul hn hb; omega
  · intro v' w' h1 hg _ hloc
    exact h v' w' (hp.app h1 hg (hloc.imp id fun e => ⟨_, e, Nat.le_refl _⟩)) hg ((Below.refl _ _).grown hg hbase fun k hk => (own_lt hown hk).1)
end

def slInts (e : TypeId) (v : Value) (l : List Int) : Slc := ⟨e, 1, v, l.length, l.map (Value.int .i64)⟩
def slRows (e : TypeId) (vs : List Value) (ll : List (List Int)) : List Slc := List.zipWith (slInts e) vs ll
theorem slRows_push {e : TypeId} {vs : List Value} {ll : List (List Int)} (h : vs.length = ll.length) (v : Value) (l : List Int) : slRows e (vs ++ [v]) (ll ++ [l]) = slRows e vs ll ++ [slInts e v l] := by
  unfold slRows; rw [List.zipWith_append h]; rfl
theorem slRows_at {e : TypeId} {vs : List Value} {ll : List (List Int)} {j : Nat} {v : Value} {l : List Int} (hv : vs[j]? = some v) (hl : ll[j]? = some l) : (slRows e vs ll)[j]? = some (slInts e v l) := by
  unfold slRows; rw [List.getElem?_zipWith, hv, hl]
theorem slRows_e {e : TypeId} {vs : List Value} {ll : List (List Int)} : ∀ s ∈ slRows e vs ll, s.e = e := by
  intro s hs
  unfold slRows at hs
  obtain ⟨i, hi⟩ := List.getElem?_of_mem hs
  rw [List.getElem?_zipWith] at hi
  split at hi
  · cases hi; rfl
  · cases hi
theorem Pool.rowsAre {base : Nat} {w : World} {e : TypeId} {vs : List Value} {ll : List (List Int)} (h : Pool base w (slRows e vs ll)) (hlen : vs.length = ll.length) : RowsAre e base w vs ll where
  len := hlen
  row := fun j x l hx hl => h.own _ (List.mem_of_getElem? (slRows_at hx hl))
  apart := fun i j x y hij hx hy => by
    have hi : i < ll.length := by rw [← hlen]; exact (List.getElem?_eq_some_iff.1 hx).1
    have hj : j < ll.length := by rw [← hlen]; exact (List.getElem?_eq_some_iff.1 hy).1
    have e1 := slRows_at (e := e) hx (List.getElem?_eq_getElem hi)
    have e2 := slRows_at (e := e) hy (List.getElem?_eq_getElem hj)
    obtain ⟨l1, e1⟩ := List.getElem?_eq_some_iff.1 e1
    obtain ⟨l2, e2⟩ := List.getElem?_eq_some_iff.1 e2
    have := List.pairwise_iff_getElem.1 h.apt i j l1 l2 hij
    rw [e1, e2] at this
    cases hb : x.ownBlock with
    | none => exact .inl rfl
    | some k => exact .inr fun he => this k hb he.symm
theorem Pool.auto {base : Nat} {w : World} {x : Auto} {vs : List Value} {vn va : Value} (h : Pool base w (⟨80, 1, vn, x.next.length, vs⟩ :: ⟨4, 1, va, x.accept.length, x.accept.map Value.bool⟩ :: slRows 3 vs x.next)) (hlen : vs.length = x.next.length) : AutoOwn base w (.agg #[.int .i64 x.alphabet, vn, va]) x := by
  refine ⟨vn, va, rfl, ⟨vs, h.head, h.tail.tail.rowsAre hlen, fun j y hy => ?_⟩, h.tail.head⟩
  have hap := (List.pairwise_cons.1 h.apt).1
  have hj : j < x.next.length := by rw [← hlen]; exact (List.getElem?_eq_some_iff.1 hy).1
  have := hap _ (List.mem_cons_of_mem _ (List.mem_of_getElem? (slRows_at (e := 3) hy (List.getElem?_eq_getElem hj))))
  cases hb : y.ownBlock with
  | none => exact .inl rfl
  | some k => exact .inr fun he => this k he.symm hb
end Go.Proofs.YtanekmfifmkbmaaGreatDoor

namespace Go.Proofs.YtanekmfifmkbmaaGreatDoor
set_option linter.unusedSimpArgs false
set_option linter.unusedVariables false
open Go.RowKit Go.Maps

section
variable {H : Type} {P : Program}
theorem wpList_insert_own (w : World) {ops : Array Oper} {rest : List Oper} {o : Oper} {a : Act} {Q : Exit → Act → World → Prop}
    (hg : o.guard = none) (m x v : Operand) (t : TypeId) (hop : o.op = Op.insert t m x v)
    (k e : TypeId) (K : Keyed P k) (ht : P.underlying t = some (.map k e)) (R : Value → Option (DataW H × List MemPlace)) (b n : Nat) (D : DataW H)
    (hm : a.eval m = .map (some b)) (hown : w.ownsMap P k R b n D) (hn : n < maxLen) (key val : Value) (kl : Lit) (hx : a.eval x = key) (hv : a.eval v = val) (hkey : keyOf P k key = some kl)
    (d : DataW H) (ps : List MemPlace) (hval : R val = some (d, ps))
    (hK : ∀ w', w'.ownsMap P k R b (n + 1) (D.put kl d) → w.grownBy w' (some b) → wpList P ops Q rest (a.put o.dst undef) w') :
    wpList P ops Q (o :: rest) a w := by
  refine wpList_plain hg fun K' hK' => ?_
  obtain ⟨w', hrun, r1, r2⟩ := hown.update K ht hn hkey hval
  unfold Oper.wp
  simp [execOp, hop, hm, hx, hv, hrun, Result.andThen]
  exact hK' _ _ (hK w' r1 r2)
variable {k : TypeId} {R : Value → Option (DataW H × List MemPlace)} {b n : Nat} {D : DataW H} {w w' : World}
theorem map_ext (h : w.ownsMap P k R b n D) (he : Ext w w') : w'.ownsMap P k R b n D := by
  have hlt := h.lt
  obtain ⟨es, clock, hb, r⟩ := h
  exact ⟨es, clock, (he.block b hlt).trans hb, r⟩
theorem map_apart (h : w.ownsMap P k R b n D) {base : Nat} {e : TypeId} {sz m : Nat} {v : Value} {xs : List Value} (ho : w.ownsRow base e sz v m xs) : some b ≠ v.ownBlock := by
  obtain ⟨es, clock, hb, -⟩ := h
  rcases ho.2 with ⟨rfl, _⟩ | ⟨g, cap, cur, rfl, -, hg, _⟩
  · intro e1; cases e1
  · intro e1
    have : b = g := Option.some.inj e1
    subst this
    rw [hb] at hg; cases hg
theorem map_grown (h : w.ownsMap P k R b n D) {base : Nat} {e : TypeId} {sz m : Nat} {v : Value} {xs : List Value} (ho : w.ownsRow base e sz v m xs) (hg : w.grownBy w' v.ownBlock) : w'.ownsMap P k R b n D := by
  have ha := map_apart h ho
  have hlt := h.lt
  obtain ⟨es, clock, hb, r⟩ := h
  exact ⟨es, clock, (hg.block b hlt ha).trans hb, r⟩
theorem Pool.mapped {base : Nat} {l : List Slc} (h : Pool base w l) (hm : w.ownsMap P k R b n D) (hg : w.grownBy w' (some b)) : Pool base w' l :=
  ⟨fun s hs => World.ownsRow.kept (h.own s hs) hg (.inr fun e => map_apart hm (h.own s hs) e.symm), h.apt⟩
end
end Go.Proofs.YtanekmfifmkbmaaGreatDoor

namespace Go.Proofs.YtanekmfifmkbmaaGreatDoor
set_option linter.unusedSimpArgs false
set_option linter.unusedVariables false
open Go.RowKit
set_option maxHeartbeats 1600000
set_option maxRecDepth 100000

def stepTo (s : Sys) (set : Nat) (l : Int) (k : Nat) : Nat := (s.edges.take k).foldl (addTo l set) 0
theorem stepTo_succ {s : Sys} {set : Nat} {l : Int} {k : Nat} {e : Edge} (h : s.edges[k]? = some e) : stepTo s set l (k + 1) = addTo l set (stepTo s set l k) e := by
  unfold stepTo; rw [List.take_add_one, h, List.foldl_append]; rfl
theorem stepTo_full (s : Sys) (set : Nat) (l : Int) : stepTo s set l s.edges.length = stepM s set l := by unfold stepTo stepM; rw [List.take_length]
theorem stepTo_lt {s : Sys} (hs : sysValid s = true) (set : Nat) (l : Int) (k : Nat) : stepTo s set l k < 65536 := lt_of_bits fun q h => by
  unfold stepTo at h
  rw [foldl_addTo] at h
  rcases h with h | ⟨e, he, -, -, rfl⟩
  · simp at h
  · exact (edges_in hs (List.mem_of_mem_take he)).2.1
theorem bit_nat (n : Nat) {x : Int} (h : 0 ≤ x) : bit (n : Int) x = n.testBit x.toNat := by rw [bit_nonneg h, Int.toNat_natCast]

theorem l2Step_c (v : Value) (s : Sys) (set : Nat) (l : Int) (w : World) (hv : SysV w v s) (hs : sysValid s = true) (hel : s.edges.length ≤ 1048576) (hset : set < 65536) :
    Calls Tryz.prog 125 #[v, .int .i64 set, .int .i64 l] w (Grows (.int .i64 (stepM s set l : Nat)) w) := by
  obtain ⟨ve, rfl, h1⟩ := hv
  obtain ⟨ae, ce, rfl, -, hn⟩ := h1.open
  have he := Ext.alloc w (.cells #[.int .i64 s.alphabet, .int .i64 s.states, .slice ae s.edges.length ce] 25)
  have hB := Blk.new w #[.int .i64 s.alphabet, .int .i64 s.states, .slice ae s.edges.length ce] 25
  go_enter Tryz.func125, Tryz.ntmps125
  go_wp2_with fail
  generalize w.alloc (.cells #[.int .i64 s.alphabet, .int .i64 s.states, .slice ae s.edges.length ce] 25) = wo at he hB ⊢
  have b2 := hB.cell 2 rfl
  go_loop [7, 8, 25, 26, 27, 28, 29, 30, 31, 32] (fun o i _ _ _ _ _ _ _ _ => ∃ (k m : Nat), k ≤ s.edges.length ∧ i = .int .i64 k ∧ o = .int .i64 m ∧ m < 65536 ∧ Hid (stepTo s set l k = m)) (fun _ i _ _ _ _ _ _ _ _ => s.edges.length - (intOf i).toNat)
  case atStart => exact ⟨0, 0, by omega, rfl, rfl, by omega, Lib.hid rfl⟩
  case round =>
    obtain ⟨k, m, hk, rfl, rfl, hm, HM⟩ := hrel
    by_cases hlt : k < s.edges.length
    · obtain ⟨x, hx⟩ : ∃ x, s.edges[k]? = some x := ⟨_, List.getElem?_eq_getElem hlt⟩
      obtain ⟨b, off, rfl, -, hc⟩ := hn k x hx
      obtain ⟨q1, q2, q3⟩ := (hc k x hx).mono he
      obtain ⟨i1, i2, i3, i4, i5, i6, -⟩ := edges_in hs (List.mem_of_getElem? hx)
      obtain ⟨d, hd⟩ := Int.eq_ofNat_of_zero_le i4
      have HS := Lib.hid (stepTo_succ (set := set) (l := l) hx)
      have hnext := Lib.hid (stepTo_lt hs set l (k + 1))
      have hbs := bit_nat set i3
      rw [hd] at q3
      have hd16 : d ≤ 16 := by omega
      have HD : Hid (x.dst.toNat = d) := Lib.hid (by omega)
      clear hc hn hx hd
      by_cases h1 : x.letter = l
      · cases h2 : set.testBit x.src.toNat with
        | true =>
          rw [h2] at hbs
          have hp16 : 2 ^ d ≤ 65536 := by rw [show (65536 : Nat) = 2 ^ 16 from rfl]; exact Nat.pow_le_pow_right (by omega) hd16
          have hor := i64_or_nat m (2 ^ d) (by omega) (by omega)
          have HN : Hid (stepTo s set l (k + 1) = m ||| 2 ^ d) := Lib.hid (by rw [HS.out]; unfold addTo; rw [if_pos ⟨h1, h2⟩, HM.out, HD.out])
          have hm2 := hnext.out
          rw [HN.out] at hm2
          have HOR := Lib.hid hor
          clear hor h2 hp16
          go_wp2_with (first | (go_at_call 85; refine (l1Has_c _ _ _ (by omega) (by omega) (by omega) (by omega)).mono ?_; rintro e w' ⟨rfl, rfl⟩; rw [hbs]) | (go_at_call 177; refine (l1Bit_c d _ hd16).mono ?_; rintro e w' ⟨rfl, rfl⟩))
          exact ⟨⟨k + 1, m ||| 2 ^ d, by omega, by go_num, congrArg _ HOR.out, hm2, HN⟩, by simp [intOf]; omega⟩
        | false =>
          rw [h2] at hbs
          have HN : Hid (stepTo s set l (k + 1) = m) := Lib.hid (by rw [HS.out]; unfold addTo; rw [if_neg (fun h => by rw [h2] at h; cases h.2), HM.out])
          clear h2
          go_wp2_with (go_at_call 85; refine (l1Has_c _ _ _ (by omega) (by omega) (by omega) (by omega)).mono ?_; rintro e w' ⟨rfl, rfl⟩; rw [hbs])
          exact ⟨⟨k + 1, m, by omega, by go_num, rfl, hm, HN⟩, by simp [intOf]; omega⟩
      · have HN : Hid (stepTo s set l (k + 1) = m) := Lib.hid (by rw [HS.out]; unfold addTo; rw [if_neg (fun h => h1 h.1), HM.out])
        go_wp2_with fail
        exact ⟨⟨k + 1, m, by omega, by go_num, rfl, hm, HN⟩, by simp [intOf]; omega⟩
    · obtain rfl : k = s.edges.length := by omega
      have hf := HM.out
      rw [stepTo_full] at hf
      have HF := Lib.hid hf
      clear hf
      go_wp2_with fail
      go_ret
      rw [HF.out]
      exact Grows.mk rfl he

theorem l5Index_c (v : Value) (l : List Int) (x : Int) (w : World) (hv : IntsV w v l) (hl : l.length ≤ 4294967296) (hx : x ∈ l) :
    Calls Tryz.prog 127 #[v, .int .i64 x] w (Same (.int .i64 (l.idxOf x : Nat)) w) := by
  obtain ⟨a, c, rfl, -, h2⟩ := hv.open
  obtain ⟨n, hn⟩ : ∃ n, Hid (l.idxOf x = n) := ⟨_, rfl⟩
  have hlt := List.idxOf_lt_length_of_mem hx
  have hat : l[l.idxOf x]? = some x := idx_at hx
  have hno : ∀ k y, k < n → l[k]? = some y → y ≠ x := fun k y hk hy e => by
    subst e
    rw [← hn.out] at hk
    exact absurd hy (by
      rw [List.getElem?_eq_getElem (by omega)]
      intro h
      have := List.not_of_lt_findIdx (p := (· == y)) (xs := l) (i := k) hk
      simp only [Option.some.injEq] at h
      simp [h] at this)
  rw [hn.out] at hlt hat ⊢
  have HNO := Lib.hid hno
  have HAT := Lib.hid hat
  clear hno hat hx
  go_enter Tryz.func127, Tryz.ntmps127
  go_wp2_with fail
  go_loop [5] (fun i => ∃ k : Nat, k ≤ n ∧ i = .int .i64 k) (fun i => n - (intOf i).toNat)
  case atStart => exact ⟨0, by omega, rfl⟩
  case round =>
    obtain ⟨k, hk, rfl⟩ := hrel
    obtain ⟨y, hy⟩ : ∃ y, l[k]? = some y := ⟨_, List.getElem?_eq_getElem (by omega)⟩
    obtain ⟨b, off, rfl, -, hc⟩ := h2 k y hy
    have g1 : w.cell? ⟨b, off + k, none⟩ = some (.int .i64 y) := by have := hc k y hy; rw [Nat.mul_one] at this; exact this
    have hkl : k < l.length := by omega
    have hk2 : (k : Int) < (l.length : Int) := by omega
    by_cases hkn : k < n
    · have hne := HNO.out k y hkn hy
      clear hc hy h2
      go_wp2_with fail
      exact ⟨⟨k + 1, by omega, by go_num⟩, by simp [intOf]; omega⟩
    · obtain rfl : k = n := by omega
      have e := HAT.out
      rw [hy] at e
      obtain rfl := Option.some.inj e
      clear hc hy h2 e
      go_wp2_with fail
      go_ret
      exact Same.mk rfl

structure OnWay (s : Sys) (H : Int) (f0 f : Nat) : Prop where
  above : SubB f0 f
  below : SubB f (reachH s H f0)
  lt : f < 65536
def ClosedTo (s : Sys) (H : Int) (f k : Nat) : Prop := ∀ e ∈ s.edges.take k, bit H e.letter = true → f.testBit e.src.toNat = true → f.testBit e.dst.toNat = true
theorem ClosedTo.succ {s : Sys} {H : Int} {f k : Nat} {x : Edge} (h : ClosedTo s H f k) (hx : s.edges[k]? = some x) (hc : bit H x.letter = true → f.testBit x.src.toNat = true → f.testBit x.dst.toNat = true) : ClosedTo s H f (k + 1) := by
  intro e he
  rw [List.take_add_one, hx] at he
  rcases List.mem_append.1 he with he | he
  · exact h e he
  · simp at he; subst he; exact hc
theorem OnWay.add {s : Sys} {H : Int} {f0 f : Nat} {x : Edge} (hs : sysValid s = true) (hf0 : f0 < 65536) (h : OnWay s H f0 f) (hx : x ∈ s.edges) (h1 : bit H x.letter = true) (h2 : f.testBit x.src.toNat = true) : OnWay s H f0 (f ||| 2 ^ x.dst.toNat) := by
  have hin := edges_in hs hx
  refine ⟨fun q hq => by rw [Nat.testBit_or, h.above q hq]; rfl, fun q hq => ?_, lt_of_bits fun q hq => ?_⟩
  · rw [Nat.testBit_or, Bool.or_eq_true, Nat.testBit_two_pow, decide_eq_true_eq] at hq
    rcases hq with hq | rfl
    · exact h.below q hq
    · exact (reachH_is hs H fun q h => bits_of_lt hf0 h).closed x hx h1 (h.below _ h2)
  · rw [Nat.testBit_or, Bool.or_eq_true, Nat.testBit_two_pow, decide_eq_true_eq] at hq
    rcases hq with hq | rfl
    · exact bits_of_lt h.lt hq
    · exact hin.2.1
theorem or_gt {f d : Nat} (h : f.testBit d = false) : f < f ||| 2 ^ d := by
  have h1 : f ≤ f ||| 2 ^ d := Nat.left_le_or
  rcases Nat.lt_or_eq_of_le h1 with h2 | h2
  · exact h2
  · have : (f ||| 2 ^ d).testBit d = true := by rw [Nat.testBit_or, Nat.testBit_two_pow]; simp
    rw [← h2, h] at this; cases this

def flagOf : Value → Nat
  | .bool true => 1
  | _ => 0

theorem l2Reach_c (v : Value) (s : Sys) (f0 : Nat) (H : Int) (w : World) (hv : SysV w v s) (hs : sysValid s = true) (hel : s.edges.length ≤ 1048576) (hf0 : f0 < 65536) (hH : 0 ≤ H) (hH2 : H ≤ 63) :
    Calls Tryz.prog 124 #[v, .int .i64 f0, .int .i64 H] w (Grows (.int .i64 (reachH s H f0 : Nat)) w) := by
  obtain ⟨ve, rfl, h1⟩ := hv
  obtain ⟨ae, ce, rfl, -, hn⟩ := h1.open
  have he := Ext.alloc w (.cells #[.int .i64 s.alphabet, .int .i64 s.states, .slice ae s.edges.length ce] 25)
  have hB := Blk.new w #[.int .i64 s.alphabet, .int .i64 s.states, .slice ae s.edges.length ce] 25
  go_enter Tryz.func124, Tryz.ntmps124
  go_wp2_with fail
  generalize w.alloc (.cells #[.int .i64 s.alphabet, .int .i64 s.states, .slice ae s.edges.length ce] 25) = wo at he hB ⊢
  have HW0 : Hid (OnWay s H f0 f0) := Lib.hid ⟨fun _ h => h, (reachH_is hs H fun q h => bits_of_lt hf0 h).above, hf0⟩
  go_loopw [1, 7, 28, 29, 30, 31, 34, 35, 36, 37, 38] (fun f m _ _ _ _ _ _ _ _ _ wr => ∃ (n : Nat) (b : Bool), f = .int .i64 n ∧ m = .bool b ∧ n < 65536 ∧ Hid (OnWay s H f0 n) ∧ Hid (b = false → ClosedTo s H n s.edges.length) ∧ Ext wo wr) (fun f m _ _ _ _ _ _ _ _ _ _ => 2 * (65536 - (intOf f).toNat) + flagOf m)
  case atStart => exact ⟨f0, true, rfl, rfl, hf0, HW0, Lib.hid (fun h => by cases h), Ext.refl _⟩
  case round =>
    obtain ⟨n, b, rfl, rfl, hn16, HW, HC, hext⟩ := hrel
    cases b with
    | false =>
      have hfin : reachH s H f0 = n := by
        have hi := reachH_is hs H (f := f0) fun q h => bits_of_lt hf0 h
        have hc : ClosedH s H n := fun e he => by
          have := HC.out rfl
          unfold ClosedTo at this
          rw [List.take_length] at this
          exact this e he
        exact SubB.anti (hi.least n HW.out.above hc) HW.out.below
      have HF := Lib.hid hfin
      clear hfin
      go_wp2_with fail
      go_ret
      rw [HF.out]
      exact Grows.mk rfl (he.trans hext)
    | true =>
      go_wp2_with fail
      go_loopw [1, 7, 8, 28, 29, 30, 31, 34, 35, 36, 37, 38] (fun f m i _ _ _ _ _ _ _ _ _ wr => ∃ (k n' : Nat) (b : Bool), k ≤ s.edges.length ∧ i = .int .i64 k ∧ f = .int .i64 n' ∧ m = .bool b ∧ n' < 65536 ∧ Hid (OnWay s H f0 n') ∧ Hid ((b = false → n' = n ∧ ClosedTo s H n' k) ∧ (b = true → n < n')) ∧ Ext wo wr) (fun _ _ i _ _ _ _ _ _ _ _ _ _ => s.edges.length - (intOf i).toNat)
      case atStart => exact ⟨0, n, false, by omega, rfl, rfl, rfl, hn16, HW, Lib.hid ⟨fun _ => ⟨rfl, fun e he => by simp at he⟩, fun h => by cases h⟩, hext⟩
      case round =>
        clear HW HC hext
        obtain ⟨k, n', b, hk, rfl, rfl, rfl, hn', HW, HC, hext⟩ := hrel
        have b2 := (hB.ext hext).cell 2 rfl
        by_cases hlt : k < s.edges.length
        · obtain ⟨x, hx⟩ : ∃ x, s.edges[k]? = some x := ⟨_, List.getElem?_eq_getElem hlt⟩
          obtain ⟨b0, off, rfl, -, hc⟩ := hn k x hx
          obtain ⟨q1, q2, q3⟩ := (hc k x hx).mono (he.trans hext)
          obtain ⟨i1, i2, i3, i4, i5, i6, -⟩ := edges_in hs (List.mem_of_getElem? hx)
          have hxm := Lib.hid (List.mem_of_getElem? hx)
          have HX := Lib.hid hx
          obtain ⟨d, hd⟩ := Int.eq_ofNat_of_zero_le i4
          rw [hd] at q3
          have hbs := bit_nat n' i3
          have hbd : bit (n' : Int) (d : Int) = n'.testBit d := by rw [bit_nat n' (by omega)]; simp
          have hd16 : d ≤ 16 := by omega
          have HD : Hid (x.dst.toNat = d) := Lib.hid (by omega)
          clear hc hx hd
          have hstay : (bit H x.letter = true → n'.testBit x.src.toNat = true → n'.testBit d = true) → ((b = false → n' = n ∧ ClosedTo s H n' (k + 1)) ∧ (b = true → n < n')) := fun h =>
            ⟨fun hb => ⟨(HC.out.1 hb).1, (HC.out.1 hb).2.succ HX.out (by rw [HD.out]; exact h)⟩, HC.out.2⟩
          have HSTAY := Lib.hid hstay
          clear hstay
          have hgo : Ext wo (wr.alloc (.cells #[.int .i64 x.src, .int .i64 x.letter, .int .i64 (d : Int)] 87)) := hext.trans (Ext.alloc _ _)
          cases h1 : bit H x.letter with
          | false =>
            have HN := Lib.hid (HSTAY.out fun h => by rw [h1] at h; cases h)
            go_wp2_with (go_at_call 85; refine (l1Has_c _ _ _ (by omega) (by omega) (by omega) (by omega)).mono ?_; rintro e w' ⟨rfl, rfl⟩; rw [h1])
            exact ⟨⟨k + 1, n', b, by omega, by go_num, rfl, rfl, hn', HW, HN, hgo⟩, by simp [intOf]; omega⟩
          | true =>
            cases h2 : n'.testBit x.src.toNat with
            | false =>
              have HN := Lib.hid (HSTAY.out fun _ h => by rw [h2] at h; cases h)
              rw [h2] at hbs
              clear h2
              go_wp2_with fail
              refine (l1Has_c H x.letter _ (by omega) (by omega) (by omega) (by omega)).mono ?_
              rintro e w' ⟨rfl, rfl⟩
              rw [h1]
              go_wp2_with fail
              refine (l1Has_c (n' : Int) x.src _ (by omega) (by omega) (by omega) (by omega)).mono ?_
              rintro e w' ⟨rfl, rfl⟩
              rw [hbs]
              go_wp2_with fail
              exact ⟨⟨k + 1, n', b, by omega, by go_num, rfl, rfl, hn', HW, HN, hgo⟩, by simp [intOf]; omega⟩
            | true =>
              rw [h2] at hbs
              cases h3 : n'.testBit d with
              | true =>
                have HN := Lib.hid (HSTAY.out fun _ _ => h3)
                rw [h3] at hbd
                clear h2 h3
                go_wp2_with fail
                refine (l1Has_c H x.letter _ (by omega) (by omega) (by omega) (by omega)).mono ?_
                rintro e w' ⟨rfl, rfl⟩
                rw [h1]
                go_wp2_with fail
                refine (l1Has_c (n' : Int) x.src _ (by omega) (by omega) (by omega) (by omega)).mono ?_
                rintro e w' ⟨rfl, rfl⟩
                rw [hbs]
                go_wp2_with fail
                refine (l1Has_c (n' : Int) (d : Int) _ (by omega) (by omega) (by omega) (by omega)).mono ?_
                rintro e w' ⟨rfl, rfl⟩
                rw [hbd]
                go_wp2_with fail
                exact ⟨⟨k + 1, n', b, by omega, by go_num, rfl, rfl, hn', HW, HN, hgo⟩, by simp [intOf]; omega⟩
              | false =>
                rw [h3] at hbd
                have hp16 : 2 ^ d ≤ 65536 := by rw [show (65536 : Nat) = 2 ^ 16 from rfl]; exact Nat.pow_le_pow_right (by omega) hd16
                have HOR := Lib.hid (i64_or_nat n' (2 ^ d) (by omega) (by omega))
                have HW2 : Hid (OnWay s H f0 (n' ||| 2 ^ d)) := Lib.hid (by have := HW.out.add hs hf0 hxm.out h1 h2; rwa [HD.out] at this)
                have hgt := or_gt h3
                have HGT : Hid (n < n' ||| 2 ^ d) := Lib.hid (by rcases Bool.eq_false_or_eq_true b with hb | hb; have := HC.out.2 hb; omega; have := (HC.out.1 hb).1; omega)
                have hlt2 := HW2.out.lt
                clear h2 h3 hp16 hgt
                go_wp2_with fail
                refine (l1Has_c H x.letter _ (by omega) (by omega) (by omega) (by omega)).mono ?_
                rintro e w' ⟨rfl, rfl⟩
                rw [h1]
                go_wp2_with fail
                refine (l1Has_c (n' : Int) x.src _ (by omega) (by omega) (by omega) (by omega)).mono ?_
                rintro e w' ⟨rfl, rfl⟩
                rw [hbs]
                go_wp2_with fail
                refine (l1Has_c (n' : Int) (d : Int) _ (by omega) (by omega) (by omega) (by omega)).mono ?_
                rintro e w' ⟨rfl, rfl⟩
                rw [hbd]
                go_wp2_with (go_at_call 177; refine (l1Bit_c d _ hd16).mono ?_; rintro e w' ⟨rfl, rfl⟩)
                exact ⟨⟨k + 1, n' ||| 2 ^ d, true, by omega, by go_num, congrArg _ HOR.out, rfl, hlt2, HW2, Lib.hid ⟨fun h => by (cases h), fun _ => HGT.out⟩, hgo⟩, by simp [intOf]; omega⟩
        · obtain rfl : k = s.edges.length := by omega
          go_wp2_with fail
          refine ⟨⟨n', b, rfl, rfl, hn', HW, Lib.hid fun hb => (HC.out.1 hb).2, hext⟩, ?_⟩
          cases b with
          | false => have := (HC.out.1 rfl).1; subst this; simp [intOf, flagOf]
          | true => have := HC.out.2 rfl; simp [intOf, flagOf]; omega
end Go.Proofs.YtanekmfifmkbmaaGreatDoor

namespace Go.Proofs.YtanekmfifmkbmaaGreatDoor
set_option linter.unusedSimpArgs false
set_option linter.unusedVariables false
open Go.RowKit
set_option maxHeartbeats 6000000
set_option maxRecDepth 100000

def hidS (s : Sys) (a : Int) : Int := s.alphabet - bits .and .i64 s.alphabet a
theorem hidS_facts {s : Sys} (hs : sysValid s = true) {a : Int} (ha : 0 ≤ a) (ha2 : a ≤ 63) : 0 ≤ hidS s a ∧ hidS s a ≤ 63 ∧ IntKind.i64.wrap (s.alphabet - bits .and .i64 s.alphabet a) = hidS s a := by
  obtain ⟨h1, h2⟩ := sys_alpha hs
  obtain ⟨m, hm⟩ := Int.eq_ofNat_of_zero_le h1
  obtain ⟨n, hn⟩ := Int.eq_ofNat_of_zero_le ha
  have h3 : bits .and .i64 s.alphabet a = ((m &&& n : Nat) : Int) := by rw [hm, hn]; exact i64_and_nat m n (by omega) (by omega)
  have h4 : m &&& n ≤ m := Nat.and_le_left
  unfold hidS
  rw [h3, hm]
  exact ⟨by omega, by omega, IntWalk.i64_in _ (by omega)⟩
def SubEnd (s : Sys) (a : Int) (base : Nat) (w' : World) (v : Value) (b : Bool) : Prop :=
  (b = true ∧ ∃ nodes, Numbers (nextH s (hidS s a)) (letters a) (startH s (hidS s a)) nodes ∧ nodes.length ≤ 12 ∧ AutoOwn base w' v (subsetA s a (hidS s a) nodes)) ∨
  (b = false ∧ v = .agg #[.int .i64 0, .slice none 0 0, .slice none 0 0] ∧ TooMany (nextH s (hidS s a)) (letters a) (startH s (hidS s a)) 12)
def accN (nodes : List Nat) : List Bool := nodes.map fun n => decide (n ≠ 0)
theorem idxOf_ints (nodes : List Nat) (x : Nat) : (ints nodes).idxOf (x : Int) = nodes.idxOf x := by
  induction nodes with
  | nil => rfl
  | cons y l ih =>
    show ((y : Int) :: ints l).idxOf (x : Int) = _
    rw [List.idxOf_cons, List.idxOf_cons, ih]
    by_cases h : y = x
    · subst h; simp
    · rw [show ((y : Int) == (x : Int)) = false by simp; omega, show (y == x) = false by simpa using h]
theorem own_at {w : World} {base : Nat} {e : TypeId} {sz n : Nat} {v : Value} {xs : List Value} (h : w.ownsRow base e sz v n xs) {j : Nat} {u : Value} (hu : xs[j]? = some u) : ∃ g cap, v = .slice (some ⟨g, 0, none⟩) n cap ∧ w.cell? ⟨g, j, none⟩ = some u := by
  rcases own_shape h with ⟨rfl, rfl⟩ | ⟨g, cap, rfl, -⟩
  · have := h.1
    rw [Nat.zero_mul] at this
    rw [List.eq_nil_of_length_eq_zero this] at hu; simp at hu
  · exact ⟨g, cap, rfl, own_cell h hu⟩
theorem own_ints {w : World} {base : Nat} {e : TypeId} {n : Nat} {v : Value} {l : List Int} (h : w.ownsRow base e 1 v n (l.map (Value.int .i64))) (hn : l.length = n) : IntsV w v l := by
  subst hn; exact IntsV_of_own h
def subPool (vS vN vA : Value) (m : Nat) (nodes : List Nat) (i : Nat) (vs : List Value) (rows : List (List Int)) (acc : List Bool) : List Slc :=
  ⟨3, 1, vS, m, (ints nodes).map (Value.int .i64)⟩ :: ⟨80, 1, vN, i, vs⟩ :: ⟨4, 1, vA, i, acc.map Value.bool⟩ :: slRows 3 vs rows

theorem perm_four (a b c d : Slc) (R : List Slc) : (a :: b :: c :: d :: R).Perm (d :: b :: a :: (R ++ [c])) :=
  ((List.Perm.swap b a (c :: d :: R)).trans (((List.Perm.swap d c R).cons a).cons b)).trans (((List.Perm.swap d a (c :: R)).cons b).trans ((List.Perm.swap d b (a :: c :: R)).trans ((((List.perm_append_singleton c R).symm.cons a).cons b).cons d)))
theorem auto_store {base : Nat} {w : World} {v : Value} {x : Auto} (h : AutoOwn base w v x) {g : Nat} {cs : Array Value} {T : TypeId} (hG : Blk w g cs T) (h1 : T ≠ 80) (h2 : T ≠ 3) (h3 : T ≠ 4) (j : Nat) (u : Value) : AutoOwn base (w.setCell ⟨g, j, none⟩ u) v x :=
  let ⟨vn, va, e, a, b⟩ := h
  ⟨vn, va, e, intss_store a hG h1 h2 j u, own_store b hG h3 j u⟩

theorem l6Subsets_s (v : Value) (s : Sys) (a : Int) (w : World) (hv : SysV w v s) (hs : sysValid s = true) (hel : s.edges.length ≤ 1048576) (ha : 0 ≤ a) (ha2 : a ≤ 63) :
    Calls Tryz.prog 71 #[v, .int .i64 a] w (fun e w' => ∃ v' b, e = .returned (.tuple #[v', .bool b]) ∧ Ext w w' ∧ SubEnd s a w.heap.size w' v' b) := by
  obtain ⟨hH, hH2, hHw⟩ := hidS_facts hs ha ha2
  unfold SubEnd
  obtain ⟨H, hHe⟩ : ∃ H, hidS s a = H := ⟨_, rfl⟩
  rw [hHe] at hH hH2 hHw ⊢
  clear hHe
  obtain ⟨ve, rfl, h1⟩ := hv
  obtain ⟨ae, ce, rfl, -, hn⟩ := h1.open
  have HV := Lib.hid (show ∀ w', Ext w w' → SysV w' (.agg #[.int .i64 s.alphabet, .int .i64 s.states, .slice ae s.edges.length ce]) s from fun w' h => ⟨_, rfl, h1.mono h⟩)
  clear h1 hn
  have he : Ext w ((w.alloc (.cells #[.int .i64 s.alphabet, .int .i64 s.states, .slice ae s.edges.length ce] 25)).alloc (.cells #[.int .i64 0, .slice none 0 0, .slice none 0 0] 31)) := (Ext.alloc _ _).trans (Ext.alloc _ _)
  have hB := (Blk.new w #[.int .i64 s.alphabet, .int .i64 s.states, .slice ae s.edges.length ce] 25).ext (Ext.alloc _ (.cells #[.int .i64 0, .slice none 0 0, .slice none 0 0] 31))
  have hR := Blk.new (w.alloc (.cells #[.int .i64 s.alphabet, .int .i64 s.states, .slice ae s.edges.length ce] 25)) #[.int .i64 0, .slice none 0 0, .slice none 0 0] 31
  rw [World.size_alloc] at hR
  go_enter Tryz.func71, Tryz.ntmps71
  go_wp2_with fail
  generalize (w.alloc (.cells #[.int .i64 s.alphabet, .int .i64 s.states, .slice ae s.edges.length ce] 25)).alloc (.cells #[.int .i64 0, .slice none 0 0, .slice none 0 0] 31) = wo at he hB hR ⊢
  refine (l1Letters_c a _ ha ha2).mono ?_
  rintro e w1 ⟨vl, rfl, he1, hl⟩
  have hlv := hl
  obtain ⟨al, cl, rfl, hll, hlat⟩ := hlv.open
  replace he := he.trans he1
  replace hB := hB.ext he1
  replace hR := hR.ext he1
  have bc0 := hB.cell 0 rfl; have bc1 := hB.cell 1 rfl; have bc2 := hB.cell 2 rfl
  go_wp2_with fail
  refine (show Calls Tryz.prog 124 #[.agg #[.int .i64 s.alphabet, .int .i64 s.states, .slice ae s.edges.length ce], .int .i64 1, .int .i64 H] w1 (Grows (.int .i64 (startH s H : Nat)) w1) from by
    have := l2Reach_c _ s 1 H _ (HV.out _ he) hs hel (by omega) hH hH2; simpa [startH] using this).mono ?_
  rintro e w2 ⟨rfl, he2⟩
  clear bc0 bc1 bc2
  replace he := he.trans he2
  replace hB := hB.ext he2
  replace hR := hR.ext he2
  replace hlv := hlv.mono he2
  obtain ⟨al', cl', e5, -, hlat⟩ := hlv.open
  cases e5
  obtain ⟨n0, hn0⟩ : ∃ n0, startH s H = n0 := ⟨_, rfl⟩
  rw [hn0]
  have HN0 := Lib.hid hn0
  clear hn0 he1 he2 hl
  obtain ⟨N, hN⟩ : ∃ N, nextH s H = N := ⟨_, rfl⟩
  have HNN := Lib.hid hN
  clear hN
  obtain ⟨L, hL⟩ : ∃ L, letters a = L := ⟨_, rfl⟩
  have HL := Lib.hid hL
  have hL6 : L.length ≤ 6 := by rw [← hL]; exact lettersTo_len a 6
  rw [hL] at hlat hll hlv ⊢
  clear hL
  have HLAT := Lib.hid hlat
  clear hlat
  have HLL : Hid (∀ l ∈ L, 0 ≤ l ∧ l < 6) := Lib.hid (by rw [← HL.out]; exact letters_lt6 ha2)
  have HNL : Hid (∀ n l, N n l < 65536) := Lib.hid fun n l => by rw [← HNN.out]; exact nextH_lt _ _ _ _
  have hn016 : n0 < 65536 := by rw [← HN0.out]; exact startH_lt _ _
  have HRL : Hid (∀ n, ReachN N L n0 n → n < 65536) := Lib.hid fun n h => by rw [← HNN.out, ← HL.out, ← HN0.out] at h; exact reachN_lt h
  go_wp2_with fail
  have hP0 : Pool w2.heap.size ((w2.alloc (.cells #[.int .i64 n0] 3)).alloc (.cells #[.int .i64 a, .slice none 0 0, .slice none 0 0] 31)) (subPool (.slice (some ⟨w2.heap.size, 0, none⟩) 1 1) (.slice none 0 0) (.slice none 0 0) 1 [n0] 0 [] [] []) := by
    have p1 : Pool w2.heap.size ((w2.alloc (.cells #[.int .i64 n0] 3)).alloc (.cells #[.int .i64 a, .slice none 0 0, .slice none 0 0] 31)) [] := Pool.nil _ _
    have p2 := (p1.addNil 4 1).addNil 80 1
    refine ⟨fun t ht => ?_, List.pairwise_cons.2 ⟨fun t ht => ?_, p2.apt⟩⟩
    · rcases List.mem_cons.1 ht with rfl | ht
      · exact own_ext (IntsOwn.one 3 w2 (n0 : Int)).own (Ext.alloc _ _)
      · exact p2.own t ht
    · rcases List.mem_cons.1 ht with rfl | ht
      · exact (Apt.nil _).symm
      · rcases List.mem_cons.1 ht with rfl | ht
        · exact (Apt.nil _).symm
        · cases ht
  have hG : Blk ((w2.alloc (.cells #[.int .i64 n0] 3)).alloc (.cells #[.int .i64 a, .slice none 0 0, .slice none 0 0] 31)) (w2.heap.size + 1) #[.int .i64 a, .slice none 0 0, .slice none 0 0] 31 := by
    have := Blk.new (w2.alloc (.cells #[.int .i64 n0] 3)) #[.int .i64 a, .slice none 0 0, .slice none 0 0] 31
    rwa [World.size_alloc] at this
  have hx0 : Ext w2 ((w2.alloc (.cells #[.int .i64 n0] 3)).alloc (.cells #[.int .i64 a, .slice none 0 0, .slice none 0 0] 31)) := (Ext.alloc _ _).trans (Ext.alloc _ _)
  go_loopw [8, 10] (fun vS i wr => ∃ (k m : Nat) (nodes : List Nat) (vN vA : Value) (vs : List Value) (rows : List (List Int)) (acc : List Bool), i = .int .i64 k ∧ k ≤ m ∧ m ≤ 12 ∧ nodes.length = m ∧ Hid (nodesTo N L n0 k = nodes) ∧ Hid (RowsN N L n0 k rows) ∧ Hid (vs.length = k ∧ rows.length = k ∧ acc = accN (nodes.take k)) ∧ Pool w2.heap.size wr (subPool vS vN vA m nodes k vs rows acc) ∧ Blk wr (w2.heap.size + 1) #[.int .i64 a, vN, vA] 31 ∧ Ext w2 wr) (fun _ i _ => 13 - (intOf i).toNat)
  case atStart => exact ⟨0, 1, [n0], _, _, [], [], [], rfl, by omega, by omega, rfl, Lib.hid rfl, Lib.hid RowsN.zero, Lib.hid ⟨rfl, rfl, rfl⟩, hP0, hG, hx0⟩
  case round =>
    clear hP0 hG hx0
    obtain ⟨k, m, nodes, vN, vA, vs, rows, acc, rfl, hkm, hm12, hml, HN, HR, HA, hP, hG, hx⟩ := hrel
    by_cases hlt : k < m
    case neg =>
      obtain rfl : k = m := by omega
      have hnum : Numbers N L n0 nodes := by
        have h1 := HN.out
        rw [← h1]
        exact Numbers.of (by rw [h1, hml])
      have hrows := HR.out
      rw [← hml] at hrows
      have hro := hrows.full hnum
      obtain ⟨a1, a2, a3⟩ := HA.out
      rw [← hml, List.take_length] at a3
      have hX : AutoOwn w.heap.size wr (.agg #[.int .i64 a, vN, vA]) (subsetA s a H nodes) := by
        refine AutoOwn.low (base := w2.heap.size) ?_ he.size
        have e1 : (subsetA s a H nodes).next = rows := by rw [hro, ← HNN.out, ← HL.out]; rfl
        have e2 : (subsetA s a H nodes).accept = acc := by rw [a3]; rfl
        have hp := hP.tail
        refine Pool.auto (x := subsetA s a H nodes) (vs := vs) ?_ (by rw [e1, a1, a2])
        rw [e1, e2, a2, show acc.length = k by rw [a3]; simp [accN, hml]]
        exact hp
      have hfin : ∃ nodes, Numbers (nextH s H) (letters a) (startH s H) nodes ∧ nodes.length ≤ 12 ∧ AutoOwn w.heap.size wr (.agg #[.int .i64 a, vN, vA]) (subsetA s a H nodes) :=
        ⟨nodes, by rw [HNN.out, HL.out, HN0.out]; exact hnum, by omega, hX⟩
      have HFIN := Lib.hid hfin
      obtain ⟨aS, cS, rfl⟩ := own_any' (Pool.hd hP)
      obtain ⟨aN, cN, rfl⟩ := own_any' (Pool.hd2 hP)
      obtain ⟨aA, cA, rfl⟩ := own_any' (Pool.hd3 hP)
      have hR2 := hR.ext hx
      clear hfin hX hro hrows hnum a1 a2 a3
      have gc0 := hG.cell 0 rfl; have gf0 := hG.fr 0; have gc1 := hG.cell 1 rfl; have gf1 := hG.fr 1; have gc2 := hG.cell 2 rfl; have gf2 := hG.fr 2
      have rc0 := hR2.cell 0 rfl; have rf0 := hR2.fr 0; have rc1 := hR2.cell 1 rfl; have rf1 := hR2.fr 1; have rc2 := hR2.cell 2 rfl; have rf2 := hR2.fr 2
      go_wp2_with fail
      refine bodyPost_ret (v := .tuple #[.agg #[.int .i64 a, .slice aN k cN, .slice aA k cA], .bool true]) (by simp [results, Tryz.results71, go_sem, rc0, rc1, rc2, rf0, rf1, rf2]) rfl ?_
      obtain ⟨nds, g1, g2, g3⟩ := HFIN.out
      have hbig : w.heap.size ≤ w.heap.size + 1 := by omega
      refine ⟨_, true, rfl, ((((he.trans hx).setCell (p := ⟨(w.heap.size + 1), 0, none⟩) (by simp only []; omega) _).setCell (p := ⟨(w.heap.size + 1), 1, none⟩) (by simp only []; omega) _).setCell (p := ⟨(w.heap.size + 1), 2, none⟩) (by simp only []; omega) _), .inl ⟨rfl, nds, g1, g2, ?_⟩⟩
      exact auto_store (auto_store (auto_store g3 hR2 (by decide) (by decide) (by decide) 0 _) (hR2.set 0 _) (by decide) (by decide) (by decide) 1 _) ((hR2.set 0 _).set 1 _) (by decide) (by decide) (by decide) 2 _
    obtain ⟨n, hnk⟩ : ∃ n, nodes[k]? = some n := ⟨_, List.getElem?_eq_getElem (by omega)⟩
    have HNUM0 : Hid (NumSt N L n0 k 0 n nodes []) := Lib.hid (by have h1 := HN.out; subst h1; exact NumSt.start hnk)
    have hkm' : k ≤ (nodesTo N L n0 k).length := by rw [HN.out, hml]; exact hkm
    have HKM := Lib.hid hkm'
    clear hkm' hnk
    obtain ⟨aS, cS, rfl⟩ := own_any' (Pool.hd hP)
    go_wp2_with fail
    have hPL : Pool w2.heap.size (wr.alloc (.cells #[] 3)) (⟨3, 1, .slice (some ⟨wr.heap.size, 0, none⟩) 0 0, 0, ([] : List Int).map (Value.int .i64)⟩ :: subPool (.slice aS m cS) vN vA m nodes k vs rows acc) := hP.addLit 3 1 (Nat.le_refl _) hx.size (Ext.alloc _ _) (Blk.new _ _ _)
    go_loopw [8, 11, 12] (fun vS vR j wz => ∃ (q m' : Nat) (nodes' : List Nat) (row : List Int), j = .int .i64 q ∧ q ≤ L.length ∧ nodes'.length = m' ∧ m' ≤ 12 + q ∧ k < m' ∧ Hid (row.length = q) ∧ Hid (NumSt N L n0 k q n nodes' row) ∧ Pool w2.heap.size wz (⟨3, 1, vR, q, row.map (Value.int .i64)⟩ :: subPool vS vN vA m' nodes' k vs rows acc) ∧ Blk wz (w2.heap.size + 1) #[.int .i64 a, vN, vA] 31 ∧ Ext w2 wz) (fun _ _ j _ => L.length - (intOf j).toNat)
    case atStart => exact ⟨0, m, nodes, [], rfl, by omega, hml, by omega, hlt, Lib.hid rfl, HNUM0, hPL, hG.ext (Ext.alloc _ _), hx.trans (Ext.alloc _ _)⟩
    case round =>
      clear hP hG hx hPL HNUM0
      obtain ⟨q, m', nodes', row, rfl, hq, hml', hm', hkm2, HRL2, HNUM, hP, hG, hx⟩ := hrel
      obtain ⟨aS, cS, rfl⟩ := own_any' (Pool.hd2 hP)
      obtain ⟨aW, cW, rfl⟩ := own_any' (Pool.hd hP)
      by_cases hql : q < L.length
      · obtain ⟨l, hl⟩ : ∃ l, L[q]? = some l := ⟨_, List.getElem?_eq_getElem hql⟩
        obtain ⟨bl, offl, rfl, -, hcl⟩ := HLAT.out q l hl
        have gl : wr.cell? ⟨bl, offl + q, none⟩ = some (.int .i64 l) := by have := hcl q l hl; rw [Nat.mul_one] at this; exact hx.cell this
        obtain ⟨gS, cS', e6, gs⟩ := own_at (Pool.hd2 hP) (j := k) (u := .int .i64 n) (by rw [List.getElem?_map, ints_at HNUM.out.at]; rfl)
        cases e6
        have hlL := List.mem_of_getElem? hl
        obtain ⟨l0, l6⟩ := HLL.out l hlL
        have hn16 := HRL.out n (HNUM.out.reach n (List.mem_of_getElem? HNUM.out.at))
        have HLQ := Lib.hid hl
        obtain ⟨x, hxe⟩ : ∃ x, N n l = x := ⟨_, rfl⟩
        have hx16 : x < 65536 := by rw [← hxe]; exact HNL.out n l
        have HXE := Lib.hid hxe
        have hst16 : stepM s n l < 65536 := by rw [← stepTo_full]; exact stepTo_lt hs n l _
        have CS := Lib.hid (show ∀ w', Ext w w' → Calls Tryz.prog 125 #[.agg #[.int .i64 s.alphabet, .int .i64 s.states, .slice ae s.edges.length ce], .int .i64 n, .int .i64 l] w' (Grows (.int .i64 (stepM s n l : Nat)) w') from fun w' h => l2Step_c _ s n l _ (HV.out _ h) hs hel hn16)
        have CR := Lib.hid (show ∀ w', Ext w w' → Calls Tryz.prog 124 #[.agg #[.int .i64 s.alphabet, .int .i64 s.states, .slice ae s.edges.length ce], .int .i64 (stepM s n l : Nat), .int .i64 H] w' (Grows (.int .i64 (x : Nat)) w') from fun w' h => by
          have := l2Reach_c _ s (stepM s n l) H _ (HV.out _ h) hs hel hst16 hH hH2
          rw [show reachH s H (stepM s n l) = x by rw [← HXE.out, ← HNN.out]; rfl] at this
          exact this)
        have hB2 := hB.ext hx
        have hwx := he.trans hx
        clear hxe hcl hl hst16
        go_wp2_with fail
        have D0 := fun d os => cell_regrown (hB2.cell 0 rfl) d os
        have D1 := fun d os => cell_regrown (hB2.cell 1 rfl) d os
        have D2 := fun d os => cell_regrown (hB2.cell 2 rfl) d os
        have D3 := fun d os => cell_regrown gs d os
        have D4 := fun d os => cell_regrown gl d os
        refine wp_region_quiet_below (by kernel_rfl) (by kernel_rfl) ?_
        repeat (go_big_quiet_step (first | (go_at_call 125; exact Grows.quiet (CS.out _ (hwx.trans (below_regrown _ _ _)))) | (go_at_call 124; exact Grows.quiet (CR.out _ (hwx.trans (below_regrown _ _ _))))))
        refine wpQuiet_nil ?_
        intro _ hw'
        obtain ⟨⟨dq, osq⟩, hw''⟩ := hw'
        subst hw''
        have hq2 : Ext wr (Go.Sort.grow (redrawn wr dq) osq) := below_regrown wr dq osq
        generalize Go.Sort.grow (redrawn wr dq) osq = wq at hq2 ⊢
        clear D0 D1 D2 D3 D4 gs gl CS CR hB2 hwx
        replace hP := hP.ext hq2
        replace hG := hG.ext hq2
        replace hx := hx.trans hq2
        have HIN := Lib.hid (l4In_c _ (ints nodes') (x : Int) _ (own_ints (Pool.hd2 hP) (by rw [ints_len, hml'])) (by rw [ints_len]; omega))
        have hnx := HNUM.out.step HLQ.out
        rw [HXE.out] at hnx
        obtain ⟨ix, hix⟩ : ∃ ix, (addN nodes' x).idxOf x = ix := ⟨_, rfl⟩
        rw [hix] at hnx
        have HNX := Lib.hid hnx
        have HIX := Lib.hid hix
        clear hnx hix
        by_cases hmem : x ∈ nodes'
        · have hadd : addN nodes' x = nodes' := if_pos hmem
          rw [hadd] at HNX HIX
          have HL5 := Lib.hid (show Calls Tryz.prog 127 #[.slice (some ⟨gS, 0, none⟩) m' cS, .int .i64 x] wq (Same (.int .i64 (ix : Nat)) wq) from by
            have := l5Index_c _ (ints nodes') (x : Int) _ (own_ints (Pool.hd2 hP) (by rw [ints_len, hml'])) (by rw [ints_len]; omega) (mem_ints.2 hmem)
            rw [idxOf_ints, HIX.out] at this; exact this)
          have hdec := decide_eq_true (mem_ints.2 hmem)
          clear hmem hadd
          go_wp2_with fail
          refine HIN.out.mono ?_
          rintro e w' ⟨rfl, rfl⟩
          rw [hdec]
          clear hdec HIN
          go_wp2_with fail
          refine HL5.out.mono ?_
          rintro e w' ⟨rfl, rfl⟩
          clear HL5
          go_wp2_with (at_builtin; refine appP (news := [Value.int .i64 (ix : Int)]) rfl rfl Tryz.underlying80 infoInt rfl (by decide) hP rfl rfl rfl (by simp [Value.oneCell']) (by omega) (by decide) hx.size ?_; intro v1 w3 hP1 hg1 hb1)
          exact ⟨⟨q + 1, m', nodes', row ++ [(ix : Int)], by go_num, by omega, hml', by omega, hkm2, Lib.hid (by rw [List.length_append, HRL2.out]; rfl), HNX, by rw [List.map_append]; exact hP1, hG.grown (Pool.hd hP) hg1 (by decide), Below.trans hx hb1⟩, by simp [intOf]; omega⟩
        · have hadd : addN nodes' x = nodes' ++ [x] := if_neg hmem
          rw [hadd] at HNX HIX
          have hdec : decide ((x : Int) ∈ ints nodes') = false := decide_eq_false (fun h => hmem (mem_ints.1 h))
          clear hmem hadd
          go_wp2_with fail
          refine HIN.out.mono ?_
          rintro e w' ⟨rfl, rfl⟩
          rw [hdec]
          clear hdec HIN
          have hPs := hP.perm (List.Perm.swap _ _ _)
          go_wp2_with (at_builtin; refine appP (news := [Value.int .i64 (x : Int)]) rfl rfl Tryz.underlying80 infoInt rfl (by decide) hPs rfl rfl rfl (by simp [Value.oneCell']) (by omega) (by decide) hx.size ?_; intro v1 w3 hP1 hg1 hb1; obtain ⟨a1, c1, rfl⟩ := own_any' (Pool.hd hP1))
          have hG1 := hG.grown (Pool.hd hPs) hg1 (by decide)
          have hx1 := Below.trans hx hb1
          have hP2 : Pool w2.heap.size w3 (⟨3, 1, .slice aW q cW, q, row.map (Value.int .i64)⟩ :: subPool (.slice a1 (m' + 1) c1) vN vA (m' + 1) (nodes' ++ [x]) k vs rows acc) := by
            have := hP1.perm (List.Perm.swap _ _ _)
            unfold subPool
            rw [ints_append, List.map_append]
            exact this
          have HL5 := Lib.hid (show Calls Tryz.prog 127 #[.slice a1 (m' + 1) c1, .int .i64 x] w3 (Same (.int .i64 (ix : Nat)) w3) from by
            have := l5Index_c _ (ints (nodes' ++ [x])) (x : Int) _ (own_ints (Pool.hd2 hP2) (by rw [ints_len, List.length_append, hml']; rfl)) (by rw [ints_len, List.length_append, hml']; simp; omega) (mem_ints.2 (by simp))
            rw [idxOf_ints, HIX.out] at this; exact this)
          clear hP1 hPs hP hG hx
          refine HL5.out.mono ?_
          rintro e w' ⟨rfl, rfl⟩
          clear HL5
          go_wp2_with (at_builtin; refine appP (news := [Value.int .i64 (ix : Int)]) rfl rfl Tryz.underlying80 infoInt rfl (by decide) hP2 rfl rfl rfl (by simp [Value.oneCell']) (by omega) (by decide) hx1.size ?_; intro v2 w4 hP3 hg2 hb2)
          exact ⟨⟨q + 1, m' + 1, nodes' ++ [x], row ++ [(ix : Int)], by go_num, by omega, by rw [List.length_append, hml']; rfl, by omega, by omega, Lib.hid (by rw [List.length_append, HRL2.out]; rfl), HNX, by rw [List.map_append]; exact hP3, hG1.grown (Pool.hd hP2) hg2 (by decide), Below.trans hx1 hb2⟩, by simp [intOf]; omega⟩
      · obtain rfl : q = L.length := by omega
        by_cases h12 : 12 < m'
        · have hR2 := hR.ext hx
          have HTM : Hid (TooMany (nextH s H) (letters a) (startH s H) 12) := Lib.hid (by rw [HNN.out, HL.out, HN0.out]; exact ⟨nodes', HNUM.out.nodup, by rw [hml']; exact h12, HNUM.out.reach⟩)
          have rc0 := hR2.cell 0 rfl; have rf0 := hR2.fr 0; have rc1 := hR2.cell 1 rfl; have rf1 := hR2.fr 1; have rc2 := hR2.cell 2 rfl; have rf2 := hR2.fr 2
          go_wp2_with fail
          refine bodyPost_ret (v := .tuple #[.agg #[.int .i64 0, .slice none 0 0, .slice none 0 0], .bool false]) (by simp [results, Tryz.results71, go_sem, rc0, rc1, rc2, rf0, rf1, rf2]) rfl ?_
          have hbig : w.heap.size ≤ w.heap.size + 1 := by omega
          exact ⟨_, false, rfl, ((((he.trans hx).setCell (p := ⟨(w.heap.size + 1), 0, none⟩) (by simp only []; omega) _).setCell (p := ⟨(w.heap.size + 1), 1, none⟩) (by simp only []; omega) _).setCell (p := ⟨(w.heap.size + 1), 2, none⟩) (by simp only []; omega) _), .inr ⟨rfl, rfl, HTM.out⟩⟩
        · obtain ⟨e1, e2⟩ := HNUM.out.done
          have HNU := Lib.hid e1
          have HRW := Lib.hid e2
          clear e1 e2
          obtain ⟨gS, cS', e6, gs⟩ := own_at (Pool.hd2 hP) (j := k) (u := .int .i64 n) (by rw [List.getElem?_map, ints_at HNUM.out.at]; rfl)
          cases e6
          obtain ⟨aN, cN, rfl⟩ := own_any' (Pool.hd3 hP)
          obtain ⟨aA, cA, rfl⟩ := own_any' (Pool.hd4 hP)
          have hPN := hP.perm (((List.Perm.swap _ _ _).cons _).trans (List.Perm.swap _ _ _))
          have gc1 := hG.cell 1 rfl
          have hkk : k ≤ 12 := by omega
          go_wp2_with (at_builtin; refine appP (news := [Value.slice aW L.length cW]) rfl rfl Tryz.underlying28 infoInts rfl (by decide) hPN rfl rfl rfl (by simp [Value.oneCell']) (by omega) (by decide) hx.size ?_; intro v1 w3 hP1 hg1 hb1; obtain ⟨a1, c1, rfl⟩ := own_any' (Pool.hd hP1); have hG1 := hG.grown (Pool.hd hPN) hg1 (by decide); have gd1 := hG1.cell 1 rfl; have gf1 := hG1.fr 1)
          have hG2 := hG1.set 1 (.slice a1 (k + 1) c1)
          have hP2 := Pool.set hP1 hG1 (fun t ht => by
            rcases List.mem_cons.1 ht with e | ht
            · rw [e]; dsimp only; decide
            rcases List.mem_cons.1 ht with e | ht
            · rw [e]; dsimp only; decide
            rcases List.mem_cons.1 ht with e | ht
            · rw [e]; dsimp only; decide
            rcases List.mem_cons.1 ht with e | ht
            · rw [e]; dsimp only; decide
            · rw [slRows_e t ht]; decide) 1 (.slice a1 (k + 1) c1)
          have hx2 := (Below.trans hx hb1).setCell (p := ⟨w2.heap.size + 1, 1, none⟩) (by simp only []; omega) (.slice a1 (k + 1) c1)
          have gs2 := (own_cell (Pool.hd3 hP2) (j := k) (u := .int .i64 n) (by rw [List.getElem?_map, ints_at HNUM.out.at]; rfl))
          clear hP1 hPN hP hG hG1 hx gc1 gd1 gf1 gs hg1 hb1
          generalize w3.setCell ⟨w2.heap.size + 1, 1, none⟩ (.slice a1 (k + 1) c1) = w4 at hG2 hP2 hx2 gs2 ⊢
          have D0 := fun d os => cell_regrown (hG2.cell 2 rfl) d os
          have D1 := fun d os => cell_regrown gs2 d os
          obtain ⟨Kc, HKc⟩ : ∃ Kc : FuncId → Array Value → World → Value → World → Prop, Hid (Kc = fun _ _ _ _ _ => True) := ⟨_, rfl⟩
          refine wp_region_ext (Kc := Kc) 8 (by kernel_rfl) (by kernel_rfl) ?_
          simp only [List.take_succ_cons, List.take_zero]
          repeat (refine WalkE.pure rfl (fun K hK => ?_); simp only [PureDo]; go_simp; refine hK _ ?_; clear hK K)
          refine WalkE.step (fun K hK we hwe hde => ?_)
          simp only [OpDo, OpSafe, OpOut]
          go_simp
          refine ⟨Ext.alloc _ _, hK _ _ ?_⟩
          clear hK K hde
          refine WalkE.nil (fun wn hwn hmn => ?_)
          simp only [List.drop_succ_cons, List.drop_zero, List.drop_nil]
          have hxn : Ext w4 wn := (Ext.drew _).trans hwn
          have l0 := (hmn 7 (by omega)).new 0 rfl
          have hb : ((n : Int) != 0) = decide (n ≠ 0) := by rw [Bool.eq_iff_iff]; simp
          have hG3 := hG2.ext hxn
          have hP3 := (hP2.ext hxn).perm ((((List.Perm.swap _ _ _).cons _).cons _).trans (((List.Perm.swap _ _ _).cons _).trans (List.Perm.swap _ _ _)))
          have hx3 := Ext.trans hx2 hxn
          have hcell : ∀ (j : Nat) (u : Value), [Value.bool ((n : Int) != 0)][j]? = some u → wn.cell? ((⟨we.heap.size, 0, none⟩ : Addr).add j) = some u := fun j u hu => by
            rw [add_none]
            cases j with
            | zero => simp at hu; subst hu; exact l0
            | succ j => simp at hu
          clear l0 hmn HKc D0 D1 hG2 hP2 hx2 gs2 hwn hwe
          generalize we.heap.size = p9 at hcell ⊢
          clear we
          go_wp2_with (at_builtin; refine appPN (news := [Value.bool ((n : Int) != 0)]) rfl rfl Tryz.underlying29 infoBool rfl (by decide) hP3 rfl rfl (by simp) hcell (by simp [Value.oneCell']) (by omega) (by decide) hx3.size ?_; intro v2 w6 hP4 hg2 hb2; obtain ⟨a2, c2, rfl⟩ := own_any' (Pool.hd hP4); have hG4 := hG3.grown (Pool.hd hP3) hg2 (by decide); have gc2 := hG4.cell 2 rfl; have gf2 := hG4.fr 2)
          have hP5 := Pool.set hP4 hG4 (fun t ht => by
            rcases List.mem_cons.1 ht with e | ht
            · rw [e]; dsimp only; decide
            rcases List.mem_cons.1 ht with e | ht
            · rw [e]; dsimp only; decide
            rcases List.mem_cons.1 ht with e | ht
            · rw [e]; dsimp only; decide
            rcases List.mem_cons.1 ht with e | ht
            · rw [e]; dsimp only; decide
            · rw [slRows_e t ht]; decide) 2 (.slice a2 (k + 1) c2)
          have hx5 := (Below.trans hx3 hb2).setCell (p := ⟨w2.heap.size + 1, 2, none⟩) (by simp only []; omega) (.slice a2 (k + 1) c2)
          obtain ⟨b1, b2, b3⟩ := HA.out
          refine ⟨⟨k + 1, m', nodes', _, _, vs ++ [.slice aW L.length cW], rows ++ [row], acc ++ [decide (n ≠ 0)], by go_num, by omega, by omega, hml', Lib.hid HNU.out.symm, Lib.hid (HR.out.next HNUM.out HKM.out), Lib.hid ⟨by rw [List.length_append, b1]; rfl, by rw [List.length_append, b2]; rfl, ?_⟩, ?_, hG4.set 2 _, hx5⟩, by simp [intOf]; omega⟩
          · rw [List.take_add_one, HNUM.out.at, b3]
            unfold accN
            rw [List.map_append]
            congr 2
            have hpre := HNUM.out.prefix
            rw [HN.out] at hpre
            obtain ⟨t, rfl⟩ := hpre
            rw [List.take_append_of_le_length (by omega)]
          · have hp := hP5.perm (perm_four _ _ _ _ _)
            unfold subPool
            rw [slRows_push (by rw [b1, b2]), List.map_append, ← hb]
            unfold slInts
            rw [HRL2.out]
            exact hp

theorem Determinize_s (v : Value) (s : Sys) (w : World) (hv : SysV w v s) (hel : s.edges.length ≤ 1048576) :
    Calls Tryz.prog 29 #[v] w (fun e w' => ∃ v' b, e = .returned (.tuple #[v', .bool b]) ∧ Ext w w' ∧ ((sysValid s = true ∧ SubEnd s s.alphabet w.heap.size w' v' b) ∨ (sysValid s = false ∧ b = false ∧ v' = .agg #[.int .i64 0, .slice none 0 0, .slice none 0 0]))) := by
  obtain ⟨ve, rfl, h1⟩ := hv
  obtain ⟨ae, ce, rfl, -, hn⟩ := h1.open
  have HV := Lib.hid (show ∀ w', Ext w w' → SysV w' (.agg #[.int .i64 s.alphabet, .int .i64 s.states, .slice ae s.edges.length ce]) s from fun w' h => ⟨_, rfl, h1.mono h⟩)
  clear h1 hn
  have he : Ext w ((w.alloc (.cells #[.int .i64 s.alphabet, .int .i64 s.states, .slice ae s.edges.length ce] 25)).alloc (.cells #[.int .i64 0, .slice none 0 0, .slice none 0 0] 31)) := (Ext.alloc _ _).trans (Ext.alloc _ _)
  have hB := (Blk.new w #[.int .i64 s.alphabet, .int .i64 s.states, .slice ae s.edges.length ce] 25).ext (Ext.alloc _ (.cells #[.int .i64 0, .slice none 0 0, .slice none 0 0] 31))
  have hR := Blk.new (w.alloc (.cells #[.int .i64 s.alphabet, .int .i64 s.states, .slice ae s.edges.length ce] 25)) #[.int .i64 0, .slice none 0 0, .slice none 0 0] 31
  rw [World.size_alloc] at hR
  go_enter Tryz.func29, Tryz.ntmps29
  go_wp2_with fail
  generalize (w.alloc (.cells #[.int .i64 s.alphabet, .int .i64 s.states, .slice ae s.edges.length ce] 25)).alloc (.cells #[.int .i64 0, .slice none 0 0, .slice none 0 0] 31) = wo at he hB hR ⊢
  refine (SystemValid_s _ s _ (HV.out _ he)).mono ?_
  rintro e w1 ⟨rfl, he1⟩
  replace he := he.trans he1
  replace hB := hB.ext he1
  replace hR := hR.ext he1
  cases hs : sysValid s with
  | false =>
    have rc0 := hR.cell 0 rfl; have rf0 := hR.fr 0; have rc1 := hR.cell 1 rfl; have rf1 := hR.fr 1; have rc2 := hR.cell 2 rfl; have rf2 := hR.fr 2
    go_wp2_with fail
    refine bodyPost_ret (v := .tuple #[.agg #[.int .i64 0, .slice none 0 0, .slice none 0 0], .bool false]) (by simp [results, Tryz.results29, go_sem, rc0, rc1, rc2, rf0, rf1, rf2]) rfl ?_
    exact ⟨_, false, rfl, (((he.setCell (p := ⟨(w.heap.size + 1), 0, none⟩) (by simp only []; omega) _).setCell (p := ⟨(w.heap.size + 1), 1, none⟩) (by simp only []; omega) _).setCell (p := ⟨(w.heap.size + 1), 2, none⟩) (by simp only []; omega) _), .inr ⟨hs, rfl, rfl⟩⟩
  | true =>
    obtain ⟨ha, ha2⟩ := sys_alpha hs
    have bc0 := hB.cell 0 rfl; have bc1 := hB.cell 1 rfl; have bc2 := hB.cell 2 rfl
    go_wp2_with fail
    refine (l6Subsets_s _ s s.alphabet _ (HV.out _ he) hs hel ha ha2).mono ?_
    rintro e w2 ⟨v', b, rfl, he2, hend⟩
    replace hR := hR.ext he2
    have hsh : ∃ (x : Int) (aN : Option Addr) (n cN : Nat) (aA : Option Addr) (m cA : Nat), v' = .agg #[.int .i64 x, .slice aN n cN, .slice aA m cA] := by
      rcases hend with ⟨-, _, -, -, vn, va, e, h4, h5⟩ | ⟨-, e, -⟩
      · obtain ⟨a1, c1, rfl⟩ := h4.shape
        obtain ⟨a2, c2, rfl⟩ := h5.shape
        exact ⟨_, _, _, _, _, _, _, e⟩
      · exact ⟨_, _, _, _, _, _, _, e⟩
    obtain ⟨x, aN, n, cN, aA, m, cA, rfl⟩ := hsh
    have HE := Lib.hid hend
    clear hend
    have rc0 := hR.cell 0 rfl; have rf0 := hR.fr 0; have rc1 := hR.cell 1 rfl; have rf1 := hR.fr 1; have rc2 := hR.cell 2 rfl; have rf2 := hR.fr 2
    go_wp2_with fail
    refine bodyPost_ret (v := .tuple #[.agg #[.int .i64 x, .slice aN n cN, .slice aA m cA], .bool b]) (by simp [results, Tryz.results29, go_sem, rc0, rc1, rc2, rf0, rf1, rf2]) rfl ?_
    refine ⟨_, b, rfl, ((((he.trans he2).setCell (p := ⟨(w.heap.size + 1), 0, none⟩) (by simp only []; omega) _).setCell (p := ⟨(w.heap.size + 1), 1, none⟩) (by simp only []; omega) _).setCell (p := ⟨(w.heap.size + 1), 2, none⟩) (by simp only []; omega) _), .inl ⟨hs, ?_⟩⟩
    rcases HE.out with ⟨g0, nds, g1, g2, g3⟩ | g
    · refine .inl ⟨g0, nds, g1, g2, ?_⟩
      exact auto_store (auto_store (auto_store (g3.low he.size) hR (by decide) (by decide) (by decide) 0 _) (hR.set 0 _) (by decide) (by decide) (by decide) 1 _) ((hR.set 0 _).set 1 _) (by decide) (by decide) (by decide) 2 _
    · exact .inr g
end Go.Proofs.YtanekmfifmkbmaaGreatDoor
