/- Part of this seat's proofs, cut to what its law needs. -/

import Derived.Test.YtanekmfifmkbmaaGreatDoorWalkP
import Derived.Test.YtanekmfifmkbmaaGreatDoorWalkY
import Derived.Maps.AppendAt
import Derived.Maps.OwnSet
import Derived.Maps.OwnOps
import Derived.Test.YtanekmfifmkbmaaGreatDoorPlainC
import Derived.Test.YtanekmfifmkbmaaGreatDoorWalkR
import Derived.Test.YtanekmfifmkbmaaGreatDoorWalkSA
import Derived.Test.YtanekmfifmkbmaaGreatDoorWalkSE

namespace Go.Proofs.YtanekmfifmkbmaaGreatDoor
set_option linter.unusedSimpArgs false
set_option linter.unusedVariables false
open Go.RowKit

structure Slc where
  e : TypeId
  sz : Nat
  v : Value
  n : Nat
  xs : List Value
def Apt (v u : Value) : Prop := ∀ k, v.ownBlock = some k → u.ownBlock ≠ some k
theorem Apt.symm {v u : Value} (h : Apt v u) : Apt u v := fun k h1 h2 => h k h2 h1
theorem Apt.nil (u : Value) : Apt (.slice none 0 0) u := fun k h => by cases h
structure Pool (base : Nat) (w : World) (l : List Slc) : Prop where
  own : ∀ s ∈ l, w.ownsRow base s.e s.sz s.v s.n s.xs
  apt : l.Pairwise fun a b => Apt a.v b.v

theorem own_lt {w : World} {base : Nat} {e : TypeId} {sz n : Nat} {v : Value} {xs : List Value} (h : w.ownsRow base e sz v n xs) {k : Nat} (hk : v.ownBlock = some k) : base ≤ k ∧ k < w.heap.size := by
  rcases h.2 with ⟨rfl, _⟩ | ⟨g, cap, cur, rfl, hb, hg, _⟩
  · cases hk
  · cases hk; exact ⟨hb, (Array.getElem?_eq_some_iff.1 hg).1⟩
theorem own_kept {w w' : World} {base : Nat} {e : TypeId} {sz n : Nat} {v u : Value} {xs : List Value} (h : w.ownsRow base e sz v n xs) (hg : w.grownBy w' u.ownBlock) (ha : Apt v u) : w'.ownsRow base e sz v n xs := by
  refine ⟨h.1, ?_⟩
  rcases h.2 with h1 | ⟨g, cap, cur, rfl, hb, hh, h2⟩
  · exact .inl h1
  · refine .inr ⟨g, cap, cur, rfl, hb, ?_, h2⟩
    rw [hg.block g (Array.getElem?_eq_some_iff.1 hh).1 (fun e => ha g rfl e.symm)]; exact hh
theorem Pool.perm {base : Nat} {w : World} {l l' : List Slc} (h : Pool base w l) (hp : l.Perm l') : Pool base w l' :=
  ⟨fun s hs => h.own s (hp.mem_iff.2 hs), hp.pairwise h.apt fun {a b} hab => hab.symm⟩
theorem Pool.ext {base : Nat} {w w' : World} {l : List Slc} (h : Pool base w l) (he : Ext w w') : Pool base w' l := ⟨fun s hs => own_ext (h.own s hs) he, h.apt⟩
theorem Pool.nil (base : Nat) (w : World) : Pool base w [] := ⟨fun s hs => absurd hs (by simp), List.Pairwise.nil⟩
theorem Pool.head {base : Nat} {w : World} {s : Slc} {l : List Slc} (h : Pool base w (s :: l)) : w.ownsRow base s.e s.sz s.v s.n s.xs := h.own s (by simp)
theorem Pool.tail {base : Nat} {w : World} {s : Slc} {l : List Slc} (h : Pool base w (s :: l)) : Pool base w l := ⟨fun t ht => h.own t (by simp [ht]), (List.pairwise_cons.1 h.apt).2⟩
theorem Pool.hd {base : Nat} {w : World} {e : TypeId} {sz n : Nat} {v : Value} {xs : List Value} {l : List Slc} (h : Pool base w (⟨e, sz, v, n, xs⟩ :: l)) : w.ownsRow base e sz v n xs := h.head
theorem Pool.hd2 {base : Nat} {w : World} {s : Slc} {e : TypeId} {sz n : Nat} {v : Value} {xs : List Value} {l : List Slc} (h : Pool base w (s :: ⟨e, sz, v, n, xs⟩ :: l)) : w.ownsRow base e sz v n xs := h.tail.head
theorem Pool.app {base : Nat} {w w' : World} {s : Slc} {l : List Slc} (h : Pool base w (s :: l)) {v' : Value} {n' : Nat} {xs' : List Value} (hown : w'.ownsRow base s.e s.sz v' n' xs') (hg : w.grownBy w' s.v.ownBlock) (hloc : v'.ownBlock = s.v.ownBlock ∨ ∃ b, v'.ownBlock = some b ∧ w.heap.size ≤ b) : Pool base w' (⟨s.e, s.sz, v', n', xs'⟩ :: l) := by
  have hap := List.pairwise_cons.1 h.apt
  refine ⟨fun t ht => ?_, List.pairwise_cons.2 ⟨fun t ht => ?_, hap.2⟩⟩
  · rcases List.mem_cons.1 ht with rfl | ht
    · exact hown
    · exact own_kept (h.own t (by simp [ht])) hg (hap.1 t ht).symm
  · rcases hloc with hl | ⟨b, hl, hb⟩
    · intro k hk; exact hap.1 t ht k (by rw [← hl]; exact hk)
    · intro k hk hk2
      have h1 : v'.ownBlock = some k := hk
      rw [hl] at h1; cases h1
      have := (own_lt (h.own t (by simp [ht])) hk2).2
      omega
theorem Pool.set {base : Nat} {w : World} {l : List Slc} (h : Pool base w l) {g : Nat} {cs : Array Value} {T : TypeId} (hG : Blk w g cs T) (hne : ∀ s ∈ l, T ≠ s.e) (j : Nat) (u : Value) : Pool base (w.setCell ⟨g, j, none⟩ u) l :=
  ⟨fun s hs => own_store (h.own s hs) hG (hne s hs) j u, h.apt⟩
theorem Pool.add {base : Nat} {w w' : World} {l : List Slc} (h : Pool base w l) (he : Ext w w') (s : Slc) {b : Nat} (hb : w.heap.size ≤ b) (hb2 : base ≤ b) (hs : w'.ownsRow b s.e s.sz s.v s.n s.xs) : Pool base w' (s :: l) := by
  refine ⟨fun t ht => ?_, List.pairwise_cons.2 ⟨fun t ht k hk hk2 => ?_, h.apt⟩⟩
  · rcases List.mem_cons.1 ht with rfl | ht
    · exact own_base hs hb2
    · exact own_ext (h.own t ht) he
  · have h1 := (own_lt hs hk).1
    have h2 := (own_lt (h.own t ht) hk2).2
    omega
theorem Pool.addNil {base : Nat} {w : World} {l : List Slc} (h : Pool base w l) (e : TypeId) (sz : Nat) : Pool base w (⟨e, sz, .slice none 0 0, 0, []⟩ :: l) :=
  ⟨fun t ht => by rcases List.mem_cons.1 ht with rfl | ht; exact World.ownsRow_nil _ _ _ _; exact h.own t ht, List.pairwise_cons.2 ⟨fun t _ => Apt.nil _, h.apt⟩⟩
theorem Pool.addLit {base : Nat} {w w' : World} {l : List Slc} (h : Pool base w l) (e : TypeId) (sz : Nat) {b : Nat} (hb : w.heap.size ≤ b) (hb2 : base ≤ b) (he : Ext w w') (hB : Blk w' b #[] e) : Pool base w' (⟨e, sz, .slice (some ⟨b, 0, none⟩) 0 0, 0, []⟩ :: l) :=
  h.add he _ hb hb2 ⟨by simp, .inr ⟨b, 0, #[], rfl, Nat.le_refl _, hB, Nat.le_refl _, by unfold maxLen; omega, by simp, by simp⟩⟩

section
variable {P : Program} {ops : Array Oper} {rest : List Oper} {o : Oper} {a : Act} {Q : Exit → Act → World → Prop}
theorem appP {base : Nat} {wr : World} {s x : Operand} {t e' : TypeId} {bytes : Nat} {z v : Value} {e : TypeId} {sz n : Nat} {xs : List Value} {l : List Slc} {news : List Value} (hgd : o.guard = none)
    (ho : o.op = .call { callee := .builtin .append, args := #[s, x], argTypes := #[t, t] })
    (ht : P.underlying t = some (.slice e)) (hinfo : (P.info? e).map (fun i => (i.zero, i.size, i.bytes)) = some (some z, sz, bytes)) (hzs : z.cells.size = sz) (hsz : 0 < sz)
    (hp : Pool base wr (⟨e, sz, v, n, xs⟩ :: l)) (hs : a.eval s = v) (hx : a.eval x = .slice (some ⟨wr.heap.size, 0, none⟩) 1 1) (hl : news.length = sz) (h1 : ∀ u ∈ news, u.oneCell' = true)
    (hn : n ≤ 4294967296) (hb : bytes ≤ 1024) (hbase : base ≤ wr.heap.size)
    (h : ∀ v' w', Pool base w' (⟨e, sz, v', n + 1, xs ++ news⟩ :: l) → wr.grownBy w' v.ownBlock → Below base wr w' → wpList P ops Q rest (a.put o.dst v') w') :
    wpList P ops Q (o :: rest) a (wr.alloc (.cells news.toArray e')) := by
  obtain ⟨i, hi, hz, hsize, hby⟩ := info_parts hinfo
  have hown := Pool.hd hp
  refine wpList_append_own_at _ hgd s x t ho base e i z sz bytes ht hi hz hsize hby hzs hsz v n xs hs (hown.alloc _) ⟨wr.heap.size, 0, none⟩ 1 1 news hx (by omega) ?_ h1 (by unfold maxLen; omega) ?_ (by simp; omega) ?_
  · intro j u hj
    have hadd : (⟨wr.heap.size, 0, none⟩ : Addr).add j = ⟨wr.heap.size, j, none⟩ := by unfold Addr.add; split <;> simp_all
    rw [hadd]
    exact new_cell wr _ _ _ _ (by simpa using hj)
  · have := Nat.mul_le_mul (show n + 1 ≤ 4294967297 by omega) hb; omega
  · intro v' w' h1 h2 _ hloc
    have hg : wr.grownBy w' v.ownBlock := by
      have h3 := World.grownBy_alloc wr (.cells news.toArray e') v.ownBlock
      exact ⟨h2.os.trans h3.os, h2.tape.trans h3.tape, h2.output.trans h3.output, Nat.le_trans h3.size h2.size, fun k hk hne => (h2.block k (by simp; omega) hne).trans (h3.block k hk hne)⟩
    refine h v' w' (hp.app h1 hg ?_) hg ((Below.refl _ _).grown hg hbase fun k hk => (own_lt hown hk).1)
    rcases hloc with hl | hl
    · exact .inl hl
    · exact .inr ⟨_, hl, by simp⟩
theorem appPN {base m c : Nat} {wr : World} {ad : Addr} {s x : Operand} {t : TypeId} {bytes : Nat} {z v : Value} {e : TypeId} {sz n : Nat} {xs : List Value} {l : List Slc} {news : List Value} (hgd : o.guard = none)
    (ho : o.op = .call { callee := .builtin .append, args := #[s, x], argTypes := #[t, t] })
    (ht : P.underlying t = some (.slice e)) (hinfo : (P.info? e).map (fun i => (i.zero, i.size, i.bytes)) = some (some z, sz, bytes)) (hzs : z.cells.size = sz) (hsz : 0 < sz)
    (hp : Pool base wr (⟨e, sz, v, n, xs⟩ :: l)) (hs : a.eval s = v) (hx : a.eval x = .slice (some ad) m c) (hl : news.length = m * sz) (hnews : ∀ j u, news[j]? = some u → wr.cell? (ad.add j) = some u) (h1 : ∀ u ∈ news, u.oneCell' = true)
    (hn : n + m ≤ 4294967296) (hb : bytes ≤ 1024) (hbase : base ≤ wr.heap.size)
    (h : ∀ v' w', Pool base w' (⟨e, sz, v', n + m, xs ++ news⟩ :: l) → wr.grownBy w' v.ownBlock → Below base wr w' → wpList P ops Q rest (a.put o.dst v') w') :
    wpList P ops Q (o :: rest) a wr := by
  obtain ⟨i, hi, hz, hsize, hby⟩ := info_parts hinfo
  have hown := Pool.hd hp
  refine wpList_append_own_at _ hgd s x t ho base e i z sz bytes ht hi hz hsize hby hzs hsz v n xs hs hown ad m c news hx hl hnews h1 (by unfold maxLen; omega) ?_ hbase ?_
  · have := Nat.mul_le_mul hn hb; omega
  · intro v' w' h1 hg _ hloc
    exact h v' w' (hp.app h1 hg (hloc.imp id fun e => ⟨_, e, Nat.le_refl _⟩)) hg ((Below.refl _ _).grown hg hbase fun k hk => (own_lt hown hk).1)
end

theorem step_appPN {P : Program} {ops : Array Oper} {o : Oper} {a : Act} {K : Act → World → Prop} {Q : Exit → Act → World → Prop} {E : Prop} {base m c : Nat} {wr : World} {ad : Addr} {s x : Operand} {t : TypeId} {bytes : Nat} {z v : Value} {e : TypeId} {sz n : Nat} {xs : List Value} {l : List Slc} {news : List Value}
    (hw : Region.wanted o (yielded ops a.tmps) = true)
    (ho : o.op = .call { callee := .builtin .append, args := #[s, x], argTypes := #[t, t] })
    (ht : P.underlying t = some (.slice e)) (hinfo : (P.info? e).map (fun i => (i.zero, i.size, i.bytes)) = some (some z, sz, bytes)) (hzs : z.cells.size = sz) (hsz : 0 < sz)
    (hp : Pool base wr (⟨e, sz, v, n, xs⟩ :: l)) (hs : a.eval s = v) (hx : a.eval x = .slice (some ad) m c) (hl : news.length = m * sz) (hnews : ∀ j u, news[j]? = some u → wr.cell? (ad.add j) = some u) (h1 : ∀ u ∈ news, u.oneCell' = true)
    (hn : n + m ≤ 4294967296) (hb : bytes ≤ 1024) (hbase : base ≤ wr.heap.size)
    (h : ∀ v' w', Pool base w' (⟨e, sz, v', n + m, xs ++ news⟩ :: l) → wr.grownBy w' v.ownBlock → Below base wr w' → K (a.put o.dst v') w') :
    if Region.wanted o (yielded ops a.tmps) = true then Oper.wp P o a wr K Q else E := by
  rw [if_pos hw]
  obtain ⟨i, hi, hz, hsize, hby⟩ := info_parts hinfo
  have hown := Pool.hd hp
  obtain ⟨v', w', hr, h2, h3, h4, h5⟩ := run_append_own_at (P := P) wr base t o.type e i z sz bytes ht hi hz hsize hby hzs hsz v n xs hown ad m c news hl hnews h1 (by unfold maxLen; omega) (by have := Nat.mul_le_mul hn hb; omega) hbase
  unfold Oper.wp execOp
  simp only [ho, resolve, invoke, builtin, Sem.run_bind, Sem.run_pure, Result.andThen_ok, List.map_toArray, List.map_cons, List.map_nil, hs, hx, hr]
  exact h v' w' (hp.app h2 h3 (h5.imp id fun e => ⟨_, e, Nat.le_refl _⟩)) h3 ((Below.refl _ _).grown h3 hbase fun k hk => (own_lt hown hk).1)

end Go.Proofs.YtanekmfifmkbmaaGreatDoor

namespace Go.Proofs.YtanekmfifmkbmaaGreatDoor
set_option linter.unusedSimpArgs false
set_option linter.unusedVariables false
open Go.RowKit Go.Maps

section
variable {H : Type} {P : Program}
variable {k : TypeId} {R : Value → Option (DataW H × List MemPlace)} {b n : Nat} {D : DataW H} {w w' : World}
theorem map_ext (h : w.ownsMap P k R b n D) (he : Ext w w') : w'.ownsMap P k R b n D := by
  have hlt := h.lt
  obtain ⟨es, clock, hb, r⟩ := h
  exact ⟨es, clock, (he.block b hlt).trans hb, r⟩
theorem map_apart (h : w.ownsMap P k R b n D) {base : Nat} {e : TypeId} {sz m : Nat} {v : Value} {xs : List Value} (ho : w.ownsRow base e sz v m xs) : some b ≠ v.ownBlock := by
  obtain ⟨es, clock, hb, -⟩ := h
  rcases ho.2 with ⟨rfl, _⟩ | ⟨g, cap, cur, rfl, -, hg, _⟩
  · intro e1; cases e1
  · intro e1
    have : b = g := Option.some.inj e1
    subst this
    rw [hb] at hg; cases hg
theorem map_grown (h : w.ownsMap P k R b n D) {base : Nat} {e : TypeId} {sz m : Nat} {v : Value} {xs : List Value} (ho : w.ownsRow base e sz v m xs) (hg : w.grownBy w' v.ownBlock) : w'.ownsMap P k R b n D := by
  have ha := map_apart h ho
  have hlt := h.lt
  obtain ⟨es, clock, hb, r⟩ := h
  exact ⟨es, clock, (hg.block b hlt ha).trans hb, r⟩
theorem Pool.mapped {base : Nat} {l : List Slc} (h : Pool base w l) (hm : w.ownsMap P k R b n D) (hg : w.grownBy w' (some b)) : Pool base w' l :=
  ⟨fun s hs => World.ownsRow.kept (h.own s hs) hg (.inr fun e => map_apart hm (h.own s hs) e.symm), h.apt⟩
end
end Go.Proofs.YtanekmfifmkbmaaGreatDoor

namespace Go.Proofs.YtanekmfifmkbmaaGreatDoor
set_option linter.unusedSimpArgs false
set_option linter.unusedVariables false
open Go.RowKit
set_option maxHeartbeats 1600000
set_option maxRecDepth 100000

def stepTo (s : Sys) (set : Nat) (l : Int) (k : Nat) : Nat := (s.edges.take k).foldl (addTo l set) 0
theorem stepTo_succ {s : Sys} {set : Nat} {l : Int} {k : Nat} {e : Edge} (h : s.edges[k]? = some e) : stepTo s set l (k + 1) = addTo l set (stepTo s set l k) e := by
  unfold stepTo; rw [List.take_add_one, h, List.foldl_append]; rfl
theorem stepTo_full (s : Sys) (set : Nat) (l : Int) : stepTo s set l s.edges.length = stepM s set l := by unfold stepTo stepM; rw [List.take_length]
theorem stepTo_lt {s : Sys} (hs : sysValid s = true) (set : Nat) (l : Int) (k : Nat) : stepTo s set l k < 65536 := lt_of_bits fun q h => by
  unfold stepTo at h
  rw [foldl_addTo] at h
  rcases h with h | ⟨e, he, -, -, rfl⟩
  · simp at h
  · exact (edges_in hs (List.mem_of_mem_take he)).2.1
theorem bit_nat (n : Nat) {x : Int} (h : 0 ≤ x) : bit (n : Int) x = n.testBit x.toNat := by rw [bit_nonneg h, Int.toNat_natCast]

theorem l2Step_c (v : Value) (s : Sys) (set : Nat) (l : Int) (w : World) (hv : SysV w v s) (hs : sysValid s = true) (hel : s.edges.length ≤ 1048576) (hset : set < 65536) :
    Calls Tryz.prog 125 #[v, .int .i64 set, .int .i64 l] w (Grows (.int .i64 (stepM s set l : Nat)) w) := by
  obtain ⟨ve, rfl, h1⟩ := hv
  obtain ⟨ae, ce, rfl, -, hn⟩ := h1.open
  have he := Ext.alloc w (.cells #[.int .i64 s.alphabet, .int .i64 s.states, .slice ae s.edges.length ce] 25)
  have hB := Blk.new w #[.int .i64 s.alphabet, .int .i64 s.states, .slice ae s.edges.length ce] 25
  go_enter Tryz.func125, Tryz.ntmps125
  go_wp2_with fail
  generalize w.alloc (.cells #[.int .i64 s.alphabet, .int .i64 s.states, .slice ae s.edges.length ce] 25) = wo at he hB ⊢
  have b2 := hB.cell 2 rfl
  go_loop [7, 8, 25, 26, 27, 28, 29, 30, 31, 32] (fun o i _ _ _ _ _ _ _ _ => ∃ (k m : Nat), k ≤ s.edges.length ∧ i = .int .i64 k ∧ o = .int .i64 m ∧ m < 65536 ∧ Hid (stepTo s set l k = m)) (fun _ i _ _ _ _ _ _ _ _ => s.edges.length - (intOf i).toNat)
  case atStart => exact ⟨0, 0, by omega, rfl, rfl, by omega, Lib.hid rfl⟩
  case round =>
    obtain ⟨k, m, hk, rfl, rfl, hm, HM⟩ := hrel
    by_cases hlt : k < s.edges.length
    · obtain ⟨x, hx⟩ : ∃ x, s.edges[k]? = some x := ⟨_, List.getElem?_eq_getElem hlt⟩
      obtain ⟨b, off, rfl, -, hc⟩ := hn k x hx
      obtain ⟨q1, q2, q3⟩ := (hc k x hx).mono he
      obtain ⟨i1, i2, i3, i4, i5, i6, -⟩ := edges_in hs (List.mem_of_getElem? hx)
      obtain ⟨d, hd⟩ := Int.eq_ofNat_of_zero_le i4
      have HS := Lib.hid (stepTo_succ (set := set) (l := l) hx)
      have hnext := Lib.hid (stepTo_lt hs set l (k + 1))
      have hbs := bit_nat set i3
      rw [hd] at q3
      have hd16 : d ≤ 16 := by omega
      have HD : Hid (x.dst.toNat = d) := Lib.hid (by omega)
      clear hc hn hx hd
      by_cases h1 : x.letter = l
      · cases h2 : set.testBit x.src.toNat with
        | true =>
          rw [h2] at hbs
          have hp16 : 2 ^ d ≤ 65536 := by rw [show (65536 : Nat) = 2 ^ 16 from rfl]; exact Nat.pow_le_pow_right (by omega) hd16
          have hor := i64_or_nat m (2 ^ d) (by omega) (by omega)
          have HN : Hid (stepTo s set l (k + 1) = m ||| 2 ^ d) := Lib.hid (by rw [HS.out]; unfold addTo; rw [if_pos ⟨h1, h2⟩, HM.out, HD.out])
          have hm2 := hnext.out
          rw [HN.out] at hm2
          have HOR := Lib.hid hor
          clear hor h2 hp16
          go_wp2_with (first | (go_at_call 85; refine (l1Has_c _ _ _ (by omega) (by omega) (by omega) (by omega)).mono ?_; rintro e w' ⟨rfl, rfl⟩; rw [hbs]) | (go_at_call 177; refine (l1Bit_c d _ hd16).mono ?_; rintro e w' ⟨rfl, rfl⟩))
          exact ⟨⟨k + 1, m ||| 2 ^ d, by omega, by go_num, congrArg _ HOR.out, hm2, HN⟩, by simp [intOf]; omega⟩
        | false =>
          rw [h2] at hbs
          have HN : Hid (stepTo s set l (k + 1) = m) := Lib.hid (by rw [HS.out]; unfold addTo; rw [if_neg (fun h => by rw [h2] at h; cases h.2), HM.out])
          clear h2
          go_wp2_with (go_at_call 85; refine (l1Has_c _ _ _ (by omega) (by omega) (by omega) (by omega)).mono ?_; rintro e w' ⟨rfl, rfl⟩; rw [hbs])
          exact ⟨⟨k + 1, m, by omega, by go_num, rfl, hm, HN⟩, by simp [intOf]; omega⟩
      · have HN : Hid (stepTo s set l (k + 1) = m) := Lib.hid (by rw [HS.out]; unfold addTo; rw [if_neg (fun h => h1 h.1), HM.out])
        go_wp2_with fail
        exact ⟨⟨k + 1, m, by omega, by go_num, rfl, hm, HN⟩, by simp [intOf]; omega⟩
    · obtain rfl : k = s.edges.length := by omega
      have hf := HM.out
      rw [stepTo_full] at hf
      have HF := Lib.hid hf
      clear hf
      go_wp2_with fail
      go_ret
      rw [HF.out]
      exact Grows.mk rfl he

def flagOf : Value → Nat
  | .bool true => 1
  | _ => 0

end Go.Proofs.YtanekmfifmkbmaaGreatDoor

namespace Go.Proofs.YtanekmfifmkbmaaGreatDoor
set_option linter.unusedSimpArgs false
set_option linter.unusedVariables false
open Go.RowKit
set_option maxHeartbeats 6000000
set_option maxRecDepth 100000

def hidS (s : Sys) (a : Int) : Int := s.alphabet - bits .and .i64 s.alphabet a
theorem hidS_facts {s : Sys} (hs : sysValid s = true) {a : Int} (ha : 0 ≤ a) (ha2 : a ≤ 63) : 0 ≤ hidS s a ∧ hidS s a ≤ 63 ∧ IntKind.i64.wrap (s.alphabet - bits .and .i64 s.alphabet a) = hidS s a := by
  obtain ⟨h1, h2⟩ := sys_alpha hs
  obtain ⟨m, hm⟩ := Int.eq_ofNat_of_zero_le h1
  obtain ⟨n, hn⟩ := Int.eq_ofNat_of_zero_le ha
  have h3 : bits .and .i64 s.alphabet a = ((m &&& n : Nat) : Int) := by rw [hm, hn]; exact i64_and_nat m n (by omega) (by omega)
  have h4 : m &&& n ≤ m := Nat.and_le_left
  unfold hidS
  rw [h3, hm]
  exact ⟨by omega, by omega, IntWalk.i64_in _ (by omega)⟩
theorem own_at {w : World} {base : Nat} {e : TypeId} {sz n : Nat} {v : Value} {xs : List Value} (h : w.ownsRow base e sz v n xs) {j : Nat} {u : Value} (hu : xs[j]? = some u) : ∃ g cap, v = .slice (some ⟨g, 0, none⟩) n cap ∧ w.cell? ⟨g, j, none⟩ = some u := by
  rcases own_shape h with ⟨rfl, rfl⟩ | ⟨g, cap, rfl, -⟩
  · have := h.1
    rw [Nat.zero_mul] at this
    rw [List.eq_nil_of_length_eq_zero this] at hu; simp at hu
  · exact ⟨g, cap, rfl, own_cell h hu⟩
end Go.Proofs.YtanekmfifmkbmaaGreatDoor
