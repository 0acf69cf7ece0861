/- Part of this seat's proofs, cut to what its law needs. -/

import Derived.Test.YtanekmfifmkbmaaGreatDoorTabS
import Derived.Test.YtanekmfifmkbmaaGreatDoorWalkE
import Derived.Test.YtanekmfifmkbmaaGreatDoorRead
import Derived.SliceStrings
namespace Go.Proofs.YtanekmfifmkbmaaGreatDoor
set_option linter.unusedSimpArgs false
set_option linter.unusedVariables false
open Go Go.RowKit
set_option maxHeartbeats 2000000
set_option maxRecDepth 100000

def StrB (w : World) (b o : Nat) (x : ByteArray) : Prop := w.cell? ⟨b, o, none⟩ = some (.string x) ∧ x.size ≤ maxLen
def StrsB (w : World) (v : Value) (l : List ByteArray) : Prop := SlV StrB 1 w v l
theorem StrsB.strs {w : World} {v : Value} {l : List ByteArray} (k : StrsB w v l) : StrsV w v l := by
  obtain ⟨a, c, rfl, h1, h2, h3⟩ := k
  exact ⟨a, c, rfl, h1, h2, fun h => let ⟨b, o, e, h4, h5⟩ := h3 h; ⟨b, o, e, h4, fun i x hx => (h5 i x hx).1⟩⟩
theorem StrsB.of {w : World} {v : Value} {l : List ByteArray} (k : StrsV w v l) (hb : ∀ x ∈ l, x.size ≤ maxLen) : StrsB w v l := by
  obtain ⟨a, c, rfl, h1, h2, h3⟩ := k
  exact ⟨a, c, rfl, h1, h2, fun h => let ⟨b, o, e, h4, h5⟩ := h3 h; ⟨b, o, e, h4, fun i x hx => ⟨h5 i x hx, hb x (List.mem_of_getElem? hx)⟩⟩⟩
def TableL (w : World) (v : Value) (t : Table) : Prop := ∃ vr vc, v = .agg #[vr, vc] ∧ StrsB w vr t.rows ∧ StrsB w vc t.cols
instance : DecidableEq Table := fun a b => if h : a.rows = b.rows ∧ a.cols = b.cols then isTrue (by cases a; cases b; simp_all) else isFalse fun e => h ⟨by rw [e], by rw [e]⟩

def szStrs (l : List ByteArray) : Nat := l.length + (l.map ByteArray.size).sum
def szTab (t : Table) : Nat := szStrs t.rows + szStrs t.cols
theorem szStrs_mem {l : List ByteArray} {x : ByteArray} (h : x ∈ l) : x.size ≤ szStrs l := by
  unfold szStrs
  induction l with
  | nil => cases h
  | cons y l ih =>
    simp only [List.length_cons, List.map_cons, List.sum_cons]
    rcases List.mem_cons.1 h with rfl | h
    · omega
    · have := ih h; omega
theorem szTab_fit {t : Table} (h : szTab t ≤ 1048576) : TabFit t where
  rl := by unfold szTab szStrs at h; omega
  cl := by unfold szTab szStrs at h; omega
  rs := fun r hr => by have := szStrs_mem hr; unfold szTab at h; omega
  cs := fun c hc => by have := szStrs_mem hc; unfold szTab at h; omega

theorem StrsOwn.shape {base : Nat} {w : World} {v : Value} {l : List ByteArray} (h : StrsOwn base w v l) : ∃ a c, v = .slice a l.length c := by
  rcases own_shape h with ⟨rfl, hn⟩ | ⟨g, cap, rfl, -⟩
  · exact ⟨none, 0, by rw [hn]⟩
  · exact ⟨_, cap, rfl⟩
theorem eqStringS_c (v u : Value) (l m : List ByteArray) (w : World) (hv : StrsV w v l) (hu : StrsV w u m) :
    Calls Tryz.prog 55 #[v, u] w (Grows (.bool (decide (l = m))) w) := by
  obtain ⟨a, c, rfl, h1, h2⟩ := SlV.open hv
  obtain ⟨a', c', rfl, h1', h2'⟩ := SlV.open hu
  by_cases hlen : l.length = m.length
  · have HL := Lib.hid hlen
    rw [← hlen]
    clear hlen hv hu
    go_enter Tryz.func55, Tryz.ntmps55
    go_wp2_with fail
    go_loopw [5] (fun i wr => ∃ k : Nat, k ≤ l.length ∧ i = .int .i64 k ∧ Hid (l.take k = m.take k) ∧ Ext w wr) (fun i _ => l.length - (intOf i).toNat)
    case atStart => exact ⟨0, by omega, rfl, by simp [Hid], Ext.refl _⟩
    case round =>
      obtain ⟨k, hk, rfl, heq, hext⟩ := hrel
      by_cases hlt : k < l.length
      · obtain ⟨x, hx⟩ : ∃ x, l[k]? = some x := ⟨_, List.getElem?_eq_getElem hlt⟩
        obtain ⟨y, hy⟩ : ∃ x, m[k]? = some x := ⟨_, List.getElem?_eq_getElem (by rw [← HL.out]; exact hlt)⟩
        obtain ⟨b, off, rfl, -, hc⟩ := h2 k x hx
        obtain ⟨b', off', rfl, -, hc'⟩ := h2' k y hy
        have g1 : wr.cell? ⟨b, off + k, none⟩ = some (.string x) := by have := hc k x hx; unfold StrAt' at this; rw [Nat.mul_one] at this; exact hext.cell this
        have g2 : wr.cell? ⟨b', off' + k, none⟩ = some (.string y) := by have := hc' k y hy; unfold StrAt' at this; rw [Nat.mul_one] at this; exact hext.cell this
        clear hc hc' h2 h2'
        have HX := Lib.hid hx
        have HY := Lib.hid hy
        clear hx hy
        by_cases hxy : x = y
        · subst hxy
          go_wp2_with fail
          go_quiet (fail)
          go_wp2_with fail
          exact ⟨⟨k + 1, by omega, by go_num, by simp [Hid, List.take_add_one, HX.out, HY.out, heq.out], hext.trans (Ext.drewN _ _)⟩, by simp [intOf]; omega⟩
        · have hd : (x == y) = false := by rw [ba_beq]; exact decide_eq_false hxy
          have hd2 : (x.toList == y.toList) = false := by rw [← beq_toListBytes]; exact hd
          have HXY := Lib.hid hxy
          clear hxy
          go_wp2_with fail
          go_quiet (fail)
          go_wp2_with fail
          go_ret
          refine Grows.mk ?_ (hext.trans (Ext.drewN _ _))
          have : ¬ l = m := fun h => by subst h; have := HX.out; rw [HY.out] at this; cases this; exact HXY.out rfl
          simp [this]
      · obtain rfl : k = l.length := by omega
        go_wp2_with fail
        go_ret
        refine Grows.mk ?_ hext
        have := heq.out
        rw [List.take_length, HL.out, List.take_length] at this
        simp [this]
  · have hne : l ≠ m := fun h => hlen (by rw [h])
    go_enter Tryz.func55, Tryz.ntmps55
    go_wp2_with fail
    go_ret
    exact Grows.mk (by simp [hne]) (Ext.refl _)

theorem eqTable_c (v u : Value) (x y : Table) (w : World) (hv : TableL w v x) (hu : TableL w u y) :
    Calls Tryz.prog 16 #[v, u] w (Grows (.bool (decide (x = y))) w) := by
  obtain ⟨vn, va, rfl, h1, h2⟩ := hv
  obtain ⟨un, ua, rfl, k1, k2⟩ := hu
  obtain ⟨nx, ac⟩ := x
  obtain ⟨nx', ac'⟩ := y
  simp only at h1 h2 k1 k2
  go_enter Tryz.func16, Tryz.ntmps16
  go_wp2_with fail
  refine (eqStringS_c _ _ nx nx' _ (h1.strs.mono ((Ext.alloc _ _).trans (Ext.alloc _ _))) (k1.strs.mono ((Ext.alloc _ _).trans (Ext.alloc _ _)))).mono ?_
  rintro e w1 ⟨rfl, he1⟩
  have c0 := he1.peel.new 1 rfl
  have c1 := he1.new1 1 rfl
  by_cases hb : nx = nx'
  · have hd : decide (nx = nx') = true := decide_eq_true hb
    have HB := Lib.hid hb
    clear hb
    go_wp2_with fail
    refine (eqStringS_c _ _ ac ac' _ (h2.strs.mono he1.peel.peel) (k2.strs.mono he1.peel.peel)).mono ?_
    rintro e w2 ⟨rfl, he2⟩
    by_cases hc : ac = ac'
    · have hd2 : decide (ac = ac') = true := decide_eq_true hc
      have HC := Lib.hid hc
      clear hc
      go_wp2_with fail
      go_ret
      exact Grows.mk (by simp [HB.out, HC.out]) (he1.peel.peel.trans he2)
    · have hd2 : decide (ac = ac') = false := decide_eq_false hc
      have HC := Lib.hid hc
      clear hc
      go_wp2_with fail
      go_ret
      exact Grows.mk (by simp [HC.out]) (he1.peel.peel.trans he2)
  · have hd : decide (nx = nx') = false := decide_eq_false hb
    have HB := Lib.hid hb
    clear hb
    go_wp2_with fail
    go_ret
    exact Grows.mk (by simp [HB.out]) he1.peel.peel

section
variable {H : Type} {enc : TypeId × Value → H} {W : World} {spare : Nat → Bool} {held : Bool} {fuel : Nat} {cs : List Value} {x : DataW H × List MemPlace}
end
end Go.Proofs.YtanekmfifmkbmaaGreatDoor
