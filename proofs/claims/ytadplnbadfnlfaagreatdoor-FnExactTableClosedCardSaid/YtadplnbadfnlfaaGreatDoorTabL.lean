/- Part of this seat's proofs, cut to what its law needs. -/

import Derived.Test.YtadplnbadfnlfaaGreatDoorTabS
import Derived.Test.YtadplnbadfnlfaaGreatDoorWalkE
import Derived.Test.YtadplnbadfnlfaaGreatDoorRead
import Derived.SliceStrings
namespace Go.Proofs.YtadplnbadfnlfaaGreatDoor
set_option linter.unusedSimpArgs false
set_option linter.unusedVariables false
open Go Go.RowKit
set_option maxHeartbeats 2000000
set_option maxRecDepth 100000

def StrB (w : World) (b o : Nat) (x : ByteArray) : Prop := w.cell? ⟨b, o, none⟩ = some (.string x) ∧ x.size ≤ maxLen
def StrsB (w : World) (v : Value) (l : List ByteArray) : Prop := SlV StrB 1 w v l
theorem StrsB.mono {w w' : World} {v : Value} {l : List ByteArray} (k : StrsB w v l) (h : Ext w w') : StrsB w' v l := SlV.mono k (fun _ _ _ _ k => ⟨h.cell k.1, k.2⟩) h.size
theorem StrsB.strs {w : World} {v : Value} {l : List ByteArray} (k : StrsB w v l) : StrsV w v l := by
  obtain ⟨a, c, rfl, h1, h2, h3⟩ := k
  exact ⟨a, c, rfl, h1, h2, fun h => let ⟨b, o, e, h4, h5⟩ := h3 h; ⟨b, o, e, h4, fun i x hx => (h5 i x hx).1⟩⟩
theorem StrsB.of {w : World} {v : Value} {l : List ByteArray} (k : StrsV w v l) (hb : ∀ x ∈ l, x.size ≤ maxLen) : StrsB w v l := by
  obtain ⟨a, c, rfl, h1, h2, h3⟩ := k
  exact ⟨a, c, rfl, h1, h2, fun h => let ⟨b, o, e, h4, h5⟩ := h3 h; ⟨b, o, e, h4, fun i x hx => ⟨h5 i x hx, hb x (List.mem_of_getElem? hx)⟩⟩⟩
theorem StrsB.open {w : World} {v : Value} {l : List ByteArray} (k : StrsB w v l) : ∃ (a : Option Addr) (c : Nat), v = .slice a l.length c ∧ l.length ≤ 9223372036854775807 ∧ ∀ (k : Nat) (x : ByteArray), l[k]? = some x → ∃ b off, a = some ⟨b, off, none⟩ ∧ b < w.heap.size ∧ ∀ (k : Nat) (x : ByteArray), l[k]? = some x → StrB w b (off + k * 1) x := SlV.open k
def TableL (w : World) (v : Value) (t : Table) : Prop := ∃ vr vc, v = .agg #[vr, vc] ∧ StrsB w vr t.rows ∧ StrsB w vc t.cols
theorem TableL.mono {w w' : World} {v : Value} {t : Table} (k : TableL w v t) (h : Ext w w') : TableL w' v t := let ⟨a, b, e, h1, h2⟩ := k; ⟨a, b, e, h1.mono h, h2.mono h⟩
theorem TableL.tab {w : World} {v : Value} {t : Table} (k : TableL w v t) : TableV w v t := let ⟨a, b, e, h1, h2⟩ := k; ⟨a, b, e, h1.strs, h2.strs⟩
instance : DecidableEq Table := fun a b => if h : a.rows = b.rows ∧ a.cols = b.cols then isTrue (by cases a; cases b; simp_all) else isFalse fun e => h ⟨by rw [e], by rw [e]⟩

def szStrs (l : List ByteArray) : Nat := l.length + (l.map ByteArray.size).sum
def szTab (t : Table) : Nat := szStrs t.rows + szStrs t.cols
theorem szStrs_mem {l : List ByteArray} {x : ByteArray} (h : x ∈ l) : x.size ≤ szStrs l := by
  unfold szStrs
  induction l with
  | nil => cases h
  | cons y l ih =>
    simp only [List.length_cons, List.map_cons, List.sum_cons]
    rcases List.mem_cons.1 h with rfl | h
    · omega
    · have := ih h; omega
theorem szTab_fit {t : Table} (h : szTab t ≤ 1048576) : TabFit t where
  rl := by unfold szTab szStrs at h; omega
  cl := by unfold szTab szStrs at h; omega
  rs := fun r hr => by have := szStrs_mem hr; unfold szTab at h; omega
  cs := fun c hc => by have := szStrs_mem hc; unfold szTab at h; omega

theorem szStringS_s (v : Value) (l : List ByteArray) (left : Int) (w : World) (hv : StrsB w v l) (hl : 0 ≤ left) (hl2 : left ≤ 1048576) :
    Calls Tryz.prog 77 #[v, .int .i64 left] w (SzS left (szStrs l) w) := by
  obtain ⟨a, c, rfl, h1, h2⟩ := hv.open
  by_cases h : left - l.length < 0
  · go_enter Tryz.func77, Tryz.ntmps77
    go_wp2_with fail
    go_ret
    exact ⟨_, rfl, Ext.refl _, .inl rfl⟩
  · go_enter Tryz.func77, Tryz.ntmps77
    go_wp2_with fail
    go_loopw [1, 5] (fun v i wr => ∃ (k : Nat) (r : Int), k ≤ l.length ∧ i = .int .i64 k ∧ v = .int .i64 r ∧ 0 ≤ r ∧ r ≤ 1048576 ∧ Hid (r + (l.length + ((l.take k).map ByteArray.size).sum : Nat) = left) ∧ w = wr) (fun _ i _ => l.length - (intOf i).toNat)
    case atStart => exact ⟨0, left - l.length, by omega, rfl, rfl, by omega, by omega, by show _ = _; simp, rfl⟩
    case round =>
      obtain ⟨k, r, hk, rfl, rfl, hr0, hr1, hr, rfl⟩ := hrel
      by_cases hlt : k < l.length
      · obtain ⟨x, hx⟩ : ∃ x, l[k]? = some x := ⟨_, List.getElem?_eq_getElem hlt⟩
        obtain ⟨b, off, rfl, -, hc⟩ := h2 k x hx
        obtain ⟨g1, gs⟩ := hc k x hx
        rw [Nat.mul_one] at g1
        unfold maxLen at gs
        have HX := Lib.hid hx
        clear hc hx h2
        by_cases hneg : r - x.size < 0
        · go_wp2_with fail
          go_ret
          exact ⟨_, rfl, Ext.refl _, .inl rfl⟩
        · have hr' := hr.out
          have HR : Hid ((r - x.size) + (l.length + ((l.take (k + 1)).map ByteArray.size).sum : Nat) = left) := by
            show _ = _; rw [List.take_add_one, HX.out, List.map_append, List.sum_append]; simp only [Option.toList_some, List.map_cons, List.map_nil, List.sum_cons, List.sum_nil]; omega
          clear hr hr'
          go_wp2_with fail
          exact ⟨⟨k + 1, r - x.size, by omega, by go_num, rfl, by omega, by omega, HR, by first | rfl | trivial⟩, by simp [intOf]; omega⟩
      · obtain rfl : k = l.length := by omega
        go_wp2_with fail
        go_ret
        refine ⟨_, rfl, Ext.refl _, .inr ⟨hr0, ?_⟩⟩
        have hr' := hr.out
        rw [List.take_length] at hr'
        exact hr'

theorem szTable_s (v : Value) (x : Table) (left : Int) (w : World) (hv : TableL w v x) (hl : 0 ≤ left) (hl2 : left ≤ 1048576) :
    Calls Tryz.prog 19 #[v, .int .i64 left] w (SzS left (szTab x) w) := by
  obtain ⟨vn, va, rfl, h1, h2⟩ := hv
  go_enter Tryz.func19, Tryz.ntmps19
  go_wp2_with fail
  refine (szStringS_s _ _ _ _ (h1.mono (Ext.alloc _ _)) hl hl2).mono ?_
  rintro e w1 ⟨r, rfl, he1, hr⟩
  have c2 := he1.new 1 rfl
  replace h2 := h2.mono he1.peel
  rcases hr with rfl | ⟨hr0, hr⟩
  · go_wp2_with fail
    go_ret
    exact ⟨_, rfl, he1.peel, .inl rfl⟩
  · have hr' := hr.out
    have hr1 : r ≤ 1048576 := by omega
    clear hr'
    go_wp2_with fail
    refine (szStringS_s _ _ _ _ h2 hr0 hr1).mono ?_
    rintro e w2 ⟨s, rfl, he2, hs⟩
    rcases hs with rfl | ⟨hs0, hs⟩
    · go_wp2_with fail
      go_ret
      exact ⟨_, rfl, he1.peel.trans he2, .inl rfl⟩
    · go_wp2_with fail
      go_ret
      refine ⟨_, rfl, he1.peel.trans he2, .inr ⟨hs0, ?_⟩⟩
      have := hr.out; have := hs.out
      show _ = _
      unfold szTab; omega

theorem toStringS_c (v : Value) (l : List ByteArray) (w : World) (hv : StrsV w v l) (hn : l.length ≤ 1048576) :
    Calls Tryz.prog 83 #[v] w (Gives (fun v w' => StrsOwn w.heap.size w' v l) w) := by
  obtain ⟨a, c, rfl, h1, h2⟩ := SlV.open hv
  go_enter Tryz.func83, Tryz.ntmps83
  go_wp2_with (at_make; refine make1 rfl rfl Tryz.underlying50 infoStrT rfl rfl rfl rfl (by omega) (by decide) (Nat.le_refl _) ?_; intro w1 hown hext hlt)
  go_loopw [4] (fun i wr => ∃ k : Nat, k ≤ l.length ∧ i = .int .i64 k ∧ wr.ownsRow w.heap.size 9 1 (.slice (some ⟨w.heap.size, 0, none⟩) l.length l.length) l.length (filled (l.map (Value.string)) k (.string ByteArray.empty)) ∧ Ext w wr) (fun i _ => l.length - (intOf i).toNat)
  case atStart => exact ⟨0, by omega, rfl, by rw [filled_zero]; simpa [toList_madeCells_one, Value.cells] using hown, hext⟩
  case round =>
    obtain ⟨k, hk, rfl, hown, hext⟩ := hrel
    by_cases hlt : k < l.length
    · obtain ⟨x, hx⟩ : ∃ x, l[k]? = some x := ⟨_, List.getElem?_eq_getElem hlt⟩
      obtain ⟨b, off, rfl, -, hc⟩ := h2 k x hx
      have g1 : wr.cell? ⟨b, off + k, none⟩ = some (.string x) := by have := hc k x hx; unfold StrAt' at this; rw [Nat.mul_one] at this; exact hext.cell this
      have g2 := own_cell hown (filled_at (l.map (Value.string)) k (.string ByteArray.empty) (by simpa using hlt))
      have g3 := hown.frozenAt k
      have HX := Lib.hid hx
      clear hc hx h2
      go_wp2_with fail
      obtain ⟨o1, o2⟩ := hown.stored k (.string x)
      rw [filled_set _ _ _ _ (by simp [HX.out])] at o1
      exact ⟨⟨k + 1, by omega, by go_num, o1, hext.grown o2 hext.size fun j hj => by cases hj; exact Nat.le_refl _⟩, by simp [intOf]; omega⟩
    · obtain rfl : k = l.length := by omega
      go_wp2_with fail
      go_ret
      refine Gives.mk rfl hext ?_
      have := filled_full (l.map (Value.string)) (.string ByteArray.empty)
      rw [List.length_map] at this
      rw [this] at hown
      exact hown

theorem StrsOwn.shape {base : Nat} {w : World} {v : Value} {l : List ByteArray} (h : StrsOwn base w v l) : ∃ a c, v = .slice a l.length c := by
  rcases own_shape h with ⟨rfl, hn⟩ | ⟨g, cap, rfl, -⟩
  · exact ⟨none, 0, by rw [hn]⟩
  · exact ⟨_, cap, rfl⟩
theorem StrsOwn.low {base base' : Nat} {w : World} {v : Value} {l : List ByteArray} (h : StrsOwn base w v l) (hb : base' ≤ base) : StrsOwn base' w v l := own_base h hb
theorem StrsOwn.ext {base : Nat} {w w' : World} {v : Value} {l : List ByteArray} (h : StrsOwn base w v l) (he : Ext w w') : StrsOwn base w' v l := own_ext h he
theorem StrsOwn.set {base : Nat} {w : World} {v : Value} {l : List ByteArray} (h : StrsOwn base w v l) {p : Addr} (hp : p.block < base) (u : Value) : StrsOwn base (w.setCell p u) v l := own_set h hp u
def TableO (base : Nat) (w : World) (v : Value) (t : Table) : Prop := ∃ vr vc, v = .agg #[vr, vc] ∧ StrsOwn base w vr t.rows ∧ StrsOwn base w vc t.cols ∧ szTab t ≤ 1048576
theorem TableO.table {base : Nat} {w : World} {v : Value} {t : Table} (h : TableO base w v t) : TableL w v t :=
  let ⟨a, b, e, h1, h2, h3⟩ := h; ⟨a, b, e, .of h1.strs fun x hx => by have := (szTab_fit h3).rs x hx; unfold maxLen; omega, .of h2.strs fun x hx => by have := (szTab_fit h3).cs x hx; unfold maxLen; omega⟩

theorem toTable_c (v : Value) (x : Table) (w : World) (hv : TableL w v x) (hn : szTab x ≤ 1048576) :
    Calls Tryz.prog 22 #[v] w (Gives (fun v w' => TableO w.heap.size w' v x) w) := by
  obtain ⟨vn, va, rfl, h1, h2⟩ := hv
  have HN := Lib.hid hn
  have hn1 := (szTab_fit hn).rl
  have hn2 := (szTab_fit hn).cl
  clear hn
  go_enter Tryz.func22, Tryz.ntmps22
  go_wp2_with fail
  refine (toStringS_c _ x.rows _ (h1.strs.mono ((Ext.alloc _ _).trans ((Ext.alloc _ _).trans (Ext.alloc _ _)))) hn1).mono ?_
  rintro e w1 ⟨vn', rfl, he1, hn'⟩
  obtain ⟨an, cn, rfl⟩ := hn'.shape
  have b0 := he1.peel.peel.blk
  have b1 := he1.peel.blk1
  have b2 := he1.blk2
  have hw := he1.peel.peel.peel
  have hsz := b2.lt
  replace hn' := hn'.low (base' := w.heap.size + 3) (by simp)
  have f1 := b2.fr 0
  have f2 := b2.cell 0 rfl
  have f3 := b0.cell 1 rfl
  go_wp2_with fail
  refine (toStringS_c _ x.cols _ (h2.strs.mono (hw.setCell (by simp only []; omega) _)) hn2).mono ?_
  rintro e w2 ⟨va', rfl, he2, ha'⟩
  obtain ⟨aa, ca, rfl⟩ := ha'.shape
  have hw2 := (hw.setCell (p := ⟨w.heap.size + 1 + 1, 0, none⟩) (by simp only []; omega) _).trans he2
  have hsz2 := he2.size
  rw [World.size_setCell] at hsz2
  replace b1 := (b1.other (p := ⟨w.heap.size + 1 + 1, 0, none⟩) (by simp only []; omega) _).ext he2
  replace b2 := (b2.set 0 _).ext he2
  replace hn' := (hn'.set (p := ⟨w.heap.size + 1 + 1, 0, none⟩) (by simp only []; omega) _).ext he2
  replace ha' := ha'.low (base' := w.heap.size + 3) (by rw [World.size_setCell]; omega)
  clear f1 f2 f3
  have gc0 := b2.cell 0 rfl; have gf0 := b2.fr 0; have gc1 := b2.cell 1 rfl; have gf1 := b2.fr 1
  have ec0 := b1.cell 0 rfl; have ef0 := b1.fr 0; have ec1 := b1.cell 1 rfl; have ef1 := b1.fr 1
  go_wp2_with fail
  refine bodyPost_ret (v := .agg #[.slice an x.rows.length cn, .slice aa x.cols.length ca]) (by simp [results, Tryz.results22, go_sem, gc0, gc1, gf1, ec0, ec1, ef0, ef1]) rfl ?_
  exact ⟨_, rfl, (((hw2.setCell (p := ⟨w.heap.size + 1 + 1, 1, none⟩) (by simp only []; omega) _).setCell (p := ⟨w.heap.size + 1, 0, none⟩) (by simp only []; omega) _).setCell (p := ⟨w.heap.size + 1, 1, none⟩) (by simp only []; omega) _), _, _, rfl, ((((hn'.set (p := ⟨w.heap.size + 1 + 1, 1, none⟩) (by simp only []; omega) _).set (p := ⟨w.heap.size + 1, 0, none⟩) (by simp only []; omega) _).set (p := ⟨w.heap.size + 1, 1, none⟩) (by simp only []; omega) _)).low (by omega), ((((ha'.set (p := ⟨w.heap.size + 1 + 1, 1, none⟩) (by simp only []; omega) _).set (p := ⟨w.heap.size + 1, 0, none⟩) (by simp only []; omega) _).set (p := ⟨w.heap.size + 1, 1, none⟩) (by simp only []; omega) _)).low (by omega), HN.out⟩

theorem eqStringS_c (v u : Value) (l m : List ByteArray) (w : World) (hv : StrsV w v l) (hu : StrsV w u m) :
    Calls Tryz.prog 90 #[v, u] w (Grows (.bool (decide (l = m))) w) := by
  obtain ⟨a, c, rfl, h1, h2⟩ := SlV.open hv
  obtain ⟨a', c', rfl, h1', h2'⟩ := SlV.open hu
  by_cases hlen : l.length = m.length
  · have HL := Lib.hid hlen
    rw [← hlen]
    clear hlen hv hu
    go_enter Tryz.func90, Tryz.ntmps90
    go_wp2_with fail
    go_loopw [5] (fun i wr => ∃ k : Nat, k ≤ l.length ∧ i = .int .i64 k ∧ Hid (l.take k = m.take k) ∧ Ext w wr) (fun i _ => l.length - (intOf i).toNat)
    case atStart => exact ⟨0, by omega, rfl, by simp [Hid], Ext.refl _⟩
    case round =>
      obtain ⟨k, hk, rfl, heq, hext⟩ := hrel
      by_cases hlt : k < l.length
      · obtain ⟨x, hx⟩ : ∃ x, l[k]? = some x := ⟨_, List.getElem?_eq_getElem hlt⟩
        obtain ⟨y, hy⟩ : ∃ x, m[k]? = some x := ⟨_, List.getElem?_eq_getElem (by rw [← HL.out]; exact hlt)⟩
        obtain ⟨b, off, rfl, -, hc⟩ := h2 k x hx
        obtain ⟨b', off', rfl, -, hc'⟩ := h2' k y hy
        have g1 : wr.cell? ⟨b, off + k, none⟩ = some (.string x) := by have := hc k x hx; unfold StrAt' at this; rw [Nat.mul_one] at this; exact hext.cell this
        have g2 : wr.cell? ⟨b', off' + k, none⟩ = some (.string y) := by have := hc' k y hy; unfold StrAt' at this; rw [Nat.mul_one] at this; exact hext.cell this
        clear hc hc' h2 h2'
        have HX := Lib.hid hx
        have HY := Lib.hid hy
        clear hx hy
        by_cases hxy : x = y
        · subst hxy
          go_wp2_with fail
          go_quiet (fail)
          go_wp2_with fail
          exact ⟨⟨k + 1, by omega, by go_num, by simp [Hid, List.take_add_one, HX.out, HY.out, heq.out], hext.trans (Ext.drewN _ _)⟩, by simp [intOf]; omega⟩
        · have hd : (x == y) = false := by rw [ba_beq]; exact decide_eq_false hxy
          have hd2 : (x.toList == y.toList) = false := by rw [← beq_toListBytes]; exact hd
          have HXY := Lib.hid hxy
          clear hxy
          go_wp2_with fail
          go_quiet (fail)
          go_wp2_with fail
          go_ret
          refine Grows.mk ?_ (hext.trans (Ext.drewN _ _))
          have : ¬ l = m := fun h => by subst h; have := HX.out; rw [HY.out] at this; cases this; exact HXY.out rfl
          simp [this]
      · obtain rfl : k = l.length := by omega
        go_wp2_with fail
        go_ret
        refine Grows.mk ?_ hext
        have := heq.out
        rw [List.take_length, HL.out, List.take_length] at this
        simp [this]
  · have hne : l ≠ m := fun h => hlen (by rw [h])
    go_enter Tryz.func90, Tryz.ntmps90
    go_wp2_with fail
    go_ret
    exact Grows.mk (by simp [hne]) (Ext.refl _)

theorem eqTable_c (v u : Value) (x y : Table) (w : World) (hv : TableL w v x) (hu : TableL w u y) :
    Calls Tryz.prog 25 #[v, u] w (Grows (.bool (decide (x = y))) w) := by
  obtain ⟨vn, va, rfl, h1, h2⟩ := hv
  obtain ⟨un, ua, rfl, k1, k2⟩ := hu
  obtain ⟨nx, ac⟩ := x
  obtain ⟨nx', ac'⟩ := y
  simp only at h1 h2 k1 k2
  go_enter Tryz.func25, Tryz.ntmps25
  go_wp2_with fail
  refine (eqStringS_c _ _ nx nx' _ (h1.strs.mono ((Ext.alloc _ _).trans (Ext.alloc _ _))) (k1.strs.mono ((Ext.alloc _ _).trans (Ext.alloc _ _)))).mono ?_
  rintro e w1 ⟨rfl, he1⟩
  have c0 := he1.peel.new 1 rfl
  have c1 := he1.new1 1 rfl
  by_cases hb : nx = nx'
  · have hd : decide (nx = nx') = true := decide_eq_true hb
    have HB := Lib.hid hb
    clear hb
    go_wp2_with fail
    refine (eqStringS_c _ _ ac ac' _ (h2.strs.mono he1.peel.peel) (k2.strs.mono he1.peel.peel)).mono ?_
    rintro e w2 ⟨rfl, he2⟩
    by_cases hc : ac = ac'
    · have hd2 : decide (ac = ac') = true := decide_eq_true hc
      have HC := Lib.hid hc
      clear hc
      go_wp2_with fail
      go_ret
      exact Grows.mk (by simp [HB.out, HC.out]) (he1.peel.peel.trans he2)
    · have hd2 : decide (ac = ac') = false := decide_eq_false hc
      have HC := Lib.hid hc
      clear hc
      go_wp2_with fail
      go_ret
      exact Grows.mk (by simp [HC.out]) (he1.peel.peel.trans he2)
  · have hd : decide (nx = nx') = false := decide_eq_false hb
    have HB := Lib.hid hb
    clear hb
    go_wp2_with fail
    go_ret
    exact Grows.mk (by simp [HB.out]) he1.peel.peel

section
variable {H : Type} {enc : TypeId × Value → H} {W : World} {spare : Nat → Bool} {held : Bool} {fuel : Nat} {cs : List Value} {x : DataW H × List MemPlace}
theorem cel20 : Tryz.prog.cellsOf 9 = 1 := by kernel_rfl
theorem cel21 : Tryz.prog.cellsOf 50 = 1 := by kernel_rfl
theorem cel22 : Tryz.prog.cellsOf 52 = 2 := by kernel_rfl
theorem read_str {t : TypeId} (ht : Tryz.prog.underlying t = some .string) (h : DataW.trod enc Tryz.prog W 0 spare held fuel t cs = some x) : ∃ s, cs = [.string s] ∧ s.size ≤ maxLen := by
  cases fuel with
  | zero => simp [DataW.trod] at h
  | succ n =>
    unfold DataW.trod at h
    rw [ht] at h
    split at h <;> simp_all
theorem read_strs (h : DataW.trod enc Tryz.prog W 0 spare held fuel 50 cs = some x) : ∃ v l, cs = [v] ∧ StrsB W v l :=
  read_slice Tryz.underlying50 cel20 (by decide) (fun n b o cs' y h1 h2 => by
    obtain ⟨k, rfl, hk⟩ := read_str Tryz.underlying9 h2
    have := (cells_at h1).2 0 _ rfl
    rw [add_none] at this
    exact ⟨k, this, hk⟩) h
theorem len2 {cs : List Value} (h : cs.length = 2) : ∃ a b, cs = [a, b] := by
  match cs, h with
  | [a, b], _ => exact ⟨a, b, rfl⟩
theorem read_table (h : DataW.trod enc Tryz.prog W 0 spare held fuel 52 cs = some x) : ∃ t, TableL W (.agg cs.toArray) t := by
  obtain ⟨hl, n, hf⟩ := read_field Tryz.underlying52 h
  obtain ⟨v0, v1, rfl⟩ := len2 (hl.trans cel22)
  obtain ⟨y0, h0⟩ := hf 0 _ rfl
  obtain ⟨y1, h1⟩ := hf 1 _ rfl
  simp only [cel21, List.getElem_toArray, List.getElem_cons_zero, List.getElem_cons_succ, List.drop_zero, List.drop_succ_cons, List.take_succ_cons, List.take_zero] at h0 h1
  obtain ⟨vn, l, hn, hn'⟩ := read_strs h0
  obtain ⟨va, m, hm, hm'⟩ := read_strs h1
  simp only [List.cons.injEq, and_true] at hn hm
  subst hn hm
  exact ⟨⟨l, m⟩, v0, v1, rfl, hn', hm'⟩
end
end Go.Proofs.YtadplnbadfnlfaaGreatDoor
