/- Walks: copies of structs. -/
import Derived.Test.YtdaafbjgjjhklaaWalkD
namespace Go.Proofs.Ytdaafbjgjjhklaa
set_option linter.unusedSimpArgs false
set_option linter.unusedVariables false
open Go.RowKit

set_option maxHeartbeats 400000

theorem toEdge_c (x : Edge) (w : World) : Calls Try.prog 96 #[edgeVal x] w (Grows (edgeVal x) w) := by
  unfold edgeVal
  go_enter Try.func96, Try.ntmps96
  go_wp2
  refine bodyPost_ret (v := edgeVal x) (by simp [results, Try.results96, go_sem, edgeVal]) rfl ?_
  exact Grows.mk rfl ((Ext.alloc _ _).trans ((Ext.alloc _ _).trans (Ext.alloc _ _)))

/-- An automaton whose slices are the call's own. -/
def AutoOwn (base : Nat) (w : World) (v : Value) (x : Auto) : Prop := ∃ vn va, v = .agg #[.int .i64 x.alphabet, vn, va] ∧ IntssOwn 94 3 base w vn x.next ∧ BoolsOwn 4 base w va x.accept
theorem AutoOwn.auto {base : Nat} {w : World} {v : Value} {x : Auto} (h : AutoOwn base w v x) : AutoV w v x := let ⟨vn, va, e, h1, h2⟩ := h; ⟨vn, va, e, h1.intss, h2.bools⟩
theorem IntssOwn.low {e2 e1 : TypeId} {base base' : Nat} {w : World} {v : Value} {ll : List (List Int)} (h : IntssOwn e2 e1 base w v ll) (hb : base' ≤ base) : IntssOwn e2 e1 base' w v ll :=
  let ⟨vs, h1, h2, h3⟩ := h; ⟨vs, own_base h1 hb, ⟨h2.len, fun j x l hx hl => (h2.row j x l hx hl).low hb, h2.apart⟩, h3⟩
theorem AutoOwn.low {base base' : Nat} {w : World} {v : Value} {x : Auto} (h : AutoOwn base w v x) (hb : base' ≤ base) : AutoOwn base' w v x := let ⟨vn, va, e, h1, h2⟩ := h; ⟨vn, va, e, h1.low hb, h2.low hb⟩
theorem AutoOwn.ext {base : Nat} {w w' : World} {v : Value} {x : Auto} (h : AutoOwn base w v x) (he : Ext w w') : AutoOwn base w' v x := let ⟨vn, va, e, h1, h2⟩ := h; ⟨vn, va, e, h1.ext he, h2.ext he⟩

/-- A store elsewhere: into a block below all that is owned. -/
theorem own_set {w : World} {base : Nat} {e : TypeId} {size n : Nat} {v : Value} {xs : List Value} (h : w.ownsRow base e size v n xs) {p : Addr} (hp : p.block < base) (u : Value) : (w.setCell p u).ownsRow base e size v n xs := ownsRow_setCell_below h hp u
theorem IntssOwn.set {e2 e1 : TypeId} {base : Nat} {w : World} {v : Value} {ll : List (List Int)} (h : IntssOwn e2 e1 base w v ll) {p : Addr} (hp : p.block < base) (u : Value) : IntssOwn e2 e1 base (w.setCell p u) v ll :=
  let ⟨vs, h1, h2, h3⟩ := h; ⟨vs, own_set h1 hp u, ⟨h2.len, fun j x l hx hl => own_set (h2.row j x l hx hl) hp u, h2.apart⟩, h3⟩
theorem BoolsOwn.set {e : TypeId} {base : Nat} {w : World} {v : Value} {l : List Bool} (h : BoolsOwn e base w v l) {p : Addr} (hp : p.block < base) (u : Value) : BoolsOwn e base (w.setCell p u) v l := own_set h hp u
theorem EdgesOwn.set {e : TypeId} {base : Nat} {w : World} {v : Value} {l : List Edge} (h : EdgesOwn e base w v l) {p : Addr} (hp : p.block < base) (u : Value) : EdgesOwn e base (w.setCell p u) v l := own_set h hp u

theorem toAutomaton_c (v : Value) (x : Auto) (w : World) (hv : AutoV w v x) (hn : szAuto x ≤ 1048576) :
    Calls Try.prog 12 #[v] w (Gives (fun v w' => AutoOwn w.heap.size w' v x) w) := by
  obtain ⟨vn, va, rfl, h1, h2⟩ := hv
  have hn1 : szss x.next ≤ 1048576 := by unfold szAuto at hn; omega
  have hn2 : x.accept.length ≤ 1048576 := by unfold szAuto at hn; omega
  go_enter Try.func12, Try.ntmps12
  go_wp2_with fail
  refine (toIntSS_c _ x.next _ (h1.mono ((Ext.alloc _ _).trans ((Ext.alloc _ _).trans (Ext.alloc _ _)))) hn1).mono ?_
  rintro e w1 ⟨vn', rfl, he1, hn'⟩
  obtain ⟨an, cn, rfl⟩ := hn'.shape
  have b0 := he1.peel.peel.blk
  have b1 := he1.peel.blk1
  have b2 := he1.blk2
  have hw := he1.peel.peel.peel
  have hsz := b2.lt
  replace hn' := hn'.low (base' := w.heap.size + 3) (by simp)
  have f1 := b2.fr 1
  have f2 := b2.cell 1 rfl
  have f3 := b0.cell 2 rfl
  have f4 := b2.cell 0 rfl
  go_wp2_with fail
  refine (toBoolS_c _ x.accept _ (h2.mono (hw.setCell (by simp only []; omega) _)) hn2).mono ?_
  rintro e w2 ⟨va', rfl, he2, ha'⟩
  obtain ⟨aa, ca, rfl⟩ := ha'.shape
  have hw2 := (hw.setCell (p := ⟨w.heap.size + 1 + 1, 1, none⟩) (by simp only []; omega) _).trans he2
  have hsz2 := he2.size
  rw [World.size_setCell] at hsz2
  replace b1 := (b1.other (p := ⟨w.heap.size + 1 + 1, 1, none⟩) (by simp only []; omega) _).ext he2
  replace b2 := (b2.set 1 _).ext he2
  replace hn' := (hn'.set (p := ⟨w.heap.size + 1 + 1, 1, none⟩) (by simp only []; omega) _).ext he2
  replace ha' := ha'.low (base' := w.heap.size + 3) (by rw [World.size_setCell]; omega)
  have gc0 := b2.cell 0 rfl; have gf0 := b2.fr 0; have gc1 := b2.cell 1 rfl; have gf1 := b2.fr 1; have gc2 := b2.cell 2 rfl; have gf2 := b2.fr 2
  have ec0 := b1.cell 0 rfl; have ef0 := b1.fr 0; have ec1 := b1.cell 1 rfl; have ef1 := b1.fr 1; have ec2 := b1.cell 2 rfl; have ef2 := b1.fr 2
  go_wp2_with fail
  refine bodyPost_ret (v := .agg #[.int .i64 x.alphabet, .slice an x.next.length cn, .slice aa x.accept.length ca]) (by simp [results, Try.results12, go_sem, gc0, gc1, gc2, gf2, ec0, ec1, ec2, ef0, ef1, ef2]) rfl ?_
  exact ⟨_, rfl, ((((hw2.setCell (p := ⟨w.heap.size + 1 + 1, 2, none⟩) (by simp only []; omega) _).setCell (p := ⟨w.heap.size + 1, 0, none⟩) (by simp only []; omega) _).setCell (p := ⟨w.heap.size + 1, 1, none⟩) (by simp only []; omega) _).setCell (p := ⟨w.heap.size + 1, 2, none⟩) (by simp only []; omega) _), _, _, rfl, (((((hn'.set (p := ⟨w.heap.size + 1 + 1, 2, none⟩) (by simp only []; omega) _).set (p := ⟨w.heap.size + 1, 0, none⟩) (by simp only []; omega) _).set (p := ⟨w.heap.size + 1, 1, none⟩) (by simp only []; omega) _).set (p := ⟨w.heap.size + 1, 2, none⟩) (by simp only []; omega) _)).low (by omega), (((((ha'.set (p := ⟨w.heap.size + 1 + 1, 2, none⟩) (by simp only []; omega) _).set (p := ⟨w.heap.size + 1, 0, none⟩) (by simp only []; omega) _).set (p := ⟨w.heap.size + 1, 1, none⟩) (by simp only []; omega) _).set (p := ⟨w.heap.size + 1, 2, none⟩) (by simp only []; omega) _)).low (by omega)⟩

theorem infoEdge : (Try.prog.info? 106).map (fun i => (i.zero, i.size, i.bytes)) = some (some (.agg #[.int .i64 0, .int .i64 0, .int .i64 0]), 3, 24) := by kernel_rfl

theorem toEdgeS_c (v : Value) (l : List Edge) (w : World) (hv : EdgesV w v l) (hn : l.length ≤ 1048576) :
    Calls Try.prog 58 #[v] w (Gives (fun v w' => EdgesOwn 106 w.heap.size w' v l) w) := by
  obtain ⟨a, c, rfl, h1, h2⟩ := hv.open
  go_enter Try.func58, Try.ntmps58
  go_wp2_with (at_make; refine make1 rfl rfl Try.underlying37 infoEdge rfl rfl rfl rfl (by omega) (by decide) (Nat.le_refl _) ?_; intro w1 hown hext hlt)
  go_loopw [4] (fun i wr => ∃ k : Nat, k ≤ l.length ∧ i = .int .i64 k ∧ wr.ownsRow w.heap.size 106 3 (.slice (some ⟨w.heap.size, 0, none⟩) l.length l.length) l.length (edgeCells (filledE l k zeroEdge)) ∧ Ext w wr ∧ w.heap.size < wr.heap.size) (fun i _ => l.length - (intOf i).toNat)
  case atStart => exact ⟨0, by omega, rfl, by have := hown; simp only [Value.cells] at this; rw [edgeCells_zero] at this; simpa [filledE] using this, hext, hlt⟩
  case round =>
    obtain ⟨k, hk, rfl, hown, hext, hsz⟩ := hrel
    by_cases hlt : k < l.length
    · obtain ⟨x, hx⟩ : ∃ x, l[k]? = some x := ⟨_, List.getElem?_eq_getElem hlt⟩
      obtain ⟨b, off, rfl, -, hc⟩ := h2 k x hx
      obtain ⟨q1, q2, q3⟩ := (hc k x hx).mono hext
      have HX := Lib.hid hx
      clear hc hx h2
      go_wp2_with fail
      refine (toEdge_c x _).mono ?_
      rintro e w2 ⟨rfl, he2⟩
      unfold edgeVal
      have hown2 := own_ext hown he2
      obtain ⟨p1, p2, p3⟩ := edgeCells_at _ k zeroEdge (filledE_at l k zeroEdge hlt)
      have g1 := own_cell hown2 p1
      have g2 := own_cell hown2 p2
      have g3 := own_cell hown2 p3
      have f1 := hown2.frozenAt (k * 3)
      have f2 := hown2.frozenAt (k * 3 + 1)
      have f3 := hown2.frozenAt (k * 3 + 2)
      clear p1 p2 p3
      go_wp2_with fail
      obtain ⟨o1, r1⟩ := hown2.stored (k * 3) (.int .i64 x.src)
      obtain ⟨o2, r2⟩ := o1.stored (k * 3 + 1) (.int .i64 x.letter)
      obtain ⟨o3, r3⟩ := o2.stored (k * 3 + 2) (.int .i64 x.dst)
      rw [edgeCells_set _ _ _ (by rw [filledE_len _ _ _ hk]; exact hlt), filledE_set _ _ _ _ HX.out] at o3
      exact ⟨⟨k + 1, by omega, by go_num, o3, (((hext.trans he2).setCell (p := ⟨w.heap.size, k * 3, none⟩) (Nat.le_refl _) _).setCell (p := ⟨w.heap.size, k * 3 + 1, none⟩) (Nat.le_refl _) _).setCell (p := ⟨w.heap.size, k * 3 + 2, none⟩) (Nat.le_refl _) _, by have := he2.size; simp only [World.size_setCell]; omega⟩, by simp [intOf]; omega⟩
    · obtain rfl : k = l.length := by omega
      go_wp2_with fail
      go_ret
      refine Gives.mk rfl hext ?_
      rw [filledE_full] at hown
      exact hown

end Go.Proofs.Ytdaafbjgjjhklaa
