/- Part of this seat's proofs, cut to what its law needs. -/

import Derived.Test.YtanekmfifmkbmaaGreatDoorWalkA

namespace Go.Proofs.YtanekmfifmkbmaaGreatDoor
set_option linter.unusedSimpArgs false
set_option linter.unusedVariables false
open Go.RowKit

set_option maxHeartbeats 400000

theorem toEdge_c (x : Edge) (w : World) : Calls Tryz.prog 195 #[edgeVal x] w (Grows (edgeVal x) w) := by
  unfold edgeVal
  go_enter Tryz.func195, Tryz.ntmps195
  go_wp2
  refine bodyPost_ret (v := edgeVal x) (by simp [results, Tryz.results195, go_sem, edgeVal]) rfl ?_
  exact Grows.mk rfl ((Ext.alloc _ _).trans ((Ext.alloc _ _).trans (Ext.alloc _ _)))

def AutoOwn (base : Nat) (w : World) (v : Value) (x : Auto) : Prop := ∃ vn va, v = .agg #[.int .i64 x.alphabet, vn, va] ∧ IntssOwn 80 3 base w vn x.next ∧ BoolsOwn 4 base w va x.accept
theorem IntssOwn.low {e2 e1 : TypeId} {base base' : Nat} {w : World} {v : Value} {ll : List (List Int)} (h : IntssOwn e2 e1 base w v ll) (hb : base' ≤ base) : IntssOwn e2 e1 base' w v ll :=
  let ⟨vs, h1, h2, h3⟩ := h; ⟨vs, own_base h1 hb, ⟨h2.len, fun j x l hx hl => (h2.row j x l hx hl).low hb, h2.apart⟩, h3⟩
theorem own_set {w : World} {base : Nat} {e : TypeId} {size n : Nat} {v : Value} {xs : List Value} (h : w.ownsRow base e size v n xs) {p : Addr} (hp : p.block < base) (u : Value) : (w.setCell p u).ownsRow base e size v n xs := ownsRow_setCell_below h hp u
theorem IntssOwn.set {e2 e1 : TypeId} {base : Nat} {w : World} {v : Value} {ll : List (List Int)} (h : IntssOwn e2 e1 base w v ll) {p : Addr} (hp : p.block < base) (u : Value) : IntssOwn e2 e1 base (w.setCell p u) v ll :=
  let ⟨vs, h1, h2, h3⟩ := h; ⟨vs, own_set h1 hp u, ⟨h2.len, fun j x l hx hl => own_set (h2.row j x l hx hl) hp u, h2.apart⟩, h3⟩
theorem BoolsOwn.set {e : TypeId} {base : Nat} {w : World} {v : Value} {l : List Bool} (h : BoolsOwn e base w v l) {p : Addr} (hp : p.block < base) (u : Value) : BoolsOwn e base (w.setCell p u) v l := own_set h hp u
theorem EdgesOwn.set {e : TypeId} {base : Nat} {w : World} {v : Value} {l : List Edge} (h : EdgesOwn e base w v l) {p : Addr} (hp : p.block < base) (u : Value) : EdgesOwn e base (w.setCell p u) v l := own_set h hp u

theorem toAutomaton_c (v : Value) (x : Auto) (w : World) (hv : AutoV w v x) (hn : szAuto x ≤ 1048576) :
    Calls Tryz.prog 51 #[v] w (Gives (fun v w' => AutoOwn w.heap.size w' v x) w) := by
  obtain ⟨vn, va, rfl, h1, h2⟩ := hv
  have hn1 : szss x.next ≤ 1048576 := by unfold szAuto at hn; omega
  have hn2 : x.accept.length ≤ 1048576 := by unfold szAuto at hn; omega
  go_enter Tryz.func51, Tryz.ntmps51
  go_wp2_with fail
  refine (toIntSS_c _ x.next _ (h1.mono ((Ext.alloc _ _).trans ((Ext.alloc _ _).trans (Ext.alloc _ _)))) hn1).mono ?_
  rintro e w1 ⟨vn', rfl, he1, hn'⟩
  obtain ⟨an, cn, rfl⟩ := hn'.shape
  have b0 := he1.peel.peel.blk
  have b1 := he1.peel.blk1
  have b2 := he1.blk2
  have hw := he1.peel.peel.peel
  have hsz := b2.lt
  replace hn' := hn'.low (base' := w.heap.size + 3) (by simp)
  have f1 := b2.fr 1
  have f2 := b2.cell 1 rfl
  have f3 := b0.cell 2 rfl
  have f4 := b2.cell 0 rfl
  go_wp2_with fail
  refine (toBoolS_c _ x.accept _ (h2.mono (hw.setCell (by simp only []; omega) _)) hn2).mono ?_
  rintro e w2 ⟨va', rfl, he2, ha'⟩
  obtain ⟨aa, ca, rfl⟩ := ha'.shape
  have hw2 := (hw.setCell (p := ⟨w.heap.size + 1 + 1, 1, none⟩) (by simp only []; omega) _).trans he2
  have hsz2 := he2.size
  rw [World.size_setCell] at hsz2
  replace b1 := (b1.other (p := ⟨w.heap.size + 1 + 1, 1, none⟩) (by simp only []; omega) _).ext he2
  replace b2 := (b2.set 1 _).ext he2
  replace hn' := (hn'.set (p := ⟨w.heap.size + 1 + 1, 1, none⟩) (by simp only []; omega) _).ext he2
  replace ha' := ha'.low (base' := w.heap.size + 3) (by rw [World.size_setCell]; omega)
  have gc0 := b2.cell 0 rfl; have gf0 := b2.fr 0; have gc1 := b2.cell 1 rfl; have gf1 := b2.fr 1; have gc2 := b2.cell 2 rfl; have gf2 := b2.fr 2
  have ec0 := b1.cell 0 rfl; have ef0 := b1.fr 0; have ec1 := b1.cell 1 rfl; have ef1 := b1.fr 1; have ec2 := b1.cell 2 rfl; have ef2 := b1.fr 2
  go_wp2_with fail
  refine bodyPost_ret (v := .agg #[.int .i64 x.alphabet, .slice an x.next.length cn, .slice aa x.accept.length ca]) (by simp [results, Tryz.results51, go_sem, gc0, gc1, gc2, gf2, ec0, ec1, ec2, ef0, ef1, ef2]) rfl ?_
  exact ⟨_, rfl, ((((hw2.setCell (p := ⟨w.heap.size + 1 + 1, 2, none⟩) (by simp only []; omega) _).setCell (p := ⟨w.heap.size + 1, 0, none⟩) (by simp only []; omega) _).setCell (p := ⟨w.heap.size + 1, 1, none⟩) (by simp only []; omega) _).setCell (p := ⟨w.heap.size + 1, 2, none⟩) (by simp only []; omega) _), _, _, rfl, (((((hn'.set (p := ⟨w.heap.size + 1 + 1, 2, none⟩) (by simp only []; omega) _).set (p := ⟨w.heap.size + 1, 0, none⟩) (by simp only []; omega) _).set (p := ⟨w.heap.size + 1, 1, none⟩) (by simp only []; omega) _).set (p := ⟨w.heap.size + 1, 2, none⟩) (by simp only []; omega) _)).low (by omega), (((((ha'.set (p := ⟨w.heap.size + 1 + 1, 2, none⟩) (by simp only []; omega) _).set (p := ⟨w.heap.size + 1, 0, none⟩) (by simp only []; omega) _).set (p := ⟨w.heap.size + 1, 1, none⟩) (by simp only []; omega) _).set (p := ⟨w.heap.size + 1, 2, none⟩) (by simp only []; omega) _)).low (by omega)⟩

theorem infoEdge : (Tryz.prog.info? 87).map (fun i => (i.zero, i.size, i.bytes)) = some (some (.agg #[.int .i64 0, .int .i64 0, .int .i64 0]), 3, 24) := by kernel_rfl

theorem toEdgeS_c (v : Value) (l : List Edge) (w : World) (hv : EdgesV w v l) (hn : l.length ≤ 1048576) :
    Calls Tryz.prog 162 #[v] w (Gives (fun v w' => EdgesOwn 87 w.heap.size w' v l) w) := by
  obtain ⟨a, c, rfl, h1, h2⟩ := hv.open
  go_enter Tryz.func162, Tryz.ntmps162
  go_wp2_with (at_make; refine make1 rfl rfl Tryz.underlying23 infoEdge rfl rfl rfl rfl (by omega) (by decide) (Nat.le_refl _) ?_; intro w1 hown hext hlt)
  go_loopw [4] (fun i wr => ∃ k : Nat, k ≤ l.length ∧ i = .int .i64 k ∧ wr.ownsRow w.heap.size 87 3 (.slice (some ⟨w.heap.size, 0, none⟩) l.length l.length) l.length (edgeCells (filledE l k zeroEdge)) ∧ Ext w wr ∧ w.heap.size < wr.heap.size) (fun i _ => l.length - (intOf i).toNat)
  case atStart => exact ⟨0, by omega, rfl, by have := hown; simp only [Value.cells] at this; rw [edgeCells_zero] at this; simpa [filledE] using this, hext, hlt⟩
  case round =>
    obtain ⟨k, hk, rfl, hown, hext, hsz⟩ := hrel
    by_cases hlt : k < l.length
    · obtain ⟨x, hx⟩ : ∃ x, l[k]? = some x := ⟨_, List.getElem?_eq_getElem hlt⟩
      obtain ⟨b, off, rfl, -, hc⟩ := h2 k x hx
      obtain ⟨q1, q2, q3⟩ := (hc k x hx).mono hext
      have HX := Lib.hid hx
      clear hc hx h2
      go_wp2_with fail
      refine (toEdge_c x _).mono ?_
      rintro e w2 ⟨rfl, he2⟩
      unfold edgeVal
      have hown2 := own_ext hown he2
      obtain ⟨p1, p2, p3⟩ := edgeCells_at _ k zeroEdge (filledE_at l k zeroEdge hlt)
      have g1 := own_cell hown2 p1
      have g2 := own_cell hown2 p2
      have g3 := own_cell hown2 p3
      have f1 := hown2.frozenAt (k * 3)
      have f2 := hown2.frozenAt (k * 3 + 1)
      have f3 := hown2.frozenAt (k * 3 + 2)
      clear p1 p2 p3
      go_wp2_with fail
      obtain ⟨o1, r1⟩ := hown2.stored (k * 3) (.int .i64 x.src)
      obtain ⟨o2, r2⟩ := o1.stored (k * 3 + 1) (.int .i64 x.letter)
      obtain ⟨o3, r3⟩ := o2.stored (k * 3 + 2) (.int .i64 x.dst)
      rw [edgeCells_set _ _ _ (by rw [filledE_len _ _ _ hk]; exact hlt), filledE_set _ _ _ _ HX.out] at o3
      exact ⟨⟨k + 1, by omega, by go_num, o3, (((hext.trans he2).setCell (p := ⟨w.heap.size, k * 3, none⟩) (Nat.le_refl _) _).setCell (p := ⟨w.heap.size, k * 3 + 1, none⟩) (Nat.le_refl _) _).setCell (p := ⟨w.heap.size, k * 3 + 2, none⟩) (Nat.le_refl _) _, by have := he2.size; simp only [World.size_setCell]; omega⟩, by simp [intOf]; omega⟩
    · obtain rfl : k = l.length := by omega
      go_wp2_with fail
      go_ret
      refine Gives.mk rfl hext ?_
      rw [filledE_full] at hown
      exact hown

end Go.Proofs.YtanekmfifmkbmaaGreatDoor

namespace Go.Proofs.YtanekmfifmkbmaaGreatDoor
set_option linter.unusedSimpArgs false
set_option linter.unusedVariables false
open Go.RowKit

set_option maxHeartbeats 400000

def SysOwn (base : Nat) (w : World) (v : Value) (x : Sys) : Prop := ∃ ve, v = .agg #[.int .i64 x.alphabet, .int .i64 x.states, ve] ∧ EdgesOwn 87 base w ve x.edges
theorem SysOwn.sys {base : Nat} {w : World} {v : Value} {x : Sys} (h : SysOwn base w v x) : SysV w v x := let ⟨ve, e, h1⟩ := h; ⟨ve, e, h1.edges⟩
def TaskOwn (base : Nat) (w : World) (v : Value) (t : Task) : Prop := ∃ ve vn va, v = .agg #[.int .i64 t.sys.alphabet, .int .i64 t.sys.states, ve, .int .i64 t.prop.alphabet, vn, va, .int .i64 t.alphabet] ∧
  EdgesOwn 87 base w ve t.sys.edges ∧ IntssOwn 80 3 base w vn t.prop.next ∧ BoolsOwn 4 base w va t.prop.accept
theorem TaskOwn.task {base : Nat} {w : World} {v : Value} {x : Task} (h : TaskOwn base w v x) : TaskV w v x := let ⟨ve, vn, va, e, h1, h2, h3⟩ := h; ⟨ve, vn, va, e, h1.edges, h2.intss, h3.bools⟩
def TeacherOwn (base : Nat) (w : World) (v : Value) (t : Teacher) : Prop := ∃ vn va ve vn' va', v = .agg #[.bool t.known, .int .i64 t.target.alphabet, vn, va, .int .i64 t.task.sys.alphabet, .int .i64 t.task.sys.states, ve, .int .i64 t.task.prop.alphabet, vn', va', .int .i64 t.task.alphabet] ∧
  IntssOwn 80 3 base w vn t.target.next ∧ BoolsOwn 4 base w va t.target.accept ∧ EdgesOwn 87 base w ve t.task.sys.edges ∧ IntssOwn 80 3 base w vn' t.task.prop.next ∧ BoolsOwn 4 base w va' t.task.prop.accept
theorem TeacherOwn.teacher {base : Nat} {w : World} {v : Value} {x : Teacher} (h : TeacherOwn base w v x) : TeacherV w v x := let ⟨a, b, c, d, f, e, h1, h2, h3, h4, h5⟩ := h; ⟨a, b, c, d, f, e, h1.intss, h2.bools, h3.edges, h4.intss, h5.bools⟩

theorem toSystem_c (v : Value) (x : Sys) (w : World) (hv : SysV w v x) (hn : szSys x ≤ 1048576) :
    Calls Tryz.prog 102 #[v] w (Gives (fun v w' => SysOwn w.heap.size w' v x) w) := by
  obtain ⟨ve, rfl, h1⟩ := hv
  go_enter Tryz.func102, Tryz.ntmps102
  go_wp2_with fail
  refine (toEdgeS_c _ x.edges _ (h1.mono ((Ext.alloc _ _).trans ((Ext.alloc _ _).trans (Ext.alloc _ _)))) hn).mono ?_
  rintro e w1 ⟨ve', rfl, he1, hn'⟩
  obtain ⟨an, cn, rfl⟩ := hn'.shape
  have b1 := he1.peel.blk1
  have b2 := he1.blk2
  have hw := he1.peel.peel.peel
  have hsz := b2.lt
  replace hn' := hn'.low (base' := w.heap.size + 3) (by simp)
  have gc0 := b2.cell 0 rfl; have gf0 := b2.fr 0; have gc1 := b2.cell 1 rfl; have gf1 := b2.fr 1; have gc2 := b2.cell 2 rfl; have gf2 := b2.fr 2
  have ec0 := b1.cell 0 rfl; have ef0 := b1.fr 0; have ec1 := b1.cell 1 rfl; have ef1 := b1.fr 1; have ec2 := b1.cell 2 rfl; have ef2 := b1.fr 2
  go_wp2_with fail
  refine bodyPost_ret (v := .agg #[.int .i64 x.alphabet, .int .i64 x.states, .slice an x.edges.length cn]) (by simp [results, Tryz.results102, go_sem, gc0, gc1, gc2, gf2, ec0, ec1, ec2, ef0, ef1, ef2]) rfl ?_
  exact ⟨_, rfl, ((((hw.setCell (p := ⟨w.heap.size + 1 + 1, 2, none⟩) (by simp only []; omega) _).setCell (p := ⟨w.heap.size + 1, 0, none⟩) (by simp only []; omega) _).setCell (p := ⟨w.heap.size + 1, 1, none⟩) (by simp only []; omega) _).setCell (p := ⟨w.heap.size + 1, 2, none⟩) (by simp only []; omega) _), _, rfl, (((((hn'.set (p := ⟨w.heap.size + 1 + 1, 2, none⟩) (by simp only []; omega) _).set (p := ⟨w.heap.size + 1, 0, none⟩) (by simp only []; omega) _).set (p := ⟨w.heap.size + 1, 1, none⟩) (by simp only []; omega) _).set (p := ⟨w.heap.size + 1, 2, none⟩) (by simp only []; omega) _)).low (by omega)⟩

theorem toTask_c (v : Value) (x : Task) (w : World) (hv : TaskV w v x) (hn : szTsk x ≤ 1048576) :
    Calls Tryz.prog 52 #[v] w (Gives (fun v w' => TaskOwn w.heap.size w' v x) w) := by
  obtain ⟨ve, vn, va, rfl, h1, h2, h3⟩ := hv
  have hn1 : szSys x.sys ≤ 1048576 := by unfold szTsk at hn; omega
  have hn2 : szAuto x.prop ≤ 1048576 := by unfold szTsk at hn; omega
  have hE : ∀ o1 o2 o3, Ext w (((w.alloc o1).alloc o2).alloc o3) := fun _ _ _ => ((Ext.alloc _ _).trans ((Ext.alloc _ _).trans (Ext.alloc _ _)))
  go_enter Tryz.func52, Tryz.ntmps52
  go_wp2_with fail
  refine (toSystem_c _ x.sys _ ⟨ve, rfl, h1.mono (hE _ _ _)⟩ hn1).mono ?_
  rintro e w1 ⟨vs', rfl, he1, ve', rfl, hn'⟩
  obtain ⟨an, cn, rfl⟩ := hn'.shape
  have b0 := he1.peel.peel.blk
  have b1 := he1.peel.blk1
  have b2 := he1.blk2
  have hw := he1.peel.peel.peel
  clear hE
  have hsz := b2.lt
  replace hn' := hn'.low (base' := w.heap.size + 3) (by simp)
  have gc0 := b2.cell 0 rfl; have gf0 := b2.fr 0; have gc1 := b2.cell 1 rfl; have gf1 := b2.fr 1; have gc2 := b2.cell 2 rfl; have gf2 := b2.fr 2; have gc3 := b2.cell 3 rfl; have gf3 := b2.fr 3; have gc4 := b2.cell 4 rfl; have gf4 := b2.fr 4; have gc5 := b2.cell 5 rfl; have gf5 := b2.fr 5; have gc6 := b2.cell 6 rfl; have gf6 := b2.fr 6
  have pc3 := b0.cell 3 rfl; have pc4 := b0.cell 4 rfl; have pc5 := b0.cell 5 rfl; have pc6 := b0.cell 6 rfl
  go_wp2_with fail
  refine (toAutomaton_c _ x.prop _ ⟨vn, va, rfl, h2.mono (((hw.setCell (p := ⟨w.heap.size + 1 + 1, 0, none⟩) (by simp only []; omega) _).setCell (p := ⟨w.heap.size + 1 + 1, 1, none⟩) (by simp only []; omega) _).setCell (p := ⟨w.heap.size + 1 + 1, 2, none⟩) (by simp only []; omega) _), h3.mono (((hw.setCell (p := ⟨w.heap.size + 1 + 1, 0, none⟩) (by simp only []; omega) _).setCell (p := ⟨w.heap.size + 1 + 1, 1, none⟩) (by simp only []; omega) _).setCell (p := ⟨w.heap.size + 1 + 1, 2, none⟩) (by simp only []; omega) _)⟩ hn2).mono ?_
  rintro e w2 ⟨va2, rfl, he2, vn', va', rfl, ha', hb'⟩
  obtain ⟨aa, ca, rfl⟩ := ha'.shape
  obtain ⟨ab, cb, rfl⟩ := hb'.shape
  replace hw := (((hw.setCell (p := ⟨w.heap.size + 1 + 1, 0, none⟩) (by simp only []; omega) _).setCell (p := ⟨w.heap.size + 1 + 1, 1, none⟩) (by simp only []; omega) _).setCell (p := ⟨w.heap.size + 1 + 1, 2, none⟩) (by simp only []; omega) _).trans he2
  have hsz2 := he2.size
  simp only [World.size_setCell] at hsz2
  replace b0 := (((b0.other (p := ⟨w.heap.size + 1 + 1, 0, none⟩) (by simp only []; omega) _).other (p := ⟨w.heap.size + 1 + 1, 1, none⟩) (by simp only []; omega) _).other (p := ⟨w.heap.size + 1 + 1, 2, none⟩) (by simp only []; omega) _).ext he2
  replace b1 := (((b1.other (p := ⟨w.heap.size + 1 + 1, 0, none⟩) (by simp only []; omega) _).other (p := ⟨w.heap.size + 1 + 1, 1, none⟩) (by simp only []; omega) _).other (p := ⟨w.heap.size + 1 + 1, 2, none⟩) (by simp only []; omega) _).ext he2
  replace b2 := (((b2.set 0 _).set 1 _).set 2 _).ext he2
  replace hn' := (((hn'.set (p := ⟨w.heap.size + 1 + 1, 0, none⟩) (by simp only []; omega) _).set (p := ⟨w.heap.size + 1 + 1, 1, none⟩) (by simp only []; omega) _).set (p := ⟨w.heap.size + 1 + 1, 2, none⟩) (by simp only []; omega) _).ext he2
  replace ha' := ha'.low (base' := w.heap.size + 3) (by simp only [World.size_setCell]; omega)
  replace hb' := hb'.low (base' := w.heap.size + 3) (by simp only [World.size_setCell]; omega)
  clear gc0 gf0 gc1 gf1 gc2 gf2 gc3 gf3 gc4 gf4 gc5 gf5 gc6 gf6 pc3 pc4 pc5 pc6
  have gc0 := b2.cell 0 rfl; have gf0 := b2.fr 0; have gc1 := b2.cell 1 rfl; have gf1 := b2.fr 1; have gc2 := b2.cell 2 rfl; have gf2 := b2.fr 2; have gc3 := b2.cell 3 rfl; have gf3 := b2.fr 3; have gc4 := b2.cell 4 rfl; have gf4 := b2.fr 4; have gc5 := b2.cell 5 rfl; have gf5 := b2.fr 5; have gc6 := b2.cell 6 rfl; have gf6 := b2.fr 6
  have pc6 := b0.cell 6 rfl
  have ec0 := b1.cell 0 rfl; have ef0 := b1.fr 0; have ec1 := b1.cell 1 rfl; have ef1 := b1.fr 1; have ec2 := b1.cell 2 rfl; have ef2 := b1.fr 2; have ec3 := b1.cell 3 rfl; have ef3 := b1.fr 3; have ec4 := b1.cell 4 rfl; have ef4 := b1.fr 4; have ec5 := b1.cell 5 rfl; have ef5 := b1.fr 5; have ec6 := b1.cell 6 rfl; have ef6 := b1.fr 6
  go_wp2_with fail
  refine bodyPost_ret (v := .agg #[.int .i64 x.sys.alphabet, .int .i64 x.sys.states, .slice an x.sys.edges.length cn, .int .i64 x.prop.alphabet, .slice aa x.prop.next.length ca, .slice ab x.prop.accept.length cb, .int .i64 x.alphabet]) (by simp [results, Tryz.results52, go_sem, gc0, gf0, ec0, ef0, gc1, gf1, ec1, ef1, gc2, gf2, ec2, ef2, gc3, gf3, ec3, ef3, gc4, gf4, ec4, ef4, gc5, gf5, ec5, ef5, gc6, gf6, ec6, ef6, pc6]) rfl ?_
  exact ⟨_, rfl, (((((((((((hw.setCell (p := ⟨w.heap.size + 1 + 1, 3, none⟩) (by simp only []; omega) _).setCell (p := ⟨w.heap.size + 1 + 1, 4, none⟩) (by simp only []; omega) _).setCell (p := ⟨w.heap.size + 1 + 1, 5, none⟩) (by simp only []; omega) _).setCell (p := ⟨w.heap.size + 1 + 1, 6, none⟩) (by simp only []; omega) _).setCell (p := ⟨w.heap.size + 1, 0, none⟩) (by simp only []; omega) _).setCell (p := ⟨w.heap.size + 1, 1, none⟩) (by simp only []; omega) _).setCell (p := ⟨w.heap.size + 1, 2, none⟩) (by simp only []; omega) _).setCell (p := ⟨w.heap.size + 1, 3, none⟩) (by simp only []; omega) _).setCell (p := ⟨w.heap.size + 1, 4, none⟩) (by simp only []; omega) _).setCell (p := ⟨w.heap.size + 1, 5, none⟩) (by simp only []; omega) _).setCell (p := ⟨w.heap.size + 1, 6, none⟩) (by simp only []; omega) _), _, _, _, rfl, ((((((((((((hn'.set (p := ⟨w.heap.size + 1 + 1, 3, none⟩) (by simp only []; omega) _).set (p := ⟨w.heap.size + 1 + 1, 4, none⟩) (by simp only []; omega) _).set (p := ⟨w.heap.size + 1 + 1, 5, none⟩) (by simp only []; omega) _).set (p := ⟨w.heap.size + 1 + 1, 6, none⟩) (by simp only []; omega) _).set (p := ⟨w.heap.size + 1, 0, none⟩) (by simp only []; omega) _).set (p := ⟨w.heap.size + 1, 1, none⟩) (by simp only []; omega) _).set (p := ⟨w.heap.size + 1, 2, none⟩) (by simp only []; omega) _).set (p := ⟨w.heap.size + 1, 3, none⟩) (by simp only []; omega) _).set (p := ⟨w.heap.size + 1, 4, none⟩) (by simp only []; omega) _).set (p := ⟨w.heap.size + 1, 5, none⟩) (by simp only []; omega) _).set (p := ⟨w.heap.size + 1, 6, none⟩) (by simp only []; omega) _)).low (by omega), ((((((((((((ha'.set (p := ⟨w.heap.size + 1 + 1, 3, none⟩) (by simp only []; omega) _).set (p := ⟨w.heap.size + 1 + 1, 4, none⟩) (by simp only []; omega) _).set (p := ⟨w.heap.size + 1 + 1, 5, none⟩) (by simp only []; omega) _).set (p := ⟨w.heap.size + 1 + 1, 6, none⟩) (by simp only []; omega) _).set (p := ⟨w.heap.size + 1, 0, none⟩) (by simp only []; omega) _).set (p := ⟨w.heap.size + 1, 1, none⟩) (by simp only []; omega) _).set (p := ⟨w.heap.size + 1, 2, none⟩) (by simp only []; omega) _).set (p := ⟨w.heap.size + 1, 3, none⟩) (by simp only []; omega) _).set (p := ⟨w.heap.size + 1, 4, none⟩) (by simp only []; omega) _).set (p := ⟨w.heap.size + 1, 5, none⟩) (by simp only []; omega) _).set (p := ⟨w.heap.size + 1, 6, none⟩) (by simp only []; omega) _)).low (by omega), ((((((((((((hb'.set (p := ⟨w.heap.size + 1 + 1, 3, none⟩) (by simp only []; omega) _).set (p := ⟨w.heap.size + 1 + 1, 4, none⟩) (by simp only []; omega) _).set (p := ⟨w.heap.size + 1 + 1, 5, none⟩) (by simp only []; omega) _).set (p := ⟨w.heap.size + 1 + 1, 6, none⟩) (by simp only []; omega) _).set (p := ⟨w.heap.size + 1, 0, none⟩) (by simp only []; omega) _).set (p := ⟨w.heap.size + 1, 1, none⟩) (by simp only []; omega) _).set (p := ⟨w.heap.size + 1, 2, none⟩) (by simp only []; omega) _).set (p := ⟨w.heap.size + 1, 3, none⟩) (by simp only []; omega) _).set (p := ⟨w.heap.size + 1, 4, none⟩) (by simp only []; omega) _).set (p := ⟨w.heap.size + 1, 5, none⟩) (by simp only []; omega) _).set (p := ⟨w.heap.size + 1, 6, none⟩) (by simp only []; omega) _)).low (by omega)⟩

theorem toTeacher_c (v : Value) (x : Teacher) (w : World) (hv : TeacherV w v x) (hn : szTch x ≤ 1048576) :
    Calls Tryz.prog 14 #[v] w (Gives (fun v w' => TeacherOwn w.heap.size w' v x) w) := by
  obtain ⟨vn, va, ve, vn2, va2, rfl, h1, h2, h3, h4, h5⟩ := hv
  have hn1 : szAuto x.target ≤ 1048576 := by unfold szTch at hn; omega
  have hn2 : szTsk x.task ≤ 1048576 := by unfold szTch at hn; omega
  have hE : ∀ o1 o2 o3, Ext w (((w.alloc o1).alloc o2).alloc o3) := fun _ _ _ => ((Ext.alloc _ _).trans ((Ext.alloc _ _).trans (Ext.alloc _ _)))
  go_enter Tryz.func14, Tryz.ntmps14
  go_wp2_with fail
  refine (toAutomaton_c _ x.target _ ⟨vn, va, rfl, h1.mono (hE _ _ _), h2.mono (hE _ _ _)⟩ hn1).mono ?_
  rintro e w1 ⟨vs', rfl, he1, vn', va', rfl, hn', hm'⟩
  obtain ⟨an, cn, rfl⟩ := hn'.shape
  obtain ⟨am, cm, rfl⟩ := hm'.shape
  have b0 := he1.peel.peel.blk
  have b1 := he1.peel.blk1
  have b2 := he1.blk2
  have hw := he1.peel.peel.peel
  clear hE
  have hsz := b2.lt
  replace hn' := hn'.low (base' := w.heap.size + 3) (by simp)
  replace hm' := hm'.low (base' := w.heap.size + 3) (by simp)
  have gc0 := b2.cell 0 rfl; have gf0 := b2.fr 0; have gc1 := b2.cell 1 rfl; have gf1 := b2.fr 1; have gc2 := b2.cell 2 rfl; have gf2 := b2.fr 2; have gc3 := b2.cell 3 rfl; have gf3 := b2.fr 3; have gc4 := b2.cell 4 rfl; have gf4 := b2.fr 4; have gc5 := b2.cell 5 rfl; have gf5 := b2.fr 5; have gc6 := b2.cell 6 rfl; have gf6 := b2.fr 6; have gc7 := b2.cell 7 rfl; have gf7 := b2.fr 7; have gc8 := b2.cell 8 rfl; have gf8 := b2.fr 8; have gc9 := b2.cell 9 rfl; have gf9 := b2.fr 9; have gc10 := b2.cell 10 rfl; have gf10 := b2.fr 10
  have pc4 := b0.cell 4 rfl; have pc5 := b0.cell 5 rfl; have pc6 := b0.cell 6 rfl; have pc7 := b0.cell 7 rfl; have pc8 := b0.cell 8 rfl; have pc9 := b0.cell 9 rfl; have pc10 := b0.cell 10 rfl
  go_wp2_with fail
  refine (toTask_c _ x.task _ ⟨ve, vn2, va2, rfl, h3.mono (((hw.setCell (p := ⟨w.heap.size + 1 + 1, 1, none⟩) (by simp only []; omega) _).setCell (p := ⟨w.heap.size + 1 + 1, 2, none⟩) (by simp only []; omega) _).setCell (p := ⟨w.heap.size + 1 + 1, 3, none⟩) (by simp only []; omega) _), h4.mono (((hw.setCell (p := ⟨w.heap.size + 1 + 1, 1, none⟩) (by simp only []; omega) _).setCell (p := ⟨w.heap.size + 1 + 1, 2, none⟩) (by simp only []; omega) _).setCell (p := ⟨w.heap.size + 1 + 1, 3, none⟩) (by simp only []; omega) _), h5.mono (((hw.setCell (p := ⟨w.heap.size + 1 + 1, 1, none⟩) (by simp only []; omega) _).setCell (p := ⟨w.heap.size + 1 + 1, 2, none⟩) (by simp only []; omega) _).setCell (p := ⟨w.heap.size + 1 + 1, 3, none⟩) (by simp only []; omega) _)⟩ hn2).mono ?_
  rintro e w2 ⟨vt2, rfl, he2, ve', vn', va', rfl, hc', ha', hb'⟩
  obtain ⟨ac, cc, rfl⟩ := hc'.shape
  obtain ⟨aa, ca, rfl⟩ := ha'.shape
  obtain ⟨ab, cb, rfl⟩ := hb'.shape
  replace hw := (((hw.setCell (p := ⟨w.heap.size + 1 + 1, 1, none⟩) (by simp only []; omega) _).setCell (p := ⟨w.heap.size + 1 + 1, 2, none⟩) (by simp only []; omega) _).setCell (p := ⟨w.heap.size + 1 + 1, 3, none⟩) (by simp only []; omega) _).trans he2
  have hsz2 := he2.size
  simp only [World.size_setCell] at hsz2
  replace b1 := (((b1.other (p := ⟨w.heap.size + 1 + 1, 1, none⟩) (by simp only []; omega) _).other (p := ⟨w.heap.size + 1 + 1, 2, none⟩) (by simp only []; omega) _).other (p := ⟨w.heap.size + 1 + 1, 3, none⟩) (by simp only []; omega) _).ext he2
  replace b2 := (((b2.set 1 _).set 2 _).set 3 _).ext he2
  replace hn' := (((hn'.set (p := ⟨w.heap.size + 1 + 1, 1, none⟩) (by simp only []; omega) _).set (p := ⟨w.heap.size + 1 + 1, 2, none⟩) (by simp only []; omega) _).set (p := ⟨w.heap.size + 1 + 1, 3, none⟩) (by simp only []; omega) _).ext he2
  replace hm' := (((hm'.set (p := ⟨w.heap.size + 1 + 1, 1, none⟩) (by simp only []; omega) _).set (p := ⟨w.heap.size + 1 + 1, 2, none⟩) (by simp only []; omega) _).set (p := ⟨w.heap.size + 1 + 1, 3, none⟩) (by simp only []; omega) _).ext he2
  replace ha' := ha'.low (base' := w.heap.size + 3) (by simp only [World.size_setCell]; omega)
  replace hb' := hb'.low (base' := w.heap.size + 3) (by simp only [World.size_setCell]; omega)
  replace hc' := hc'.low (base' := w.heap.size + 3) (by simp only [World.size_setCell]; omega)
  clear gc0 gf0 gc1 gf1 gc2 gf2 gc3 gf3 gc4 gf4 gc5 gf5 gc6 gf6 gc7 gf7 gc8 gf8 gc9 gf9 gc10 gf10 pc4 pc5 pc6 pc7 pc8 pc9 pc10
  have gc0 := b2.cell 0 rfl; have gf0 := b2.fr 0; have gc1 := b2.cell 1 rfl; have gf1 := b2.fr 1; have gc2 := b2.cell 2 rfl; have gf2 := b2.fr 2; have gc3 := b2.cell 3 rfl; have gf3 := b2.fr 3; have gc4 := b2.cell 4 rfl; have gf4 := b2.fr 4; have gc5 := b2.cell 5 rfl; have gf5 := b2.fr 5; have gc6 := b2.cell 6 rfl; have gf6 := b2.fr 6; have gc7 := b2.cell 7 rfl; have gf7 := b2.fr 7; have gc8 := b2.cell 8 rfl; have gf8 := b2.fr 8; have gc9 := b2.cell 9 rfl; have gf9 := b2.fr 9; have gc10 := b2.cell 10 rfl; have gf10 := b2.fr 10
  have ec0 := b1.cell 0 rfl; have ef0 := b1.fr 0; have ec1 := b1.cell 1 rfl; have ef1 := b1.fr 1; have ec2 := b1.cell 2 rfl; have ef2 := b1.fr 2; have ec3 := b1.cell 3 rfl; have ef3 := b1.fr 3; have ec4 := b1.cell 4 rfl; have ef4 := b1.fr 4; have ec5 := b1.cell 5 rfl; have ef5 := b1.fr 5; have ec6 := b1.cell 6 rfl; have ef6 := b1.fr 6; have ec7 := b1.cell 7 rfl; have ef7 := b1.fr 7; have ec8 := b1.cell 8 rfl; have ef8 := b1.fr 8; have ec9 := b1.cell 9 rfl; have ef9 := b1.fr 9; have ec10 := b1.cell 10 rfl; have ef10 := b1.fr 10
  go_wp2_with fail
  refine bodyPost_ret (v := .agg #[.bool x.known, .int .i64 x.target.alphabet, .slice an x.target.next.length cn, .slice am x.target.accept.length cm, .int .i64 x.task.sys.alphabet, .int .i64 x.task.sys.states, .slice ac x.task.sys.edges.length cc, .int .i64 x.task.prop.alphabet, .slice aa x.task.prop.next.length ca, .slice ab x.task.prop.accept.length cb, .int .i64 x.task.alphabet]) (by simp [results, Tryz.results14, go_sem, gc0, gf0, ec0, ef0, gc1, gf1, ec1, ef1, gc2, gf2, ec2, ef2, gc3, gf3, ec3, ef3, gc4, gf4, ec4, ef4, gc5, gf5, ec5, ef5, gc6, gf6, ec6, ef6, gc7, gf7, ec7, ef7, gc8, gf8, ec8, ef8, gc9, gf9, ec9, ef9, gc10, gf10, ec10, ef10]) rfl ?_
  exact ⟨_, rfl, ((((((((((((((((((hw.setCell (p := ⟨w.heap.size + 1 + 1, 4, none⟩) (by simp only []; omega) _).setCell (p := ⟨w.heap.size + 1 + 1, 5, none⟩) (by simp only []; omega) _).setCell (p := ⟨w.heap.size + 1 + 1, 6, none⟩) (by simp only []; omega) _).setCell (p := ⟨w.heap.size + 1 + 1, 7, none⟩) (by simp only []; omega) _).setCell (p := ⟨w.heap.size + 1 + 1, 8, none⟩) (by simp only []; omega) _).setCell (p := ⟨w.heap.size + 1 + 1, 9, none⟩) (by simp only []; omega) _).setCell (p := ⟨w.heap.size + 1 + 1, 10, none⟩) (by simp only []; omega) _).setCell (p := ⟨w.heap.size + 1, 0, none⟩) (by simp only []; omega) _).setCell (p := ⟨w.heap.size + 1, 1, none⟩) (by simp only []; omega) _).setCell (p := ⟨w.heap.size + 1, 2, none⟩) (by simp only []; omega) _).setCell (p := ⟨w.heap.size + 1, 3, none⟩) (by simp only []; omega) _).setCell (p := ⟨w.heap.size + 1, 4, none⟩) (by simp only []; omega) _).setCell (p := ⟨w.heap.size + 1, 5, none⟩) (by simp only []; omega) _).setCell (p := ⟨w.heap.size + 1, 6, none⟩) (by simp only []; omega) _).setCell (p := ⟨w.heap.size + 1, 7, none⟩) (by simp only []; omega) _).setCell (p := ⟨w.heap.size + 1, 8, none⟩) (by simp only []; omega) _).setCell (p := ⟨w.heap.size + 1, 9, none⟩) (by simp only []; omega) _).setCell (p := ⟨w.heap.size + 1, 10, none⟩) (by simp only []; omega) _), _, _, _, _, _, rfl, (((((((((((((((((((hn'.set (p := ⟨w.heap.size + 1 + 1, 4, none⟩) (by simp only []; omega) _).set (p := ⟨w.heap.size + 1 + 1, 5, none⟩) (by simp only []; omega) _).set (p := ⟨w.heap.size + 1 + 1, 6, none⟩) (by simp only []; omega) _).set (p := ⟨w.heap.size + 1 + 1, 7, none⟩) (by simp only []; omega) _).set (p := ⟨w.heap.size + 1 + 1, 8, none⟩) (by simp only []; omega) _).set (p := ⟨w.heap.size + 1 + 1, 9, none⟩) (by simp only []; omega) _).set (p := ⟨w.heap.size + 1 + 1, 10, none⟩) (by simp only []; omega) _).set (p := ⟨w.heap.size + 1, 0, none⟩) (by simp only []; omega) _).set (p := ⟨w.heap.size + 1, 1, none⟩) (by simp only []; omega) _).set (p := ⟨w.heap.size + 1, 2, none⟩) (by simp only []; omega) _).set (p := ⟨w.heap.size + 1, 3, none⟩) (by simp only []; omega) _).set (p := ⟨w.heap.size + 1, 4, none⟩) (by simp only []; omega) _).set (p := ⟨w.heap.size + 1, 5, none⟩) (by simp only []; omega) _).set (p := ⟨w.heap.size + 1, 6, none⟩) (by simp only []; omega) _).set (p := ⟨w.heap.size + 1, 7, none⟩) (by simp only []; omega) _).set (p := ⟨w.heap.size + 1, 8, none⟩) (by simp only []; omega) _).set (p := ⟨w.heap.size + 1, 9, none⟩) (by simp only []; omega) _).set (p := ⟨w.heap.size + 1, 10, none⟩) (by simp only []; omega) _)).low (by omega), (((((((((((((((((((hm'.set (p := ⟨w.heap.size + 1 + 1, 4, none⟩) (by simp only []; omega) _).set (p := ⟨w.heap.size + 1 + 1, 5, none⟩) (by simp only []; omega) _).set (p := ⟨w.heap.size + 1 + 1, 6, none⟩) (by simp only []; omega) _).set (p := ⟨w.heap.size + 1 + 1, 7, none⟩) (by simp only []; omega) _).set (p := ⟨w.heap.size + 1 + 1, 8, none⟩) (by simp only []; omega) _).set (p := ⟨w.heap.size + 1 + 1, 9, none⟩) (by simp only []; omega) _).set (p := ⟨w.heap.size + 1 + 1, 10, none⟩) (by simp only []; omega) _).set (p := ⟨w.heap.size + 1, 0, none⟩) (by simp only []; omega) _).set (p := ⟨w.heap.size + 1, 1, none⟩) (by simp only []; omega) _).set (p := ⟨w.heap.size + 1, 2, none⟩) (by simp only []; omega) _).set (p := ⟨w.heap.size + 1, 3, none⟩) (by simp only []; omega) _).set (p := ⟨w.heap.size + 1, 4, none⟩) (by simp only []; omega) _).set (p := ⟨w.heap.size + 1, 5, none⟩) (by simp only []; omega) _).set (p := ⟨w.heap.size + 1, 6, none⟩) (by simp only []; omega) _).set (p := ⟨w.heap.size + 1, 7, none⟩) (by simp only []; omega) _).set (p := ⟨w.heap.size + 1, 8, none⟩) (by simp only []; omega) _).set (p := ⟨w.heap.size + 1, 9, none⟩) (by simp only []; omega) _).set (p := ⟨w.heap.size + 1, 10, none⟩) (by simp only []; omega) _)).low (by omega), (((((((((((((((((((hc'.set (p := ⟨w.heap.size + 1 + 1, 4, none⟩) (by simp only []; omega) _).set (p := ⟨w.heap.size + 1 + 1, 5, none⟩) (by simp only []; omega) _).set (p := ⟨w.heap.size + 1 + 1, 6, none⟩) (by simp only []; omega) _).set (p := ⟨w.heap.size + 1 + 1, 7, none⟩) (by simp only []; omega) _).set (p := ⟨w.heap.size + 1 + 1, 8, none⟩) (by simp only []; omega) _).set (p := ⟨w.heap.size + 1 + 1, 9, none⟩) (by simp only []; omega) _).set (p := ⟨w.heap.size + 1 + 1, 10, none⟩) (by simp only []; omega) _).set (p := ⟨w.heap.size + 1, 0, none⟩) (by simp only []; omega) _).set (p := ⟨w.heap.size + 1, 1, none⟩) (by simp only []; omega) _).set (p := ⟨w.heap.size + 1, 2, none⟩) (by simp only []; omega) _).set (p := ⟨w.heap.size + 1, 3, none⟩) (by simp only []; omega) _).set (p := ⟨w.heap.size + 1, 4, none⟩) (by simp only []; omega) _).set (p := ⟨w.heap.size + 1, 5, none⟩) (by simp only []; omega) _).set (p := ⟨w.heap.size + 1, 6, none⟩) (by simp only []; omega) _).set (p := ⟨w.heap.size + 1, 7, none⟩) (by simp only []; omega) _).set (p := ⟨w.heap.size + 1, 8, none⟩) (by simp only []; omega) _).set (p := ⟨w.heap.size + 1, 9, none⟩) (by simp only []; omega) _).set (p := ⟨w.heap.size + 1, 10, none⟩) (by simp only []; omega) _)).low (by omega), (((((((((((((((((((ha'.set (p := ⟨w.heap.size + 1 + 1, 4, none⟩) (by simp only []; omega) _).set (p := ⟨w.heap.size + 1 + 1, 5, none⟩) (by simp only []; omega) _).set (p := ⟨w.heap.size + 1 + 1, 6, none⟩) (by simp only []; omega) _).set (p := ⟨w.heap.size + 1 + 1, 7, none⟩) (by simp only []; omega) _).set (p := ⟨w.heap.size + 1 + 1, 8, none⟩) (by simp only []; omega) _).set (p := ⟨w.heap.size + 1 + 1, 9, none⟩) (by simp only []; omega) _).set (p := ⟨w.heap.size + 1 + 1, 10, none⟩) (by simp only []; omega) _).set (p := ⟨w.heap.size + 1, 0, none⟩) (by simp only []; omega) _).set (p := ⟨w.heap.size + 1, 1, none⟩) (by simp only []; omega) _).set (p := ⟨w.heap.size + 1, 2, none⟩) (by simp only []; omega) _).set (p := ⟨w.heap.size + 1, 3, none⟩) (by simp only []; omega) _).set (p := ⟨w.heap.size + 1, 4, none⟩) (by simp only []; omega) _).set (p := ⟨w.heap.size + 1, 5, none⟩) (by simp only []; omega) _).set (p := ⟨w.heap.size + 1, 6, none⟩) (by simp only []; omega) _).set (p := ⟨w.heap.size + 1, 7, none⟩) (by simp only []; omega) _).set (p := ⟨w.heap.size + 1, 8, none⟩) (by simp only []; omega) _).set (p := ⟨w.heap.size + 1, 9, none⟩) (by simp only []; omega) _).set (p := ⟨w.heap.size + 1, 10, none⟩) (by simp only []; omega) _)).low (by omega), (((((((((((((((((((hb'.set (p := ⟨w.heap.size + 1 + 1, 4, none⟩) (by simp only []; omega) _).set (p := ⟨w.heap.size + 1 + 1, 5, none⟩) (by simp only []; omega) _).set (p := ⟨w.heap.size + 1 + 1, 6, none⟩) (by simp only []; omega) _).set (p := ⟨w.heap.size + 1 + 1, 7, none⟩) (by simp only []; omega) _).set (p := ⟨w.heap.size + 1 + 1, 8, none⟩) (by simp only []; omega) _).set (p := ⟨w.heap.size + 1 + 1, 9, none⟩) (by simp only []; omega) _).set (p := ⟨w.heap.size + 1 + 1, 10, none⟩) (by simp only []; omega) _).set (p := ⟨w.heap.size + 1, 0, none⟩) (by simp only []; omega) _).set (p := ⟨w.heap.size + 1, 1, none⟩) (by simp only []; omega) _).set (p := ⟨w.heap.size + 1, 2, none⟩) (by simp only []; omega) _).set (p := ⟨w.heap.size + 1, 3, none⟩) (by simp only []; omega) _).set (p := ⟨w.heap.size + 1, 4, none⟩) (by simp only []; omega) _).set (p := ⟨w.heap.size + 1, 5, none⟩) (by simp only []; omega) _).set (p := ⟨w.heap.size + 1, 6, none⟩) (by simp only []; omega) _).set (p := ⟨w.heap.size + 1, 7, none⟩) (by simp only []; omega) _).set (p := ⟨w.heap.size + 1, 8, none⟩) (by simp only []; omega) _).set (p := ⟨w.heap.size + 1, 9, none⟩) (by simp only []; omega) _).set (p := ⟨w.heap.size + 1, 10, none⟩) (by simp only []; omega) _)).low (by omega)⟩

end Go.Proofs.YtanekmfifmkbmaaGreatDoor

namespace Go.Proofs.YtanekmfifmkbmaaGreatDoor
set_option linter.unusedSimpArgs false
set_option linter.unusedVariables false
open Go.RowKit

set_option maxHeartbeats 400000

theorem eqIntSS_c (v u : Value) (l m : List (List Int)) (w : World) (hv : IntssV w v l) (hu : IntssV w u m) :
    Calls Tryz.prog 109 #[v, u] w (Grows (.bool (decide (l = m))) w) := by
  obtain ⟨a, c, rfl, h1, h2⟩ := hv.open
  obtain ⟨a', c', rfl, h1', h2'⟩ := hu.open
  by_cases hlen : l.length = m.length
  · have HL := Lib.hid hlen
    rw [← hlen]
    clear hlen hv hu
    go_enter Tryz.func109, Tryz.ntmps109
    go_wp2_with fail
    go_loopw [5] (fun i wr => ∃ k : Nat, k ≤ l.length ∧ i = .int .i64 k ∧ Hid (l.take k = m.take k) ∧ Ext w wr) (fun i _ => l.length - (intOf i).toNat)
    case atStart => exact ⟨0, by omega, rfl, by simp [Hid], Ext.refl _⟩
    case round =>
      obtain ⟨k, hk, rfl, heq, hext⟩ := hrel
      by_cases hlt : k < l.length
      · obtain ⟨x, hx⟩ : ∃ x, l[k]? = some x := ⟨_, List.getElem?_eq_getElem hlt⟩
        obtain ⟨y, hy⟩ : ∃ x, m[k]? = some x := ⟨_, List.getElem?_eq_getElem (by rw [← HL.out]; exact hlt)⟩
        obtain ⟨b, off, rfl, -, hc⟩ := h2 k x hx
        obtain ⟨b', off', rfl, -, hc'⟩ := h2' k y hy
        have HX := Lib.hid hx
        have HY := Lib.hid hy
        obtain ⟨vx, q1, hvx⟩ := (hc k x hx).mono hext
        obtain ⟨vy, r1, hvy⟩ := (hc' k y hy).mono hext
        rw [Nat.mul_one] at q1 r1
        clear hc hc' h2 h2' hx hy
        have g1 := fun d os => cell_regrown q1 d os
        have f1 := fun d os => cell_regrown r1 d os
        by_cases hxy : x = y
        · have hd : decide (x = y) = true := decide_eq_true hxy
          have HXY := Lib.hid hxy
          clear hxy
          go_wp2_with fail
          refine wp_region_quiet_below (by kernel_rfl) (by kernel_rfl) ?_
          repeat (go_big_quiet_step ((go_at_call 169; exact Grows.quiet (eqIntS_c vx vy x y _ (hvx.mono (below_regrown _ _ _)) (hvy.mono (below_regrown _ _ _))))))
          refine wpQuiet_nil ?_
          intro _ hw'
          obtain ⟨⟨dq, osq⟩, hw''⟩ := hw'
          subst hw''
          have hq : Ext wr (Go.Sort.grow (redrawn wr dq) osq) := below_regrown wr dq osq
          generalize Go.Sort.grow (redrawn wr dq) osq = wq at hq ⊢
          go_wp2_with fail
          exact ⟨⟨k + 1, by omega, by go_num, by simp [Hid, List.take_add_one, HX.out, HY.out, heq.out, HXY.out], hext.trans hq⟩, by simp [intOf]; omega⟩
        · have hd : decide (x = y) = false := decide_eq_false hxy
          have HXY := Lib.hid hxy
          clear hxy
          go_wp2_with fail
          refine wp_region_quiet_below (by kernel_rfl) (by kernel_rfl) ?_
          repeat (go_big_quiet_step ((go_at_call 169; exact Grows.quiet (eqIntS_c vx vy x y _ (hvx.mono (below_regrown _ _ _)) (hvy.mono (below_regrown _ _ _))))))
          refine wpQuiet_nil ?_
          intro _ hw'
          obtain ⟨⟨dq, osq⟩, hw''⟩ := hw'
          subst hw''
          have hq : Ext wr (Go.Sort.grow (redrawn wr dq) osq) := below_regrown wr dq osq
          generalize Go.Sort.grow (redrawn wr dq) osq = wq at hq ⊢
          go_wp2_with fail
          go_ret
          refine Grows.mk ?_ (hext.trans hq)
          have : ¬ l = m := fun h => by subst h; have := HX.out; rw [HY.out] at this; cases this; exact HXY.out rfl
          simp [this]
      · obtain rfl : k = l.length := by omega
        go_wp2_with fail
        go_ret
        refine Grows.mk ?_ hext
        have := heq.out
        rw [List.take_length, HL.out, List.take_length] at this
        simp [this]
  · have hne : l ≠ m := fun h => hlen (by rw [h])
    go_enter Tryz.func109, Tryz.ntmps109
    go_wp2_with fail
    go_ret
    exact Grows.mk (by simp [hne]) (Ext.refl _)

theorem eqAutomaton_c (v u : Value) (x y : Auto) (w : World) (hv : AutoV w v x) (hu : AutoV w u y) :
    Calls Tryz.prog 56 #[v, u] w (Grows (.bool (decide (x = y))) w) := by
  obtain ⟨vn, va, rfl, h1, h2⟩ := hv
  obtain ⟨un, ua, rfl, k1, k2⟩ := hu
  obtain ⟨al, nx, ac⟩ := x
  obtain ⟨al', nx', ac'⟩ := y
  simp only at h1 h2 k1 k2
  by_cases ha : al = al'
  · subst ha
    go_enter Tryz.func56, Tryz.ntmps56
    go_wp2_with fail
    refine (eqIntSS_c _ _ nx nx' _ (h1.mono ((Ext.alloc _ _).trans (Ext.alloc _ _))) (k1.mono ((Ext.alloc _ _).trans (Ext.alloc _ _)))).mono ?_
    rintro e w1 ⟨rfl, he1⟩
    have c0 := he1.peel.new 2 rfl
    have c1 := he1.new1 2 rfl
    by_cases hb : nx = nx'
    · have hd : decide (nx = nx') = true := decide_eq_true hb
      have HB := Lib.hid hb
      clear hb
      go_wp2_with fail
      refine (eqBoolS_c _ _ ac ac' _ (h2.mono he1.peel.peel) (k2.mono he1.peel.peel)).mono ?_
      rintro e w2 ⟨rfl, he2⟩
      by_cases hc : ac = ac'
      · have hd2 : decide (ac = ac') = true := decide_eq_true hc
        have HC := Lib.hid hc
        clear hc
        go_wp2_with fail
        go_ret
        exact Grows.mk (by simp [HB.out, HC.out]) (he1.peel.peel.trans he2)
      · have hd2 : decide (ac = ac') = false := decide_eq_false hc
        have HC := Lib.hid hc
        clear hc
        go_wp2_with fail
        go_ret
        exact Grows.mk (by simp [HC.out]) (he1.peel.peel.trans he2)
    · have hd : decide (nx = nx') = false := decide_eq_false hb
      have HB := Lib.hid hb
      clear hb
      go_wp2_with fail
      go_ret
      exact Grows.mk (by simp [HB.out]) he1.peel.peel
  · go_enter Tryz.func56, Tryz.ntmps56
    go_wp2
    go_ret
    exact Grows.mk (by simp [ha]) ((Ext.alloc _ _).trans (Ext.alloc _ _))

theorem eqSystem_c (v u : Value) (x y : Sys) (w : World) (hv : SysV w v x) (hu : SysV w u y) :
    Calls Tryz.prog 111 #[v, u] w (Grows (.bool (decide (x = y))) w) := by
  obtain ⟨ve, rfl, h1⟩ := hv
  obtain ⟨ue, rfl, k1⟩ := hu
  obtain ⟨al, st, es⟩ := x
  obtain ⟨al', st', es'⟩ := y
  simp only at h1 k1
  by_cases ha : al = al'
  · subst ha
    by_cases hs : st = st'
    · subst hs
      go_enter Tryz.func111, Tryz.ntmps111
      go_wp2_with fail
      refine (eqEdgeS_c _ _ es es' _ (h1.mono ((Ext.alloc _ _).trans (Ext.alloc _ _))) (k1.mono ((Ext.alloc _ _).trans (Ext.alloc _ _)))).mono ?_
      rintro e w1 ⟨rfl, he1⟩
      by_cases hb : es = es'
      · have hd : decide (es = es') = true := decide_eq_true hb
        have HB := Lib.hid hb
        clear hb
        go_wp2_with fail
        go_ret
        exact Grows.mk (by simp [HB.out]) he1.peel.peel
      · have hd : decide (es = es') = false := decide_eq_false hb
        have HB := Lib.hid hb
        clear hb
        go_wp2_with fail
        go_ret
        exact Grows.mk (by simp [HB.out]) he1.peel.peel
    · go_enter Tryz.func111, Tryz.ntmps111
      go_wp2_with fail
      go_ret
      exact Grows.mk (by simp [hs]) ((Ext.alloc _ _).trans (Ext.alloc _ _))
  · go_enter Tryz.func111, Tryz.ntmps111
    go_wp2_with fail
    go_ret
    exact Grows.mk (by simp [ha]) ((Ext.alloc _ _).trans (Ext.alloc _ _))

theorem eqTask_c (v u : Value) (x y : Task) (w : World) (hv : TaskV w v x) (hu : TaskV w u y) :
    Calls Tryz.prog 57 #[v, u] w (Grows (.bool (decide (x = y))) w) := by
  obtain ⟨ve, vn, va, rfl, h1, h2, h3⟩ := hv
  obtain ⟨ue, un, ua, rfl, k1, k2, k3⟩ := hu
  obtain ⟨S, A, al⟩ := x
  obtain ⟨S', A', al'⟩ := y
  simp only at h1 h2 h3 k1 k2 k3
  have hE : ∀ o1 o2, Ext w ((w.alloc o1).alloc o2) := fun _ _ => ((Ext.alloc _ _).trans (Ext.alloc _ _))
  go_enter Tryz.func57, Tryz.ntmps57
  go_wp2_with fail
  refine (eqSystem_c _ _ S S' _ ⟨ve, rfl, h1.mono (hE _ _)⟩ ⟨ue, rfl, k1.mono (hE _ _)⟩).mono ?_
  clear hE
  rintro e w1 ⟨rfl, he1⟩
  have b0 := he1.peel.blk
  have b1 := he1.blk1
  have hw := he1.peel.peel
  have cc3 := b0.cell 3 rfl; have cc4 := b0.cell 4 rfl; have cc5 := b0.cell 5 rfl; have cc6 := b0.cell 6 rfl
  have dc3 := b1.cell 3 rfl; have dc4 := b1.cell 4 rfl; have dc5 := b1.cell 5 rfl; have dc6 := b1.cell 6 rfl
  by_cases hb : S = S'
  · have hd : decide (S = S') = true := decide_eq_true hb
    have HB := Lib.hid hb
    clear hb
    go_wp2_with fail
    refine (eqAutomaton_c _ _ A A' _ ⟨vn, va, rfl, h2.mono hw, h3.mono hw⟩ ⟨un, ua, rfl, k2.mono hw, k3.mono hw⟩).mono ?_
    rintro e w2 ⟨rfl, he2⟩
    have e0 := he2.cell cc6
    have e1 := he2.cell dc6
    by_cases hc : A = A'
    · have hd2 : decide (A = A') = true := decide_eq_true hc
      have HC := Lib.hid hc
      clear hc
      by_cases ha : al = al'
      · subst ha
        go_wp2_with fail
        go_ret
        exact Grows.mk (by simp [HB.out, HC.out]) (hw.trans he2)
      · go_wp2_with fail
        go_ret
        exact Grows.mk (by simp [ha]) (hw.trans he2)
    · have hd2 : decide (A = A') = false := decide_eq_false hc
      have HC := Lib.hid hc
      clear hc
      go_wp2_with fail
      go_ret
      exact Grows.mk (by simp [HC.out]) (hw.trans he2)
  · have hd : decide (S = S') = false := decide_eq_false hb
    have HB := Lib.hid hb
    clear hb
    go_wp2_with fail
    go_ret
    exact Grows.mk (by simp [HB.out]) hw

theorem eqTeacher_c (v u : Value) (x y : Teacher) (w : World) (hv : TeacherV w v x) (hu : TeacherV w u y) :
    Calls Tryz.prog 17 #[v, u] w (Grows (.bool (decide (x = y))) w) := by
  obtain ⟨vn, va, ve, vn2, va2, rfl, h1, h2, h3, h4, h5⟩ := hv
  obtain ⟨un, ua, ue, un2, ua2, rfl, k1, k2, k3, k4, k5⟩ := hu
  obtain ⟨kn, A, T⟩ := x
  obtain ⟨kn', A', T'⟩ := y
  simp only at h1 h2 h3 h4 h5 k1 k2 k3 k4 k5
  have hE : ∀ o1 o2, Ext w ((w.alloc o1).alloc o2) := fun _ _ => ((Ext.alloc _ _).trans (Ext.alloc _ _))
  by_cases hk : kn = kn'
  · subst hk
    have hz : (kn != kn) = false := by simp
    go_enter Tryz.func17, Tryz.ntmps17
    go_wp2_with fail
    refine (eqAutomaton_c _ _ A A' _ ⟨vn, va, rfl, h1.mono (hE _ _), h2.mono (hE _ _)⟩ ⟨un, ua, rfl, k1.mono (hE _ _), k2.mono (hE _ _)⟩).mono ?_
    clear hE
    rintro e w1 ⟨rfl, he1⟩
    have b0 := he1.peel.blk
    have b1 := he1.blk1
    have hw := he1.peel.peel
    have cc4 := b0.cell 4 rfl; have cc5 := b0.cell 5 rfl; have cc6 := b0.cell 6 rfl; have cc7 := b0.cell 7 rfl; have cc8 := b0.cell 8 rfl; have cc9 := b0.cell 9 rfl; have cc10 := b0.cell 10 rfl
    have dc4 := b1.cell 4 rfl; have dc5 := b1.cell 5 rfl; have dc6 := b1.cell 6 rfl; have dc7 := b1.cell 7 rfl; have dc8 := b1.cell 8 rfl; have dc9 := b1.cell 9 rfl; have dc10 := b1.cell 10 rfl
    by_cases hb : A = A'
    · have hd : decide (A = A') = true := decide_eq_true hb
      have HB := Lib.hid hb
      clear hb
      go_wp2_with fail
      refine (eqTask_c _ _ T T' _ ⟨ve, vn2, va2, rfl, h3.mono hw, h4.mono hw, h5.mono hw⟩ ⟨ue, un2, ua2, rfl, k3.mono hw, k4.mono hw, k5.mono hw⟩).mono ?_
      rintro e w2 ⟨rfl, he2⟩
      by_cases hc : T = T'
      · have hd2 : decide (T = T') = true := decide_eq_true hc
        have HC := Lib.hid hc
        clear hc
        go_wp2_with fail
        go_ret
        exact Grows.mk (by simp [HB.out, HC.out]) (hw.trans he2)
      · have hd2 : decide (T = T') = false := decide_eq_false hc
        have HC := Lib.hid hc
        clear hc
        go_wp2_with fail
        go_ret
        exact Grows.mk (by simp [HC.out]) (hw.trans he2)
    · have hd : decide (A = A') = false := decide_eq_false hb
      have HB := Lib.hid hb
      clear hb
      go_wp2_with fail
      go_ret
      exact Grows.mk (by simp [HB.out]) hw
  · have hz : (kn == kn') = false := beq_eq_false_iff_ne.2 hk
    have hz2 : (kn != kn') = true := by simp [hk]
    have HK := Lib.hid hk
    clear hk
    go_enter Tryz.func17, Tryz.ntmps17
    go_wp2_with fail
    go_ret
    exact Grows.mk (by simp [HK.out]) (hE _ _)

end Go.Proofs.YtanekmfifmkbmaaGreatDoor
