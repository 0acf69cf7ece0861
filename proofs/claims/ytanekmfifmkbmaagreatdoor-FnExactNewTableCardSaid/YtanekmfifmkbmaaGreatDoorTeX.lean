/- Part of this seat's proofs, cut to what its law needs. -/

import Derived.Test.YtanekmfifmkbmaaGreatDoorWalkE
import Derived.Test.YtanekmfifmkbmaaGreatDoorWalkP
import Derived.Test.YtanekmfifmkbmaaGreatDoorSafeN
namespace Go.Proofs.YtanekmfifmkbmaaGreatDoor
set_option linter.unusedSimpArgs false
set_option linter.unusedVariables false
open Go.RowKit
set_option maxHeartbeats 4000000
set_option maxRecDepth 100000

theorem rowsMk_up {S : Nat → Prop} {w w' : World} {base : Nat} {v : Value} {vs : List Value} {ks : List Nat} {n : Int} {j : Nat} (h : RowsMk base w v vs ks n j) (ht : Tnd S w w') (hS : ∀ b, S b → b < base) : RowsMk base w' v vs ks n j :=
  h.tnd ht (fun b hb hs => by have h1 := (World.ownsRow.lt h.own b hb).1; have h2 := hS b hs; omega) fun b hb hs => by have h1 := (h.span b hb).1; have h2 := hS b hs; omega
theorem RowsMk.set {w : World} {base : Nat} {v : Value} {vs : List Value} {ks : List Nat} {n : Int} {j : Nat} (h : RowsMk base w v vs ks n j) {p : Addr} (hp : p.block < base) (u : Value) : RowsMk base (w.setCell p u) v vs ks n j :=
  rowsMk_up (S := fun b => b = p.block) h ⟨rfl, rfl, rfl, by simp, fun c _ hc => Below.heap_setCell w p u c hc⟩ (fun b hb => by omega)
def TeacherOwn2 (base : Nat) (w : World) (v : Value) (t : Teacher) : Prop := ∃ mid vn va ve vn' va' vs, v = .agg #[.bool t.known, .int .i64 t.target.alphabet, vn, va, .int .i64 t.task.sys.alphabet, .int .i64 t.task.sys.states, ve, .int .i64 t.task.prop.alphabet, vn', va', .int .i64 t.task.alphabet] ∧ base ≤ mid ∧
  (∀ b, RowsB vs b ∨ SlB va b → base ≤ b ∧ b < mid) ∧ RowsMk base w vn vs (t.target.next.map List.length) 1 0 ∧ IntssOwn 80 3 base w vn t.target.next ∧ BoolsOwn 4 base w va t.target.accept ∧ EdgesOwn 87 mid w ve t.task.sys.edges ∧ IntssOwn 80 3 mid w vn' t.task.prop.next ∧ BoolsOwn 4 mid w va' t.task.prop.accept
theorem toTeacher_x (v : Value) (x : Teacher) (w : World) (hv : TeacherV w v x) (hn : szTch x ≤ 1048576) :
    Calls Tryz.prog 14 #[v] w (Gives (fun v w' => TeacherOwn2 (w.heap.size + 3) w' v x) w) := by
  obtain ⟨vn, va, ve, vn2, va2, rfl, h1, h2, h3, h4, h5⟩ := hv
  have hn1 : szAuto x.target ≤ 1048576 := by unfold szTch at hn; omega
  have hn2 : szTsk x.task ≤ 1048576 := by unfold szTch at hn; omega
  have hE : ∀ o1 o2 o3, Ext w (((w.alloc o1).alloc o2).alloc o3) := fun _ _ _ => ((Ext.alloc _ _).trans ((Ext.alloc _ _).trans (Ext.alloc _ _)))
  go_enter Tryz.func14, Tryz.ntmps14
  go_wp2_with fail
  refine (toAutomaton_c _ x.target _ ⟨vn, va, rfl, h1.mono (hE _ _ _), h2.mono (hE _ _ _)⟩ hn1).mono ?_
  rintro e w1 ⟨vs', rfl, he1, vn', va', rfl, hn', hm'⟩
  obtain ⟨an, cn, rfl⟩ := hn'.shape
  obtain ⟨am, cm, rfl⟩ := hm'.shape
  have b0 := he1.peel.peel.blk
  have b1 := he1.peel.blk1
  have b2 := he1.blk2
  have hw := he1.peel.peel.peel
  clear hE
  have hsz := b2.lt
  replace hn' := hn'.low (base' := w.heap.size + 3) (by simp)
  obtain ⟨vsT, r0⟩ := RowsMk.of_own hn' 1
  replace hm' := hm'.low (base' := w.heap.size + 3) (by simp)
  have hspan : ∀ b, RowsB vsT b ∨ SlB (.slice am x.target.accept.length cm) b → w.heap.size + 3 ≤ b ∧ b < w1.heap.size := fun b hb => hb.elim (r0.span b) (own_span hm'.own b)
  have hs3 : w.heap.size + 3 ≤ w1.heap.size := by omega
  have gc0 := b2.cell 0 rfl; have gf0 := b2.fr 0; have gc1 := b2.cell 1 rfl; have gf1 := b2.fr 1; have gc2 := b2.cell 2 rfl; have gf2 := b2.fr 2; have gc3 := b2.cell 3 rfl; have gf3 := b2.fr 3; have gc4 := b2.cell 4 rfl; have gf4 := b2.fr 4; have gc5 := b2.cell 5 rfl; have gf5 := b2.fr 5; have gc6 := b2.cell 6 rfl; have gf6 := b2.fr 6; have gc7 := b2.cell 7 rfl; have gf7 := b2.fr 7; have gc8 := b2.cell 8 rfl; have gf8 := b2.fr 8; have gc9 := b2.cell 9 rfl; have gf9 := b2.fr 9; have gc10 := b2.cell 10 rfl; have gf10 := b2.fr 10
  have pc4 := b0.cell 4 rfl; have pc5 := b0.cell 5 rfl; have pc6 := b0.cell 6 rfl; have pc7 := b0.cell 7 rfl; have pc8 := b0.cell 8 rfl; have pc9 := b0.cell 9 rfl; have pc10 := b0.cell 10 rfl
  go_wp2_with fail
  refine (toTask_c _ x.task _ ⟨ve, vn2, va2, rfl, h3.mono (((hw.setCell (p := ⟨w.heap.size + 1 + 1, 1, none⟩) (by simp only []; omega) _).setCell (p := ⟨w.heap.size + 1 + 1, 2, none⟩) (by simp only []; omega) _).setCell (p := ⟨w.heap.size + 1 + 1, 3, none⟩) (by simp only []; omega) _), h4.mono (((hw.setCell (p := ⟨w.heap.size + 1 + 1, 1, none⟩) (by simp only []; omega) _).setCell (p := ⟨w.heap.size + 1 + 1, 2, none⟩) (by simp only []; omega) _).setCell (p := ⟨w.heap.size + 1 + 1, 3, none⟩) (by simp only []; omega) _), h5.mono (((hw.setCell (p := ⟨w.heap.size + 1 + 1, 1, none⟩) (by simp only []; omega) _).setCell (p := ⟨w.heap.size + 1 + 1, 2, none⟩) (by simp only []; omega) _).setCell (p := ⟨w.heap.size + 1 + 1, 3, none⟩) (by simp only []; omega) _)⟩ hn2).mono ?_
  rintro e w2 ⟨vt2, rfl, he2, ve', vn', va', rfl, hc', ha', hb'⟩
  obtain ⟨ac, cc, rfl⟩ := hc'.shape
  obtain ⟨aa, ca, rfl⟩ := ha'.shape
  obtain ⟨ab, cb, rfl⟩ := hb'.shape
  replace hw := (((hw.setCell (p := ⟨w.heap.size + 1 + 1, 1, none⟩) (by simp only []; omega) _).setCell (p := ⟨w.heap.size + 1 + 1, 2, none⟩) (by simp only []; omega) _).setCell (p := ⟨w.heap.size + 1 + 1, 3, none⟩) (by simp only []; omega) _).trans he2
  have hsz2 := he2.size
  simp only [World.size_setCell] at hsz2
  replace b1 := (((b1.other (p := ⟨w.heap.size + 1 + 1, 1, none⟩) (by simp only []; omega) _).other (p := ⟨w.heap.size + 1 + 1, 2, none⟩) (by simp only []; omega) _).other (p := ⟨w.heap.size + 1 + 1, 3, none⟩) (by simp only []; omega) _).ext he2
  replace b2 := (((b2.set 1 _).set 2 _).set 3 _).ext he2
  replace hn' := (((hn'.set (p := ⟨w.heap.size + 1 + 1, 1, none⟩) (by simp only []; omega) _).set (p := ⟨w.heap.size + 1 + 1, 2, none⟩) (by simp only []; omega) _).set (p := ⟨w.heap.size + 1 + 1, 3, none⟩) (by simp only []; omega) _).ext he2
  replace r0 := (((r0.set (p := ⟨w.heap.size + 1 + 1, 1, none⟩) (by simp only []; omega) _).set (p := ⟨w.heap.size + 1 + 1, 2, none⟩) (by simp only []; omega) _).set (p := ⟨w.heap.size + 1 + 1, 3, none⟩) (by simp only []; omega) _).ext he2
  replace hm' := (((hm'.set (p := ⟨w.heap.size + 1 + 1, 1, none⟩) (by simp only []; omega) _).set (p := ⟨w.heap.size + 1 + 1, 2, none⟩) (by simp only []; omega) _).set (p := ⟨w.heap.size + 1 + 1, 3, none⟩) (by simp only []; omega) _).ext he2
  replace ha' := ha'.low (base' := w1.heap.size) (by simp only [World.size_setCell]; omega)
  replace hb' := hb'.low (base' := w1.heap.size) (by simp only [World.size_setCell]; omega)
  replace hc' := hc'.low (base' := w1.heap.size) (by simp only [World.size_setCell]; omega)
  clear gc0 gf0 gc1 gf1 gc2 gf2 gc3 gf3 gc4 gf4 gc5 gf5 gc6 gf6 gc7 gf7 gc8 gf8 gc9 gf9 gc10 gf10 pc4 pc5 pc6 pc7 pc8 pc9 pc10
  have gc0 := b2.cell 0 rfl; have gf0 := b2.fr 0; have gc1 := b2.cell 1 rfl; have gf1 := b2.fr 1; have gc2 := b2.cell 2 rfl; have gf2 := b2.fr 2; have gc3 := b2.cell 3 rfl; have gf3 := b2.fr 3; have gc4 := b2.cell 4 rfl; have gf4 := b2.fr 4; have gc5 := b2.cell 5 rfl; have gf5 := b2.fr 5; have gc6 := b2.cell 6 rfl; have gf6 := b2.fr 6; have gc7 := b2.cell 7 rfl; have gf7 := b2.fr 7; have gc8 := b2.cell 8 rfl; have gf8 := b2.fr 8; have gc9 := b2.cell 9 rfl; have gf9 := b2.fr 9; have gc10 := b2.cell 10 rfl; have gf10 := b2.fr 10
  have ec0 := b1.cell 0 rfl; have ef0 := b1.fr 0; have ec1 := b1.cell 1 rfl; have ef1 := b1.fr 1; have ec2 := b1.cell 2 rfl; have ef2 := b1.fr 2; have ec3 := b1.cell 3 rfl; have ef3 := b1.fr 3; have ec4 := b1.cell 4 rfl; have ef4 := b1.fr 4; have ec5 := b1.cell 5 rfl; have ef5 := b1.fr 5; have ec6 := b1.cell 6 rfl; have ef6 := b1.fr 6; have ec7 := b1.cell 7 rfl; have ef7 := b1.fr 7; have ec8 := b1.cell 8 rfl; have ef8 := b1.fr 8; have ec9 := b1.cell 9 rfl; have ef9 := b1.fr 9; have ec10 := b1.cell 10 rfl; have ef10 := b1.fr 10
  go_wp2_with fail
  refine bodyPost_ret (v := .agg #[.bool x.known, .int .i64 x.target.alphabet, .slice an x.target.next.length cn, .slice am x.target.accept.length cm, .int .i64 x.task.sys.alphabet, .int .i64 x.task.sys.states, .slice ac x.task.sys.edges.length cc, .int .i64 x.task.prop.alphabet, .slice aa x.task.prop.next.length ca, .slice ab x.task.prop.accept.length cb, .int .i64 x.task.alphabet]) (by simp [results, Tryz.results14, go_sem, gc0, gf0, ec0, ef0, gc1, gf1, ec1, ef1, gc2, gf2, ec2, ef2, gc3, gf3, ec3, ef3, gc4, gf4, ec4, ef4, gc5, gf5, ec5, ef5, gc6, gf6, ec6, ef6, gc7, gf7, ec7, ef7, gc8, gf8, ec8, ef8, gc9, gf9, ec9, ef9, gc10, gf10, ec10, ef10]) rfl ?_
  exact ⟨_, rfl, ((((((((((((((((((hw.setCell (p := ⟨w.heap.size + 1 + 1, 4, none⟩) (by simp only []; omega) _).setCell (p := ⟨w.heap.size + 1 + 1, 5, none⟩) (by simp only []; omega) _).setCell (p := ⟨w.heap.size + 1 + 1, 6, none⟩) (by simp only []; omega) _).setCell (p := ⟨w.heap.size + 1 + 1, 7, none⟩) (by simp only []; omega) _).setCell (p := ⟨w.heap.size + 1 + 1, 8, none⟩) (by simp only []; omega) _).setCell (p := ⟨w.heap.size + 1 + 1, 9, none⟩) (by simp only []; omega) _).setCell (p := ⟨w.heap.size + 1 + 1, 10, none⟩) (by simp only []; omega) _).setCell (p := ⟨w.heap.size + 1, 0, none⟩) (by simp only []; omega) _).setCell (p := ⟨w.heap.size + 1, 1, none⟩) (by simp only []; omega) _).setCell (p := ⟨w.heap.size + 1, 2, none⟩) (by simp only []; omega) _).setCell (p := ⟨w.heap.size + 1, 3, none⟩) (by simp only []; omega) _).setCell (p := ⟨w.heap.size + 1, 4, none⟩) (by simp only []; omega) _).setCell (p := ⟨w.heap.size + 1, 5, none⟩) (by simp only []; omega) _).setCell (p := ⟨w.heap.size + 1, 6, none⟩) (by simp only []; omega) _).setCell (p := ⟨w.heap.size + 1, 7, none⟩) (by simp only []; omega) _).setCell (p := ⟨w.heap.size + 1, 8, none⟩) (by simp only []; omega) _).setCell (p := ⟨w.heap.size + 1, 9, none⟩) (by simp only []; omega) _).setCell (p := ⟨w.heap.size + 1, 10, none⟩) (by simp only []; omega) _), w1.heap.size, _, _, _, _, _, vsT, rfl, hs3, hspan, (((((((((((((((((((r0.set (p := ⟨w.heap.size + 1 + 1, 4, none⟩) (by simp only []; omega) _).set (p := ⟨w.heap.size + 1 + 1, 5, none⟩) (by simp only []; omega) _).set (p := ⟨w.heap.size + 1 + 1, 6, none⟩) (by simp only []; omega) _).set (p := ⟨w.heap.size + 1 + 1, 7, none⟩) (by simp only []; omega) _).set (p := ⟨w.heap.size + 1 + 1, 8, none⟩) (by simp only []; omega) _).set (p := ⟨w.heap.size + 1 + 1, 9, none⟩) (by simp only []; omega) _).set (p := ⟨w.heap.size + 1 + 1, 10, none⟩) (by simp only []; omega) _).set (p := ⟨w.heap.size + 1, 0, none⟩) (by simp only []; omega) _).set (p := ⟨w.heap.size + 1, 1, none⟩) (by simp only []; omega) _).set (p := ⟨w.heap.size + 1, 2, none⟩) (by simp only []; omega) _).set (p := ⟨w.heap.size + 1, 3, none⟩) (by simp only []; omega) _).set (p := ⟨w.heap.size + 1, 4, none⟩) (by simp only []; omega) _).set (p := ⟨w.heap.size + 1, 5, none⟩) (by simp only []; omega) _).set (p := ⟨w.heap.size + 1, 6, none⟩) (by simp only []; omega) _).set (p := ⟨w.heap.size + 1, 7, none⟩) (by simp only []; omega) _).set (p := ⟨w.heap.size + 1, 8, none⟩) (by simp only []; omega) _).set (p := ⟨w.heap.size + 1, 9, none⟩) (by simp only []; omega) _).set (p := ⟨w.heap.size + 1, 10, none⟩) (by simp only []; omega) _)), (((((((((((((((((((hn'.set (p := ⟨w.heap.size + 1 + 1, 4, none⟩) (by simp only []; omega) _).set (p := ⟨w.heap.size + 1 + 1, 5, none⟩) (by simp only []; omega) _).set (p := ⟨w.heap.size + 1 + 1, 6, none⟩) (by simp only []; omega) _).set (p := ⟨w.heap.size + 1 + 1, 7, none⟩) (by simp only []; omega) _).set (p := ⟨w.heap.size + 1 + 1, 8, none⟩) (by simp only []; omega) _).set (p := ⟨w.heap.size + 1 + 1, 9, none⟩) (by simp only []; omega) _).set (p := ⟨w.heap.size + 1 + 1, 10, none⟩) (by simp only []; omega) _).set (p := ⟨w.heap.size + 1, 0, none⟩) (by simp only []; omega) _).set (p := ⟨w.heap.size + 1, 1, none⟩) (by simp only []; omega) _).set (p := ⟨w.heap.size + 1, 2, none⟩) (by simp only []; omega) _).set (p := ⟨w.heap.size + 1, 3, none⟩) (by simp only []; omega) _).set (p := ⟨w.heap.size + 1, 4, none⟩) (by simp only []; omega) _).set (p := ⟨w.heap.size + 1, 5, none⟩) (by simp only []; omega) _).set (p := ⟨w.heap.size + 1, 6, none⟩) (by simp only []; omega) _).set (p := ⟨w.heap.size + 1, 7, none⟩) (by simp only []; omega) _).set (p := ⟨w.heap.size + 1, 8, none⟩) (by simp only []; omega) _).set (p := ⟨w.heap.size + 1, 9, none⟩) (by simp only []; omega) _).set (p := ⟨w.heap.size + 1, 10, none⟩) (by simp only []; omega) _)), (((((((((((((((((((hm'.set (p := ⟨w.heap.size + 1 + 1, 4, none⟩) (by simp only []; omega) _).set (p := ⟨w.heap.size + 1 + 1, 5, none⟩) (by simp only []; omega) _).set (p := ⟨w.heap.size + 1 + 1, 6, none⟩) (by simp only []; omega) _).set (p := ⟨w.heap.size + 1 + 1, 7, none⟩) (by simp only []; omega) _).set (p := ⟨w.heap.size + 1 + 1, 8, none⟩) (by simp only []; omega) _).set (p := ⟨w.heap.size + 1 + 1, 9, none⟩) (by simp only []; omega) _).set (p := ⟨w.heap.size + 1 + 1, 10, none⟩) (by simp only []; omega) _).set (p := ⟨w.heap.size + 1, 0, none⟩) (by simp only []; omega) _).set (p := ⟨w.heap.size + 1, 1, none⟩) (by simp only []; omega) _).set (p := ⟨w.heap.size + 1, 2, none⟩) (by simp only []; omega) _).set (p := ⟨w.heap.size + 1, 3, none⟩) (by simp only []; omega) _).set (p := ⟨w.heap.size + 1, 4, none⟩) (by simp only []; omega) _).set (p := ⟨w.heap.size + 1, 5, none⟩) (by simp only []; omega) _).set (p := ⟨w.heap.size + 1, 6, none⟩) (by simp only []; omega) _).set (p := ⟨w.heap.size + 1, 7, none⟩) (by simp only []; omega) _).set (p := ⟨w.heap.size + 1, 8, none⟩) (by simp only []; omega) _).set (p := ⟨w.heap.size + 1, 9, none⟩) (by simp only []; omega) _).set (p := ⟨w.heap.size + 1, 10, none⟩) (by simp only []; omega) _)), (((((((((((((((((((hc'.set (p := ⟨w.heap.size + 1 + 1, 4, none⟩) (by simp only []; omega) _).set (p := ⟨w.heap.size + 1 + 1, 5, none⟩) (by simp only []; omega) _).set (p := ⟨w.heap.size + 1 + 1, 6, none⟩) (by simp only []; omega) _).set (p := ⟨w.heap.size + 1 + 1, 7, none⟩) (by simp only []; omega) _).set (p := ⟨w.heap.size + 1 + 1, 8, none⟩) (by simp only []; omega) _).set (p := ⟨w.heap.size + 1 + 1, 9, none⟩) (by simp only []; omega) _).set (p := ⟨w.heap.size + 1 + 1, 10, none⟩) (by simp only []; omega) _).set (p := ⟨w.heap.size + 1, 0, none⟩) (by simp only []; omega) _).set (p := ⟨w.heap.size + 1, 1, none⟩) (by simp only []; omega) _).set (p := ⟨w.heap.size + 1, 2, none⟩) (by simp only []; omega) _).set (p := ⟨w.heap.size + 1, 3, none⟩) (by simp only []; omega) _).set (p := ⟨w.heap.size + 1, 4, none⟩) (by simp only []; omega) _).set (p := ⟨w.heap.size + 1, 5, none⟩) (by simp only []; omega) _).set (p := ⟨w.heap.size + 1, 6, none⟩) (by simp only []; omega) _).set (p := ⟨w.heap.size + 1, 7, none⟩) (by simp only []; omega) _).set (p := ⟨w.heap.size + 1, 8, none⟩) (by simp only []; omega) _).set (p := ⟨w.heap.size + 1, 9, none⟩) (by simp only []; omega) _).set (p := ⟨w.heap.size + 1, 10, none⟩) (by simp only []; omega) _)), (((((((((((((((((((ha'.set (p := ⟨w.heap.size + 1 + 1, 4, none⟩) (by simp only []; omega) _).set (p := ⟨w.heap.size + 1 + 1, 5, none⟩) (by simp only []; omega) _).set (p := ⟨w.heap.size + 1 + 1, 6, none⟩) (by simp only []; omega) _).set (p := ⟨w.heap.size + 1 + 1, 7, none⟩) (by simp only []; omega) _).set (p := ⟨w.heap.size + 1 + 1, 8, none⟩) (by simp only []; omega) _).set (p := ⟨w.heap.size + 1 + 1, 9, none⟩) (by simp only []; omega) _).set (p := ⟨w.heap.size + 1 + 1, 10, none⟩) (by simp only []; omega) _).set (p := ⟨w.heap.size + 1, 0, none⟩) (by simp only []; omega) _).set (p := ⟨w.heap.size + 1, 1, none⟩) (by simp only []; omega) _).set (p := ⟨w.heap.size + 1, 2, none⟩) (by simp only []; omega) _).set (p := ⟨w.heap.size + 1, 3, none⟩) (by simp only []; omega) _).set (p := ⟨w.heap.size + 1, 4, none⟩) (by simp only []; omega) _).set (p := ⟨w.heap.size + 1, 5, none⟩) (by simp only []; omega) _).set (p := ⟨w.heap.size + 1, 6, none⟩) (by simp only []; omega) _).set (p := ⟨w.heap.size + 1, 7, none⟩) (by simp only []; omega) _).set (p := ⟨w.heap.size + 1, 8, none⟩) (by simp only []; omega) _).set (p := ⟨w.heap.size + 1, 9, none⟩) (by simp only []; omega) _).set (p := ⟨w.heap.size + 1, 10, none⟩) (by simp only []; omega) _)), (((((((((((((((((((hb'.set (p := ⟨w.heap.size + 1 + 1, 4, none⟩) (by simp only []; omega) _).set (p := ⟨w.heap.size + 1 + 1, 5, none⟩) (by simp only []; omega) _).set (p := ⟨w.heap.size + 1 + 1, 6, none⟩) (by simp only []; omega) _).set (p := ⟨w.heap.size + 1 + 1, 7, none⟩) (by simp only []; omega) _).set (p := ⟨w.heap.size + 1 + 1, 8, none⟩) (by simp only []; omega) _).set (p := ⟨w.heap.size + 1 + 1, 9, none⟩) (by simp only []; omega) _).set (p := ⟨w.heap.size + 1 + 1, 10, none⟩) (by simp only []; omega) _).set (p := ⟨w.heap.size + 1, 0, none⟩) (by simp only []; omega) _).set (p := ⟨w.heap.size + 1, 1, none⟩) (by simp only []; omega) _).set (p := ⟨w.heap.size + 1, 2, none⟩) (by simp only []; omega) _).set (p := ⟨w.heap.size + 1, 3, none⟩) (by simp only []; omega) _).set (p := ⟨w.heap.size + 1, 4, none⟩) (by simp only []; omega) _).set (p := ⟨w.heap.size + 1, 5, none⟩) (by simp only []; omega) _).set (p := ⟨w.heap.size + 1, 6, none⟩) (by simp only []; omega) _).set (p := ⟨w.heap.size + 1, 7, none⟩) (by simp only []; omega) _).set (p := ⟨w.heap.size + 1, 8, none⟩) (by simp only []; omega) _).set (p := ⟨w.heap.size + 1, 9, none⟩) (by simp only []; omega) _).set (p := ⟨w.heap.size + 1, 10, none⟩) (by simp only []; omega) _))⟩


theorem own_upX {S : Nat → Prop} {w w' : World} {base : Nat} {e : TypeId} {sz n : Nat} {v : Value} {xs : List Value} (h : w.ownsRow base e sz v n xs) (ht : Tnd S w w') (hS : ∀ b, S b → b < base) : w'.ownsRow base e sz v n xs :=
  ht.own h fun g hg hs => by have h1 := (World.ownsRow.lt h g hg).1; have h2 := hS g hs; omega
theorem intss_upX {S : Nat → Prop} {w w' : World} {base : Nat} {v : Value} {ll : List (List Int)} (h : IntssOwn 80 3 base w v ll) (ht : Tnd S w w') (hS : ∀ b, S b → b < base) : IntssOwn 80 3 base w' v ll :=
  let ⟨vs, h1, h2, h3⟩ := h; ⟨vs, own_upX h1 ht hS, ⟨h2.len, fun j x l hx hl => own_upX (h2.row j x l hx hl) ht hS, h2.apart⟩, h3⟩
theorem markTask_w (v : Value) (t : Task) (n : Int) (base : Nat) (S : Nat → Prop) (w5 w : World) (h5 : TaskOwn base w5 v t) (ht : Tnd S w5 w) (hS : ∀ b, S b → b < base) (hn : 0 ≤ n) (hs0 : t.sys.edges.length ≤ 1048576) (hs : t.prop.next.length + (t.prop.next.map List.length).sum ≤ 1048576) (hs2 : t.prop.accept.length ≤ 1048576) (hn2 : n ≤ 274877906944) :
    Calls Tryz.prog 59 #[v, .int .i64 n] w (fun e w' => e = .returned (.int .i64 (n + (t.sys.edges.length * 3 : Nat) + (t.prop.next.map List.length).sum + t.prop.accept.length)) ∧ Tnd (Span base w5.heap.size) w w' ∧ TaskMk base w' v t.sys.edges.length (t.prop.next.map List.length) t.prop.accept.length n) := by
  obtain ⟨ve, vn, va, rfl, h15, h25, h35⟩ := h5
  have h1 : EdgesOwn 87 base w ve t.sys.edges := own_upX h15.own ht hS
  have h2 : IntssOwn 80 3 base w vn t.prop.next := intss_upX h25 ht hS
  have h3 : BoolsOwn 4 base w va t.prop.accept := own_upX h35.own ht hS
  have hzx := ht.size
  obtain ⟨vs, hr5⟩ := RowsMk.of_own h25 (n + (t.sys.edges.length * 3 : Nat))
  have hr := rowsMk_up hr5 ht hS
  have s1 := own_span h15.own
  have s2 := hr5.span
  have s3 := own_span h35.own
  have hl : (t.prop.next.map List.length).length = t.prop.next.length := by simp
  rw [← hl] at hs
  have HL := Lib.hid hl
  clear hl
  obtain ⟨ae, ce, rfl⟩ := h1.shape
  obtain ⟨an, cn, rfl⟩ := h2.shape
  obtain ⟨aa, ca, rfl⟩ := h3.shape
  go_enter Tryz.func59, Tryz.ntmps59
  go_wp2_with fail
  refine (markSystem_x (own_ext h1.own (Ext.alloc _ _)) hn hs0 (by omega)).mono ?_
  rintro e w1 ⟨rfl, hg, hm⟩
  have hB := (Blk.new w _ _).tnd hg (fun h => by have := (s1 _ h).2; omega)
  have c3 := hB.cell 3 rfl
  have c4 := hB.cell 4 rfl
  have c5 := hB.cell 5 rfl
  have r1 := (hr.ext (Ext.alloc w (.cells #[.int .i64 t.sys.alphabet, .int .i64 t.sys.states, .slice ae t.sys.edges.length ce, .int .i64 t.prop.alphabet, .slice an t.prop.next.length cn, .slice aa t.prop.accept.length ca, .int .i64 t.alphabet] 57))).tnd hg (fun b hb hs => own_apart h2.choose_spec.1 h1.own (by decide) b hb hs) (fun b hb hs => hr.apart_of h1.own (by decide) b hs hb)
  have a1 := hg.own (own_ext h3.own (Ext.alloc w _)) (fun b hb hs => own_apart h3.own h1.own (by decide) b hb hs)
  go_wp2_with fail
  refine (markAutomaton_x r1 a1 (by omega) hs hs2 (by omega)).mono ?_
  rintro e w2 ⟨rfl, hg2, hm2, hm3⟩
  go_wp2_with fail
  go_ret
  refine ⟨rfl, ((Tnd.ext (Ext.alloc _ _)).trans (hg.imp s1)).trans (hg2.imp fun b hb => hb.elim (s2 b) (s3 b)), _, _, _, _, _, _, vs, _, rfl, ?_, hm2, hm3⟩
  exact hg2.own hm fun b hb hs => hs.elim (fun hs => r1.apart_of hm (by decide) b hb hs) (fun hs => own_apart hm a1 (by decide) b hb hs)


theorem markTeacher_x (v : Value) (t : Teacher) (base : Nat) (w5 w : World) (h : TeacherOwn2 base w5 v t) (hx : Ext w5 w) (hsz : szTch t ≤ 1048576) :
    Calls Tryz.prog 18 #[v, .int .i64 1] w (fun e w' => ∃ r : Int, 0 ≤ r ∧ e = .returned (.int .i64 r) ∧ Tnd (Span base w5.heap.size) w w') := by
  obtain ⟨mid, vn, va, ve, vn', va', vs, rfl, hmid, hsp, hr5, hn5, ha5, he5, hn5', ha5'⟩ := h
  have hA1 : t.target.next.length + (t.target.next.map List.length).sum ≤ 1048576 := by unfold szTch szAuto szss at hsz; omega
  have hA2 : t.target.accept.length ≤ 1048576 := by unfold szTch szAuto szss at hsz; omega
  have hT0 : t.task.sys.edges.length ≤ 1048576 := by unfold szTch szTsk szSys at hsz; omega
  have hT1 : t.task.prop.next.length + (t.task.prop.next.map List.length).sum ≤ 1048576 := by unfold szTch szTsk szAuto szss at hsz; omega
  have hT2 : t.task.prop.accept.length ≤ 1048576 := by unfold szTch szTsk szAuto szss at hsz; omega
  have hml : mid ≤ w5.heap.size ∨ w5.heap.size < mid := by omega
  have hzx := hx.size
  have hspr := hr5.span
  have hspa := own_span ha5.own
  have hS5 : ∀ b, RowsB vs b ∨ SlB va b → Span base w5.heap.size b := fun b hb => hb.elim (hspr b) (hspa b)
  obtain ⟨kn, hkn⟩ : ∃ kn : Int, (1 : Int) + ((t.target.next.map List.length).sum : Nat) + (t.target.accept.length : Nat) = kn := ⟨_, rfl⟩
  have hk0 : 0 ≤ kn ∧ kn ≤ 3000000 := by omega
  obtain ⟨an, cn, rfl⟩ := hn5.shape
  obtain ⟨aa, ca, rfl⟩ := ha5.shape
  obtain ⟨ae, ce, rfl⟩ := he5.shape
  obtain ⟨an', cn', rfl⟩ := hn5'.shape
  obtain ⟨aa', ca', rfl⟩ := ha5'.shape
  obtain ⟨w0, hw0⟩ : ∃ w0, w0 = w.alloc (.cells #[.bool t.known, .int .i64 t.target.alphabet, .slice an t.target.next.length cn, .slice aa t.target.accept.length ca, .int .i64 t.task.sys.alphabet, .int .i64 t.task.sys.states, .slice ae t.task.sys.edges.length ce, .int .i64 t.task.prop.alphabet, .slice an' t.task.prop.next.length cn', .slice aa' t.task.prop.accept.length ca', .int .i64 t.task.alphabet] 59) := ⟨_, rfl⟩
  have he0 : Ext w w0 := by rw [hw0]; exact Ext.alloc _ _
  have b2 : Blk w0 w.heap.size #[.bool t.known, .int .i64 t.target.alphabet, .slice an t.target.next.length cn, .slice aa t.target.accept.length ca, .int .i64 t.task.sys.alphabet, .int .i64 t.task.sys.states, .slice ae t.task.sys.edges.length ce, .int .i64 t.task.prop.alphabet, .slice an' t.task.prop.next.length cn', .slice aa' t.task.prop.accept.length ca', .int .i64 t.task.alphabet] 59 := by rw [hw0]; exact Blk.new _ _ _
  have hx0 := hx.trans he0
  have HM := Lib.hid (markAutomaton_x (al := t.target.alphabet) (hr5.ext hx0) (own_ext ha5.own hx0) (by omega) (by rw [List.length_map]; exact hA1) hA2 (by omega))
  rw [hkn] at HM
  go_enter Tryz.func18, Tryz.ntmps18
  go_upto_region 1 with fail
  rw [← hw0]
  clear hw0
  have b2_0 := b2.cell 0 rfl; have b2_1 := b2.cell 1 rfl; have b2_2 := b2.cell 2 rfl; have b2_3 := b2.cell 3 rfl; have b2_4 := b2.cell 4 rfl; have b2_5 := b2.cell 5 rfl; have b2_6 := b2.cell 6 rfl; have b2_7 := b2.cell 7 rfl; have b2_8 := b2.cell 8 rfl; have b2_9 := b2.cell 9 rfl; have b2_10 := b2.cell 10 rfl
  go_wp2_with fail
  refine HM.out.mono ?_
  rintro e w1 ⟨rfl, hg, -, -⟩
  have hB := b2.tnd hg (fun h => by have := hS5 _ h; unfold Span at this; omega)
  have hMT := markTask_w (.agg #[.int .i64 t.task.sys.alphabet, .int .i64 t.task.sys.states, .slice ae t.task.sys.edges.length ce, .int .i64 t.task.prop.alphabet, .slice an' t.task.prop.next.length cn', .slice aa' t.task.prop.accept.length ca', .int .i64 t.task.alphabet]) t.task kn mid _ w5 w1 ⟨_, _, _, rfl, he5, hn5', ha5'⟩ ((Tnd.ext hx0).trans hg) (fun b hb => (hsp b hb).2) hk0.1 hT0 hT1 hT2 (by omega)
  have HMT := Lib.hid hMT
  have hT : Tnd (Span base w5.heap.size) w w1 := (Tnd.ext he0).trans (hg.imp hS5)
  clear hMT hg b2_0 b2_1 b2_2 b2_3 b2_4 b2_5 b2_6 b2_7 b2_8 b2_9 b2_10
  have b2_0 := hB.cell 0 rfl; have b2_1 := hB.cell 1 rfl; have b2_2 := hB.cell 2 rfl; have b2_3 := hB.cell 3 rfl; have b2_4 := hB.cell 4 rfl; have b2_5 := hB.cell 5 rfl; have b2_6 := hB.cell 6 rfl; have b2_7 := hB.cell 7 rfl; have b2_8 := hB.cell 8 rfl; have b2_9 := hB.cell 9 rfl; have b2_10 := hB.cell 10 rfl
  go_wp2_with fail
  refine HMT.out.mono ?_
  rintro e w2 ⟨rfl, hg2, -⟩
  go_wp2_with fail
  go_ret
  exact ⟨_, by omega, rfl, hT.trans (hg2.imp fun b hb => ⟨Nat.le_trans hmid hb.1, hb.2⟩)⟩
end Go.Proofs.YtanekmfifmkbmaaGreatDoor
