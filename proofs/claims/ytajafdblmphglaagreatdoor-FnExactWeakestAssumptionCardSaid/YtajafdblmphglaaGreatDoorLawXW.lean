/- FnExactWeakestAssumption: for every task the program's WeakestAssumption returns what the reference's returns, in memory of its own, and leaves its argument as it was. No condition beyond what the given row bears. The walk. -/
import Derived.Test.YtajafdblmphglaaGreatDoorWalkH
import Derived.Test.YtajafdblmphglaaGreatDoorWalkA
import Derived.Test.YtajafdblmphglaaGreatDoorWalkE
import Derived.Test.YtajafdblmphglaaGreatDoorWalkP
import Derived.Test.YtajafdblmphglaaGreatDoorRead
import Derived.Test.YtajafdblmphglaaGreatDoorWalkWs
namespace Go.Proofs.YtajafdblmphglaaGreatDoor.lawFnExactWeakestAssumption
set_option linter.unusedSimpArgs false
set_option linter.unusedVariables false
open Go.ChangeShapes Go.WideShapes Go.ChangeAt Go.RowKit
open Go.Proofs.YtajafdblmphglaaGreatDoor
set_option linter.unusedVariables false
set_option maxHeartbeats 1600000
set_option maxRecDepth 100000

theorem own_up {S : Nat → Prop} {w w' : World} {base : Nat} {e : TypeId} {sz n : Nat} {v : Value} {xs : List Value} (h : w.ownsRow base e sz v n xs) (ht : Tnd S w w') (hS : ∀ b, S b → b < base) : w'.ownsRow base e sz v n xs :=
  ht.own h fun g hg hs => by have h1 := (World.ownsRow.lt h g hg).1; have h2 := hS g hs; omega
theorem intss_up {S : Nat → Prop} {w w' : World} {base : Nat} {v : Value} {ll : List (List Int)} (h : IntssOwn 81 3 base w v ll) (ht : Tnd S w w') (hS : ∀ b, S b → b < base) : IntssOwn 81 3 base w' v ll :=
  let ⟨vs, h1, h2, h3⟩ := h; ⟨vs, own_up h1 ht hS, ⟨h2.len, fun j x l hx hl => own_up (h2.row j x l hx hl) ht hS, h2.apart⟩, h3⟩
theorem rows_up {S : Nat → Prop} {w w' : World} {base : Nat} {v : Value} {vs : List Value} {ks : List Nat} {n : Int} {j : Nat} (h : RowsMk base w v vs ks n j) (ht : Tnd S w w') (hS : ∀ b, S b → b < base) : RowsMk base w' v vs ks n j :=
  h.tnd ht (fun b hb hs => by have h1 := (World.ownsRow.lt h.own b hb).1; have h2 := hS b hs; omega) fun b hb hs => by have h1 := (h.span b hb).1; have h2 := hS b hs; omega
theorem ext_up {S : Nat → Prop} {w0 w w' : World} (h : Ext w0 w) (ht : Tnd S w w') (hS : ∀ b, S b → w0.heap.size ≤ b) : Ext w0 w' := Below.trans h (ht.below h.size hS)
theorem eqTask_t {v u : Value} {x : Task} {w : World} (hv : TaskV w v x) (hu : TaskV w u x) : Calls Tryz.prog 39 #[v, u] w (Grows (.bool true) w) := by
  have := eqTask_c v u x x w hv hu
  simpa using this
theorem auto_sizes {A : Auto} (ha : szAuto A ≤ 1048576) : A.next.length + (A.next.map List.length).sum ≤ 1048576 ∧ A.accept.length ≤ 1048576 := by
  unfold szAuto szss at ha
  exact ⟨by omega, by omega⟩
/-- The marks of a task, and where they are laid. -/
theorem markTask_x {al st pal tal kT : Int} {ve vn va : Value} {vs xs us : List Value} {ks : List Nat} {k m base : Nat} {w : World} (h1 : w.ownsRow base 77 3 ve k xs) (hr : RowsMk base w vn vs ks kT 0) (h3 : w.ownsRow base 4 1 va m us)
    (hk : 1 + ((k * 3 : Nat) : Int) = kT) (hs0 : k ≤ 1048576) (hs : ks.length + ks.sum ≤ 1048576) (hs2 : m ≤ 1048576) :
    Calls Tryz.prog 40 #[.agg #[.int .i64 al, .int .i64 st, ve, .int .i64 pal, vn, va, .int .i64 tal], .int .i64 1] w (fun e w' => e = .returned (.int .i64 (1 + ((k * 3 : Nat) : Int) + (ks.sum : Nat) + (m : Nat))) ∧ Tnd (fun b => SlB ve b ∨ RowsB vs b ∨ SlB va b) w w' ∧ TaskMk base w' (.agg #[.int .i64 al, .int .i64 st, ve, .int .i64 pal, vn, va, .int .i64 tal]) k ks m 1) := by
  subst hk
  have s1 := own_span h1
  obtain ⟨ae, ce, rfl⟩ := own_any h1
  obtain ⟨an, cn, rfl⟩ := own_any hr.own
  obtain ⟨aa, ca, rfl⟩ := own_any h3
  go_enter Tryz.func40, Tryz.ntmps40
  go_wp2_with fail
  refine (markSystem_x (own_ext h1 (Ext.alloc _ _)) (by omega) hs0 (by omega)).mono ?_
  rintro e w1 ⟨rfl, hg, hm⟩
  have hB := (Blk.new w _ _).tnd hg (fun h => by have := (s1 _ h).2; omega)
  have c3 := hB.cell 3 rfl
  have c4 := hB.cell 4 rfl
  have c5 := hB.cell 5 rfl
  have r1 := (hr.ext (Ext.alloc w (.cells #[.int .i64 al, .int .i64 st, .slice ae k ce, .int .i64 pal, .slice an ks.length cn, .slice aa m ca, .int .i64 tal] 44))).tnd hg (fun b hb hs => own_apart hr.own h1 (by decide) b hb hs) (fun b hb hs => hr.apart_of h1 (by decide) b hs hb)
  have a1 := hg.own (own_ext h3 (Ext.alloc w _)) (fun b hb hs => own_apart h3 h1 (by decide) b hb hs)
  go_wp2_with fail
  refine (markAutomaton_x r1 a1 (by omega) hs hs2 (by omega)).mono ?_
  rintro e w2 ⟨rfl, hg2, hm2, hm3⟩
  go_wp2_with fail
  go_ret
  refine ⟨rfl, ((Tnd.ext (Ext.alloc _ _)).trans (hg.imp fun b h => .inl h)).trans (hg2.imp fun b hb => .inr hb), _, _, _, _, _, _, vs, _, rfl, ?_, hm2, hm3⟩
  exact hg2.own hm fun b hb hs => hs.elim (fun hs => r1.apart_of hm (by decide) b hb hs) (fun hs => own_apart hm a1 (by decide) b hb hs)
theorem eqAuto_t {v u : Value} {x : Auto} {w : World} (hv : AutoV w v x) (hu : AutoV w u x) : Calls Tryz.prog 38 #[v, u] w (Grows (.bool true) w) := by
  have := eqAutomaton_c v u x x w hv hu
  simpa using this
open Classical in
noncomputable def weakOf (t : Task) : Option Auto := if h : ∃ r, WeakR t r then h.choose else none
theorem weakOf_eq {t : Task} {r : Option Auto} (h : WeakR t r) : weakOf t = r := by
  unfold weakOf
  rw [dif_pos ⟨r, h⟩]
  exact (Exists.choose_spec (⟨r, h⟩ : ∃ r, WeakR t r)).unique h
def zeroA : Auto := ⟨0, [], []⟩
theorem mk_ext {base : Nat} {w w' : World} {v : Value} {ks : List Nat} {m : Nat} {n : Int} (h : AutoMk base w v ks m n) (he : Ext w w') : AutoMk base w' v ks m n := let ⟨a, b, c, d, e, h1, h2⟩ := h; ⟨a, b, c, d, e, h1.ext he, own_ext h2 he⟩
theorem zero_own (base : Nat) (w : World) : AutoOwn base w (.agg #[.int .i64 0, .slice none 0 0, .slice none 0 0]) zeroA :=
  Pool.auto (x := zeroA) (vs := []) (((Pool.nil base w).addNil 4 1).addNil 81 1) rfl
theorem weak_det {t : Task} {w w' : World} {e : Ending} (h : WeakEnd t w e w') : ∃ v', e = .returned (.tuple #[v', .bool (weakOf t).isSome]) ∧ Ext w w' ∧ AutoOwn w.heap.size w' v' ((weakOf t).getD zeroA) := by
  obtain ⟨r, hW, he, hr⟩ := h
  rw [weakOf_eq hW]
  rcases hr with ⟨rfl, rfl⟩ | ⟨B, v', rfl, rfl, hO⟩
  · exact ⟨_, rfl, he, zero_own _ _⟩
  · exact ⟨_, rfl, he, hO⟩
theorem sum_six (l : List (List Int)) (h : ∀ r ∈ l, r.length ≤ 6) : (l.map List.length).sum ≤ 6 * l.length := by
  induction l with
  | nil => simp
  | cons r l ih =>
    have h1 := h r (by simp)
    have h2 := ih fun x hx => h x (by simp [hx])
    simp only [List.map_cons, List.sum_cons, List.length_cons]
    omega
theorem weak_sizes (t : Task) (ht : ∃ r, WeakR t r) : ((weakOf t).getD zeroA).next.length + (((weakOf t).getD zeroA).next.map List.length).sum ≤ 1000 ∧ ((weakOf t).getD zeroA).accept.length ≤ 1000 := by
  obtain ⟨r, hW⟩ := ht
  rw [weakOf_eq hW]
  rcases hW with ⟨rfl, -⟩ | ⟨B, rfl, h1, -, h3, h4⟩
  · simp [zeroA]
  · have hv := h3.valid (taskValid_facts h1).2.2 h4
    obtain ⟨f1, f2, f3, f4, f5⟩ := autoValid_facts hv
    have h6 := sum_six B.next fun r hr => by
      obtain ⟨q, hq⟩ := List.getElem?_of_mem hr
      obtain ⟨row, k1, k2, -⟩ := autoValid_row hv (List.getElem?_eq_some_iff.1 hq).1
      rw [hq] at k1
      cases k1
      rw [k2]
      exact lettersTo_len _ 6
    show B.next.length + (B.next.map List.length).sum ≤ 1000 ∧ B.accept.length ≤ 1000
    omega

theorem walk (v : Value) (t : Task) (w : World) (hv : TaskV w v t) (hD : Deb w) : Calls Tryz.prog 10 #[v] w (Grows (.bool true) w) := by
  obtain ⟨ve, vn, va, rfl, h1, h2, h3⟩ := hv
  have hT : ∀ w', Ext w w' → TaskV w' (.agg #[.int .i64 t.sys.alphabet, .int .i64 t.sys.states, ve, .int .i64 t.prop.alphabet, vn, va, .int .i64 t.alphabet]) t := fun w' he => ⟨_, _, _, rfl, h1.mono he, h2.mono he, h3.mono he⟩
  have HT := Lib.hid hT
  have HDb := Lib.hid hD
  clear hT h1 h2 h3 hD
  go_enter Tryz.func10, Tryz.ntmps10
  go_wp2_with fail
  refine (szTask_s _ t _ _ (HT.out _ (Ext.alloc _ _)) (by omega) (by omega)).mono ?_
  rintro e w1 ⟨r, rfl, he1, hr⟩
  have b0 := he1.blk
  have hw := he1.peel
  rcases hr with rfl | ⟨hr0, hr⟩
  · go_wp2_with fail
    go_ret
    exact Grows.mk rfl hw
  have hsz : szTsk t ≤ 1048576 := by have := hr.out; omega
  have hsS : szSys t.sys ≤ 1048576 := by unfold szTsk at hsz; omega
  have hs0 : t.sys.edges.length ≤ 1048576 := hsS
  have hA0 := auto_sizes (A := t.prop) (by unfold szTsk at hsz; omega)
  have HSZ := Lib.hid hsz
  have HA0 := Lib.hid hA0
  obtain ⟨R, hR⟩ : ∃ R, (weakOf t).getD zeroA = R := ⟨_, rfl⟩
  obtain ⟨bb, hbb⟩ : ∃ bb, (weakOf t).isSome = bb := ⟨_, rfl⟩
  have CS := Lib.hid (fun w' v' (h : TaskV w' v' t) => (by
    refine (WeakestAssumption_s v' t w' h hs0).mono fun e w'' hW => ?_
    have h9 := weak_det hW
    rw [hR, hbb] at h9
    obtain ⟨u, e1, e2, e3⟩ := h9
    obtain ⟨r, hr, -⟩ := hW
    have h8 := weak_sizes t ⟨r, hr⟩
    rw [hR] at h8
    exact ⟨u, e1, e2, e3, h8⟩ : Calls Tryz.prog 26 #[v'] w' (fun e w'' => ∃ u, e = .returned (.tuple #[u, .bool bb]) ∧ Ext w' w'' ∧ AutoOwn w'.heap.size w'' u R ∧ R.next.length + (R.next.map List.length).sum ≤ 1000 ∧ R.accept.length ≤ 1000)))
  have CP := Lib.hid (fun w' v' (h : TaskV w' v' t) (h' : Ext w w') => (by
    refine (WeakestAssumption_c v' t w' h (HDb.out.ext h')).mono fun e w'' hW => ?_
    have h9 := weak_det hW
    rwa [hR, hbb] at h9 : Calls Tryz.prog 22 #[v'] w' (fun e w'' => ∃ u, e = .returned (.tuple #[u, .bool bb]) ∧ Ext w' w'' ∧ AutoOwn w'.heap.size w'' u R)))
  clear hR hbb hsz hA0
  have cc0 := b0.cell 0 rfl; have cc1 := b0.cell 1 rfl; have cc2 := b0.cell 2 rfl; have cc3 := b0.cell 3 rfl; have cc4 := b0.cell 4 rfl; have cc5 := b0.cell 5 rfl; have cc6 := b0.cell 6 rfl
  go_wp2_with fail
  refine (toTask_c _ t _ (HT.out _ hw) HSZ.out).mono ?_
  rintro e w2 ⟨vt, rfl, he2, ht2⟩
  replace hw := hw.trans he2
  replace b0 := b0.ext he2
  clear cc0 cc1 cc2 cc3 cc4 cc5 cc6
  go_wp2_with fail
  refine (CS.out _ _ ht2.task).mono ?_
  rintro e w3 ⟨v3, rfl, he3, ho3, hRs⟩
  have HRS := Lib.hid hRs
  replace hw := hw.trans he3
  replace b0 := b0.ext he3
  clear hRs ht2 he2 he3
  obtain ⟨n3, a3, rfl, o31, o32⟩ := ho3
  obtain ⟨an3, cn3, rfl⟩ := o31.shape
  obtain ⟨aa3, ca3, rfl⟩ := o32.shape
  go_upto_region 6 with fail
  obtain ⟨w4, hw4⟩ : ∃ w4, w4 = w3.alloc (.cells #[.int .i64 R.alphabet, .slice an3 R.next.length cn3, .slice aa3 R.accept.length ca3] 29) := ⟨_, rfl⟩
  have x4 : Ext w3 w4 := by rw [hw4]; exact Ext.alloc _ _
  have b4 : Blk w4 w3.heap.size #[.int .i64 R.alphabet, .slice an3 R.next.length cn3, .slice aa3 R.accept.length ca3] 29 := by rw [hw4]; exact Blk.new _ _ _
  rw [← hw4]
  clear hw4
  replace hw := hw.trans x4
  replace b0 := b0.ext x4
  have k31 := o31.intss.mono x4
  have k32 := o32.bools.mono x4
  have HR4 := Lib.hid (show ∀ w', Ext w4 w' → AutoV w' (.agg #[.int .i64 R.alphabet, .slice an3 R.next.length cn3, .slice aa3 R.accept.length ca3]) R from fun w' h => ⟨_, _, rfl, k31.mono h, k32.mono h⟩)
  have y4 : Ext w4 w4 := Ext.refl _
  have l0 := b0.lt
  have l4 := b4.lt
  clear x4 o31 o32 k31 k32
  generalize w3.heap.size = p4 at b4 l4 ⊢
  have cc0 := b0.cell 0 rfl; have cc1 := b0.cell 1 rfl; have cc2 := b0.cell 2 rfl; have cc3 := b0.cell 3 rfl; have cc4 := b0.cell 4 rfl; have cc5 := b0.cell 5 rfl; have cc6 := b0.cell 6 rfl
  go_wp2_with fail
  refine (toTask_c _ t _ (HT.out _ hw) HSZ.out).mono ?_
  rintro e w5 ⟨vt5, rfl, he5, ht5⟩
  obtain ⟨e5, n5, a5, rfl, o50, o51, o52⟩ := ht5
  obtain ⟨xe, ye, rfl⟩ := o50.shape
  obtain ⟨xn, yn, rfl⟩ := o51.shape
  obtain ⟨xa, ya, rfl⟩ := o52.shape
  replace hw := hw.trans he5
  replace b0 := b0.ext he5
  replace b4 := b4.ext he5
  replace y4 := y4.trans he5
  have n45 := he5.size
  obtain ⟨kT, HKT⟩ : ∃ kT : Int, Hid (1 + ((t.sys.edges.length * 3 : Nat) : Int) = kT) := ⟨_, Lib.hid rfl⟩
  obtain ⟨vs5, r50⟩ := RowsMk.of_own o51 kT
  have hS5 : ∀ b, (SlB (.slice xe t.sys.edges.length ye) b ∨ RowsB vs5 b ∨ SlB (.slice xa t.prop.accept.length ya) b) → w4.heap.size ≤ b ∧ b < w5.heap.size := fun b hb => hb.elim (own_span o50.own b) fun hb => hb.elim (r50.span b) (own_span o52.own b)
  have HE5 := Lib.hid (show ∀ w', Ext w5 w' → EdgesOwn 77 w4.heap.size w' (.slice xe t.sys.edges.length ye) t.sys.edges from fun w' h => o50.ext h)
  have HN5 := Lib.hid (show ∀ w', Ext w5 w' → IntssOwn 81 3 w4.heap.size w' (.slice xn t.prop.next.length yn) t.prop.next from fun w' h => o51.ext h)
  have HR5 := Lib.hid (show ∀ w', Ext w5 w' → RowsMk w4.heap.size w' (.slice xn t.prop.next.length yn) vs5 (t.prop.next.map List.length) kT 0 from fun w' h => r50.ext h)
  have HA5 := Lib.hid (show ∀ w', Ext w5 w' → BoolsOwn 4 w4.heap.size w' (.slice xa t.prop.accept.length ya) t.prop.accept from fun w' h => o52.ext h)
  have HX5 := Lib.hid (show ∀ w', Ext w5 w' → TaskV w' (.agg #[.int .i64 t.sys.alphabet, .int .i64 t.sys.states, .slice xe t.sys.edges.length ye, .int .i64 t.prop.alphabet, .slice xn t.prop.next.length yn, .slice xa t.prop.accept.length ya, .int .i64 t.alphabet]) t from fun w' h => ⟨_, _, _, rfl, (HE5.out _ h).edges, (HN5.out _ h).intss, (HA5.out _ h).bools⟩)
  clear cc0 cc1 cc2 cc3 cc4 cc5 cc6 o50 o51 o52 r50 he5
  go_upto_region 7 with fail
  obtain ⟨w6, hw6⟩ : ∃ w6, w6 = w5.alloc (.cells #[.int .i64 t.sys.alphabet, .int .i64 t.sys.states, .slice xe t.sys.edges.length ye, .int .i64 t.prop.alphabet, .slice xn t.prop.next.length yn, .slice xa t.prop.accept.length ya, .int .i64 t.alphabet] 44) := ⟨_, rfl⟩
  have x6 : Ext w5 w6 := by rw [hw6]; exact Ext.alloc _ _
  have b6 : Blk w6 w5.heap.size #[.int .i64 t.sys.alphabet, .int .i64 t.sys.states, .slice xe t.sys.edges.length ye, .int .i64 t.prop.alphabet, .slice xn t.prop.next.length yn, .slice xa t.prop.accept.length ya, .int .i64 t.alphabet] 44 := by rw [hw6]; exact Blk.new _ _ _
  rw [← hw6]
  clear hw6
  replace hw := hw.trans x6
  replace b0 := b0.ext x6
  replace b4 := b4.ext x6
  replace y4 := y4.trans x6
  have y5 := x6
  have l6 := b6.lt
  have hwx6 := hw
  obtain ⟨p6, hp6⟩ : ∃ p6, w5.heap.size = p6 := ⟨_, rfl⟩
  rw [hp6] at b6 l6 hS5 n45 ⊢
  clear x6 hp6
  have g0 := b6.cell 0 rfl; have g1 := b6.cell 1 rfl; have g2 := b6.cell 2 rfl; have g3 := b6.cell 3 rfl; have g4 := b6.cell 4 rfl; have g5 := b6.cell 5 rfl; have g6 := b6.cell 6 rfl
  go_wp2_with fail
  refine (CP.out _ _ (HX5.out _ y5) hw).mono ?_
  rintro e w7 ⟨v7, rfl, he7, ho7⟩
  obtain ⟨n7, a7, rfl, o71, o72⟩ := ho7
  obtain ⟨an7, cn7, rfl⟩ := o71.shape
  obtain ⟨aa7, ca7, rfl⟩ := o72.shape
  replace b0 := b0.ext he7
  replace b4 := b4.ext he7
  replace b6 := b6.ext he7
  replace hw := hw.trans he7
  replace y4 := y4.trans he7
  replace y5 := y5.trans he7
  have n67 := he7.size
  obtain ⟨vs7, r70⟩ := RowsMk.of_own o71 1
  have hS7 : ∀ b, (RowsB vs7 b ∨ SlB (.slice aa7 R.accept.length ca7) b) → w6.heap.size ≤ b ∧ b < w7.heap.size := fun b hb => hb.elim (r70.span b) (own_span o72.own b)
  clear g0 g1 g2 g3 g4 g5 g6 he7
  go_upto_region 8 with fail
  obtain ⟨w8, hw8⟩ : ∃ w8, w8 = w7.alloc (.cells #[.int .i64 R.alphabet, .slice an7 R.next.length cn7, .slice aa7 R.accept.length ca7] 29) := ⟨_, rfl⟩
  have x8 : Ext w7 w8 := by rw [hw8]; exact Ext.alloc _ _
  have b7 : Blk w8 w7.heap.size #[.int .i64 R.alphabet, .slice an7 R.next.length cn7, .slice aa7 R.accept.length ca7] 29 := by rw [hw8]; exact Blk.new _ _ _
  rw [← hw8]
  clear hw8
  replace b0 := b0.ext x8
  replace b4 := b4.ext x8
  replace b6 := b6.ext x8
  replace hw := hw.trans x8
  replace y4 := y4.trans x8
  replace y5 := y5.trans x8
  have o71' := o71.ext x8
  have r7 := r70.ext x8
  have o72' := own_ext o72.own x8
  have l7 := b7.lt
  obtain ⟨p7, hp7⟩ : ∃ p7, w7.heap.size = p7 := ⟨_, rfl⟩
  rw [hp7] at b7 l7 hS7 n67 ⊢
  clear x8 hp7 o71 o72 r70
  have c0 := b7.cell 0 rfl; have c1 := b7.cell 1 rfl; have c2 := b7.cell 2 rfl
  have d0 := b4.cell 0 rfl; have d1 := b4.cell 1 rfl; have d2 := b4.cell 2 rfl
  have hq : (bb != bb) = false := by simp
  go_wp2_with fail
  refine (eqAuto_t (x := R) ⟨_, _, rfl, o71'.intss, BoolsOwn.bools o72'⟩ (HR4.out _ y4)).mono ?_
  rintro e w9 ⟨rfl, he9⟩
  replace b0 := b0.ext he9
  replace b4 := b4.ext he9
  replace b6 := b6.ext he9
  replace b7 := b7.ext he9
  replace hw := hw.trans he9
  replace y4 := y4.trans he9
  replace y5 := y5.trans he9
  replace o71' := o71'.ext he9
  replace r7 := r7.ext he9
  replace o72' := own_ext o72' he9
  clear c0 c1 c2 d0 d1 d2 he9
  go_wp2_with fail
  have c0 := fun d os => cell_regrown (b0.cell 0 rfl) d os; have d0 := fun d os => cell_regrown (b6.cell 0 rfl) d os; have c1 := fun d os => cell_regrown (b0.cell 1 rfl) d os; have d1 := fun d os => cell_regrown (b6.cell 1 rfl) d os; have c2 := fun d os => cell_regrown (b0.cell 2 rfl) d os; have d2 := fun d os => cell_regrown (b6.cell 2 rfl) d os; have c3 := fun d os => cell_regrown (b0.cell 3 rfl) d os; have d3 := fun d os => cell_regrown (b6.cell 3 rfl) d os; have c4 := fun d os => cell_regrown (b0.cell 4 rfl) d os; have d4 := fun d os => cell_regrown (b6.cell 4 rfl) d os; have c5 := fun d os => cell_regrown (b0.cell 5 rfl) d os; have d5 := fun d os => cell_regrown (b6.cell 5 rfl) d os; have c6 := fun d os => cell_regrown (b0.cell 6 rfl) d os; have d6 := fun d os => cell_regrown (b6.cell 6 rfl) d os
  obtain ⟨Kc, HKc⟩ : ∃ Kc : FuncId → Array Value → World → Value → World → Prop, Hid (Kc = fun f _ w0 v w' => Ext w0 w' ∧ (f = 37 → TaskV w' v t) ∧ (f = 39 → v = .bool true)) := ⟨_, rfl⟩
  refine wp_region_ext (Kc := Kc) 5 (by kernel_rfl) (by kernel_rfl) ?_
  simp only [List.take_succ_cons, List.take_zero]
  repeat (refine WalkE.pure rfl (fun K hK => ?_); simp only [PureDo]; go_simp; refine hK _ ?_; clear hK K)
  refine WalkE.step (fun K hK wc hwc hdc => ?_)
  simp only [OpDo, OpSafe, OpOut]
  go_simp
  refine ⟨(toTask_c _ t _ (HT.out _ (hw.trans ((Ext.drew _).trans hwc))) HSZ.out).mono ?_, ?_⟩
  · rintro e w' ⟨v, rfl, he, hv⟩
    exact ⟨v, rfl, by rw [HKc.out]; exact ⟨he, fun _ => hv.task, fun h => by cases h⟩⟩
  intro v1 wx hk1
  rw [HKc.out] at hk1
  obtain ⟨hex, hv1, -⟩ := hk1
  have hv1 := hv1 rfl
  refine ⟨hex, hK _ _ ?_⟩
  clear hK K hdc
  refine WalkE.step (fun K hK wd hwd hdd => ?_)
  simp only [OpDo, OpSafe, OpOut]
  go_simp
  refine ⟨(eqTask_c _ _ t t _ (HX5.out _ (y5.trans ((Ext.drew _).trans hwd))) (hv1.mono (hdd ⟨2, .data⟩ (by simp) rfl))).mono ?_, ?_⟩
  · rintro e w' ⟨rfl, he⟩
    exact ⟨_, rfl, by rw [HKc.out]; exact ⟨he, (fun h => by cases h), fun _ => by simp⟩⟩
  intro v2 wy hk2
  rw [HKc.out] at hk2
  obtain ⟨hey, -, hv2⟩ := hk2
  obtain rfl := hv2 rfl
  refine ⟨hey, hK _ _ ?_⟩
  clear hK K hdd hv2
  repeat (refine WalkE.pure rfl (fun K hK => ?_); simp only [PureDo]; go_simp; refine hK _ ?_; clear hK K)
  refine WalkE.nil (fun wn hwn hm => ?_)
  simp only [List.drop_succ_cons, List.drop_zero, List.drop_nil]
  have xn10 : Ext w9 wn := (Ext.drew _).trans hwn
  replace b0 := b0.ext xn10
  replace b4 := b4.ext xn10
  replace b6 := b6.ext xn10
  replace b7 := b7.ext xn10
  replace hw := hw.trans xn10
  replace y4 := y4.trans xn10
  replace y5 := y5.trans xn10
  replace o71' := o71'.ext xn10
  replace r7 := r7.ext xn10
  replace o72' := own_ext o72' xn10
  clear hm HKc hwn hwd hwc hex hey hv1 xn10 c0 c1 c2 c3 c4 c5 c6 d0 d1 d2 d3 d4 d5 d6
  have oE5 := (HE5.out _ y5).own
  have r5 := HR5.out _ y5
  have oA5 := (HA5.out _ y5).own
  clear y5
  have g0 := b6.cell 0 rfl; have g1 := b6.cell 1 rfl; have g2 := b6.cell 2 rfl; have g3 := b6.cell 3 rfl; have g4 := b6.cell 4 rfl; have g5 := b6.cell 5 rfl; have g6 := b6.cell 6 rfl
  go_wp2_with fail
  refine (markTask_x oE5 r5 oA5 HKT.out hs0 (by rw [List.length_map]; exact HA0.out.1) HA0.out.2).mono ?_
  rintro e w10 ⟨he, t10, -⟩
  obtain ⟨kk, hkk, hkk0⟩ : ∃ kk : Int, e = .returned (.int .i64 kk) ∧ 0 ≤ kk := ⟨_, he, by omega⟩
  subst hkk
  clear he g0 g1 g2 g3 g4 g5 g6 oE5 r5 oA5
  replace b0 := b0.tnd t10 (fun h => by have := hS5 _ h; omega)
  replace b4 := b4.tnd t10 (fun h => by have := hS5 _ h; omega)
  replace b7 := b7.tnd t10 (fun h => by have := hS5 _ h; omega)
  replace hw := ext_up hw t10 (fun b h => by have := hS5 b h; omega)
  replace y4 := ext_up y4 t10 (fun b h => by have := hS5 b h; omega)
  replace o71' := intss_up o71' t10 (fun b h => by have := hS5 b h; omega)
  replace r7 := rows_up r7 t10 (fun b h => by have := hS5 b h; omega)
  replace o72' := own_up o72' t10 (fun b h => by have := hS5 b h; omega)
  clear t10
  have c0 := b7.cell 0 rfl; have c1 := b7.cell 1 rfl; have c2 := b7.cell 2 rfl
  have d0 := b4.cell 0 rfl; have d1 := b4.cell 1 rfl; have d2 := b4.cell 2 rfl
  have hkn : ¬ kk < 0 := by omega
  go_wp2_with fail
  refine (eqAuto_t (x := R) ⟨_, _, rfl, o71'.intss, BoolsOwn.bools o72'⟩ (HR4.out _ y4)).mono ?_
  rintro e w11 ⟨rfl, he11⟩
  replace b0 := b0.ext he11
  replace b4 := b4.ext he11
  replace b7 := b7.ext he11
  replace hw := hw.trans he11
  replace y4 := y4.trans he11
  replace r7 := r7.ext he11
  replace o72' := own_ext o72' he11
  clear c0 c1 c2 d0 d1 d2 he11 o71'
  have c0 := b7.cell 0 rfl; have c1 := b7.cell 1 rfl; have c2 := b7.cell 2 rfl
  go_wp2_with fail
  refine (markAutomaton_x r7 o72' (by omega) (by rw [List.length_map]; have := HRS.out; omega) (by have := HRS.out; omega) (by omega)).mono ?_
  rintro e w12 ⟨he, t12, hm1, hm2⟩
  obtain ⟨kq, HKQ⟩ : ∃ kq : Int, Hid (1 + (((R.next.map List.length).sum : Nat) : Int) + (R.accept.length : Nat) = kq) := ⟨_, Lib.hid rfl⟩
  have hkq : 0 ≤ kq := by have := HKQ.out; omega
  have hkqn : ¬ kq < 0 := by omega
  rw [HKQ.out] at he
  subst he
  have hmk : AutoMk w6.heap.size w12 (.agg #[.int .i64 R.alphabet, .slice an7 R.next.length cn7, .slice aa7 R.accept.length ca7]) (R.next.map List.length) R.accept.length 1 := ⟨_, _, _, vs7, rfl, by simpa using hm1, hm2⟩
  clear c0 c1 c2 r7 o72' hm1 hm2
  replace b0 := b0.tnd t12 (fun h => by have := hS7 _ h; omega)
  replace b4 := b4.tnd t12 (fun h => by have := hS7 _ h; omega)
  replace b7 := b7.tnd t12 (fun h => by have := hS7 _ h; omega)
  replace hw := ext_up hw t12 (fun b h => by have := hS7 b h; omega)
  replace y4 := ext_up y4 t12 (fun b h => by have := hS7 b h; omega)
  clear t12
  have c0 := b7.cell 0 rfl; have c1 := b7.cell 1 rfl; have c2 := b7.cell 2 rfl
  have hqq : (kq != kq) = false := by simp
  go_wp2_with fail
  refine (heldAutomaton_c _ _ _ 1 _ _ hmk (by omega) (by rw [List.length_map]; have := HRS.out; omega) (by have := HRS.out; omega) (by omega)).mono ?_
  rintro e w13 ⟨he, he13⟩
  rw [HKQ.out] at he
  subst he
  replace b0 := b0.ext he13
  replace b4 := b4.ext he13
  replace b7 := b7.ext he13
  replace hw := hw.trans he13
  replace y4 := y4.trans he13
  replace hmk := mk_ext hmk he13
  clear c0 c1 c2 he13
  have cc0 := b0.cell 0 rfl; have cc1 := b0.cell 1 rfl; have cc2 := b0.cell 2 rfl; have cc3 := b0.cell 3 rfl; have cc4 := b0.cell 4 rfl; have cc5 := b0.cell 5 rfl; have cc6 := b0.cell 6 rfl
  go_wp2_with fail
  refine (toTask_c _ t _ (HT.out _ hw) HSZ.out).mono ?_
  rintro e w14 ⟨vt14, rfl, he14, ht14⟩
  replace b0 := b0.ext he14
  replace b4 := b4.ext he14
  replace b7 := b7.ext he14
  replace hw := hw.trans he14
  replace y4 := y4.trans he14
  replace hmk := mk_ext hmk he14
  clear cc0 cc1 cc2 cc3 cc4 cc5 cc6 he14
  go_wp2_with fail
  refine (CP.out _ _ ht14.task hw).mono ?_
  rintro e w15 ⟨v15, rfl, he15, ho15⟩
  obtain ⟨n15, a15, rfl, o151, o152⟩ := ho15
  obtain ⟨an15, cn15, rfl⟩ := o151.shape
  obtain ⟨aa15, ca15, rfl⟩ := o152.shape
  replace b0 := b0.ext he15
  replace b4 := b4.ext he15
  replace b7 := b7.ext he15
  replace hw := hw.trans he15
  replace y4 := y4.trans he15
  replace hmk := mk_ext hmk he15
  clear ht14 he15
  go_upto_region 25 with fail
  obtain ⟨w16, hw16⟩ : ∃ w16, w16 = w15.alloc (.cells #[.int .i64 R.alphabet, .slice an15 R.next.length cn15, .slice aa15 R.accept.length ca15] 29) := ⟨_, rfl⟩
  have x16 : Ext w15 w16 := by rw [hw16]; exact Ext.alloc _ _
  have b16 : Blk w16 w15.heap.size #[.int .i64 R.alphabet, .slice an15 R.next.length cn15, .slice aa15 R.accept.length ca15] 29 := by rw [hw16]; exact Blk.new _ _ _
  rw [← hw16]
  clear hw16
  replace b4 := b4.ext x16
  replace b7 := b7.ext x16
  replace hw := hw.trans x16
  replace y4 := y4.trans x16
  replace hmk := mk_ext hmk x16
  have k151 := o151.intss.mono x16
  have k152 := o152.bools.mono x16
  clear x16 o151 o152
  have e0 := b16.cell 0 rfl; have e1 := b16.cell 1 rfl; have e2 := b16.cell 2 rfl
  have d0 := b4.cell 0 rfl; have d1 := b4.cell 1 rfl; have d2 := b4.cell 2 rfl
  go_wp2_with fail
  refine (eqAuto_t (x := R) ⟨_, _, rfl, k151, k152⟩ (HR4.out _ y4)).mono ?_
  rintro e w17 ⟨rfl, he17⟩
  replace b7 := b7.ext he17
  replace hw := hw.trans he17
  replace hmk := mk_ext hmk he17
  clear e0 e1 e2 d0 d1 d2 he17
  have c0 := b7.cell 0 rfl; have c1 := b7.cell 1 rfl; have c2 := b7.cell 2 rfl
  go_wp2_with fail
  refine (heldAutomaton_c _ _ _ 1 _ _ hmk (by omega) (by rw [List.length_map]; have := HRS.out; omega) (by have := HRS.out; omega) (by omega)).mono ?_
  rintro e w18 ⟨he, he18⟩
  rw [HKQ.out] at he
  subst he
  go_wp2_with fail
  go_ret
  exact Grows.mk rfl (hw.trans he18)
end Go.Proofs.YtajafdblmphglaaGreatDoor.lawFnExactWeakestAssumption
