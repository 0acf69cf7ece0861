/- FnExactTaskOf: for every two systems and automaton the program's TaskOf returns what the reference's returns, in memory of its own, and leaves its arguments as they were. No condition beyond what the given row bears. -/
import Derived.Test.YtloampfmlhmlhaaWalkH
import Derived.Test.YtloampfmlhmlhaaWalkA
import Derived.Test.YtloampfmlhmlhaaWalkE
import Derived.Test.YtloampfmlhmlhaaRead
import Derived.Test.YtloampfmlhmlhaaInj
import Derived.Test.YtloampfmlhmlhaaTaskC
import Derived.Test.YtloampfmlhmlhaaWalkP
import Derived.Test.YtloampfmlhmlhaaLate
namespace Go.Proofs.Ytloampfmlhmlhaa.lawTaskOf
open Go.ChangeShapes Go.WideShapes Go.ChangeAt Go.RowKit
open Go.Proofs.Ytloampfmlhmlhaa
open Go.ChangeMaps (open_string shut_string)
set_option linter.unusedVariables false
set_option linter.unusedSimpArgs false
set_option maxHeartbeats 1600000
set_option maxRecDepth 100000

theorem own_up {S : Nat → Prop} {w w' : World} {base : Nat} {e : TypeId} {sz n : Nat} {v : Value} {xs : List Value} (h : w.ownsRow base e sz v n xs) (ht : Tnd S w w') (hS : ∀ b, S b → b < base) : w'.ownsRow base e sz v n xs :=
  ht.own h fun g hg hs => by have h1 := (World.ownsRow.lt h g hg).1; have h2 := hS g hs; omega
theorem intss_up {S : Nat → Prop} {w w' : World} {base : Nat} {v : Value} {ll : List (List Int)} (h : IntssOwn 82 3 base w v ll) (ht : Tnd S w w') (hS : ∀ b, S b → b < base) : IntssOwn 82 3 base w' v ll :=
  let ⟨vs, h1, h2, h3⟩ := h; ⟨vs, own_up h1 ht hS, ⟨h2.len, fun j x l hx hl => own_up (h2.row j x l hx hl) ht hS, h2.apart⟩, h3⟩
theorem rows_up {S : Nat → Prop} {w w' : World} {base : Nat} {v : Value} {vs : List Value} {ks : List Nat} {n : Int} {j : Nat} (h : RowsMk base w v vs ks n j) (ht : Tnd S w w') (hS : ∀ b, S b → b < base) : RowsMk base w' v vs ks n j :=
  h.tnd ht (fun b hb hs => by have h1 := (World.ownsRow.lt h.own b hb).1; have h2 := hS b hs; omega) fun b hb hs => by have h1 := (h.span b hb).1; have h2 := hS b hs; omega
theorem ext_up {S : Nat → Prop} {w0 w w' : World} (h : Ext w0 w) (ht : Tnd S w w') (hS : ∀ b, S b → w0.heap.size ≤ b) : Ext w0 w' := Below.trans h (ht.below h.size hS)
theorem eqTask_t {v u : Value} {x : Task} {w : World} (hv : TaskV w v x) (hu : TaskV w u x) : Calls Try.prog 11 #[v, u] w (Grows (.bool true) w) := by
  have := eqTask_c v u x x w hv hu
  simpa using this
theorem TaskOf_se {v u z : Value} {S : Sys} {A : Auto} {O : Sys} {w : World} {T : Task} {tb : Bool} (hT : taskOf S A O = T) (hb : decide (0 ≤ interfaceOf S A O) = tb) (hv : SysV w v S) (hu : AutoV w u A) (hz : SysV w z O) (hes : S.edges.length ≤ 1048576) :
    Calls Try.prog 7 #[v, u, z] w (fun e w' => ∃ vt, e = .returned (.tuple #[vt, .bool tb]) ∧ Ext w w' ∧ TaskOwn w.heap.size w' vt T) := by
  have := TaskOf_s v u z S A O w hv hu hz hes
  unfold TaskOfEnd at this
  rwa [hT, hb] at this
theorem TaskOf_ce {v u z : Value} {S : Sys} {A : Auto} {O : Sys} {w : World} {T : Task} {tb : Bool} (hT : taskOf S A O = T) (hb : decide (0 ≤ interfaceOf S A O) = tb) (hv : SysV w v S) (hu : AutoV w u A) (hz : SysV w z O) (hes : S.edges.length ≤ 1048576) :
    Calls Try.prog 10 #[v, u, z] w (fun e w' => ∃ vt, e = .returned (.tuple #[vt, .bool tb]) ∧ Ext w w' ∧ TaskOwn w.heap.size w' vt T) := by
  have := TaskOf_c2 v u z S A O w hv hu hz hes
  unfold TaskOfEnd at this
  rwa [hT, hb] at this
theorem auto_sizes {A : Auto} (ha : szAuto A ≤ 1048576) : A.next.length + (A.next.map List.length).sum ≤ 1048576 ∧ A.accept.length ≤ 1048576 := by
  unfold szAuto szss at ha
  exact ⟨by omega, by omega⟩
theorem taskOf_sizes {S : Sys} {A : Auto} {O : Sys} {T : Task} (hT : taskOf S A O = T) (hs : S.edges.length ≤ 1048576) (ha : szAuto A ≤ 1048576) : T.sys.edges.length ≤ 1048576 ∧ T.prop.next.length + (T.prop.next.map List.length).sum ≤ 1048576 ∧ T.prop.accept.length ≤ 1048576 := by
  subst hT
  have h := auto_sizes ha
  unfold taskOf
  split
  · exact ⟨Nat.zero_le _, Nat.zero_le _, Nat.zero_le _⟩
  · exact ⟨hs, h.1, h.2⟩
/-- The marks of a task, and where they are laid. -/
theorem markTask_x {al st pal tal kT : Int} {ve vn va : Value} {vs xs us : List Value} {ks : List Nat} {k m base : Nat} {w : World} (h1 : w.ownsRow base 70 3 ve k xs) (hr : RowsMk base w vn vs ks kT 0) (h3 : w.ownsRow base 4 1 va m us)
    (hk : 1 + ((k * 3 : Nat) : Int) = kT) (hs0 : k ≤ 1048576) (hs : ks.length + ks.sum ≤ 1048576) (hs2 : m ≤ 1048576) :
    Calls Try.prog 16 #[.agg #[.int .i64 al, .int .i64 st, ve, .int .i64 pal, vn, va, .int .i64 tal], .int .i64 1] w (fun e w' => e = .returned (.int .i64 (1 + ((k * 3 : Nat) : Int) + (ks.sum : Nat) + (m : Nat))) ∧ Tnd (fun b => SlB ve b ∨ RowsB vs b ∨ SlB va b) w w' ∧ TaskMk base w' (.agg #[.int .i64 al, .int .i64 st, ve, .int .i64 pal, vn, va, .int .i64 tal]) k ks m 1) := by
  subst hk
  have s1 := own_span h1
  obtain ⟨ae, ce, rfl⟩ := own_any h1
  obtain ⟨an, cn, rfl⟩ := own_any hr.own
  obtain ⟨aa, ca, rfl⟩ := own_any h3
  go_enter Try.func16, Try.ntmps16
  go_wp2_with fail
  refine (markSystem_x (own_ext h1 (Ext.alloc _ _)) (by omega) hs0 (by omega)).mono ?_
  rintro e w1 ⟨rfl, hg, hm⟩
  have hB := (Blk.new w _ _).tnd hg (fun h => by have := (s1 _ h).2; omega)
  have c3 := hB.cell 3 rfl
  have c4 := hB.cell 4 rfl
  have c5 := hB.cell 5 rfl
  have r1 := (hr.ext (Ext.alloc w (.cells #[.int .i64 al, .int .i64 st, .slice ae k ce, .int .i64 pal, .slice an ks.length cn, .slice aa m ca, .int .i64 tal] 36))).tnd hg (fun b hb hs => own_apart hr.own h1 (by decide) b hb hs) (fun b hb hs => hr.apart_of h1 (by decide) b hs hb)
  have a1 := hg.own (own_ext h3 (Ext.alloc w _)) (fun b hb hs => own_apart h3 h1 (by decide) b hb hs)
  go_wp2_with fail
  refine (markAutomaton_x r1 a1 (by omega) hs hs2 (by omega)).mono ?_
  rintro e w2 ⟨rfl, hg2, hm2, hm3⟩
  go_wp2_with fail
  go_ret
  refine ⟨rfl, ((Tnd.ext (Ext.alloc _ _)).trans (hg.imp fun b h => .inl h)).trans (hg2.imp fun b hb => .inr hb), _, _, _, _, _, _, vs, _, rfl, ?_, hm2, hm3⟩
  exact hg2.own hm fun b hb hs => hs.elim (fun hs => r1.apart_of hm (by decide) b hb hs) (fun hs => own_apart hm a1 (by decide) b hb hs)

theorem walk (v0 : Value) (t0 : Sys) (v1 : Value) (t1 : Auto) (v2 : Value) (t2 : Sys) (w : World) (hv0 : SysV w v0 t0) (hv1 : AutoV w v1 t1) (hv2 : SysV w v2 t2) : Calls Try.prog 3 #[v0, v1, v2] w (Grows (.bool true) w) := by
  obtain ⟨c0e, rfl, g00⟩ := hv0
  have hT0 : ∀ w', Ext w w' → SysV w' (.agg #[.int .i64 t0.alphabet, .int .i64 t0.states, c0e]) t0 := fun w' he => ⟨_, rfl, g00.mono he⟩
  have HT0 := Lib.hid hT0
  clear hT0 g00
  obtain ⟨c1n, c1a, rfl, g10, g11⟩ := hv1
  have hT1 : ∀ w', Ext w w' → AutoV w' (.agg #[.int .i64 t1.alphabet, c1n, c1a]) t1 := fun w' he => ⟨_, _, rfl, g10.mono he, g11.mono he⟩
  have HT1 := Lib.hid hT1
  clear hT1 g10 g11
  obtain ⟨c2e, rfl, g20⟩ := hv2
  have hT2 : ∀ w', Ext w w' → SysV w' (.agg #[.int .i64 t2.alphabet, .int .i64 t2.states, c2e]) t2 := fun w' he => ⟨_, rfl, g20.mono he⟩
  have HT2 := Lib.hid hT2
  clear hT2 g20
  go_enter Try.func3, Try.ntmps3
  go_wp2_with fail
  refine (szSystem_s _ t0 _ _ (HT0.out _ (((Ext.alloc _ _).trans (Ext.alloc _ _)).trans (Ext.alloc _ _))) (by omega) (by omega)).mono ?_
  rintro e w1 ⟨r0, rfl, he1, hr0⟩
  have B0 := he1.peel.peel.blk
  have B1 := he1.peel.blk1
  have B2 := he1.blk2
  have hw := he1.peel.peel.peel
  rcases hr0 with rfl | ⟨hz0, hr0⟩
  · go_wp2_with fail
    go_ret
    exact Grows.mk rfl hw
  have hs0 : szSys t0 ≤ 1048576 := by have := hr0.out; omega
  have hl0 : r0 ≤ 1048576 := by have := hr0.out; omega
  have B1_0 := B1.cell 0 rfl
  have B1_1 := B1.cell 1 rfl
  have B1_2 := B1.cell 2 rfl
  go_wp2_with fail
  refine (szAutomaton_s _ t1 _ _ (HT1.out _ hw) hz0 hl0).mono ?_
  rintro e w2 ⟨r1, rfl, he2, hr1⟩
  clear B1_0 B1_1 B1_2
  replace B0 := B0.ext he2
  replace B1 := B1.ext he2
  replace B2 := B2.ext he2
  replace hw := hw.trans he2
  rcases hr1 with rfl | ⟨hz1, hr1⟩
  · go_wp2_with fail
    go_ret
    exact Grows.mk rfl hw
  have hs1 : szAuto t1 ≤ 1048576 := by have := hr1.out; omega
  have hl1 : r1 ≤ 1048576 := by have := hr1.out; omega
  have B2_0 := B2.cell 0 rfl
  have B2_1 := B2.cell 1 rfl
  have B2_2 := B2.cell 2 rfl
  go_wp2_with fail
  refine (szSystem_s _ t2 _ _ (HT2.out _ hw) hz1 hl1).mono ?_
  rintro e w3 ⟨r2, rfl, he3, hr2⟩
  clear B2_0 B2_1 B2_2
  replace B0 := B0.ext he3
  replace B1 := B1.ext he3
  replace B2 := B2.ext he3
  replace hw := hw.trans he3
  rcases hr2 with rfl | ⟨hz2, hr2⟩
  · go_wp2_with fail
    go_ret
    exact Grows.mk rfl hw
  have hs2 : szSys t2 ≤ 1048576 := by have := hr2.out; omega
  have hl2 : r2 ≤ 1048576 := by have := hr2.out; omega
  obtain ⟨T, hTT⟩ : ∃ T, taskOf t0 t1 t2 = T := ⟨_, rfl⟩
  obtain ⟨tb, htb⟩ : ∃ tb, decide (0 ≤ interfaceOf t0 t1 t2) = tb := ⟨_, rfl⟩
  have HTT := Lib.hid hTT
  have HTB := Lib.hid htb
  have HTS := Lib.hid (taskOf_sizes hTT hs0 hs1)
  have hs0' : t0.edges.length ≤ 1048576 := hs0
  have hs2' : t2.edges.length ≤ 1048576 := hs2
  have HSA := Lib.hid (auto_sizes hs1)
  obtain ⟨k1, HK1⟩ : ∃ k1 : Int, Hid (1 + ((t0.edges.length * 3 : Nat) : Int) = k1) := ⟨_, rfl⟩
  obtain ⟨k2, HK2⟩ : ∃ k2 : Int, Hid (k1 + (((t1.next.map List.length).sum : Nat) : Int) + (t1.accept.length : Nat) = k2) := ⟨_, rfl⟩
  obtain ⟨k3, HK3⟩ : ∃ k3 : Int, Hid (k2 + ((t2.edges.length * 3 : Nat) : Int) = k3) := ⟨_, rfl⟩
  obtain ⟨kT, HKT⟩ : ∃ kT : Int, Hid (1 + ((T.sys.edges.length * 3 : Nat) : Int) = kT) := ⟨_, rfl⟩
  obtain ⟨kq, HKQ⟩ : ∃ kq : Int, Hid (1 + ((T.sys.edges.length * 3 : Nat) : Int) + (((T.prop.next.map List.length).sum : Nat) : Int) + (T.prop.accept.length : Nat) = kq) := ⟨_, rfl⟩
  have hk1 : 0 ≤ k1 ∧ k1 ≤ 3145729 := by have := HK1.out; omega
  have hk2 : 0 ≤ k2 ∧ k2 ≤ 6291456 := by have := HK2.out; have := HSA.out; omega
  have hk3 : 0 ≤ k3 ∧ k3 ≤ 10485760 := by have := HK3.out; omega
  have hkT : 0 ≤ kT ∧ kT ≤ 3145729 := by have := HKT.out; have := HTS.out; omega
  have hkq : 0 ≤ kq ∧ kq ≤ 10485760 := by have := HKQ.out; have := HTS.out; omega
  clear hTT htb
  go_wp2_with fail
  have D0_0 := fun d os => cell_regrown (B0.cell 0 rfl) d os
  have D0_1 := fun d os => cell_regrown (B0.cell 1 rfl) d os
  have D0_2 := fun d os => cell_regrown (B0.cell 2 rfl) d os
  have D1_0 := fun d os => cell_regrown (B1.cell 0 rfl) d os
  have D1_1 := fun d os => cell_regrown (B1.cell 1 rfl) d os
  have D1_2 := fun d os => cell_regrown (B1.cell 2 rfl) d os
  have D2_0 := fun d os => cell_regrown (B2.cell 0 rfl) d os
  have D2_1 := fun d os => cell_regrown (B2.cell 1 rfl) d os
  have D2_2 := fun d os => cell_regrown (B2.cell 2 rfl) d os
  obtain ⟨R, hRe⟩ : ∃ R, R = Late w3.heap.size 36 (TaskBox T) := ⟨_, rfl⟩
  have HRG : Hid (Sk.Goes R w3.drew) := by rw [hRe]; exact goes_task T w3
  have HRL := Lib.hid (show ∀ a b, R a b → Late w3.heap.size 36 (TaskBox T) a b from fun a b h => hRe ▸ h)
  have HRM := Lib.hid (show ∀ a b, Late w3.heap.size 36 (TaskBox T) a b → R a b from fun a b h => hRe ▸ h)
  clear hRe
  obtain ⟨Kc, HKc⟩ : ∃ Kc : FuncId → Array Value → World → Value → World → Prop, Hid (Kc = fun f args w0 v w' => Ext w0 w' ∧ (f = 8 → ∀ u s, args = #[u] → SysV w0 u s → SysOwn w0.heap.size w' v s) ∧ (f = 9 → ∀ u s, args = #[u] → AutoV w0 u s → AutoOwn w0.heap.size w' v s) ∧ (f = 7 → ∃ vt b, v = .tuple #[vt, .bool tb] ∧ TaskOwn b w' vt T)) := ⟨_, rfl⟩
  refine Sk.wp_region_late (Kc := Kc) 13 HRG (by kernel_rfl) (by kernel_rfl) ?_
  simp only [List.take_succ_cons, List.take_zero]
  repeat (refine Sk.WalkL.pure HRG rfl (fun K hK => ?_); simp only [Sk.PureDo]; go_simp; refine hK _ ?_; clear hK K)
  refine Sk.WalkL.step (fun wc5 hwc5 hdwc5 K hK => ?_)
  have ewc5 : Ext w3 wc5 := (Ext.drew _).trans (HRG.out.ext _ hwc5)
  simp only [Sk.OpDo, Sk.OpSafe, Sk.OpOut]
  go_simp
  refine ⟨(toSystem_c _ t0 _ (HT0.out _ (hw.trans ewc5)) hs0).mono ?_, ?_⟩
  · rintro e w' ⟨v, rfl, he, hv⟩
    exact ⟨v, rfl, by rw [HKc.out]; exact ⟨he, (fun _ u s h hu => by simp only [Array.mk.injEq, List.cons.injEq, and_true] at h; subst h; rw [← (HT0.out _ (hw.trans ewc5)).inj hu]; exact hv), (fun h => by cases h), (fun h => by cases h)⟩⟩
  intro u0 x0 hk0
  rw [HKc.out] at hk0
  have hy0 := hk0.2.1 rfl _ _ rfl (HT0.out _ (hw.trans ewc5))
  refine ⟨HRG.out.of _ _ hk0.1, hK _ _ ?_⟩
  clear hK K hdwc5 hk0 ewc5
  repeat (refine Sk.WalkL.pure HRG rfl (fun K hK => ?_); simp only [Sk.PureDo]; go_simp; refine hK _ ?_; clear hK K)
  refine Sk.WalkL.step (fun wc6 hwc6 hdwc6 K hK => ?_)
  have ewc6 : Ext w3 wc6 := (Ext.drew _).trans (HRG.out.ext _ hwc6)
  simp only [Sk.OpDo, Sk.OpSafe, Sk.OpOut]
  go_simp
  refine ⟨(toAutomaton_c _ t1 _ (HT1.out _ (hw.trans ewc6)) hs1).mono ?_, ?_⟩
  · rintro e w' ⟨v, rfl, he, hv⟩
    exact ⟨v, rfl, by rw [HKc.out]; exact ⟨he, (fun h => by cases h), (fun _ u s h hu => by simp only [Array.mk.injEq, List.cons.injEq, and_true] at h; subst h; rw [← (HT1.out _ (hw.trans ewc6)).inj hu]; exact hv), (fun h => by cases h)⟩⟩
  intro u1 x1 hk1
  rw [HKc.out] at hk1
  have hy1 := hk1.2.2.1 rfl _ _ rfl (HT1.out _ (hw.trans ewc6))
  refine ⟨HRG.out.of _ _ hk1.1, hK _ _ ?_⟩
  clear hK K hdwc6 hk1 ewc6
  repeat (refine Sk.WalkL.pure HRG rfl (fun K hK => ?_); simp only [Sk.PureDo]; go_simp; refine hK _ ?_; clear hK K)
  refine Sk.WalkL.step (fun wc7 hwc7 hdwc7 K hK => ?_)
  have ewc7 : Ext w3 wc7 := (Ext.drew _).trans (HRG.out.ext _ hwc7)
  simp only [Sk.OpDo, Sk.OpSafe, Sk.OpOut]
  go_simp
  refine ⟨(toSystem_c _ t2 _ (HT2.out _ (hw.trans ewc7)) hs2).mono ?_, ?_⟩
  · rintro e w' ⟨v, rfl, he, hv⟩
    exact ⟨v, rfl, by rw [HKc.out]; exact ⟨he, (fun _ u s h hu => by simp only [Array.mk.injEq, List.cons.injEq, and_true] at h; subst h; rw [← (HT2.out _ (hw.trans ewc7)).inj hu]; exact hv), (fun h => by cases h), (fun h => by cases h)⟩⟩
  intro u2 x2 hk2
  rw [HKc.out] at hk2
  have hy2 := hk2.2.1 rfl _ _ rfl (HT2.out _ (hw.trans ewc7))
  refine ⟨HRG.out.of _ _ hk2.1, hK _ _ ?_⟩
  clear hK K hdwc7 hk2 ewc7
  repeat (refine Sk.WalkL.pure HRG rfl (fun K hK => ?_); simp only [Sk.PureDo]; go_simp; refine hK _ ?_; clear hK K)
  refine Sk.WalkL.step (fun wc8 hwc8 hdwc8 K hK => ?_)
  have ewc8 : Ext w3 wc8 := (Ext.drew _).trans (HRG.out.ext _ hwc8)
  simp only [Sk.OpDo, Sk.OpSafe, Sk.OpOut]
  go_simp
  refine ⟨(TaskOf_se HTT.out HTB.out (hy0.late odd_task (HRL.out _ _ (hdwc8 ⟨1, .data⟩ (by simp) rfl))).sys (hy1.late odd_task (HRL.out _ _ (hdwc8 ⟨3, .data⟩ (by simp) rfl))).auto (hy2.late odd_task (HRL.out _ _ (hdwc8 ⟨5, .data⟩ (by simp) rfl))).sys hs0).mono ?_, ?_⟩
  · rintro e w' ⟨vt, rfl, he, ho⟩
    exact ⟨_, rfl, by rw [HKc.out]; exact ⟨he, (fun h => by cases h), (fun h => by cases h), fun _ => ⟨_, _, rfl, ho⟩⟩⟩
  intro uz xz hkz
  rw [HKc.out] at hkz
  obtain ⟨v8, base8, rfl, ho8⟩ := hkz.2.2.2 rfl
  replace ho8 := ho8.low (Nat.zero_le _)
  obtain ⟨e8, n8, a8, rfl, k80, k81, k82⟩ := ho8
  obtain ⟨ye8, ze8, rfl⟩ := k80.shape
  obtain ⟨yn8, zn8, rfl⟩ := k81.shape
  obtain ⟨ya8, za8, rfl⟩ := k82.shape
  have ho8 : TaskOwn 0 xz (.agg #[.int .i64 T.sys.alphabet, .int .i64 T.sys.states, .slice ye8 T.sys.edges.length ze8, .int .i64 T.prop.alphabet, .slice yn8 T.prop.next.length zn8, .slice ya8 T.prop.accept.length za8, .int .i64 T.alphabet]) T := ⟨_, _, _, rfl, k80, k81, k82⟩
  refine ⟨HRG.out.of _ _ hkz.1, hK _ _ ?_⟩
  clear hK K hdwc8 hkz hy0 hy1 hy2 ewc8 k80 k81 k82
  repeat (refine Sk.WalkL.pure HRG rfl (fun K hK => ?_); simp only [Sk.PureDo]; go_simp; refine hK _ ?_; clear hK K)
  refine Sk.WalkL.step (fun wc9 hwc9 hdwc9 K hK => ?_)
  have ewc9 : Ext w3 wc9 := (Ext.drew _).trans (HRG.out.ext _ hwc9)
  simp only [Sk.OpDo, Sk.OpSafe, Sk.OpOut]
  go_simp
  refine ⟨HRG.out.of _ _ (Ext.alloc _ _), hK _ _ ?_⟩
  clear hK K hdwc9
  have hG8 : w3.heap.size ≤ wc9.heap.size := ewc9.size
  have hb9 := Blk.new wc9 #[.int .i64 0, .int .i64 0, .slice none 0 0, .int .i64 0, .slice none 0 0, .slice none 0 0, .int .i64 0] 36
  refine Sk.WalkL.step (fun wcf hwcf hdwcf K hK => ?_)
  have ewcf : Ext w3 wcf := (Ext.drew _).trans (HRG.out.ext _ hwcf)
  obtain ⟨q0, q1, q2, q3, q4, q5, q6, hbf⟩ := (HRL.out _ _ (hdwcf ⟨10, .data⟩ (by simp) rfl)).cells hG8 hb9
  have hof := ho8.late odd_task (HRL.out _ _ (by first | exact hdwcf ⟨6, .chain⟩ (by simp) rfl | exact hdwcf ⟨6, .phase⟩ (by simp) rfl))
  obtain ⟨p1, p2, p3⟩ := task_put hbf hof
  have bc0 := hbf.cell 0 rfl; have bf0 := hbf.fr 0; have bc1 := hbf.cell 1 rfl; have bf1 := hbf.fr 1; have bc2 := hbf.cell 2 rfl; have bf2 := hbf.fr 2; have bc3 := hbf.cell 3 rfl; have bf3 := hbf.fr 3; have bc4 := hbf.cell 4 rfl; have bf4 := hbf.fr 4; have bc5 := hbf.cell 5 rfl; have bf5 := hbf.fr 5; have bc6 := hbf.cell 6 rfl; have bf6 := hbf.fr 6
  simp only [Sk.OpDo, Sk.OpSafe, Sk.OpOut]
  go_simp
  refine ⟨HRM.out _ _ (Late.put p1 hG8 hbf p2 p3), hK _ _ ?_⟩
  clear hK K hdwcf
  clear bc0 bc1 bc2 bc3 bc4 bc5 bc6 bf0 bf1 bf2 bf3 bf4 bf5 bf6
  repeat (refine Sk.WalkL.pure HRG rfl (fun K hK => ?_); simp only [Sk.PureDo]; go_simp; refine hK _ ?_; clear hK K)
  refine Sk.WalkL.nil (fun wS hwn hmn => ?_)
  simp only [List.drop_succ_cons, List.drop_zero, List.drop_nil]
  obtain ⟨ae8, ce8, an8, cn8, aa8, ca8, hB8, hst⟩ := (HRL.out _ _ (hmn 11 (by omega))).done hG8 p2 p3
  have hx9w : Ext w3 wS := (Ext.drew _).trans (HRG.out.ext _ hwn)
  clear hmn HKc hwn hwc9 hwc8 hwc7 hwc6 hwc5 hwcf ewc9 ewcf HRG HRL HRM hb9 hbf hof p1 p2 p3 ho8
  clear D0_0 D0_1 D0_2 D1_0 D1_1 D1_2 D2_0 D2_1 D2_2
  generalize wc9.heap.size = G8 at hB8 hG8 ⊢
  have HT8 := Lib.hid (show ∀ w', Ext wS w' → TaskV w' (.agg #[.int .i64 T.sys.alphabet, .int .i64 T.sys.states, .slice ae8 T.sys.edges.length ce8, .int .i64 T.prop.alphabet, .slice an8 T.prop.next.length cn8, .slice aa8 T.prop.accept.length ca8, .int .i64 T.alphabet]) T from fun w' h => (hst.ext h).task)
  have lG8 := hB8.lt
  have X8 := hB8
  clear hst hB8
  replace B0 := B0.ext hx9w
  replace B1 := B1.ext hx9w
  replace B2 := B2.ext hx9w
  replace hw := hw.trans hx9w
  have yS : Ext wS wS := Ext.refl _
  have lB0 := B0.lt
  have lB1 := B1.lt
  have lB2 := B2.lt
  clear hx9w hG8
  have B0_0 := B0.cell 0 rfl
  have B0_1 := B0.cell 1 rfl
  have B0_2 := B0.cell 2 rfl
  go_wp2_with fail
  refine (toSystem_c _ t0 _ (HT0.out _ hw) hs0).mono ?_
  rintro e w9 ⟨vx0, rfl, he9, ho0⟩
  clear B0_0 B0_1 B0_2
  replace B0 := B0.ext he9
  replace B1 := B1.ext he9
  replace B2 := B2.ext he9
  replace hw := hw.trans he9
  replace yS := yS.trans he9
  replace X8 := X8.ext he9
  have n9 := he9.size
  obtain ⟨x0e, rfl, o00⟩ := ho0
  have k00 := o00.edges
  obtain ⟨yx0e, zx0e, rfl, -, -⟩ := k00.open
  have hX0 : SysV _ (.agg #[.int .i64 t0.alphabet, .int .i64 t0.states, _]) t0 := ⟨_, rfl, k00⟩
  clear k00
  have HO0 := Lib.hid (show ∀ w', Ext w9 w' → EdgesOwn 70 wS.heap.size w' (.slice yx0e t0.edges.length zx0e) t0.edges from fun w' h => o00.ext h)
  have hS0 : ∀ b, SlB (.slice yx0e t0.edges.length zx0e) b → wS.heap.size ≤ b ∧ b < w9.heap.size := fun b hb => own_span o00.own b hb
  have y0 : Ext w9 w9 := Ext.refl _
  clear o00
  have B1_0 := fun o => (B1.ext (Ext.alloc _ o)).cell 0 rfl
  have B1_1 := fun o => (B1.ext (Ext.alloc _ o)).cell 1 rfl
  have B1_2 := fun o => (B1.ext (Ext.alloc _ o)).cell 2 rfl
  go_wp2_with fail
  refine (toAutomaton_c _ t1 _ (HT1.out _ (hw.trans (Ext.alloc _ _))) hs1).mono ?_
  rintro e w10 ⟨vx1, rfl, he10, ho1⟩
  have X0 := he10.blk
  clear B1_0 B1_1 B1_2
  replace B0 := B0.ext he10.peel
  replace B1 := B1.ext he10.peel
  replace B2 := B2.ext he10.peel
  replace hw := hw.trans he10.peel
  replace hX0 := hX0.mono he10.peel
  replace X8 := X8.ext he10.peel
  replace yS := yS.trans he10.peel
  replace y0 := y0.trans he10.peel
  have n10 : w9.heap.size + 1 ≤ w10.heap.size := by have := he10.size; rw [World.size_alloc] at this; exact this
  rw [World.size_alloc] at ho1
  obtain ⟨x1n, x1a, rfl, o10, o11⟩ := ho1
  have k10 := o10.intss
  have k11 := o11.bools
  obtain ⟨yx1n, zx1n, rfl, -, -⟩ := k10.open
  obtain ⟨yx1a, zx1a, rfl, -, -⟩ := k11.open
  have hX1 : AutoV _ (.agg #[.int .i64 t1.alphabet, _, _]) t1 := ⟨_, _, rfl, k10, k11⟩
  clear k10 k11
  obtain ⟨vs1, r10⟩ := RowsMk.of_own o10 k1
  have HR1 := Lib.hid (show ∀ w', Ext w10 w' → RowsMk (w9.heap.size + 1) w' (.slice yx1n t1.next.length zx1n) vs1 (t1.next.map List.length) k1 0 from fun w' h => r10.ext h)
  have HA1 := Lib.hid (show ∀ w', Ext w10 w' → BoolsOwn 4 (w9.heap.size + 1) w' (.slice yx1a t1.accept.length zx1a) t1.accept from fun w' h => o11.ext h)
  have hS1 : ∀ b, (RowsB vs1 b ∨ SlB (.slice yx1a t1.accept.length zx1a) b) → w9.heap.size + 1 ≤ b ∧ b < w10.heap.size := fun b hb => hb.elim (r10.span b) (own_span o11.own b)
  have y1 : Ext w10 w10 := Ext.refl _
  clear o10 o11 r10
  have B2_0 := fun o => (B2.ext (Ext.alloc _ o)).cell 0 rfl
  have B2_1 := fun o => (B2.ext (Ext.alloc _ o)).cell 1 rfl
  have B2_2 := fun o => (B2.ext (Ext.alloc _ o)).cell 2 rfl
  go_wp2_with fail
  refine (toSystem_c _ t2 _ (HT2.out _ (hw.trans (Ext.alloc _ _))) hs2).mono ?_
  rintro e w11 ⟨vx2, rfl, he11, ho2⟩
  have X1 := he11.blk
  clear B2_0 B2_1 B2_2
  replace B0 := B0.ext he11.peel
  replace B1 := B1.ext he11.peel
  replace B2 := B2.ext he11.peel
  replace X0 := X0.ext he11.peel
  replace hw := hw.trans he11.peel
  replace hX0 := hX0.mono he11.peel
  replace hX1 := hX1.mono he11.peel
  replace X8 := X8.ext he11.peel
  replace yS := yS.trans he11.peel
  replace y0 := y0.trans he11.peel
  replace y1 := y1.trans he11.peel
  have n11 : w10.heap.size + 1 ≤ w11.heap.size := by have := he11.size; rw [World.size_alloc] at this; exact this
  rw [World.size_alloc] at ho2
  obtain ⟨x2e, rfl, o20⟩ := ho2
  have k20 := o20.edges
  obtain ⟨yx2e, zx2e, rfl, -, -⟩ := k20.open
  have hX2 : SysV _ (.agg #[.int .i64 t2.alphabet, .int .i64 t2.states, _]) t2 := ⟨_, rfl, k20⟩
  clear k20
  have HO2 := Lib.hid (show ∀ w', Ext w11 w' → EdgesOwn 70 (w10.heap.size + 1) w' (.slice yx2e t2.edges.length zx2e) t2.edges from fun w' h => o20.ext h)
  have hS2 : ∀ b, SlB (.slice yx2e t2.edges.length zx2e) b → w10.heap.size + 1 ≤ b ∧ b < w11.heap.size := fun b hb => own_span o20.own b hb
  have y2 : Ext w11 w11 := Ext.refl _
  clear o20
  have X0_0 := fun o => (X0.ext (Ext.alloc _ o)).cell 0 rfl
  have X0_1 := fun o => (X0.ext (Ext.alloc _ o)).cell 1 rfl
  have X0_2 := fun o => (X0.ext (Ext.alloc _ o)).cell 2 rfl
  have X1_0 := fun o => (X1.ext (Ext.alloc _ o)).cell 0 rfl
  have X1_1 := fun o => (X1.ext (Ext.alloc _ o)).cell 1 rfl
  have X1_2 := fun o => (X1.ext (Ext.alloc _ o)).cell 2 rfl
  go_wp2_with fail
  refine (TaskOf_ce HTT.out HTB.out (hX0.mono (Ext.alloc _ _)) (hX1.mono (Ext.alloc _ _)) (hX2.mono (Ext.alloc _ _)) hs0).mono ?_
  rintro e w12 ⟨v13, rfl, he12, ho13⟩
  have X2 := he12.blk
  clear X0_0 X0_1 X0_2 X1_0 X1_1 X1_2
  replace B0 := B0.ext he12.peel
  replace B1 := B1.ext he12.peel
  replace B2 := B2.ext he12.peel
  replace X0 := X0.ext he12.peel
  replace X1 := X1.ext he12.peel
  replace hw := hw.trans he12.peel
  replace hX0 := hX0.mono he12.peel
  replace hX1 := hX1.mono he12.peel
  replace hX2 := hX2.mono he12.peel
  replace X8 := X8.ext he12.peel
  replace yS := yS.trans he12.peel
  replace y0 := y0.trans he12.peel
  replace y1 := y1.trans he12.peel
  replace y2 := y2.trans he12.peel
  have n12 : w11.heap.size + 1 ≤ w12.heap.size := by have := he12.size; rw [World.size_alloc] at this; exact this
  rw [World.size_alloc] at ho13
  obtain ⟨e13, n13, a13, rfl, o130, o131, o132⟩ := ho13
  obtain ⟨ae13, ce13, rfl⟩ := o130.shape
  obtain ⟨an13, cn13, rfl⟩ := o131.shape
  obtain ⟨aa13, ca13, rfl⟩ := o132.shape
  obtain ⟨vs13, r130⟩ := RowsMk.of_own o131 kT
  have HE13 := Lib.hid (show ∀ w', Ext w12 w' → EdgesOwn 70 (w11.heap.size + 1) w' (.slice ae13 T.sys.edges.length ce13) T.sys.edges from fun w' h => o130.ext h)
  have HN13 := Lib.hid (show ∀ w', Ext w12 w' → IntssOwn 82 3 (w11.heap.size + 1) w' (.slice an13 T.prop.next.length cn13) T.prop.next from fun w' h => o131.ext h)
  have HR13 := Lib.hid (show ∀ w', Ext w12 w' → RowsMk (w11.heap.size + 1) w' (.slice an13 T.prop.next.length cn13) vs13 (T.prop.next.map List.length) kT 0 from fun w' h => r130.ext h)
  have HA13 := Lib.hid (show ∀ w', Ext w12 w' → BoolsOwn 4 (w11.heap.size + 1) w' (.slice aa13 T.prop.accept.length ca13) T.prop.accept from fun w' h => o132.ext h)
  have hS13 : ∀ b, (SlB (.slice ae13 T.sys.edges.length ce13) b ∨ RowsB vs13 b ∨ SlB (.slice aa13 T.prop.accept.length ca13) b) → w11.heap.size + 1 ≤ b ∧ b < w12.heap.size := fun b hb => hb.elim (own_span o130.own b) fun hb => hb.elim (r130.span b) (own_span o132.own b)
  have y13 : Ext w12 w12 := Ext.refl _
  clear o130 o131 o132 r130
  have hq : (tb != tb) = false := by simp
  have X8_0 := fun o => (X8.ext (Ext.alloc _ o)).cell 0 rfl; have X8_1 := fun o => (X8.ext (Ext.alloc _ o)).cell 1 rfl; have X8_2 := fun o => (X8.ext (Ext.alloc _ o)).cell 2 rfl; have X8_3 := fun o => (X8.ext (Ext.alloc _ o)).cell 3 rfl; have X8_4 := fun o => (X8.ext (Ext.alloc _ o)).cell 4 rfl; have X8_5 := fun o => (X8.ext (Ext.alloc _ o)).cell 5 rfl; have X8_6 := fun o => (X8.ext (Ext.alloc _ o)).cell 6 rfl
  go_wp2_with fail
  refine (eqTask_t (x := T) ⟨_, _, _, rfl, (HE13.out _ (Ext.alloc _ _)).edges, (HN13.out _ (Ext.alloc _ _)).intss, (HA13.out _ (Ext.alloc _ _)).bools⟩ (HT8.out _ (yS.trans (Ext.alloc _ _)))).mono ?_
  rintro e w13 ⟨rfl, he13⟩
  have X13 := he13.blk
  clear X8_0 X8_1 X8_2 X8_3 X8_4 X8_5 X8_6
  replace B0 := B0.ext he13.peel
  replace B1 := B1.ext he13.peel
  replace B2 := B2.ext he13.peel
  replace X8 := X8.ext he13.peel
  replace X0 := X0.ext he13.peel
  replace X1 := X1.ext he13.peel
  replace X2 := X2.ext he13.peel
  replace hw := hw.trans he13.peel
  replace yS := yS.trans he13.peel
  replace y0 := y0.trans he13.peel
  replace y1 := y1.trans he13.peel
  replace y2 := y2.trans he13.peel
  replace y13 := y13.trans he13.peel
  replace hX0 := hX0.mono he13.peel
  replace hX1 := hX1.mono he13.peel
  replace hX2 := hX2.mono he13.peel
  go_wp2_with fail
  have DB0_0 := fun d os => cell_regrown (B0.cell 0 rfl) d os
  have DX0_0 := fun d os => cell_regrown (X0.cell 0 rfl) d os
  have DB0_1 := fun d os => cell_regrown (B0.cell 1 rfl) d os
  have DX0_1 := fun d os => cell_regrown (X0.cell 1 rfl) d os
  have DB0_2 := fun d os => cell_regrown (B0.cell 2 rfl) d os
  have DX0_2 := fun d os => cell_regrown (X0.cell 2 rfl) d os
  obtain ⟨Kc, HKc⟩ : ∃ Kc : FuncId → Array Value → World → Value → World → Prop, Hid (Kc = fun f _ w0 v w' => Ext w0 w' ∧ (f = 8 → SysV w' v t0) ∧ (f = 12 → v = .bool true)) := ⟨_, rfl⟩
  refine wp_region_ext (Kc := Kc) 5 (by kernel_rfl) (by kernel_rfl) ?_
  simp only [List.take_succ_cons, List.take_zero]
  repeat (refine WalkE.pure rfl (fun K hK => ?_); simp only [PureDo]; go_simp; refine hK _ ?_; clear hK K)
  refine WalkE.step (fun K hK wc13 hwc13 hdc13 => ?_)
  simp only [OpDo, OpSafe, OpOut]
  go_simp
  refine ⟨(toSystem_c _ t0 _ (HT0.out _ (hw.trans ((Ext.drew _).trans hwc13))) hs0).mono ?_, ?_⟩
  · rintro e w' ⟨v, rfl, he, hv⟩
    exact ⟨v, rfl, by rw [HKc.out]; exact ⟨he, (fun _ => hv.sys), fun h => by cases h⟩⟩
  intro u0 x0 hk0
  rw [HKc.out] at hk0
  have hy0 := hk0.2.1 rfl
  refine ⟨hk0.1, hK _ _ ?_⟩
  clear hK K hdc13 hk0
  refine WalkE.step (fun K hK wd13 hwd13 hdd13 => ?_)
  simp only [OpDo, OpSafe, OpOut]
  go_simp
  refine ⟨(eqSystem_c _ _ t0 t0 _ (hX0.mono ((Ext.drew _).trans hwd13)) (hy0.mono (hdd13 ⟨2, .data⟩ (by simp) rfl))).mono ?_, ?_⟩
  · rintro e w' ⟨rfl, he⟩
    exact ⟨_, rfl, by rw [HKc.out]; exact ⟨he, (fun h => by cases h), fun _ => by simp⟩⟩
  intro uu0 xx0 hkk0
  rw [HKc.out] at hkk0
  obtain rfl := hkk0.2.2 rfl
  refine ⟨hkk0.1, hK _ _ ?_⟩
  clear hK K hdd13 hkk0 hy0
  repeat (refine WalkE.pure rfl (fun K hK => ?_); simp only [PureDo]; go_simp; refine hK _ ?_; clear hK K)
  refine WalkE.nil (fun wn13 hwn13 hmn13 => ?_)
  simp only [List.drop_succ_cons, List.drop_zero, List.drop_nil]
  clear hmn13 HKc
  clear DB0_0 DX0_0 DB0_1 DX0_1 DB0_2 DX0_2
  replace B0 := B0.ext ((Ext.drew _).trans hwn13)
  replace B1 := B1.ext ((Ext.drew _).trans hwn13)
  replace B2 := B2.ext ((Ext.drew _).trans hwn13)
  replace X0 := X0.ext ((Ext.drew _).trans hwn13)
  replace X1 := X1.ext ((Ext.drew _).trans hwn13)
  replace X2 := X2.ext ((Ext.drew _).trans hwn13)
  replace X8 := X8.ext ((Ext.drew _).trans hwn13)
  replace X13 := X13.ext ((Ext.drew _).trans hwn13)
  replace yS := yS.trans ((Ext.drew _).trans hwn13)
  replace y0 := y0.trans ((Ext.drew _).trans hwn13)
  replace y1 := y1.trans ((Ext.drew _).trans hwn13)
  replace y2 := y2.trans ((Ext.drew _).trans hwn13)
  replace y13 := y13.trans ((Ext.drew _).trans hwn13)
  replace hw := hw.trans ((Ext.drew _).trans hwn13)
  replace hX0 := hX0.mono ((Ext.drew _).trans hwn13)
  replace hX1 := hX1.mono ((Ext.drew _).trans hwn13)
  replace hX2 := hX2.mono ((Ext.drew _).trans hwn13)
  go_wp2_with fail
  have DB1_0 := fun d os => cell_regrown (B1.cell 0 rfl) d os
  have DX1_0 := fun d os => cell_regrown (X1.cell 0 rfl) d os
  have DB1_1 := fun d os => cell_regrown (B1.cell 1 rfl) d os
  have DX1_1 := fun d os => cell_regrown (X1.cell 1 rfl) d os
  have DB1_2 := fun d os => cell_regrown (B1.cell 2 rfl) d os
  have DX1_2 := fun d os => cell_regrown (X1.cell 2 rfl) d os
  obtain ⟨Kc, HKc⟩ : ∃ Kc : FuncId → Array Value → World → Value → World → Prop, Hid (Kc = fun f _ w0 v w' => Ext w0 w' ∧ (f = 9 → AutoV w' v t1) ∧ (f = 13 → v = .bool true)) := ⟨_, rfl⟩
  refine wp_region_ext (Kc := Kc) 5 (by kernel_rfl) (by kernel_rfl) ?_
  simp only [List.take_succ_cons, List.take_zero]
  repeat (refine WalkE.pure rfl (fun K hK => ?_); simp only [PureDo]; go_simp; refine hK _ ?_; clear hK K)
  refine WalkE.step (fun K hK wc14 hwc14 hdc14 => ?_)
  simp only [OpDo, OpSafe, OpOut]
  go_simp
  refine ⟨(toAutomaton_c _ t1 _ (HT1.out _ (hw.trans ((Ext.drew _).trans hwc14))) hs1).mono ?_, ?_⟩
  · rintro e w' ⟨v, rfl, he, hv⟩
    exact ⟨v, rfl, by rw [HKc.out]; exact ⟨he, (fun _ => hv.auto), fun h => by cases h⟩⟩
  intro u1 x1 hk1
  rw [HKc.out] at hk1
  have hy1 := hk1.2.1 rfl
  refine ⟨hk1.1, hK _ _ ?_⟩
  clear hK K hdc14 hk1
  refine WalkE.step (fun K hK wd14 hwd14 hdd14 => ?_)
  simp only [OpDo, OpSafe, OpOut]
  go_simp
  refine ⟨(eqAutomaton_c _ _ t1 t1 _ (hX1.mono ((Ext.drew _).trans hwd14)) (hy1.mono (hdd14 ⟨2, .data⟩ (by simp) rfl))).mono ?_, ?_⟩
  · rintro e w' ⟨rfl, he⟩
    exact ⟨_, rfl, by rw [HKc.out]; exact ⟨he, (fun h => by cases h), fun _ => by simp⟩⟩
  intro uu1 xx1 hkk1
  rw [HKc.out] at hkk1
  obtain rfl := hkk1.2.2 rfl
  refine ⟨hkk1.1, hK _ _ ?_⟩
  clear hK K hdd14 hkk1 hy1
  repeat (refine WalkE.pure rfl (fun K hK => ?_); simp only [PureDo]; go_simp; refine hK _ ?_; clear hK K)
  refine WalkE.nil (fun wn14 hwn14 hmn14 => ?_)
  simp only [List.drop_succ_cons, List.drop_zero, List.drop_nil]
  clear hmn14 HKc
  clear DB1_0 DX1_0 DB1_1 DX1_1 DB1_2 DX1_2
  replace B0 := B0.ext ((Ext.drew _).trans hwn14)
  replace B1 := B1.ext ((Ext.drew _).trans hwn14)
  replace B2 := B2.ext ((Ext.drew _).trans hwn14)
  replace X0 := X0.ext ((Ext.drew _).trans hwn14)
  replace X1 := X1.ext ((Ext.drew _).trans hwn14)
  replace X2 := X2.ext ((Ext.drew _).trans hwn14)
  replace X8 := X8.ext ((Ext.drew _).trans hwn14)
  replace X13 := X13.ext ((Ext.drew _).trans hwn14)
  replace yS := yS.trans ((Ext.drew _).trans hwn14)
  replace y0 := y0.trans ((Ext.drew _).trans hwn14)
  replace y1 := y1.trans ((Ext.drew _).trans hwn14)
  replace y2 := y2.trans ((Ext.drew _).trans hwn14)
  replace y13 := y13.trans ((Ext.drew _).trans hwn14)
  replace hw := hw.trans ((Ext.drew _).trans hwn14)
  replace hX0 := hX0.mono ((Ext.drew _).trans hwn14)
  replace hX1 := hX1.mono ((Ext.drew _).trans hwn14)
  replace hX2 := hX2.mono ((Ext.drew _).trans hwn14)
  go_wp2_with fail
  have DB2_0 := fun d os => cell_regrown (B2.cell 0 rfl) d os
  have DX2_0 := fun d os => cell_regrown (X2.cell 0 rfl) d os
  have DB2_1 := fun d os => cell_regrown (B2.cell 1 rfl) d os
  have DX2_1 := fun d os => cell_regrown (X2.cell 1 rfl) d os
  have DB2_2 := fun d os => cell_regrown (B2.cell 2 rfl) d os
  have DX2_2 := fun d os => cell_regrown (X2.cell 2 rfl) d os
  obtain ⟨Kc, HKc⟩ : ∃ Kc : FuncId → Array Value → World → Value → World → Prop, Hid (Kc = fun f _ w0 v w' => Ext w0 w' ∧ (f = 8 → SysV w' v t2) ∧ (f = 12 → v = .bool true)) := ⟨_, rfl⟩
  refine wp_region_ext (Kc := Kc) 5 (by kernel_rfl) (by kernel_rfl) ?_
  simp only [List.take_succ_cons, List.take_zero]
  repeat (refine WalkE.pure rfl (fun K hK => ?_); simp only [PureDo]; go_simp; refine hK _ ?_; clear hK K)
  refine WalkE.step (fun K hK wc15 hwc15 hdc15 => ?_)
  simp only [OpDo, OpSafe, OpOut]
  go_simp
  refine ⟨(toSystem_c _ t2 _ (HT2.out _ (hw.trans ((Ext.drew _).trans hwc15))) hs2).mono ?_, ?_⟩
  · rintro e w' ⟨v, rfl, he, hv⟩
    exact ⟨v, rfl, by rw [HKc.out]; exact ⟨he, (fun _ => hv.sys), fun h => by cases h⟩⟩
  intro u2 x2 hk2
  rw [HKc.out] at hk2
  have hy2 := hk2.2.1 rfl
  refine ⟨hk2.1, hK _ _ ?_⟩
  clear hK K hdc15 hk2
  refine WalkE.step (fun K hK wd15 hwd15 hdd15 => ?_)
  simp only [OpDo, OpSafe, OpOut]
  go_simp
  refine ⟨(eqSystem_c _ _ t2 t2 _ (hX2.mono ((Ext.drew _).trans hwd15)) (hy2.mono (hdd15 ⟨2, .data⟩ (by simp) rfl))).mono ?_, ?_⟩
  · rintro e w' ⟨rfl, he⟩
    exact ⟨_, rfl, by rw [HKc.out]; exact ⟨he, (fun h => by cases h), fun _ => by simp⟩⟩
  intro uu2 xx2 hkk2
  rw [HKc.out] at hkk2
  obtain rfl := hkk2.2.2 rfl
  refine ⟨hkk2.1, hK _ _ ?_⟩
  clear hK K hdd15 hkk2 hy2
  repeat (refine WalkE.pure rfl (fun K hK => ?_); simp only [PureDo]; go_simp; refine hK _ ?_; clear hK K)
  refine WalkE.nil (fun wn15 hwn15 hmn15 => ?_)
  simp only [List.drop_succ_cons, List.drop_zero, List.drop_nil]
  clear hmn15 HKc
  clear DB2_0 DX2_0 DB2_1 DX2_1 DB2_2 DX2_2
  replace B0 := B0.ext ((Ext.drew _).trans hwn15)
  replace B1 := B1.ext ((Ext.drew _).trans hwn15)
  replace B2 := B2.ext ((Ext.drew _).trans hwn15)
  replace X0 := X0.ext ((Ext.drew _).trans hwn15)
  replace X1 := X1.ext ((Ext.drew _).trans hwn15)
  replace X2 := X2.ext ((Ext.drew _).trans hwn15)
  replace X8 := X8.ext ((Ext.drew _).trans hwn15)
  replace X13 := X13.ext ((Ext.drew _).trans hwn15)
  replace yS := yS.trans ((Ext.drew _).trans hwn15)
  replace y0 := y0.trans ((Ext.drew _).trans hwn15)
  replace y1 := y1.trans ((Ext.drew _).trans hwn15)
  replace y2 := y2.trans ((Ext.drew _).trans hwn15)
  replace y13 := y13.trans ((Ext.drew _).trans hwn15)
  replace hw := hw.trans ((Ext.drew _).trans hwn15)
  replace hX0 := hX0.mono ((Ext.drew _).trans hwn15)
  replace hX1 := hX1.mono ((Ext.drew _).trans hwn15)
  replace hX2 := hX2.mono ((Ext.drew _).trans hwn15)
  have oE0 := (HO0.out _ y0).own
  have r1 := HR1.out _ y1
  have a1 := (HA1.out _ y1).own
  have o2 := (HO2.out _ y2).own
  have oE13 := (HE13.out _ y13).own
  have oN13 := HN13.out _ y13
  have r13 := HR13.out _ y13
  have oA13 := (HA13.out _ y13).own
  clear y0 y1 y2 y13 hX0 hX1 hX2
  have c0 := X0.cell 0 rfl; have c1 := X0.cell 1 rfl; have c2 := X0.cell 2 rfl
  go_wp2_with fail
  refine (markSystem_x oE0 (by omega) hs0' (by omega)).mono ?_
  rintro e w16 ⟨he, t16, -⟩
  rw [HK1.out] at he
  subst he
  clear c0 c1 c2
  replace B0 := B0.tnd t16 (fun h => by have := hS0 _ h; omega)
  replace B1 := B1.tnd t16 (fun h => by have := hS0 _ h; omega)
  replace B2 := B2.tnd t16 (fun h => by have := hS0 _ h; omega)
  replace X8 := X8.tnd t16 (fun h => by have := hS0 _ h; omega)
  replace X1 := X1.tnd t16 (fun h => by have := hS0 _ h; omega)
  replace X2 := X2.tnd t16 (fun h => by have := hS0 _ h; omega)
  replace X13 := X13.tnd t16 (fun h => by have := hS0 _ h; omega)
  replace hw := ext_up hw t16 (fun b h => by have := hS0 b h; omega)
  replace yS := ext_up yS t16 (fun b h => by have := hS0 b h; omega)
  replace r1 := rows_up r1 t16 (fun b h => by have := hS0 b h; omega)
  replace a1 := own_up a1 t16 (fun b h => by have := hS0 b h; omega)
  replace o2 := own_up o2 t16 (fun b h => by have := hS0 b h; omega)
  replace oE13 := own_up oE13 t16 (fun b h => by have := hS0 b h; omega)
  replace oN13 := intss_up oN13 t16 (fun b h => by have := hS0 b h; omega)
  replace r13 := rows_up r13 t16 (fun b h => by have := hS0 b h; omega)
  replace oA13 := own_up oA13 t16 (fun b h => by have := hS0 b h; omega)
  clear t16 oE0
  have c0 := X1.cell 0 rfl; have c1 := X1.cell 1 rfl; have c2 := X1.cell 2 rfl
  go_wp2_with fail
  refine (markAutomaton_x r1 a1 (by omega) (by rw [List.length_map]; exact HSA.out.1) HSA.out.2 (by omega)).mono ?_
  rintro e w17 ⟨he, t17, -, -⟩
  rw [HK2.out] at he
  subst he
  clear c0 c1 c2
  replace B0 := B0.tnd t17 (fun h => by have := hS1 _ h; omega)
  replace B1 := B1.tnd t17 (fun h => by have := hS1 _ h; omega)
  replace B2 := B2.tnd t17 (fun h => by have := hS1 _ h; omega)
  replace X8 := X8.tnd t17 (fun h => by have := hS1 _ h; omega)
  replace X2 := X2.tnd t17 (fun h => by have := hS1 _ h; omega)
  replace X13 := X13.tnd t17 (fun h => by have := hS1 _ h; omega)
  replace hw := ext_up hw t17 (fun b h => by have := hS1 b h; omega)
  replace yS := ext_up yS t17 (fun b h => by have := hS1 b h; omega)
  replace o2 := own_up o2 t17 (fun b h => by have := hS1 b h; omega)
  replace oE13 := own_up oE13 t17 (fun b h => by have := hS1 b h; omega)
  replace oN13 := intss_up oN13 t17 (fun b h => by have := hS1 b h; omega)
  replace r13 := rows_up r13 t17 (fun b h => by have := hS1 b h; omega)
  replace oA13 := own_up oA13 t17 (fun b h => by have := hS1 b h; omega)
  clear t17 r1 a1
  have c0 := X2.cell 0 rfl; have c1 := X2.cell 1 rfl; have c2 := X2.cell 2 rfl
  go_wp2_with fail
  refine (markSystem_x o2 (by omega) hs2' (by omega)).mono ?_
  rintro e w18 ⟨he, t18, -⟩
  rw [HK3.out] at he
  subst he
  clear c0 c1 c2
  replace B0 := B0.tnd t18 (fun h => by have := hS2 _ h; omega)
  replace B1 := B1.tnd t18 (fun h => by have := hS2 _ h; omega)
  replace B2 := B2.tnd t18 (fun h => by have := hS2 _ h; omega)
  replace X8 := X8.tnd t18 (fun h => by have := hS2 _ h; omega)
  replace X13 := X13.tnd t18 (fun h => by have := hS2 _ h; omega)
  replace hw := ext_up hw t18 (fun b h => by have := hS2 b h; omega)
  replace yS := ext_up yS t18 (fun b h => by have := hS2 b h; omega)
  replace oE13 := own_up oE13 t18 (fun b h => by have := hS2 b h; omega)
  replace oN13 := intss_up oN13 t18 (fun b h => by have := hS2 b h; omega)
  replace r13 := rows_up r13 t18 (fun b h => by have := hS2 b h; omega)
  replace oA13 := own_up oA13 t18 (fun b h => by have := hS2 b h; omega)
  clear t18 o2
  have c0 := X13.cell 0 rfl; have c1 := X13.cell 1 rfl; have c2 := X13.cell 2 rfl; have c3 := X13.cell 3 rfl; have c4 := X13.cell 4 rfl; have c5 := X13.cell 5 rfl; have c6 := X13.cell 6 rfl
  have d0 := X8.cell 0 rfl; have d1 := X8.cell 1 rfl; have d2 := X8.cell 2 rfl; have d3 := X8.cell 3 rfl; have d4 := X8.cell 4 rfl; have d5 := X8.cell 5 rfl; have d6 := X8.cell 6 rfl
  have hk3n : ¬ k3 < 0 := by omega
  go_wp2_with fail
  refine (eqTask_t (x := T) ⟨_, _, _, rfl, EdgesOwn.edges oE13, oN13.intss, BoolsOwn.bools oA13⟩ (HT8.out _ yS)).mono ?_
  rintro e w19 ⟨rfl, he19⟩
  clear c0 c1 c2 c3 c4 c5 c6
  clear d0 d1 d2 d3 d4 d5 d6
  replace B0 := B0.ext he19
  replace B1 := B1.ext he19
  replace B2 := B2.ext he19
  replace X8 := X8.ext he19
  replace X13 := X13.ext he19
  replace hw := hw.trans he19
  replace yS := yS.trans he19
  replace oE13 := own_ext oE13 he19
  replace r13 := r13.ext he19
  replace oA13 := own_ext oA13 he19
  clear he19 oN13
  have c0 := X13.cell 0 rfl; have c1 := X13.cell 1 rfl; have c2 := X13.cell 2 rfl; have c3 := X13.cell 3 rfl; have c4 := X13.cell 4 rfl; have c5 := X13.cell 5 rfl; have c6 := X13.cell 6 rfl
  go_wp2_with fail
  refine (markTask_x oE13 r13 oA13 HKT.out HTS.out.1 (by rw [List.length_map]; exact HTS.out.2.1) HTS.out.2.2).mono ?_
  rintro e w20 ⟨he, t20, hmk⟩
  rw [HKQ.out] at he
  subst he
  clear c0 c1 c2 c3 c4 c5 c6
  replace B0 := B0.tnd t20 (fun h => by have := hS13 _ h; omega)
  replace B1 := B1.tnd t20 (fun h => by have := hS13 _ h; omega)
  replace B2 := B2.tnd t20 (fun h => by have := hS13 _ h; omega)
  replace X8 := X8.tnd t20 (fun h => by have := hS13 _ h; omega)
  replace X13 := X13.tnd t20 (fun h => by have := hS13 _ h; omega)
  replace hw := ext_up hw t20 (fun b h => by have := hS13 b h; omega)
  replace yS := ext_up yS t20 (fun b h => by have := hS13 b h; omega)
  clear t20 oE13 r13 oA13
  have c0 := X13.cell 0 rfl; have c1 := X13.cell 1 rfl; have c2 := X13.cell 2 rfl; have c3 := X13.cell 3 rfl; have c4 := X13.cell 4 rfl; have c5 := X13.cell 5 rfl; have c6 := X13.cell 6 rfl
  have hkqn : ¬ kq < 0 := by omega
  have hqq : (kq != kq) = false := by simp
  go_wp2_with fail
  refine (heldTask_c _ T.sys.edges.length (T.prop.next.map List.length) T.prop.accept.length 1 _ _ hmk (by omega) HTS.out.1 (by rw [List.length_map]; exact HTS.out.2.1) HTS.out.2.2 (by omega)).mono ?_
  rintro e w21 ⟨he, he21⟩
  rw [HKQ.out] at he
  subst he
  clear c0 c1 c2 c3 c4 c5 c6
  replace B0 := B0.ext he21
  replace B1 := B1.ext he21
  replace B2 := B2.ext he21
  replace X8 := X8.ext he21
  replace X13 := X13.ext he21
  replace hw := hw.trans he21
  replace yS := yS.trans he21
  replace hmk := hmk.ext he21
  clear he21
  go_wp2_with fail
  have D0_0 := fun d os => cell_regrown (B0.cell 0 rfl) d os
  have D0_1 := fun d os => cell_regrown (B0.cell 1 rfl) d os
  have D0_2 := fun d os => cell_regrown (B0.cell 2 rfl) d os
  have D1_0 := fun d os => cell_regrown (B1.cell 0 rfl) d os
  have D1_1 := fun d os => cell_regrown (B1.cell 1 rfl) d os
  have D1_2 := fun d os => cell_regrown (B1.cell 2 rfl) d os
  have D2_0 := fun d os => cell_regrown (B2.cell 0 rfl) d os
  have D2_1 := fun d os => cell_regrown (B2.cell 1 rfl) d os
  have D2_2 := fun d os => cell_regrown (B2.cell 2 rfl) d os
  obtain ⟨R, hRe⟩ : ∃ R, R = Late w21.heap.size 36 (TaskBox T) := ⟨_, rfl⟩
  have HRG : Hid (Sk.Goes R w21.drew) := by rw [hRe]; exact goes_task T w21
  have HRL := Lib.hid (show ∀ a b, R a b → Late w21.heap.size 36 (TaskBox T) a b from fun a b h => hRe ▸ h)
  have HRM := Lib.hid (show ∀ a b, Late w21.heap.size 36 (TaskBox T) a b → R a b from fun a b h => hRe ▸ h)
  clear hRe
  obtain ⟨Kc, HKc⟩ : ∃ Kc : FuncId → Array Value → World → Value → World → Prop, Hid (Kc = fun f args w0 v w' => Ext w0 w' ∧ (f = 8 → ∀ u s, args = #[u] → SysV w0 u s → SysOwn w0.heap.size w' v s) ∧ (f = 9 → ∀ u s, args = #[u] → AutoV w0 u s → AutoOwn w0.heap.size w' v s) ∧ (f = 10 → ∃ vt b, v = .tuple #[vt, .bool tb] ∧ TaskOwn b w' vt T)) := ⟨_, rfl⟩
  refine Sk.wp_region_late (Kc := Kc) 13 HRG (by kernel_rfl) (by kernel_rfl) ?_
  simp only [List.take_succ_cons, List.take_zero]
  repeat (refine Sk.WalkL.pure HRG rfl (fun K hK => ?_); simp only [Sk.PureDo]; go_simp; refine hK _ ?_; clear hK K)
  refine Sk.WalkL.step (fun wc5 hwc5 hdwc5 K hK => ?_)
  have ewc5 : Ext w21 wc5 := (Ext.drew _).trans (HRG.out.ext _ hwc5)
  simp only [Sk.OpDo, Sk.OpSafe, Sk.OpOut]
  go_simp
  refine ⟨(toSystem_c _ t0 _ (HT0.out _ (hw.trans ewc5)) hs0).mono ?_, ?_⟩
  · rintro e w' ⟨v, rfl, he, hv⟩
    exact ⟨v, rfl, by rw [HKc.out]; exact ⟨he, (fun _ u s h hu => by simp only [Array.mk.injEq, List.cons.injEq, and_true] at h; subst h; rw [← (HT0.out _ (hw.trans ewc5)).inj hu]; exact hv), (fun h => by cases h), (fun h => by cases h)⟩⟩
  intro u0 x0 hk0
  rw [HKc.out] at hk0
  have hy0 := hk0.2.1 rfl _ _ rfl (HT0.out _ (hw.trans ewc5))
  refine ⟨HRG.out.of _ _ hk0.1, hK _ _ ?_⟩
  clear hK K hdwc5 hk0 ewc5
  repeat (refine Sk.WalkL.pure HRG rfl (fun K hK => ?_); simp only [Sk.PureDo]; go_simp; refine hK _ ?_; clear hK K)
  refine Sk.WalkL.step (fun wc6 hwc6 hdwc6 K hK => ?_)
  have ewc6 : Ext w21 wc6 := (Ext.drew _).trans (HRG.out.ext _ hwc6)
  simp only [Sk.OpDo, Sk.OpSafe, Sk.OpOut]
  go_simp
  refine ⟨(toAutomaton_c _ t1 _ (HT1.out _ (hw.trans ewc6)) hs1).mono ?_, ?_⟩
  · rintro e w' ⟨v, rfl, he, hv⟩
    exact ⟨v, rfl, by rw [HKc.out]; exact ⟨he, (fun h => by cases h), (fun _ u s h hu => by simp only [Array.mk.injEq, List.cons.injEq, and_true] at h; subst h; rw [← (HT1.out _ (hw.trans ewc6)).inj hu]; exact hv), (fun h => by cases h)⟩⟩
  intro u1 x1 hk1
  rw [HKc.out] at hk1
  have hy1 := hk1.2.2.1 rfl _ _ rfl (HT1.out _ (hw.trans ewc6))
  refine ⟨HRG.out.of _ _ hk1.1, hK _ _ ?_⟩
  clear hK K hdwc6 hk1 ewc6
  repeat (refine Sk.WalkL.pure HRG rfl (fun K hK => ?_); simp only [Sk.PureDo]; go_simp; refine hK _ ?_; clear hK K)
  refine Sk.WalkL.step (fun wc7 hwc7 hdwc7 K hK => ?_)
  have ewc7 : Ext w21 wc7 := (Ext.drew _).trans (HRG.out.ext _ hwc7)
  simp only [Sk.OpDo, Sk.OpSafe, Sk.OpOut]
  go_simp
  refine ⟨(toSystem_c _ t2 _ (HT2.out _ (hw.trans ewc7)) hs2).mono ?_, ?_⟩
  · rintro e w' ⟨v, rfl, he, hv⟩
    exact ⟨v, rfl, by rw [HKc.out]; exact ⟨he, (fun _ u s h hu => by simp only [Array.mk.injEq, List.cons.injEq, and_true] at h; subst h; rw [← (HT2.out _ (hw.trans ewc7)).inj hu]; exact hv), (fun h => by cases h), (fun h => by cases h)⟩⟩
  intro u2 x2 hk2
  rw [HKc.out] at hk2
  have hy2 := hk2.2.1 rfl _ _ rfl (HT2.out _ (hw.trans ewc7))
  refine ⟨HRG.out.of _ _ hk2.1, hK _ _ ?_⟩
  clear hK K hdwc7 hk2 ewc7
  repeat (refine Sk.WalkL.pure HRG rfl (fun K hK => ?_); simp only [Sk.PureDo]; go_simp; refine hK _ ?_; clear hK K)
  refine Sk.WalkL.step (fun wc8 hwc8 hdwc8 K hK => ?_)
  have ewc8 : Ext w21 wc8 := (Ext.drew _).trans (HRG.out.ext _ hwc8)
  simp only [Sk.OpDo, Sk.OpSafe, Sk.OpOut]
  go_simp
  refine ⟨(TaskOf_ce HTT.out HTB.out (hy0.late odd_task (HRL.out _ _ (hdwc8 ⟨1, .data⟩ (by simp) rfl))).sys (hy1.late odd_task (HRL.out _ _ (hdwc8 ⟨3, .data⟩ (by simp) rfl))).auto (hy2.late odd_task (HRL.out _ _ (hdwc8 ⟨5, .data⟩ (by simp) rfl))).sys hs0).mono ?_, ?_⟩
  · rintro e w' ⟨vt, rfl, he, ho⟩
    exact ⟨_, rfl, by rw [HKc.out]; exact ⟨he, (fun h => by cases h), (fun h => by cases h), fun _ => ⟨_, _, rfl, ho⟩⟩⟩
  intro uz xz hkz
  rw [HKc.out] at hkz
  obtain ⟨v8, base8, rfl, ho8⟩ := hkz.2.2.2 rfl
  replace ho8 := ho8.low (Nat.zero_le _)
  obtain ⟨e8, n8, a8, rfl, k80, k81, k82⟩ := ho8
  obtain ⟨ye8, ze8, rfl⟩ := k80.shape
  obtain ⟨yn8, zn8, rfl⟩ := k81.shape
  obtain ⟨ya8, za8, rfl⟩ := k82.shape
  have ho8 : TaskOwn 0 xz (.agg #[.int .i64 T.sys.alphabet, .int .i64 T.sys.states, .slice ye8 T.sys.edges.length ze8, .int .i64 T.prop.alphabet, .slice yn8 T.prop.next.length zn8, .slice ya8 T.prop.accept.length za8, .int .i64 T.alphabet]) T := ⟨_, _, _, rfl, k80, k81, k82⟩
  refine ⟨HRG.out.of _ _ hkz.1, hK _ _ ?_⟩
  clear hK K hdwc8 hkz hy0 hy1 hy2 ewc8 k80 k81 k82
  repeat (refine Sk.WalkL.pure HRG rfl (fun K hK => ?_); simp only [Sk.PureDo]; go_simp; refine hK _ ?_; clear hK K)
  refine Sk.WalkL.step (fun wc9 hwc9 hdwc9 K hK => ?_)
  have ewc9 : Ext w21 wc9 := (Ext.drew _).trans (HRG.out.ext _ hwc9)
  simp only [Sk.OpDo, Sk.OpSafe, Sk.OpOut]
  go_simp
  refine ⟨HRG.out.of _ _ (Ext.alloc _ _), hK _ _ ?_⟩
  clear hK K hdwc9
  have hG8 : w21.heap.size ≤ wc9.heap.size := ewc9.size
  have hb9 := Blk.new wc9 #[.int .i64 0, .int .i64 0, .slice none 0 0, .int .i64 0, .slice none 0 0, .slice none 0 0, .int .i64 0] 36
  refine Sk.WalkL.step (fun wcf hwcf hdwcf K hK => ?_)
  have ewcf : Ext w21 wcf := (Ext.drew _).trans (HRG.out.ext _ hwcf)
  obtain ⟨q0, q1, q2, q3, q4, q5, q6, hbf⟩ := (HRL.out _ _ (hdwcf ⟨10, .data⟩ (by simp) rfl)).cells hG8 hb9
  have hof := ho8.late odd_task (HRL.out _ _ (by first | exact hdwcf ⟨6, .chain⟩ (by simp) rfl | exact hdwcf ⟨6, .phase⟩ (by simp) rfl))
  obtain ⟨p1, p2, p3⟩ := task_put hbf hof
  have bc0 := hbf.cell 0 rfl; have bf0 := hbf.fr 0; have bc1 := hbf.cell 1 rfl; have bf1 := hbf.fr 1; have bc2 := hbf.cell 2 rfl; have bf2 := hbf.fr 2; have bc3 := hbf.cell 3 rfl; have bf3 := hbf.fr 3; have bc4 := hbf.cell 4 rfl; have bf4 := hbf.fr 4; have bc5 := hbf.cell 5 rfl; have bf5 := hbf.fr 5; have bc6 := hbf.cell 6 rfl; have bf6 := hbf.fr 6
  simp only [Sk.OpDo, Sk.OpSafe, Sk.OpOut]
  go_simp
  refine ⟨HRM.out _ _ (Late.put p1 hG8 hbf p2 p3), hK _ _ ?_⟩
  clear hK K hdwcf
  clear bc0 bc1 bc2 bc3 bc4 bc5 bc6 bf0 bf1 bf2 bf3 bf4 bf5 bf6
  repeat (refine Sk.WalkL.pure HRG rfl (fun K hK => ?_); simp only [Sk.PureDo]; go_simp; refine hK _ ?_; clear hK K)
  refine Sk.WalkL.nil (fun wT hwn hmn => ?_)
  simp only [List.drop_succ_cons, List.drop_zero, List.drop_nil]
  obtain ⟨ae18, ce18, an18, cn18, aa18, ca18, hB8, hst⟩ := (HRL.out _ _ (hmn 11 (by omega))).done hG8 p2 p3
  have hx9w : Ext w21 wT := (Ext.drew _).trans (HRG.out.ext _ hwn)
  clear hmn HKc hwn hwc9 hwc8 hwc7 hwc6 hwc5 hwcf ewc9 ewcf HRG HRL HRM hb9 hbf hof p1 p2 p3 ho8
  clear D0_0 D0_1 D0_2 D1_0 D1_1 D1_2 D2_0 D2_1 D2_2
  generalize wc9.heap.size = G18 at hB8 hG8 ⊢
  have HT18 := Lib.hid (show ∀ w', Ext wT w' → TaskV w' (.agg #[.int .i64 T.sys.alphabet, .int .i64 T.sys.states, .slice ae18 T.sys.edges.length ce18, .int .i64 T.prop.alphabet, .slice an18 T.prop.next.length cn18, .slice aa18 T.prop.accept.length ca18, .int .i64 T.alphabet]) T from fun w' h => (hst.ext h).task)
  have lG18 := hB8.lt
  have X18 := hB8
  clear hst hB8
  replace X8 := X8.ext hx9w
  replace X13 := X13.ext hx9w
  replace hw := hw.trans hx9w
  replace yS := yS.trans hx9w
  replace hmk := hmk.ext hx9w
  clear hx9w hG8
  have c0 := X18.cell 0 rfl; have c1 := X18.cell 1 rfl; have c2 := X18.cell 2 rfl; have c3 := X18.cell 3 rfl; have c4 := X18.cell 4 rfl; have c5 := X18.cell 5 rfl; have c6 := X18.cell 6 rfl
  have d0 := X8.cell 0 rfl; have d1 := X8.cell 1 rfl; have d2 := X8.cell 2 rfl; have d3 := X8.cell 3 rfl; have d4 := X8.cell 4 rfl; have d5 := X8.cell 5 rfl; have d6 := X8.cell 6 rfl
  go_wp2_with fail
  refine (eqTask_t (x := T) (HT18.out _ (Ext.refl _)) (HT8.out _ yS)).mono ?_
  rintro e w22 ⟨rfl, he22⟩
  clear c0 c1 c2 c3 c4 c5 c6
  clear d0 d1 d2 d3 d4 d5 d6
  replace X13 := X13.ext he22
  replace hw := hw.trans he22
  replace hmk := hmk.ext he22
  have c0 := X13.cell 0 rfl; have c1 := X13.cell 1 rfl; have c2 := X13.cell 2 rfl; have c3 := X13.cell 3 rfl; have c4 := X13.cell 4 rfl; have c5 := X13.cell 5 rfl; have c6 := X13.cell 6 rfl
  go_wp2_with fail
  refine (heldTask_c _ T.sys.edges.length (T.prop.next.map List.length) T.prop.accept.length 1 _ _ hmk (by omega) HTS.out.1 (by rw [List.length_map]; exact HTS.out.2.1) HTS.out.2.2 (by omega)).mono ?_
  rintro e w23 ⟨he, he23⟩
  rw [HKQ.out] at he
  subst he
  go_wp2_with fail
  go_ret
  exact Grows.mk rfl (hw.trans he23)

theorem own : ownKnob Try.prog.godebug = none := by kernel_rfl
theorem laidOut : laidOutB Try.prog = true := by kernel_rfl
set_option maxRecDepth 100000 in
theorem lifted (os : Os) (started : os.Started) (H : Type) (enc : TypeId × Value → H) :
    ReturnsInHanded {} Try.checked os 3 .any (Rows.fnExactTaskOfSpec.pre6 enc Try.prog Try.f3 Rows.fnExactTaskOfRow.domain false) (Rows.fnExactTaskOfSpec.post enc Try.prog Try.f3 false true false false) := by
  refine returnsInHanded_of_change (C := Try.checked) own started (by kernel_rfl) Try.func3
    (ChangeSpec.witness6 (enc := enc) (C := Try.checked) false ⟨#[], #[.agg #[.int .i64 0, .int .i64 0, .slice none 0 0], .agg #[.int .i64 0, .slice none 0 0, .slice none 0 0], .agg #[.int .i64 0, .int .i64 0, .slice none 0 0]], []⟩ 8 (by kernel_rfl) (by kernel_rfl) (by kernel_rfl) (by kernel_rfl)) ?_
  intro W base args ds gs before hval0 hW hcnd _
  have hval : ∀ (j : Nat) t v, Try.f3.params[j]? = some t → args[j]? = some v → Value.okWide Try.prog W .any base t v := hval0
  have hW' := hW
  obtain ⟨p, q, hA0, hV, rfl, hfz, hnd⟩ := hW
  have hA : DataW.TrodAll enc Try.prog W 0 (fun _ => true) true Try.f3.params.toList args.toList ds p := hA0
  rw [Try.params3] at hA hval
  obtain ⟨v0, vs0, d0, ds0, p0, q0, hargs, rfl, rfl, h0, r0⟩ := trodAll_cons hA
  obtain ⟨v1, vs1, d1, ds1, p1, q1, rfl, rfl, rfl, h1, r1⟩ := trodAll_cons r0
  obtain ⟨v2, vs2, d2, ds2, p2, q2, rfl, rfl, rfl, h2, r2⟩ := trodAll_cons r1
  obtain ⟨rfl, rfl, rfl⟩ := trodAll_nil r2
  obtain rfl : args = #[v0, v1, v2] := by cases args; simp_all
  obtain ⟨rfl, rfl⟩ := trodVars_none hV
  have k0 := h0
  have lt0 : ∀ x ∈ p0, x.block < W.heap.size := by obtain ⟨m, hm⟩ := k0; exact DataW.trod_lt m _ _ _ hm
  obtain ⟨cs0, rfl, hcs0⟩ := okWide_struct Try.underlying24 (hval 0 _ v0 rfl rfl)
  obtain ⟨t0, w0⟩ : ∃ t, SysV W (.agg cs0) t := by
    obtain ⟨fuel, hf⟩ := h0
    obtain ⟨t, ht⟩ := read_sys hf
    exact ⟨t, by simpa [Value.cells] using ht⟩
  have k1 := h1
  have lt1 : ∀ x ∈ p1, x.block < W.heap.size := by obtain ⟨m, hm⟩ := k1; exact DataW.trod_lt m _ _ _ hm
  obtain ⟨cs1, rfl, hcs1⟩ := okWide_struct Try.underlying28 (hval 1 _ v1 rfl rfl)
  obtain ⟨t1, w1⟩ : ∃ t, AutoV W (.agg cs1) t := by
    obtain ⟨fuel, hf⟩ := h1
    obtain ⟨t, ht⟩ := read_auto hf
    exact ⟨t, by simpa [Value.cells] using ht⟩
  have k2 := h2
  have lt2 : ∀ x ∈ p2, x.block < W.heap.size := by obtain ⟨m, hm⟩ := k2; exact DataW.trod_lt m _ _ _ hm
  obtain ⟨cs2, rfl, hcs2⟩ := okWide_struct Try.underlying24 (hval 2 _ v2 rfl rfl)
  obtain ⟨t2, w2⟩ : ∃ t, SysV W (.agg cs2) t := by
    obtain ⟨fuel, hf⟩ := h2
    obtain ⟨t, ht⟩ := read_sys hf
    exact ⟨t, by simpa [Value.cells] using ht⟩
  clear hA0 hval0
  refine (walk (.agg cs0) t0 (.agg cs1) t1 (.agg cs2) t2 W w0 w1 w2).mono fun e W' ⟨he, bel⟩ => ?_
  subst he
  exact ⟨_, rfl, _, _, _, [], _, [], hW', trodAll_mk1 (shut_bool Try.underlying4 _), (trodAll_cons_mk (Below.trod laidOut (by kernel_rfl) (of_decide_eq_true (by kernel_rfl)) k0 bel lt0) (trodAll_cons_mk (Below.trod laidOut (by kernel_rfl) (of_decide_eq_true (by kernel_rfl)) k1 bel lt1) (trodAll_cons_mk (Below.trod laidOut (by kernel_rfl) (of_decide_eq_true (by kernel_rfl)) k2 bel lt2) trodAll_mk0))), rfl, bel.frame _, fun h => by cases h⟩

theorem over : Rows.fnExactTaskOfRow.holds Try.pinned (OpenSpec.ofChange Rows.fnExactTaskOfSpec) :=
  OpenClaim.holds_of_wide 3 Try.f3 rfl rfl rfl rfl rfl rfl rfl ⟨rfl, rfl, rfl, rfl, rfl⟩ rfl rfl rfl rfl rfl (by kernel_rfl) Try.func3 (by kernel_rfl)
    (of_decide_eq_true (by kernel_rfl)) (by unfold Func.isWrapper; first | (rw [if_pos (by decide +kernel)]; kernel_rfl) | (rw [if_neg (by decide +kernel)]; exact ⟨rfl, rfl⟩))
    (fun os started H enc _ => lifted os started H enc)

theorem proved : Rows.FnExactTaskOfSaid := over
#print axioms proved
end Go.Proofs.Ytloampfmlhmlhaa.lawTaskOf