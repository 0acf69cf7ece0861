/- Walks: the program's checks: PartsViolation, PartsKeep, ViolationUnder, KeepsUnder, FirstViolation, KeepsProperty. -/
import Derived.Test.YthpiihblmekijaaGreatDoorWalkFC
namespace Go.Proofs.YthpiihblmekijaaGreatDoor
set_option linter.unusedSimpArgs false
set_option linter.unusedVariables false
open Go.RowKit

set_option maxHeartbeats 1600000
set_option maxRecDepth 100000

/-- The end of a check: some answer of which A holds. -/
def AnsEnd (A : Option (List Int) → Prop) (w : World) (e : Ending) (w' : World) : Prop := ∃ r, A r ∧ e = .returned (.tuple #[.string (rtext r), .bool r.isSome]) ∧ Ext w w'
def PV (parts : List Sys) (p : Auto) (r : Option (List Int)) : Prop := if (areParts parts && autoValid p) = true then FirstIs (BrokenW parts trivAuto p) r else r = none
def VU (s : Sys) (a p : Auto) (r : Option (List Int)) : Prop := if (sysValid s && autoValid a && autoValid p) = true then FirstIs (BrokenW [s] a p) r else r = none
theorem PV.unique {parts : List Sys} {p : Auto} {r r' : Option (List Int)} (h : PV parts p r) (h' : PV parts p r') : r = r' := by
  unfold PV at h h'
  split at h
  · rw [if_pos ‹_›] at h'; exact h.unique h'
  · rw [if_neg ‹_›] at h'; rw [h, h']
theorem VU.unique {s : Sys} {a p : Auto} {r r' : Option (List Int)} (h : VU s a p r) (h' : VU s a p r') : r = r' := by
  unfold VU at h h'
  split at h
  · rw [if_pos ‹_›] at h'; exact h.unique h'
  · rw [if_neg ‹_›] at h'; rw [h, h']
theorem trivAuto_valid : autoValid trivAuto = true := by decide
theorem one_parts {s : Sys} (h : sysValid s = true) : areParts [s] = true := by simp [areParts, h]

/-- A struct in a box. -/
theorem AutoV.boxed {w : World} {v : Value} {x : Auto} (h : AutoV w v x) : ∃ vn va, v = .agg #[.int .i64 x.alphabet, vn, va] ∧ IntssV w vn x.next ∧ BoolsV w va x.accept := h

theorem PartsViolation_c (v vp : Value) (parts : List Sys) (p : Auto) (w : World) (hv : SyssV w v parts) (hl : parts.length ≤ 1048576) (hp : AutoV w vp p) (hT : Deb w) :
    Calls Tryz.prog 15 #[v, vp] w (AnsEnd (PV parts p) w) := by
  have HV := Lib.hid hp
  obtain ⟨vn, va, rfl, h2, h3⟩ := hp
  obtain ⟨an, cn, rfl, -, -⟩ := h2.open
  obtain ⟨aa, ca, rfl, -, -⟩ := h3.open
  clear h2 h3
  go_enter Tryz.func15, Tryz.ntmps15
  go_wp2_with fail
  have he : Ext w (w.alloc (.cells #[.int .i64 p.alphabet, .slice an p.next.length cn, .slice aa p.accept.length ca] 29)) := Ext.alloc _ _
  have hB := Blk.new w #[.int .i64 p.alphabet, .slice an p.next.length cn, .slice aa p.accept.length ca] 29
  generalize w.alloc (.cells #[.int .i64 p.alphabet, .slice an p.next.length cn, .slice aa p.accept.length ca] 29) = wo at he hB ⊢
  refine (areParts_c _ parts _ (hv.mono he) hl).mono ?_
  rintro e w1 ⟨rfl, he1⟩
  have c0 := (hB.ext he1).cell 0 rfl
  have c1 := (hB.ext he1).cell 1 rfl
  have c2 := (hB.ext he1).cell 2 rfl
  by_cases hP : areParts parts = true
  · rw [hP]
    have HP := Lib.hid hP
    clear hP
    by_cases hA : autoValid p = true
    · have HA := Lib.hid hA
      clear hA
      go_wp2_with fail
      refine (AutomatonValid_b HA.out (HV.out.mono (he.trans he1))).mono ?_
      rintro e w2 ⟨rfl, he2⟩
      have d0 := (hB.ext (he1.trans he2)).cell 0 rfl
      have d1 := (hB.ext (he1.trans he2)).cell 1 rfl
      have d2 := (hB.ext (he1.trans he2)).cell 2 rfl
      have hx := (he.trans he1).trans he2
      go_wp2_with fail
      refine (firstBroken_c _ (.pointer none) _ parts trivAuto p _ (hv.mono hx) hl HP.out (.inl ⟨rfl, rfl⟩) trivAuto_valid (HV.out.mono hx) HA.out (hT.ext hx)).mono ?_
      rintro e w3 ⟨r, hr, rfl, he3⟩
      go_wp2_with fail
      go_ret2
      exact ⟨r, by unfold PV; rw [HP.out, HA.out]; exact hr, rfl, hx.trans he3⟩
    · have hA' : autoValid p = false := by simpa using hA
      go_wp2_with fail
      refine (AutomatonValid_b hA' (HV.out.mono (he.trans he1))).mono ?_
      rintro e w2 ⟨rfl, he2⟩
      go_wp2_with fail
      go_ret2
      exact ⟨none, by unfold PV; rw [hA']; simp, rfl, (he.trans he1).trans he2⟩
  · have hP' : areParts parts = false := by simpa using hP
    rw [hP']
    go_wp2_with fail
    go_ret2
    exact ⟨none, by unfold PV; rw [hP']; simp, rfl, he.trans he1⟩

theorem PartsKeep_c (v vp : Value) (parts : List Sys) (p : Auto) (w : World) (hv : SyssV w v parts) (hl : parts.length ≤ 1048576) (hp : AutoV w vp p) (hT : Deb w) :
    Calls Tryz.prog 25 #[v, vp] w (fun e w' => ∃ r, PV parts p r ∧ e = .returned (.bool (areParts parts && autoValid p && !r.isSome)) ∧ Ext w w') := by
  have HV := Lib.hid hp
  obtain ⟨vn, va, rfl, h2, h3⟩ := hp
  obtain ⟨an, cn, rfl, -, -⟩ := h2.open
  obtain ⟨aa, ca, rfl, -, -⟩ := h3.open
  clear h2 h3
  go_enter Tryz.func25, Tryz.ntmps25
  go_wp2_with fail
  have he : Ext w (w.alloc (.cells #[.int .i64 p.alphabet, .slice an p.next.length cn, .slice aa p.accept.length ca] 29)) := Ext.alloc _ _
  have hB := Blk.new w #[.int .i64 p.alphabet, .slice an p.next.length cn, .slice aa p.accept.length ca] 29
  generalize w.alloc (.cells #[.int .i64 p.alphabet, .slice an p.next.length cn, .slice aa p.accept.length ca] 29) = wo at he hB ⊢
  refine (PartsViolation_c _ _ parts p _ (hv.mono he) hl (HV.out.mono he) (hT.ext he)).mono ?_
  rintro e w1 ⟨r, hr, rfl, he1⟩
  go_wp2_with fail
  refine (areParts_c _ parts _ (hv.mono (he.trans he1)) hl).mono ?_
  rintro e w2 ⟨rfl, he2⟩
  have c0 := (hB.ext (he1.trans he2)).cell 0 rfl
  have c1 := (hB.ext (he1.trans he2)).cell 1 rfl
  have c2 := (hB.ext (he1.trans he2)).cell 2 rfl
  by_cases hP : areParts parts = true
  · rw [hP]
    go_wp2_with fail
    by_cases hA : autoValid p = true
    · refine (AutomatonValid_b hA (HV.out.mono ((he.trans he1).trans he2))).mono ?_
      rintro e w3 ⟨rfl, he3⟩
      go_wp2_with fail
      go_ret
      exact ⟨r, hr, by simp [hP, hA], ((he.trans he1).trans he2).trans he3⟩
    · have hA' : autoValid p = false := by simpa using hA
      refine (AutomatonValid_b hA' (HV.out.mono ((he.trans he1).trans he2))).mono ?_
      rintro e w3 ⟨rfl, he3⟩
      go_wp2_with fail
      go_ret
      exact ⟨r, hr, by simp [hA'], ((he.trans he1).trans he2).trans he3⟩
  · have hP' : areParts parts = false := by simpa using hP
    rw [hP']
    go_wp2_with fail
    go_ret
    exact ⟨r, hr, by simp [hP'], (he.trans he1).trans he2⟩

theorem SystemValid_b {v : Value} {x : Sys} {w : World} {b : Bool} (hb : sysValid x = b) (hv : SysV w v x) :
    Calls Tryz.prog 19 #[v] w (Grows (.bool b) w) := hb ▸ SystemValid_c v x w hv

/-- A list of one system, as it lies in memory of its own. -/
theorem SyssV.one {w : World} {s : Sys} {ve : Value} (h : EdgesV w ve s.edges) :
    SyssV (w.alloc (.cells #[.int .i64 s.alphabet, .int .i64 s.states, ve] 25)) (.slice (some ⟨w.heap.size, 0, none⟩) 1 1) [s] := by
  refine ⟨_, 1, rfl, Nat.le_refl _, by decide, fun _ => ⟨w.heap.size, 0, rfl, by simp, fun i x hi => ?_⟩⟩
  obtain rfl : i = 0 := by have := (List.getElem?_eq_some_iff.1 hi).1; simp at this; exact this
  simp at hi
  subst hi
  have hb := Blk.new w #[.int .i64 s.alphabet, .int .i64 s.states, ve] 25
  exact ⟨ve, hb.cell 0 rfl, hb.cell 1 rfl, hb.cell 2 rfl, h.mono (Ext.alloc _ _)⟩

theorem FirstViolation_c (v vp : Value) (s : Sys) (p : Auto) (w : World) (hv : SysV w v s) (hp : AutoV w vp p) (hT : Deb w) :
    Calls Tryz.prog 22 #[v, vp] w (AnsEnd (PV [s] p) w) := by
  obtain ⟨ve, rfl, h1⟩ := hv
  obtain ⟨ae, ce, rfl, -, -⟩ := h1.open
  have HV := Lib.hid hp
  obtain ⟨vn, va, rfl, h2, h3⟩ := hp
  obtain ⟨an, cn, rfl, -, -⟩ := h2.open
  obtain ⟨aa, ca, rfl, -, -⟩ := h3.open
  clear h2 h3
  go_enter Tryz.func22, Tryz.ntmps22
  go_wp2_with fail
  have hS := h1.mono ((Ext.alloc w (.cells #[.int .i64 s.alphabet, .int .i64 s.states, .slice ae s.edges.length ce] 25)).trans (Ext.alloc _ (.cells #[.int .i64 p.alphabet, .slice an p.next.length cn, .slice aa p.accept.length ca] 29)))
  have he := ((Ext.alloc w (.cells #[.int .i64 s.alphabet, .int .i64 s.states, .slice ae s.edges.length ce] 25)).trans (Ext.alloc _ (.cells #[.int .i64 p.alphabet, .slice an p.next.length cn, .slice aa p.accept.length ca] 29))).trans (Ext.alloc _ (.cells #[.int .i64 s.alphabet, .int .i64 s.states, .slice ae s.edges.length ce] 25))
  have hone := SyssV.one hS
  simp only [World.size_alloc] at hone
  refine (PartsViolation_c _ _ [s] p _ hone (by simp) (HV.out.mono he) (hT.ext he)).mono ?_
  rintro e w1 ⟨r, hr, rfl, he1⟩
  go_wp2_with fail
  go_ret2
  exact ⟨r, hr, rfl, he.trans he1⟩

theorem KeepsProperty_c (v vp : Value) (s : Sys) (p : Auto) (w : World) (hv : SysV w v s) (hp : AutoV w vp p) (hT : Deb w) :
    Calls Tryz.prog 23 #[v, vp] w (fun e w' => ∃ r, PV [s] p r ∧ e = .returned (.bool (areParts [s] && autoValid p && !r.isSome)) ∧ Ext w w') := by
  obtain ⟨ve, rfl, h1⟩ := hv
  obtain ⟨ae, ce, rfl, -, -⟩ := h1.open
  have HV := Lib.hid hp
  obtain ⟨vn, va, rfl, h2, h3⟩ := hp
  obtain ⟨an, cn, rfl, -, -⟩ := h2.open
  obtain ⟨aa, ca, rfl, -, -⟩ := h3.open
  clear h2 h3
  go_enter Tryz.func23, Tryz.ntmps23
  go_wp2_with fail
  have hS := h1.mono ((Ext.alloc w (.cells #[.int .i64 s.alphabet, .int .i64 s.states, .slice ae s.edges.length ce] 25)).trans (Ext.alloc _ (.cells #[.int .i64 p.alphabet, .slice an p.next.length cn, .slice aa p.accept.length ca] 29)))
  have he := ((Ext.alloc w (.cells #[.int .i64 s.alphabet, .int .i64 s.states, .slice ae s.edges.length ce] 25)).trans (Ext.alloc _ (.cells #[.int .i64 p.alphabet, .slice an p.next.length cn, .slice aa p.accept.length ca] 29))).trans (Ext.alloc _ (.cells #[.int .i64 s.alphabet, .int .i64 s.states, .slice ae s.edges.length ce] 25))
  have hone := SyssV.one hS
  simp only [World.size_alloc] at hone
  refine (PartsKeep_c _ _ [s] p _ hone (by simp) (HV.out.mono he) (hT.ext he)).mono ?_
  rintro e w1 ⟨r, hr, rfl, he1⟩
  go_wp2_with fail
  go_ret
  exact ⟨r, hr, by simp, he.trans he1⟩

theorem ViolationUnder_c (v va vp : Value) (s : Sys) (a p : Auto) (w : World) (hv : SysV w v s) (hva : AutoV w va a) (hp : AutoV w vp p) (hT : Deb w) :
    Calls Tryz.prog 11 #[v, va, vp] w (AnsEnd (VU s a p) w) := by
  have HS := Lib.hid hv
  obtain ⟨ve, rfl, h1⟩ := hv
  obtain ⟨ae, ce, rfl, -, -⟩ := h1.open
  have HA := Lib.hid hva
  obtain ⟨vn1, va1, rfl, k2, k3⟩ := hva
  obtain ⟨an1, cn1, rfl, -, -⟩ := k2.open
  obtain ⟨aa1, ca1, rfl, -, -⟩ := k3.open
  have HV := Lib.hid hp
  obtain ⟨vn, va, rfl, h2, h3⟩ := hp
  obtain ⟨an, cn, rfl, -, -⟩ := h2.open
  obtain ⟨aa, ca, rfl, -, -⟩ := h3.open
  clear h2 h3
  obtain ⟨wo, hwo⟩ : ∃ wo, wo = ((w.alloc (.cells #[.int .i64 s.alphabet, .int .i64 s.states, .slice ae s.edges.length ce] 25)).alloc (.cells #[.int .i64 a.alphabet, .slice an1 a.next.length cn1, .slice aa1 a.accept.length ca1] 29)).alloc (.cells #[.int .i64 p.alphabet, .slice an p.next.length cn, .slice aa p.accept.length ca] 29) := ⟨_, rfl⟩
  have he : Ext w wo := by rw [hwo]; exact ((Ext.alloc _ _).trans (Ext.alloc _ _)).trans (Ext.alloc _ _)
  have b0 : Blk wo w.heap.size #[.int .i64 s.alphabet, .int .i64 s.states, .slice ae s.edges.length ce] 25 := by rw [hwo]; exact Ext.blk ((Ext.alloc _ _).trans (Ext.alloc _ _))
  have b1 : Blk wo (w.heap.size + 1) #[.int .i64 a.alphabet, .slice an1 a.next.length cn1, .slice aa1 a.accept.length ca1] 29 := by rw [hwo]; exact Ext.blk1 (Ext.alloc _ _)
  have b2 : Blk wo (w.heap.size + 1 + 1) #[.int .i64 p.alphabet, .slice an p.next.length cn, .slice aa p.accept.length ca] 29 := by rw [hwo]; exact Ext.blk2 (Ext.refl _)
  go_enter Tryz.func11, Tryz.ntmps11
  go_wp2_with fail
  rw [← hwo]
  clear hwo
  have r0 := b0.cell 0 rfl
  have r1 := b0.cell 1 rfl
  have r2 := b0.cell 2 rfl
  go_wp2_with fail
  by_cases hS : sysValid s = true
  case neg =>
    have hS' : sysValid s = false := by simpa using hS
    refine (SystemValid_b hS' (HS.out.mono he)).mono ?_
    rintro e w1 ⟨rfl, he1⟩
    go_wp2_with fail
    go_ret2
    exact ⟨none, by unfold VU; rw [hS']; simp, rfl, he.trans he1⟩
  refine (SystemValid_b hS (HS.out.mono he)).mono ?_
  rintro e w1 ⟨rfl, he1⟩
  have s0 := (b1.ext he1).cell 0 rfl
  have s1 := (b1.ext he1).cell 1 rfl
  have s2 := (b1.ext he1).cell 2 rfl
  clear r0 r1 r2
  go_wp2_with fail
  by_cases hA : autoValid a = true
  case neg =>
    have hA' : autoValid a = false := by simpa using hA
    refine (AutomatonValid_b hA' (HA.out.mono (he.trans he1))).mono ?_
    rintro e w2 ⟨rfl, he2⟩
    go_wp2_with fail
    go_ret2
    exact ⟨none, by unfold VU; rw [hA']; simp, rfl, (he.trans he1).trans he2⟩
  refine (AutomatonValid_b hA (HA.out.mono (he.trans he1))).mono ?_
  rintro e w2 ⟨rfl, he2⟩
  have q0 := (b2.ext (he1.trans he2)).cell 0 rfl
  have q1 := (b2.ext (he1.trans he2)).cell 1 rfl
  have q2 := (b2.ext (he1.trans he2)).cell 2 rfl
  clear s0 s1 s2
  go_wp2_with fail
  by_cases hP : autoValid p = true
  case neg =>
    have hP' : autoValid p = false := by simpa using hP
    refine (AutomatonValid_b hP' (HV.out.mono ((he.trans he1).trans he2))).mono ?_
    rintro e w3 ⟨rfl, he3⟩
    go_wp2_with fail
    go_ret2
    exact ⟨none, by unfold VU; rw [hP']; simp, rfl, ((he.trans he1).trans he2).trans he3⟩
  refine (AutomatonValid_b hP (HV.out.mono ((he.trans he1).trans he2))).mono ?_
  rintro e w3 ⟨rfl, he3⟩
  have hx := ((he.trans he1).trans he2).trans he3
  have hb := (he1.trans he2).trans he3
  clear q0 q1 q2
  have r0 := (b0.ext hb).cell 0 rfl
  have r1 := (b0.ext hb).cell 1 rfl
  have r2 := (b0.ext hb).cell 2 rfl
  have q0 : ∀ o, (w3.alloc o).cell? ⟨w.heap.size + 1 + 1, 0, none⟩ = _ := fun o => ((b2.ext hb).ext (Ext.alloc w3 o)).cell 0 rfl
  have q1 : ∀ o, (w3.alloc o).cell? ⟨w.heap.size + 1 + 1, 1, none⟩ = _ := fun o => ((b2.ext hb).ext (Ext.alloc w3 o)).cell 1 rfl
  have q2 : ∀ o, (w3.alloc o).cell? ⟨w.heap.size + 1 + 1, 2, none⟩ = _ := fun o => ((b2.ext hb).ext (Ext.alloc w3 o)).cell 2 rfl
  have HX := Lib.hid hS
  have HXA := Lib.hid hA
  have HXP := Lib.hid hP
  clear hS hA hP
  go_wp2_with fail
  have ho := Ext.alloc w3 (.cells #[.int .i64 s.alphabet, .int .i64 s.states, .slice ae s.edges.length ce] 25)
  refine (firstBroken_c _ _ _ [s] a p _ (SyssV.one (h1.mono hx)) (by simp) (one_parts HX.out) (.inr ⟨_, rfl, _, _, (b1.ext hb).ext ho, k2.mono (hx.trans ho), k3.mono (hx.trans ho)⟩) HXA.out (HV.out.mono (hx.trans ho)) HXP.out (hT.ext (hx.trans ho))).mono ?_
  rintro e w4 ⟨r, hr, rfl, he4⟩
  go_wp2_with fail
  go_ret2
  exact ⟨r, by unfold VU; rw [HX.out, HXA.out, HXP.out]; exact hr, rfl, (hx.trans ho).trans he4⟩

theorem KeepsUnder_c (v va vp : Value) (s : Sys) (a p : Auto) (w : World) (hv : SysV w v s) (hva : AutoV w va a) (hp : AutoV w vp p) (hT : Deb w) :
    Calls Tryz.prog 17 #[v, va, vp] w (fun e w' => ∃ r, VU s a p r ∧ e = .returned (.bool (sysValid s && autoValid a && autoValid p && !r.isSome)) ∧ Ext w w') := by
  have HS := Lib.hid hv
  obtain ⟨ve, rfl, h1⟩ := hv
  obtain ⟨ae, ce, rfl, -, -⟩ := h1.open
  have HA := Lib.hid hva
  obtain ⟨vn1, va1, rfl, k2, k3⟩ := hva
  obtain ⟨an1, cn1, rfl, -, -⟩ := k2.open
  obtain ⟨aa1, ca1, rfl, -, -⟩ := k3.open
  have HV := Lib.hid hp
  obtain ⟨vn, va, rfl, h2, h3⟩ := hp
  obtain ⟨an, cn, rfl, -, -⟩ := h2.open
  obtain ⟨aa, ca, rfl, -, -⟩ := h3.open
  clear h2 h3
  obtain ⟨wo, hwo⟩ : ∃ wo, wo = ((w.alloc (.cells #[.int .i64 s.alphabet, .int .i64 s.states, .slice ae s.edges.length ce] 25)).alloc (.cells #[.int .i64 a.alphabet, .slice an1 a.next.length cn1, .slice aa1 a.accept.length ca1] 29)).alloc (.cells #[.int .i64 p.alphabet, .slice an p.next.length cn, .slice aa p.accept.length ca] 29) := ⟨_, rfl⟩
  have he : Ext w wo := by rw [hwo]; exact ((Ext.alloc _ _).trans (Ext.alloc _ _)).trans (Ext.alloc _ _)
  have b0 : Blk wo w.heap.size #[.int .i64 s.alphabet, .int .i64 s.states, .slice ae s.edges.length ce] 25 := by rw [hwo]; exact Ext.blk ((Ext.alloc _ _).trans (Ext.alloc _ _))
  have b1 : Blk wo (w.heap.size + 1) #[.int .i64 a.alphabet, .slice an1 a.next.length cn1, .slice aa1 a.accept.length ca1] 29 := by rw [hwo]; exact Ext.blk1 (Ext.alloc _ _)
  have b2 : Blk wo (w.heap.size + 1 + 1) #[.int .i64 p.alphabet, .slice an p.next.length cn, .slice aa p.accept.length ca] 29 := by rw [hwo]; exact Ext.blk2 (Ext.refl _)
  go_enter Tryz.func17, Tryz.ntmps17
  go_wp2_with fail
  rw [← hwo]
  clear hwo
  have r0 := b0.cell 0 rfl
  have r1 := b0.cell 1 rfl
  have r2 := b0.cell 2 rfl
  have s0 := b1.cell 0 rfl
  have s1 := b1.cell 1 rfl
  have s2 := b1.cell 2 rfl
  have q0 := b2.cell 0 rfl
  have q1 := b2.cell 1 rfl
  have q2 := b2.cell 2 rfl
  go_wp2_with fail
  refine (ViolationUnder_c _ _ _ s a p _ (HS.out.mono he) (HA.out.mono he) (HV.out.mono he) (hT.ext he)).mono ?_
  rintro e w0 ⟨r, hr, rfl, he0⟩
  clear r0 r1 r2 s0 s1 s2 q0 q1 q2
  have r0 := (b0.ext he0).cell 0 rfl
  have r1 := (b0.ext he0).cell 1 rfl
  have r2 := (b0.ext he0).cell 2 rfl
  replace b1 := b1.ext he0
  replace b2 := b2.ext he0
  replace he := he.trans he0
  go_wp2_with fail
  by_cases hS : sysValid s = true
  case neg =>
    have hS' : sysValid s = false := by simpa using hS
    refine (SystemValid_b hS' (HS.out.mono he)).mono ?_
    rintro e w1 ⟨rfl, he1⟩
    go_wp2_with fail
    go_ret
    exact ⟨r, hr, by simp [hS'], he.trans he1⟩
  refine (SystemValid_b hS (HS.out.mono he)).mono ?_
  rintro e w1 ⟨rfl, he1⟩
  have s0 := (b1.ext he1).cell 0 rfl
  have s1 := (b1.ext he1).cell 1 rfl
  have s2 := (b1.ext he1).cell 2 rfl
  clear r0 r1 r2
  go_wp2_with fail
  by_cases hA : autoValid a = true
  case neg =>
    have hA' : autoValid a = false := by simpa using hA
    refine (AutomatonValid_b hA' (HA.out.mono (he.trans he1))).mono ?_
    rintro e w2 ⟨rfl, he2⟩
    go_wp2_with fail
    go_ret
    exact ⟨r, hr, by simp [hA'], (he.trans he1).trans he2⟩
  refine (AutomatonValid_b hA (HA.out.mono (he.trans he1))).mono ?_
  rintro e w2 ⟨rfl, he2⟩
  have q0 := (b2.ext (he1.trans he2)).cell 0 rfl
  have q1 := (b2.ext (he1.trans he2)).cell 1 rfl
  have q2 := (b2.ext (he1.trans he2)).cell 2 rfl
  clear s0 s1 s2
  go_wp2_with fail
  by_cases hP : autoValid p = true
  case neg =>
    have hP' : autoValid p = false := by simpa using hP
    refine (AutomatonValid_b hP' (HV.out.mono ((he.trans he1).trans he2))).mono ?_
    rintro e w3 ⟨rfl, he3⟩
    go_wp2_with fail
    go_ret
    exact ⟨r, hr, by simp [hP'], ((he.trans he1).trans he2).trans he3⟩
  refine (AutomatonValid_b hP (HV.out.mono ((he.trans he1).trans he2))).mono ?_
  rintro e w3 ⟨rfl, he3⟩
  go_wp2_with fail
  go_ret
  exact ⟨r, hr, by simp [hS, hA, hP], ((he.trans he1).trans he2).trans he3⟩
end Go.Proofs.YthpiihblmekijaaGreatDoor
