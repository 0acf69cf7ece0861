/- Walks: the program's checks: PartsViolation, PartsKeep, ViolationUnder, KeepsUnder, FirstViolation, KeepsProperty. -/
import Derived.Test.YthpiihblmekijaaDoorWalkFC
namespace Go.Proofs.YthpiihblmekijaaDoor
set_option linter.unusedSimpArgs false
set_option linter.unusedVariables false
open Go.RowKit

set_option maxHeartbeats 1600000
set_option maxRecDepth 100000

/-- The end of a check: some answer of which A holds. -/
def AnsEnd (A : Option (List Int) → Prop) (w : World) (e : Ending) (w' : World) : Prop := ∃ r, A r ∧ e = .returned (.tuple #[.string (rtext r), .bool r.isSome]) ∧ Ext w w'
def PV (parts : List Sys) (p : Auto) (r : Option (List Int)) : Prop := if (areParts parts && autoValid p) = true then FirstIs (BrokenW parts trivAuto p) r else r = none
def VU (s : Sys) (a p : Auto) (r : Option (List Int)) : Prop := if (sysValid s && autoValid a && autoValid p) = true then FirstIs (BrokenW [s] a p) r else r = none
theorem PV.unique {parts : List Sys} {p : Auto} {r r' : Option (List Int)} (h : PV parts p r) (h' : PV parts p r') : r = r' := by
  unfold PV at h h'
  split at h
  · rw [if_pos ‹_›] at h'; exact h.unique h'
  · rw [if_neg ‹_›] at h'; rw [h, h']
theorem VU.unique {s : Sys} {a p : Auto} {r r' : Option (List Int)} (h : VU s a p r) (h' : VU s a p r') : r = r' := by
  unfold VU at h h'
  split at h
  · rw [if_pos ‹_›] at h'; exact h.unique h'
  · rw [if_neg ‹_›] at h'; rw [h, h']
theorem trivAuto_valid : autoValid trivAuto = true := by decide
theorem one_parts {s : Sys} (h : sysValid s = true) : areParts [s] = true := by simp [areParts, h]

/-- A struct in a box. -/
theorem AutoV.boxed {w : World} {v : Value} {x : Auto} (h : AutoV w v x) : ∃ vn va, v = .agg #[.int .i64 x.alphabet, vn, va] ∧ IntssV w vn x.next ∧ BoolsV w va x.accept := h

theorem PartsViolation_c (v vp : Value) (parts : List Sys) (p : Auto) (w : World) (hv : SyssV w v parts) (hl : parts.length ≤ 1048576) (hp : AutoV w vp p) (hT : Deb w) :
    Calls Tryd.prog 21 #[v, vp] w (AnsEnd (PV parts p) w) := by
  have HV := Lib.hid hp
  obtain ⟨vn, va, rfl, h2, h3⟩ := hp
  obtain ⟨an, cn, rfl, -, -⟩ := h2.open
  obtain ⟨aa, ca, rfl, -, -⟩ := h3.open
  clear h2 h3
  go_enter Tryd.func21, Tryd.ntmps21
  go_wp2_with fail
  have he : Ext w (w.alloc (.cells #[.int .i64 p.alphabet, .slice an p.next.length cn, .slice aa p.accept.length ca] 29)) := Ext.alloc _ _
  have hB := Blk.new w #[.int .i64 p.alphabet, .slice an p.next.length cn, .slice aa p.accept.length ca] 29
  generalize w.alloc (.cells #[.int .i64 p.alphabet, .slice an p.next.length cn, .slice aa p.accept.length ca] 29) = wo at he hB ⊢
  refine (areParts_c _ parts _ (hv.mono he) hl).mono ?_
  rintro e w1 ⟨rfl, he1⟩
  have c0 := (hB.ext he1).cell 0 rfl
  have c1 := (hB.ext he1).cell 1 rfl
  have c2 := (hB.ext he1).cell 2 rfl
  by_cases hP : areParts parts = true
  · rw [hP]
    have HP := Lib.hid hP
    clear hP
    by_cases hA : autoValid p = true
    · have HA := Lib.hid hA
      clear hA
      go_wp2_with fail
      refine (AutomatonValid_b HA.out (HV.out.mono (he.trans he1))).mono ?_
      rintro e w2 ⟨rfl, he2⟩
      have d0 := (hB.ext (he1.trans he2)).cell 0 rfl
      have d1 := (hB.ext (he1.trans he2)).cell 1 rfl
      have d2 := (hB.ext (he1.trans he2)).cell 2 rfl
      have hx := (he.trans he1).trans he2
      go_wp2_with fail
      refine (firstBroken_c _ (.pointer none) _ parts trivAuto p _ (hv.mono hx) hl HP.out (.inl ⟨rfl, rfl⟩) trivAuto_valid (HV.out.mono hx) HA.out (hT.ext hx)).mono ?_
      rintro e w3 ⟨r, hr, rfl, he3⟩
      go_wp2_with fail
      go_ret2
      exact ⟨r, by unfold PV; rw [HP.out, HA.out]; exact hr, rfl, hx.trans he3⟩
    · have hA' : autoValid p = false := by simpa using hA
      go_wp2_with fail
      refine (AutomatonValid_b hA' (HV.out.mono (he.trans he1))).mono ?_
      rintro e w2 ⟨rfl, he2⟩
      go_wp2_with fail
      go_ret2
      exact ⟨none, by unfold PV; rw [hA']; simp, rfl, (he.trans he1).trans he2⟩
  · have hP' : areParts parts = false := by simpa using hP
    rw [hP']
    go_wp2_with fail
    go_ret2
    exact ⟨none, by unfold PV; rw [hP']; simp, rfl, he.trans he1⟩

theorem SystemValid_b {v : Value} {x : Sys} {w : World} {b : Bool} (hb : sysValid x = b) (hv : SysV w v x) :
    Calls Tryd.prog 44 #[v] w (Grows (.bool b) w) := hb ▸ SystemValid_c v x w hv

/-- A list of one system, as it lies in memory of its own. -/
theorem SyssV.one {w : World} {s : Sys} {ve : Value} (h : EdgesV w ve s.edges) :
    SyssV (w.alloc (.cells #[.int .i64 s.alphabet, .int .i64 s.states, ve] 25)) (.slice (some ⟨w.heap.size, 0, none⟩) 1 1) [s] := by
  refine ⟨_, 1, rfl, Nat.le_refl _, by decide, fun _ => ⟨w.heap.size, 0, rfl, by simp, fun i x hi => ?_⟩⟩
  obtain rfl : i = 0 := by have := (List.getElem?_eq_some_iff.1 hi).1; simp at this; exact this
  simp at hi
  subst hi
  have hb := Blk.new w #[.int .i64 s.alphabet, .int .i64 s.states, ve] 25
  exact ⟨ve, hb.cell 0 rfl, hb.cell 1 rfl, hb.cell 2 rfl, h.mono (Ext.alloc _ _)⟩

theorem FirstViolation_c (v vp : Value) (s : Sys) (p : Auto) (w : World) (hv : SysV w v s) (hp : AutoV w vp p) (hT : Deb w) :
    Calls Tryd.prog 7 #[v, vp] w (AnsEnd (PV [s] p) w) := by
  obtain ⟨ve, rfl, h1⟩ := hv
  obtain ⟨ae, ce, rfl, -, -⟩ := h1.open
  have HV := Lib.hid hp
  obtain ⟨vn, va, rfl, h2, h3⟩ := hp
  obtain ⟨an, cn, rfl, -, -⟩ := h2.open
  obtain ⟨aa, ca, rfl, -, -⟩ := h3.open
  clear h2 h3
  go_enter Tryd.func7, Tryd.ntmps7
  go_wp2_with fail
  have hS := h1.mono ((Ext.alloc w (.cells #[.int .i64 s.alphabet, .int .i64 s.states, .slice ae s.edges.length ce] 25)).trans (Ext.alloc _ (.cells #[.int .i64 p.alphabet, .slice an p.next.length cn, .slice aa p.accept.length ca] 29)))
  have he := ((Ext.alloc w (.cells #[.int .i64 s.alphabet, .int .i64 s.states, .slice ae s.edges.length ce] 25)).trans (Ext.alloc _ (.cells #[.int .i64 p.alphabet, .slice an p.next.length cn, .slice aa p.accept.length ca] 29))).trans (Ext.alloc _ (.cells #[.int .i64 s.alphabet, .int .i64 s.states, .slice ae s.edges.length ce] 25))
  have hone := SyssV.one hS
  simp only [World.size_alloc] at hone
  refine (PartsViolation_c _ _ [s] p _ hone (by simp) (HV.out.mono he) (hT.ext he)).mono ?_
  rintro e w1 ⟨r, hr, rfl, he1⟩
  go_wp2_with fail
  go_ret2
  exact ⟨r, hr, rfl, he.trans he1⟩

end Go.Proofs.YthpiihblmekijaaDoor
