/- Walks: the reference's checks, on. -/
import Derived.Test.YthpiihblmekijaaGreatDoorWalkSJ
namespace Go.Proofs.YthpiihblmekijaaGreatDoor
set_option linter.unusedSimpArgs false
set_option linter.unusedVariables false
open Go.RowKit

set_option maxHeartbeats 1600000
set_option maxRecDepth 100000

theorem PartsKeep_s (v vp : Value) (parts : List Sys) (p : Auto) (w : World) (hv : SyssV w v parts) (hl : parts.length ≤ 1048576) (hel : ∀ s ∈ parts, s.edges.length ≤ 1048576) (hp : AutoV w vp p) :
    Calls Tryz.prog 26 #[v, vp] w (fun e w' => ∃ r, PV parts p r ∧ e = .returned (.bool (areParts parts && autoValid p && !r.isSome)) ∧ Ext w w') := by
  have HV := Lib.hid hp
  obtain ⟨vn, va, rfl, h2, h3⟩ := hp
  obtain ⟨an, cn, rfl, -, -⟩ := h2.open
  obtain ⟨aa, ca, rfl, -, -⟩ := h3.open
  clear h2 h3
  go_enter Tryz.func26, Tryz.ntmps26
  go_wp2_with fail
  have he : Ext w (w.alloc (.cells #[.int .i64 p.alphabet, .slice an p.next.length cn, .slice aa p.accept.length ca] 29)) := Ext.alloc _ _
  have hB := Blk.new w #[.int .i64 p.alphabet, .slice an p.next.length cn, .slice aa p.accept.length ca] 29
  generalize w.alloc (.cells #[.int .i64 p.alphabet, .slice an p.next.length cn, .slice aa p.accept.length ca] 29) = wo at he hB ⊢
  refine (PartsViolation_s _ _ parts p _ (hv.mono he) hl hel (HV.out.mono he)).mono ?_
  rintro e w1 ⟨r, hr, rfl, he1⟩
  go_wp2_with fail
  refine (PartsAlphabet_s _ parts _ (hv.mono (he.trans he1)) hl).mono ?_
  rintro e w2 ⟨rfl, he2⟩
  have c0 := (hB.ext (he1.trans he2)).cell 0 rfl
  have c1 := (hB.ext (he1.trans he2)).cell 1 rfl
  have c2 := (hB.ext (he1.trans he2)).cell 2 rfl
  by_cases hP : areParts parts = true
  · have e1 : partsAlphabet parts = (orTo parts parts.length : Nat) := by unfold partsAlphabet; rw [if_pos hP]
    obtain ⟨AL, hAL⟩ : ∃ AL, Hid (AL = orTo parts parts.length) := ⟨_, rfl⟩
    rw [e1, ← hAL.out]
    clear e1
    go_wp2_with fail
    by_cases hA : autoValid p = true
    · refine (AutomatonValid_sb hA (HV.out.mono ((he.trans he1).trans he2))).mono ?_
      rintro e w3 ⟨rfl, he3⟩
      go_wp2_with fail
      go_ret
      exact ⟨r, hr, by simp [hP, hA], ((he.trans he1).trans he2).trans he3⟩
    · have hA' : autoValid p = false := by simpa using hA
      refine (AutomatonValid_sb hA' (HV.out.mono ((he.trans he1).trans he2))).mono ?_
      rintro e w3 ⟨rfl, he3⟩
      go_wp2_with fail
      go_ret
      exact ⟨r, hr, by simp [hA'], ((he.trans he1).trans he2).trans he3⟩
  · have hP' : areParts parts = false := by simpa using hP
    have e1 : partsAlphabet parts = -1 := by unfold partsAlphabet; rw [hP']; rfl
    rw [e1]
    go_wp2_with fail
    go_ret
    exact ⟨r, hr, by simp [hP'], (he.trans he1).trans he2⟩

theorem KeepsProperty_s (v vp : Value) (s : Sys) (p : Auto) (w : World) (hv : SysV w v s) (hp : AutoV w vp p) (hel : s.edges.length ≤ 1048576) :
    Calls Tryz.prog 30 #[v, vp] w (fun e w' => ∃ r, PV [s] p r ∧ e = .returned (.bool (areParts [s] && autoValid p && !r.isSome)) ∧ Ext w w') := by
  obtain ⟨ve, rfl, h1⟩ := hv
  obtain ⟨ae, ce, rfl, -, -⟩ := h1.open
  have HV := Lib.hid hp
  obtain ⟨vn, va, rfl, h2, h3⟩ := hp
  obtain ⟨an, cn, rfl, -, -⟩ := h2.open
  obtain ⟨aa, ca, rfl, -, -⟩ := h3.open
  clear h2 h3
  go_enter Tryz.func30, Tryz.ntmps30
  go_wp2_with fail
  have hS := h1.mono ((Ext.alloc w (.cells #[.int .i64 s.alphabet, .int .i64 s.states, .slice ae s.edges.length ce] 25)).trans (Ext.alloc _ (.cells #[.int .i64 p.alphabet, .slice an p.next.length cn, .slice aa p.accept.length ca] 29)))
  have he := ((Ext.alloc w (.cells #[.int .i64 s.alphabet, .int .i64 s.states, .slice ae s.edges.length ce] 25)).trans (Ext.alloc _ (.cells #[.int .i64 p.alphabet, .slice an p.next.length cn, .slice aa p.accept.length ca] 29))).trans (Ext.alloc _ (.cells #[.int .i64 s.alphabet, .int .i64 s.states, .slice ae s.edges.length ce] 25))
  have hone := SyssV.one hS
  simp only [World.size_alloc] at hone
  refine (PartsKeep_s _ _ [s] p _ hone (by simp) (by simpa using hel) (HV.out.mono he)).mono ?_
  rintro e w1 ⟨r, hr, rfl, he1⟩
  go_wp2_with fail
  go_ret
  exact ⟨r, hr, by simp, he.trans he1⟩

theorem l8Three_s (v va vp : Value) (s : Sys) (a p : Auto) (w : World) (hv : SysV w v s) (hva : AutoV w va a) (hp : AutoV w vp p) :
    Calls Tryz.prog 44 #[v, va, vp] w (Grows (.bool (sysValid s && autoValid a && autoValid p)) w) := by
  have HS := Lib.hid hv
  obtain ⟨ve, rfl, h1⟩ := hv
  obtain ⟨ae, ce, rfl, -, -⟩ := h1.open
  have HA := Lib.hid hva
  obtain ⟨vn1, va1, rfl, k2, k3⟩ := hva
  obtain ⟨an1, cn1, rfl, -, -⟩ := k2.open
  obtain ⟨aa1, ca1, rfl, -, -⟩ := k3.open
  have HV := Lib.hid hp
  obtain ⟨vn, va, rfl, h2, h3⟩ := hp
  obtain ⟨an, cn, rfl, -, -⟩ := h2.open
  obtain ⟨aa, ca, rfl, -, -⟩ := h3.open
  clear h2 h3
  obtain ⟨wo, hwo⟩ : ∃ wo, wo = ((w.alloc (.cells #[.int .i64 s.alphabet, .int .i64 s.states, .slice ae s.edges.length ce] 25)).alloc (.cells #[.int .i64 a.alphabet, .slice an1 a.next.length cn1, .slice aa1 a.accept.length ca1] 29)).alloc (.cells #[.int .i64 p.alphabet, .slice an p.next.length cn, .slice aa p.accept.length ca] 29) := ⟨_, rfl⟩
  have he : Ext w wo := by rw [hwo]; exact ((Ext.alloc _ _).trans (Ext.alloc _ _)).trans (Ext.alloc _ _)
  have b0 : Blk wo w.heap.size #[.int .i64 s.alphabet, .int .i64 s.states, .slice ae s.edges.length ce] 25 := by rw [hwo]; exact Ext.blk ((Ext.alloc _ _).trans (Ext.alloc _ _))
  have b1 : Blk wo (w.heap.size + 1) #[.int .i64 a.alphabet, .slice an1 a.next.length cn1, .slice aa1 a.accept.length ca1] 29 := by rw [hwo]; exact Ext.blk1 (Ext.alloc _ _)
  have b2 : Blk wo (w.heap.size + 1 + 1) #[.int .i64 p.alphabet, .slice an p.next.length cn, .slice aa p.accept.length ca] 29 := by rw [hwo]; exact Ext.blk2 (Ext.refl _)
  go_enter Tryz.func44, Tryz.ntmps44
  go_wp2_with fail
  rw [← hwo]
  clear hwo
  have r0 := b0.cell 0 rfl
  have r1 := b0.cell 1 rfl
  have r2 := b0.cell 2 rfl
  have s0 := b1.cell 0 rfl
  have s1 := b1.cell 1 rfl
  have s2 := b1.cell 2 rfl
  have q0 := b2.cell 0 rfl
  have q1 := b2.cell 1 rfl
  have q2 := b2.cell 2 rfl
  by_cases hS : sysValid s = true
  case neg =>
    have hS' : sysValid s = false := by simpa using hS
    refine (SystemValid_sb hS' (HS.out.mono he)).mono ?_
    rintro e w1 ⟨rfl, he1⟩
    go_wp2_with fail
    go_ret
    exact Grows.mk (by simp [hS']) (he.trans he1)
  refine (SystemValid_sb hS (HS.out.mono he)).mono ?_
  rintro e w1 ⟨rfl, he1⟩
  have s0 := (b1.ext he1).cell 0 rfl
  have s1 := (b1.ext he1).cell 1 rfl
  have s2 := (b1.ext he1).cell 2 rfl
  clear r0 r1 r2
  go_wp2_with fail
  by_cases hA : autoValid a = true
  case neg =>
    have hA' : autoValid a = false := by simpa using hA
    refine (AutomatonValid_sb hA' (HA.out.mono (he.trans he1))).mono ?_
    rintro e w2 ⟨rfl, he2⟩
    go_wp2_with fail
    go_ret
    exact Grows.mk (by simp [hA']) ((he.trans he1).trans he2)
  refine (AutomatonValid_sb hA (HA.out.mono (he.trans he1))).mono ?_
  rintro e w2 ⟨rfl, he2⟩
  have q0 := (b2.ext (he1.trans he2)).cell 0 rfl
  have q1 := (b2.ext (he1.trans he2)).cell 1 rfl
  have q2 := (b2.ext (he1.trans he2)).cell 2 rfl
  clear s0 s1 s2
  go_wp2_with fail
  by_cases hP : autoValid p = true
  case neg =>
    have hP' : autoValid p = false := by simpa using hP
    refine (AutomatonValid_sb hP' (HV.out.mono ((he.trans he1).trans he2))).mono ?_
    rintro e w3 ⟨rfl, he3⟩
    go_wp2_with fail
    go_ret
    exact Grows.mk (by simp [hP']) (((he.trans he1).trans he2).trans he3)
  refine (AutomatonValid_sb hP (HV.out.mono ((he.trans he1).trans he2))).mono ?_
  rintro e w3 ⟨rfl, he3⟩
  go_wp2_with fail
  go_ret
  exact Grows.mk (by simp [hS, hA, hP]) (((he.trans he1).trans he2).trans he3)
end Go.Proofs.YthpiihblmekijaaGreatDoor
