/- Walks: the reference's checks under an assumption. -/
import Derived.Test.YthpiihblmekijaaGreatDoorWalkSK
namespace Go.Proofs.YthpiihblmekijaaGreatDoor
set_option linter.unusedSimpArgs false
set_option linter.unusedVariables false
open Go.RowKit

set_option maxHeartbeats 1600000
set_option maxRecDepth 100000

theorem IntsV.three (w : World) : IntsV (w.alloc (.cells #[.int .i64 0, .int .i64 0, .int .i64 0] 3)) (.slice (some ⟨w.heap.size, 0, none⟩) 3 3) [0, 0, 0] := by
  have hb := Blk.new w #[.int .i64 0, .int .i64 0, .int .i64 0] 3
  refine ⟨_, 3, rfl, Nat.le_refl _, by decide, fun _ => ⟨w.heap.size, 0, rfl, by simp, fun i x hi => ?_⟩⟩
  match i, hi with
  | 0, hi => simp at hi; subst hi; exact hb.cell 0 rfl
  | 1, hi => simp at hi; subst hi; exact hb.cell 1 rfl
  | 2, hi => simp at hi; subst hi; exact hb.cell 2 rfl
  | i + 3, hi => simp at hi

theorem ViolationUnder_s (v va vp : Value) (s : Sys) (a p : Auto) (w : World) (hv : SysV w v s) (hva : AutoV w va a) (hp : AutoV w vp p) (hel : s.edges.length ≤ 1048576) :
    Calls Tryz.prog 12 #[v, va, vp] w (AnsEnd (VU s a p) w) := by
  have HS := Lib.hid hv
  obtain ⟨ve, rfl, h1⟩ := hv
  obtain ⟨ae, ce, rfl, -, -⟩ := h1.open
  have HA := Lib.hid hva
  obtain ⟨vn1, va1, rfl, k2, k3⟩ := hva
  obtain ⟨an1, cn1, rfl, -, -⟩ := k2.open
  obtain ⟨aa1, ca1, rfl, -, -⟩ := k3.open
  have HV := Lib.hid hp
  obtain ⟨vn, va, rfl, h2, h3⟩ := hp
  obtain ⟨an, cn, rfl, -, -⟩ := h2.open
  obtain ⟨aa, ca, rfl, -, -⟩ := h3.open
  have hP2 := h2
  have hP3 := h3
  clear h2 h3
  obtain ⟨wo, hwo⟩ : ∃ wo, wo = ((w.alloc (.cells #[.int .i64 s.alphabet, .int .i64 s.states, .slice ae s.edges.length ce] 25)).alloc (.cells #[.int .i64 a.alphabet, .slice an1 a.next.length cn1, .slice aa1 a.accept.length ca1] 29)).alloc (.cells #[.int .i64 p.alphabet, .slice an p.next.length cn, .slice aa p.accept.length ca] 29) := ⟨_, rfl⟩
  have he : Ext w wo := by rw [hwo]; exact ((Ext.alloc _ _).trans (Ext.alloc _ _)).trans (Ext.alloc _ _)
  have b0 : Blk wo w.heap.size #[.int .i64 s.alphabet, .int .i64 s.states, .slice ae s.edges.length ce] 25 := by rw [hwo]; exact Ext.blk ((Ext.alloc _ _).trans (Ext.alloc _ _))
  have b1 : Blk wo (w.heap.size + 1) #[.int .i64 a.alphabet, .slice an1 a.next.length cn1, .slice aa1 a.accept.length ca1] 29 := by rw [hwo]; exact Ext.blk1 (Ext.alloc _ _)
  have b2 : Blk wo (w.heap.size + 1 + 1) #[.int .i64 p.alphabet, .slice an p.next.length cn, .slice aa p.accept.length ca] 29 := by rw [hwo]; exact Ext.blk2 (Ext.refl _)
  go_enter Tryz.func12, Tryz.ntmps12
  go_wp2_with fail
  rw [← hwo]
  clear hwo
  have r0 := b0.cell 0 rfl
  have r1 := b0.cell 1 rfl
  have r2 := b0.cell 2 rfl
  have s0 := b1.cell 0 rfl
  have s1 := b1.cell 1 rfl
  have s2 := b1.cell 2 rfl
  have q0 := b2.cell 0 rfl
  have q1 := b2.cell 1 rfl
  have q2 := b2.cell 2 rfl
  go_wp2_with fail
  refine (l8Three_s _ _ _ s a p _ (HS.out.mono he) (HA.out.mono he) (HV.out.mono he)).mono ?_
  rintro e w0 ⟨rfl, he0⟩
  by_cases hall : (sysValid s && autoValid a && autoValid p) = true
  case neg =>
    have hall' : (sysValid s && autoValid a && autoValid p) = false := by simpa using hall
    rw [hall']
    go_wp2_with fail
    go_ret2
    exact ⟨none, by unfold VU; rw [hall']; simp, rfl, he.trans he0⟩
  rw [hall]
  have HALL := Lib.hid hall
  clear hall r0 r1 r2 s0 s1 s2 q0 q1 q2
  have hx := he.trans he0
  have B0 := b0.ext he0
  have B1 := b1.ext he0
  have B2 := b2.ext he0
  have r0 := B0.cell 0 rfl
  have r1 := B0.cell 1 rfl
  have r2 := B0.cell 2 rfl
  have s0 : ∀ o, (w0.alloc o).cell? ⟨w.heap.size + 1, 0, none⟩ = _ := fun o => (B1.ext (Ext.alloc w0 o)).cell 0 rfl
  have s1 : ∀ o, (w0.alloc o).cell? ⟨w.heap.size + 1, 1, none⟩ = _ := fun o => (B1.ext (Ext.alloc w0 o)).cell 1 rfl
  have s2 : ∀ o, (w0.alloc o).cell? ⟨w.heap.size + 1, 2, none⟩ = _ := fun o => (B1.ext (Ext.alloc w0 o)).cell 2 rfl
  have q0 : ∀ o, (w0.alloc o).cell? ⟨w.heap.size + 1 + 1, 0, none⟩ = _ := fun o => (B2.ext (Ext.alloc w0 o)).cell 0 rfl
  have q1 : ∀ o, (w0.alloc o).cell? ⟨w.heap.size + 1 + 1, 1, none⟩ = _ := fun o => (B2.ext (Ext.alloc w0 o)).cell 1 rfl
  have q2 : ∀ o, (w0.alloc o).cell? ⟨w.heap.size + 1 + 1, 2, none⟩ = _ := fun o => (B2.ext (Ext.alloc w0 o)).cell 2 rfl
  have u0 : ∀ o1 o2 o3, (((w0.alloc o1).alloc o2).alloc o3).cell? ⟨w.heap.size, 0, none⟩ = _ := fun o1 o2 o3 => (B0.ext (((Ext.alloc w0 o1).trans (Ext.alloc _ o2)).trans (Ext.alloc _ o3))).cell 0 rfl
  have u1 : ∀ o1 o2 o3, (((w0.alloc o1).alloc o2).alloc o3).cell? ⟨w.heap.size + 1, 0, none⟩ = _ := fun o1 o2 o3 => (B1.ext (((Ext.alloc w0 o1).trans (Ext.alloc _ o2)).trans (Ext.alloc _ o3))).cell 0 rfl
  go_wp2_with fail
  have hall := HALL.out
  simp only [Bool.and_eq_true] at hall
  obtain ⟨⟨hs, hva⟩, hpp⟩ := hall
  have hsa := valid_alpha hs
  have haa := autoValid_facts hva
  have HAL : bits .or .i64 s.alphabet a.alphabet = ((s.alphabet.toNat ||| a.alphabet.toNat : Nat) : Int) := by
    have h5 := i64_or_nat s.alphabet.toNat a.alphabet.toNat (by omega) (by omega)
    rwa [Int.toNat_of_nonneg hsa.1, Int.toNat_of_nonneg haa.1] at h5
  have hAL63 : ((s.alphabet.toNat ||| a.alphabet.toNat : Nat) : Int) ≤ 63 := by
    have : s.alphabet.toNat ||| a.alphabet.toNat < 2 ^ 6 := Nat.or_lt_two_pow (by omega) (by omega)
    omega
  rw [HAL]
  obtain ⟨AL, hAL⟩ : ∃ AL : Int, Hid (AL = ((s.alphabet.toNat ||| a.alphabet.toNat : Nat) : Int)) := ⟨_, rfl⟩
  have hAL0 : 0 ≤ AL := by rw [hAL.out]; omega
  rw [← hAL.out] at hAL63 ⊢
  have k2' := k2.mono hx
  have k3' := k3.mono hx
  have h2' := hP2.mono hx
  have h3' := hP3.mono hx
  have hso := SyssV.one (h1.mono hx)
  have x1 := Ext.alloc w0 (.cells #[.int .i64 s.alphabet, .int .i64 s.states, .slice ae s.edges.length ce] 25)
  have hz1 : (w0.alloc (.cells #[.int .i64 s.alphabet, .int .i64 s.states, .slice ae s.edges.length ce] 25)).heap.size = w0.heap.size + 1 := by simp
  generalize w0.alloc (.cells #[.int .i64 s.alphabet, .int .i64 s.states, .slice ae s.edges.length ce] 25) = wA at hso x1 hz1 ⊢
  have hat := AutosV.two (k2'.mono x1) (k3'.mono x1) (h2'.mono x1) (h3'.mono x1)
  have x2 := Ext.alloc wA (.cells #[.int .i64 a.alphabet, .slice an1 a.next.length cn1, .slice aa1 a.accept.length ca1, .int .i64 p.alphabet, .slice an p.next.length cn, .slice aa p.accept.length ca] 29)
  have hz2 : (wA.alloc (.cells #[.int .i64 a.alphabet, .slice an1 a.next.length cn1, .slice aa1 a.accept.length ca1, .int .i64 p.alphabet, .slice an p.next.length cn, .slice aa p.accept.length ca] 29)).heap.size = w0.heap.size + 1 + 1 := by simp [hz1]
  generalize wA.alloc (.cells #[.int .i64 a.alphabet, .slice an1 a.next.length cn1, .slice aa1 a.accept.length ca1, .int .i64 p.alphabet, .slice an p.next.length cn, .slice aa p.accept.length ca] 29) = wB at hat x2 hz2 ⊢
  have hzz := IntsV.three wB
  have x3 := Ext.alloc wB (.cells #[.int .i64 0, .int .i64 0, .int .i64 0] 3)
  generalize wB.alloc (.cells #[.int .i64 0, .int .i64 0, .int .i64 0] 3) = wC at hzz x3 ⊢
  rw [hz1] at hat
  rw [hz2] at hzz
  have HNO := Lib.hid (show NetOk ⟨[s], [a, p], AL⟩ from ⟨by simpa using hs, by simp [hva, hpp], by simp, by simp, ⟨hAL0, hAL63⟩, by simpa using hel⟩)
  have hsl : (sizesOf ⟨[s], [a, p], AL⟩).length = 3 := by simp [sizesOf]
  have HNV := Lib.hid (show NetV wC (.agg #[.slice (some ⟨w0.heap.size, 0, none⟩) 1 1, .slice (some ⟨w0.heap.size + 1, 0, none⟩) 2 2, .slice (some ⟨w0.heap.size + 1 + 1, 0, none⟩) 3 3, .int .i64 AL, .int .i64 2, .int .i64 0]) ⟨[s], [a, p], AL⟩ (List.replicate (sizesOf ⟨[s], [a, p], AL⟩).length 0) 2 0 from
    ⟨_, _, _, rfl, hso.mono (x2.trans x3), hat.mono x3, by rw [hsl]; exact hzz⟩)
  have HFF := Lib.hid (fun (w' : World) (u vm v' : Value) (node : Nat) (_ : Ext wC w') (hn : NetV w' v' ⟨[s], [a, p], AL⟩ (List.replicate (sizesOf ⟨[s], [a, p], AL⟩).length 0) 2 0) (hu : IntsV w' u (ints (decode (sizesOf ⟨[s], [a, p], AL⟩) node))) => l4Found_2 v' u vm _ _ 0 node w' hn HNO.out hu rfl)
  refine (l4First_c _ _ 2 0 (fun node => okAt ⟨[s], [a, p], AL⟩ node 0 && !okAt ⟨[s], [a, p], AL⟩ node 1) wC HNV.out HNO.out HFF.out).mono ?_
  rintro e w5 ⟨r, hr, rfl, he5⟩
  go_wp2_with fail
  go_ret2
  exact ⟨r, vu_net hs hva hpp AL hAL.out hr, rfl, (((hx.trans x1).trans x2).trans x3).trans he5⟩

theorem KeepsUnder_s (v va vp : Value) (s : Sys) (a p : Auto) (w : World) (hv : SysV w v s) (hva : AutoV w va a) (hp : AutoV w vp p) (hel : s.edges.length ≤ 1048576) :
    Calls Tryz.prog 18 #[v, va, vp] w (fun e w' => ∃ r, VU s a p r ∧ e = .returned (.bool (sysValid s && autoValid a && autoValid p && !r.isSome)) ∧ Ext w w') := by
  have HS := Lib.hid hv
  obtain ⟨ve, rfl, h1⟩ := hv
  obtain ⟨ae, ce, rfl, -, -⟩ := h1.open
  have HA := Lib.hid hva
  obtain ⟨vn1, va1, rfl, k2, k3⟩ := hva
  obtain ⟨an1, cn1, rfl, -, -⟩ := k2.open
  obtain ⟨aa1, ca1, rfl, -, -⟩ := k3.open
  have HV := Lib.hid hp
  obtain ⟨vn, va, rfl, h2, h3⟩ := hp
  obtain ⟨an, cn, rfl, -, -⟩ := h2.open
  obtain ⟨aa, ca, rfl, -, -⟩ := h3.open
  clear h2 h3
  obtain ⟨wo, hwo⟩ : ∃ wo, wo = ((w.alloc (.cells #[.int .i64 s.alphabet, .int .i64 s.states, .slice ae s.edges.length ce] 25)).alloc (.cells #[.int .i64 a.alphabet, .slice an1 a.next.length cn1, .slice aa1 a.accept.length ca1] 29)).alloc (.cells #[.int .i64 p.alphabet, .slice an p.next.length cn, .slice aa p.accept.length ca] 29) := ⟨_, rfl⟩
  have he : Ext w wo := by rw [hwo]; exact ((Ext.alloc _ _).trans (Ext.alloc _ _)).trans (Ext.alloc _ _)
  have b0 : Blk wo w.heap.size #[.int .i64 s.alphabet, .int .i64 s.states, .slice ae s.edges.length ce] 25 := by rw [hwo]; exact Ext.blk ((Ext.alloc _ _).trans (Ext.alloc _ _))
  have b1 : Blk wo (w.heap.size + 1) #[.int .i64 a.alphabet, .slice an1 a.next.length cn1, .slice aa1 a.accept.length ca1] 29 := by rw [hwo]; exact Ext.blk1 (Ext.alloc _ _)
  have b2 : Blk wo (w.heap.size + 1 + 1) #[.int .i64 p.alphabet, .slice an p.next.length cn, .slice aa p.accept.length ca] 29 := by rw [hwo]; exact Ext.blk2 (Ext.refl _)
  go_enter Tryz.func18, Tryz.ntmps18
  go_wp2_with fail
  rw [← hwo]
  clear hwo
  have r0 := b0.cell 0 rfl
  have r1 := b0.cell 1 rfl
  have r2 := b0.cell 2 rfl
  have s0 := b1.cell 0 rfl
  have s1 := b1.cell 1 rfl
  have s2 := b1.cell 2 rfl
  have q0 := b2.cell 0 rfl
  have q1 := b2.cell 1 rfl
  have q2 := b2.cell 2 rfl
  go_wp2_with fail
  refine (ViolationUnder_s _ _ _ s a p _ (HS.out.mono he) (HA.out.mono he) (HV.out.mono he) hel).mono ?_
  rintro e w0 ⟨r, hr, rfl, he0⟩
  clear r0 r1 r2 s0 s1 s2 q0 q1 q2
  have r0 := (b0.ext he0).cell 0 rfl
  have r1 := (b0.ext he0).cell 1 rfl
  have r2 := (b0.ext he0).cell 2 rfl
  have s0 := (b1.ext he0).cell 0 rfl
  have s1 := (b1.ext he0).cell 1 rfl
  have s2 := (b1.ext he0).cell 2 rfl
  have q0 := (b2.ext he0).cell 0 rfl
  have q1 := (b2.ext he0).cell 1 rfl
  have q2 := (b2.ext he0).cell 2 rfl
  replace he := he.trans he0
  go_wp2_with fail
  refine (l8Three_s _ _ _ s a p _ (HS.out.mono he) (HA.out.mono he) (HV.out.mono he)).mono ?_
  rintro e w1 ⟨rfl, he1⟩
  by_cases hall : (sysValid s && autoValid a && autoValid p) = true
  case neg =>
    have hall' : (sysValid s && autoValid a && autoValid p) = false := by simpa using hall
    rw [hall']
    go_wp2_with fail
    go_ret
    exact ⟨r, hr, by rw [hall']; simp, he.trans he1⟩
  rw [hall]
  have HALL := Lib.hid hall
  clear hall
  go_wp2_with fail
  go_ret
  exact ⟨r, hr, by rw [HALL.out]; simp, he.trans he1⟩
end Go.Proofs.YthpiihblmekijaaGreatDoor
