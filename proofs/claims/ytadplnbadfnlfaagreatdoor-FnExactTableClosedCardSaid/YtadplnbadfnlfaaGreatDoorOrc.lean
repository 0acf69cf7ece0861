/- Part of this seat's proofs, cut to what its law needs. -/

import Derived.Test.YtadplnbadfnlfaaGreatDoorOrb
import Derived.Deep.DeepCutAuto
namespace Go.Proofs.YtadplnbadfnlfaaGreatDoor
set_option linter.unusedSimpArgs false
set_option linter.unusedVariables false
open Go Go.RowKit
set_option maxHeartbeats 3000000
set_option maxRecDepth 100000

theorem IndexS_c (v : Value) (xs : List ByteArray) (x : ByteArray) (w : World) (hv : StrsV w v xs) (hl : xs.length ≤ 1048576) :
    Calls Tryz.prog 256 #[v, .string x] w (fun e w' => w' = w ∧ ∃ b : Int, e = .returned (.int .i64 b) ∧ (0 ≤ b ↔ x ∈ xs) ∧ -1 ≤ b ∧ b ≤ 1048576) := by
  obtain ⟨a, c, rfl, -, h2⟩ := SlV.open hv
  have H2 := Lib.hid h2
  clear h2 hv
  go_enter Tryz.func256, Tryz.ntmps256
  go_wp2_with fail
  go_loop [8] (fun i => ∃ k : Nat, k ≤ xs.length ∧ i = .int .i64 k ∧ Hid (∀ j, j < k → xs[j]? ≠ some x)) (fun i => xs.length - (intOf i).toNat)
  case atStart => exact ⟨0, by omega, rfl, Lib.hid (fun j hj => by omega)⟩
  case round =>
    obtain ⟨k, hk, rfl, HK⟩ := hrel
    by_cases hlt : k < xs.length
    · obtain ⟨y, hy⟩ : ∃ y, xs[k]? = some y := ⟨_, List.getElem?_eq_getElem hlt⟩
      obtain ⟨b, off, rfl, -, hc⟩ := H2.out k y hy
      have g1 : w.cell? ⟨b, off + k, none⟩ = some (.string y) := by have := hc k y hy; unfold StrAt' at this; rw [Nat.mul_one] at this; exact this
      have hk2 : (k : Int) < (xs.length : Int) := by omega
      have HY := Lib.hid hy
      clear hc hy
      by_cases hxy : x = y
      · have HXY := Lib.hid hxy
        have he1 : (x == y) = true := by rw [ba_beq]; exact decide_eq_true hxy
        have he2 : (x.toList == y.toList) = true := by rw [hxy]; simp
        clear hxy
        go_wp2_with fail
        go_ret
        refine ⟨rfl, (k : Int), rfl, ⟨fun _ => ?_, fun _ => by omega⟩, by omega, by omega⟩
        rw [HXY.out]
        exact List.mem_of_getElem? HY.out
      · have HXY := Lib.hid hxy
        have he1 : (x == y) = false := by rw [ba_beq]; exact decide_eq_false hxy
        have he2 : (x.toList == y.toList) = false := by rw [← beq_toListBytes]; exact he1
        clear hxy
        go_wp2_with fail
        refine ⟨⟨k + 1, by omega, by go_num, Lib.hid (fun j hj e => ?_)⟩, by simp [intOf]; omega⟩
        by_cases hjk : j < k
        · exact HK.out j hjk e
        · obtain rfl : j = k := by omega
          rw [HY.out] at e
          exact HXY.out (Option.some.inj e).symm
    · obtain rfl : k = xs.length := by omega
      go_wp2_with fail
      go_ret
      refine ⟨rfl, -1, rfl, ⟨fun h => by omega, fun h => ?_⟩, by omega, by omega⟩
      obtain ⟨j, hj⟩ := List.getElem?_of_mem h
      exact absurd hj (HK.out j (List.getElem?_eq_some_iff.1 hj).1)
theorem ContainsS_c (v : Value) (xs : List ByteArray) (x : ByteArray) (w : World) (hv : StrsV w v xs) (hl : xs.length ≤ 1048576) {b : Bool} (hb : decide (x ∈ xs) = b) :
    Calls Tryz.prog 174 #[v, .string x] w (Same (.bool b) w) := by
  have HI := Lib.hid (IndexS_c v xs x w hv hl)
  have HB := Lib.hid hb
  clear hv hb
  go_enter Tryz.func174, Tryz.ntmps174
  go_wp2_with fail
  refine HI.out.mono ?_
  rintro e w' ⟨rfl, r, rfl, hr, hr1, hr2⟩
  have HR := Lib.hid hr
  clear hr
  by_cases h0 : 0 ≤ r
  · go_wp2_with fail
    go_ret
    exact Same.mk (by rw [← HB.out, decide_eq_true (HR.out.1 h0)]; rfl)
  · have h0' : r < 0 := by omega
    go_wp2_with fail
    go_ret
    exact Same.mk (by rw [← HB.out, decide_eq_false (fun h => absurd (HR.out.2 h) (by omega))]; show Value.bool (decide (0 ≤ r)) = _; rw [decide_eq_false (by omega)])

theorem columnWord_c (al : Int) (vo : Value) (s : ByteArray) (w : World) (hs : s.size ≤ 1048576) :
    Calls Tryz.prog 86 #[.agg #[.int .i64 al, vo], .string s] w (Grows (.bool (wordIn s al && decide (s.size ≤ 4000))) w) := by
  obtain ⟨wi, hwi⟩ : ∃ wi, wordIn s al = wi := ⟨_, rfl⟩
  have HW := Lib.hid (fun w' => WordWithin_c s al w' hs)
  rw [hwi] at HW ⊢
  clear hwi
  obtain ⟨ww, hww⟩ : ∃ ww, (wi && decide (s.size ≤ 4000)) = ww := ⟨_, rfl⟩
  rw [hww]
  have HWW := Lib.hid hww
  clear hww
  have he := Ext.alloc w (.cells #[.int .i64 al, vo] 126)
  have b2 := Blk.new w #[.int .i64 al, vo] 126
  go_enter Tryz.func86, Tryz.ntmps86
  go_upto_region 1 with fail
  generalize w.alloc (.cells #[.int .i64 al, vo] 126) = w0 at he b2 ⊢
  have b2_0 := b2.cell 0 rfl
  by_cases h1 : s.size ≤ 4000
  · have h2 : (s.size : Int) ≤ 4000 := by omega
    cases wi with
    | false =>
      go_wp2_with (go_at_call 173; refine (HW.out _).mono ?_; rintro e w' ⟨rfl, rfl⟩)
      go_ret
      exact Grows.mk (by rw [← HWW.out]; rfl) he
    | true =>
      go_wp2_with (go_at_call 173; refine (HW.out _).mono ?_; rintro e w' ⟨rfl, rfl⟩)
      go_ret
      exact Grows.mk (by rw [← HWW.out, decide_eq_true h1]; rfl) he
  · have h2 : ¬ (s.size : Int) ≤ 4000 := by omega
    have h3 : decide ((s.size : Int) ≤ 4000) = false := decide_eq_false (by omega)
    go_wp2_with fail
    go_ret
    exact Grows.mk (by rw [← HWW.out, decide_eq_false h1, Bool.and_false]; rfl) he

section
variable {al : Int} {f : ByteArray → Bool} {m lo bs : Nat} {vo : Value} {J : Nat → World → Prop}
def OraEnd (m lo : Nat) (J : Nat → World → Prop) (c : Nat) (v : Value) (w : World) (e : Ending) (w' : World) : Prop := e = .returned v ∧ (∃ c', c' ≤ c + 3000000 ∧ J c' w') ∧ Touch eK m lo w w'

theorem tableValid_c (hO : Ora al f m lo bs vo J) (vr vc : Value) (t : Table) (c : Nat) (w : World) (hJ : J c w) (hc : c + 6000000 ≤ 90000000) (hal : isAlpha al = true) (hf : TabFit t) (hR : ∀ w', Touch eK m lo w w' → StrsV w' vr t.rows) (hC : ∀ w', Touch eK m lo w w' → StrsV w' vc t.cols) (hbs : bs ≤ w.heap.size) :
    Calls Tryz.prog 85 #[.agg #[.int .i64 al, vo], .agg #[vr, vc]] w (OraEnd m lo J c (.bool (validT f al t)) w) := by
  have hR0 := hR w (Touch.refl _ _ _ _)
  have hC0 := hC w (Touch.refl _ _ _ _)
  obtain ⟨aR, cR, rfl, -, hr⟩ := SlV.open hR0
  obtain ⟨aC, cC, rfl, -, hc2⟩ := SlV.open hC0
  have HR := Lib.hid hr
  have HC := Lib.hid hc2
  have HF := Lib.hid hf
  have hcapR := hR0.cap
  have hcapC := hC0.cap
  have HTV := Lib.hid hR
  have HTC := Lib.hid hC
  have hrl := hf.rl
  have hcl := hf.cl
  have HO := Lib.hid hO
  have HAL := Lib.hid hal
  have HRV := Lib.hid (show ∀ w', Ext w w' → ∀ k, k ≤ t.rows.length → StrsV w' (.slice aR k cR) (t.rows.take k) from fun w' h k hk => (hR0.mono h).take rfl hk)
  have HCV := Lib.hid (show ∀ w', Ext w w' → ∀ k, k ≤ t.cols.length → StrsV w' (.slice aC k cC) (t.cols.take k) from fun w' h k hk => (hC0.mono h).take rfl hk)
  have hal0 : 0 ≤ al := by have h2 := hal; simp [isAlpha] at h2; exact h2.1
  have HJX := Lib.hid (show ∀ w', Ext w w' → J c w' from fun w' h => hO.ext hbs hJ h)
  have HEXT := Lib.hid (show ∀ w' v, Ext w w' → OraEnd m lo J c v w (.returned v) w' from fun w' v h => ⟨rfl, ⟨c, by omega, hO.ext hbs hJ h⟩, Touch.ext h⟩)
  obtain ⟨va, hva⟩ : ∃ va, validT f al t = va := ⟨_, rfl⟩
  rw [hva]
  have HVA := Lib.hid hva
  clear hr hc2 hR0 hC0 hf hR hC hO hal hva
  obtain ⟨wo, hwo⟩ : ∃ wo, wo = (w.alloc (.cells #[.int .i64 al, vo] 126)).alloc (.cells #[.slice aR t.rows.length cR, .slice aC t.cols.length cC] 61) := ⟨_, rfl⟩
  have he : Ext w wo := by rw [hwo]; exact (Ext.alloc _ _).trans (Ext.alloc _ _)
  have b2 : Blk wo w.heap.size #[.int .i64 al, vo] 126 := by rw [hwo]; exact Ext.blk (Ext.alloc _ _)
  have b3 : Blk wo (w.heap.size + 1) #[.slice aR t.rows.length cR, .slice aC t.cols.length cC] 61 := by rw [hwo]; exact Ext.blk1 (Ext.refl _)
  go_enter Tryz.func85, Tryz.ntmps85
  go_upto_region 1 with fail
  rw [← hwo]
  clear hwo
  have D0 := fun d os => cell_regrown (b3.cell 0 rfl) d os; have D1 := fun d os => cell_regrown (b3.cell 1 rfl) d os
  refine wp_region_quiet_below (by kernel_rfl) (by kernel_rfl) ?_
  repeat (go_big_quiet_step (fail))
  refine wpQuiet_nil ?_
  intro _ hw'
  obtain ⟨⟨dq, osq⟩, hw''⟩ := hw'
  subst hw''
  have hq0 : Ext wo (Go.Sort.grow (redrawn wo dq) osq) := below_regrown wo dq osq
  generalize Go.Sort.grow (redrawn wo dq) osq = w0 at hq0 ⊢
  replace he := he.trans hq0
  replace b2 := b2.ext hq0
  replace b3 := b3.ext hq0
  clear D0 D1
  clear hq0
  go_upto_region 2 with fail
  go_cut [44] (fun v44 wc => ∃ bad : Bool, v44 = .bool bad ∧ Hid (bad = false → Heads t) ∧ Hid (bad = true → ¬ Shape al t) ∧ wc = w0)
  case first =>
    by_cases h1 : t.rows.length < 1
    · have h1' : (t.rows.length : Int) < 1 := by omega
      go_wp2_with fail
      go_meet
      case rel => exact ⟨true, rfl, Lib.hid (fun h => by cases h), Lib.hid (fun _ h => by have := h.r1; omega), rfl⟩
    have h1' : ¬ (t.rows.length : Int) < 1 := by omega
    by_cases h2 : 12 < t.rows.length
    · have h2' : (12 : Int) < (t.rows.length : Int) := by omega
      go_wp2_with fail
      go_meet
      case rel => exact ⟨true, rfl, Lib.hid (fun h => by cases h), Lib.hid (fun _ h => by have := h.r12; omega), rfl⟩
    have h2' : ¬ (12 : Int) < (t.rows.length : Int) := by omega
    by_cases h3 : t.cols.length < 1
    · have h3' : (t.cols.length : Int) < 1 := by omega
      go_wp2_with fail
      go_meet
      case rel => exact ⟨true, rfl, Lib.hid (fun h => by cases h), Lib.hid (fun _ h => by have := h.c1; omega), rfl⟩
    have h3' : ¬ (t.cols.length : Int) < 1 := by omega
    by_cases h4 : 20 < t.cols.length
    · have h4' : (20 : Int) < (t.cols.length : Int) := by omega
      go_wp2_with fail
      go_meet
      case rel => exact ⟨true, rfl, Lib.hid (fun h => by cases h), Lib.hid (fun _ h => by have := h.c20; omega), rfl⟩
    have h4' : ¬ (20 : Int) < (t.cols.length : Int) := by omega
    obtain ⟨r0, hr0⟩ : ∃ r0, t.rows[0]? = some r0 := ⟨_, List.getElem?_eq_getElem (by omega)⟩
    obtain ⟨br, or_, rfl, -, hrr⟩ := HR.out 0 r0 hr0
    have q0 : w0.cell? ⟨br, or_, none⟩ = some (.string r0) := by have := hrr 0 r0 hr0; unfold StrAt' at this; simp only [Nat.zero_mul, Nat.add_zero] at this; exact he.cell this
    have hir : (0 : Int) < (t.rows.length : Int) := by omega
    have HR0 := Lib.hid hr0
    clear hrr hr0
    by_cases h5 : r0 = ByteArray.mk #[]
    case neg =>
      obtain ⟨f1, f2, f3, f4, f5⟩ := ba_ne r0 h5
      have H5 := Lib.hid h5
      clear h5
      go_wp2_with fail
      go_meet
      case rel => exact ⟨true, rfl, Lib.hid (fun h => by cases h), Lib.hid (fun _ h => H5.out (by have := h.r0; rw [HR0.out] at this; injection this)), rfl⟩
    subst h5
    have hnil := ba_nil
    obtain ⟨c0, hc0⟩ : ∃ c0, t.cols[0]? = some c0 := ⟨_, List.getElem?_eq_getElem (by omega)⟩
    obtain ⟨bc, oc, rfl, -, hcc2⟩ := HC.out 0 c0 hc0
    have q1 : w0.cell? ⟨bc, oc, none⟩ = some (.string c0) := by have := hcc2 0 c0 hc0; unfold StrAt' at this; simp only [Nat.zero_mul, Nat.add_zero] at this; exact he.cell this
    have hic : (0 : Int) < (t.cols.length : Int) := by omega
    have HC0 := Lib.hid hc0
    clear hcc2 hc0
    by_cases h6 : c0 = ByteArray.mk #[]
    case neg =>
      obtain ⟨f1, f2, f3, f4, f5⟩ := ba_ne c0 h6
      have H6 := Lib.hid h6
      clear h6
      go_wp2_with fail
      go_meet
      case rel => exact ⟨true, rfl, Lib.hid (fun h => by cases h), Lib.hid (fun _ h => H6.out (by have := h.c0; rw [HC0.out] at this; injection this)), rfl⟩
    subst h6
    go_wp2_with fail
    go_meet
    case rel => exact ⟨false, rfl, Lib.hid (fun _ => ⟨by omega, by omega, by omega, by omega, HR0.out, HC0.out⟩), Lib.hid (fun h => by cases h), rfl⟩
  case rest =>
  obtain ⟨bad, rfl, HG, HB, rfl⟩ := hcut
  cases bad with
  | true =>
    have hbad : va = false := by rw [← HVA.out]; exact validT_shape (shapeB_not (HB.out (by first | rfl | trivial)))
    subst hbad
    go_wp2_with fail
    go_ret
    exact HEXT.out _ _ he
  | false =>
  have hH := HG.out (by first | rfl | trivial)
  have HH := Lib.hid hH
  have hr1 := hH.r1
  have hc1 := hH.c1
  have hr12 := hH.r12
  have hc20 := hH.c20
  clear HB HG hH
  obtain ⟨br, or_, rfl, -, -⟩ := HR.out 0 _ HH.out.r0
  obtain ⟨bc, oc, rfl, -, -⟩ := HC.out 0 _ HH.out.c0
  have hone : (1 : Int) ≤ (t.rows.length : Int) := by omega
  have hcapRi : (t.rows.length : Int) ≤ (cR : Int) := by omega
  have honec : (1 : Int) ≤ (t.cols.length : Int) := by omega
  have hcapCi : (t.cols.length : Int) ≤ (cC : Int) := by omega
  have hqr : ∀ (k : Nat) (x : ByteArray), t.rows[k]? = some x → w.cell? ⟨br, or_ + k, none⟩ = some (.string x) := fun k x hx => by
    obtain ⟨b', o', e, -, h2⟩ := HR.out k x hx
    cases e
    have := h2 k x hx; unfold StrAt' at this; rwa [Nat.mul_one] at this
  have hqc : ∀ (k : Nat) (x : ByteArray), t.cols[k]? = some x → w.cell? ⟨bc, oc + k, none⟩ = some (.string x) := fun k x hx => by
    obtain ⟨b', o', e, -, h2⟩ := HC.out k x hx
    cases e
    have := h2 k x hx; unfold StrAt' at this; rwa [Nat.mul_one] at this
  have HQR := Lib.hid hqr
  have HQC := Lib.hid hqc
  clear hqr hqc
  go_upto_region 4 with fail
  go_cut [46, 47, 48] (fun v46 v47 v48 wx => ∃ (ao : Option Addr) (co : Nat), v46 = .slice ao (t.rows.length - 1) co ∧ v47 = .int .i64 ((t.rows.length - 1 : Nat) : Int) ∧ v48 = .int .i64 0 ∧ Hid (1 < t.rows.length → ao = some ⟨br, or_ + 1, none⟩) ∧ wx = wc)
  case first =>
    by_cases hcr1 : cR = 1
    · go_wp2_with fail
      go_meet
      case rel => exact ⟨_, _, rfl, rfl, rfl, Lib.hid (fun h => by omega), rfl⟩
    · go_wp2_with fail
      go_meet
      case rel => exact ⟨_, _, rfl, rfl, rfl, Lib.hid (fun _ => rfl), rfl⟩
  case rest =>
  obtain ⟨ao, co, rfl, rfl, rfl, HAO, rfl⟩ := hcut
  go_wp2_with fail
  go_loopw [48, 56, 57, 58, 59, 60, 63, 64, 65, 66, 67, 68, 69, 70, 71, 72, 73] (fun i _ _ _ _ _ _ _ _ _ _ _ _ _ _ _ _ wr => ∃ k : Nat, k + 1 ≤ t.rows.length ∧ i = .int .i64 k ∧ Hid (TRows al t.rows (k + 1)) ∧ Ext w wr ∧ Blk wr w.heap.size #[.int .i64 al, vo] 126 ∧ Blk wr (w.heap.size + 1) #[.slice (some ⟨br, or_, none⟩) t.rows.length cR, .slice (some ⟨bc, oc, none⟩) t.cols.length cC] 61) (fun i _ _ _ _ _ _ _ _ _ _ _ _ _ _ _ _ _ => t.rows.length - (intOf i).toNat)
  case atStart => exact ⟨0, by omega, rfl, Lib.hid (TRows.one _ _), he, b2, b3⟩
  case round =>
    clear he b2 b3
    obtain ⟨k, hk, rfl, HRT, he, b2, b3⟩ := hrel
    by_cases hlt : k + 1 < t.rows.length
    case neg =>
      have hke : k + 1 = t.rows.length := by omega
      have HRO := Lib.hid (show RowsOk al t.rows by have := HRT.out; rw [hke] at this; exact this.full)
      have hki : ¬ (k : Int) < ((t.rows.length - 1 : Nat) : Int) := by omega
      have hki2 : ¬ (k : Int) < (t.rows.length : Int) - 1 := by omega
      clear HRT hke HAO
      go_upto_region 10 with fail
      go_cut [77, 78, 79] (fun v77 v78 v79 wx => ∃ (ap : Option Addr) (cp : Nat), v77 = .slice ap (t.cols.length - 1) cp ∧ v78 = .int .i64 ((t.cols.length - 1 : Nat) : Int) ∧ v79 = .int .i64 0 ∧ Hid (1 < t.cols.length → ap = some ⟨bc, oc + 1, none⟩) ∧ wx = wr)
      case first =>
        by_cases hcr1 : cC = 1
        · subst hcr1
          have HL1 := Lib.hid (show t.cols.length = 1 by omega)
          go_wp2_with fail
          go_meet
          case rel => exact ⟨some ⟨bc, oc, none⟩, 0, by simp [HL1.out], by simp [HL1.out], rfl, Lib.hid (fun h => by omega), rfl⟩
        · go_wp2_with fail
          go_meet
          case rel => exact ⟨_, _, rfl, rfl, rfl, Lib.hid (fun _ => rfl), rfl⟩
      case rest =>
      obtain ⟨ap, cp, rfl, rfl, rfl, HAP, rfl⟩ := hcut
      go_wp2_with fail
      go_loopw [79, 89, 90, 91, 92, 93, 94] (fun i _ _ _ _ _ _ wr => ∃ k : Nat, k + 1 ≤ t.cols.length ∧ i = .int .i64 k ∧ Hid (TCols al t.cols (k + 1)) ∧ Ext w wr ∧ Blk wr w.heap.size #[.int .i64 al, vo] 126 ∧ Blk wr (w.heap.size + 1) #[.slice (some ⟨br, or_, none⟩) t.rows.length cR, .slice (some ⟨bc, oc, none⟩) t.cols.length cC] 61) (fun i _ _ _ _ _ _ _ => t.cols.length - (intOf i).toNat)
      case atStart => exact ⟨0, by omega, rfl, Lib.hid (TCols.one _ _), he, b2, b3⟩
      case round =>
        clear he b2 b3 hki hki2 hlt hk
        obtain ⟨k, hk, rfl, HCT, he, b2, b3⟩ := hrel
        have b2_0 := b2.cell 0 rfl
        have b2_1 := b2.cell 1 rfl
        by_cases hlt : k + 1 < t.cols.length
        case neg =>
          have hke : k + 1 = t.cols.length := by omega
          have HS := Lib.hid (HH.out.shape hal0 HRO.out (by have := HCT.out; rw [hke] at this; exact this.full))
          have hki : ¬ (k : Int) < ((t.cols.length - 1 : Nat) : Int) := by omega
          have hki2 : ¬ (k : Int) < (t.cols.length : Int) - 1 := by omega
          have b3_0 := b3.cell 0 rfl
          have b3_1 := b3.cell 1 rfl
          have hszr := he.size
          have HRN := Lib.hid (rowNumbers_c HO.out (.slice (some ⟨br, or_, none⟩) t.rows.length cR) (.slice (some ⟨bc, oc, none⟩) t.cols.length cC) t.rows t.cols c wr (HJX.out _ he) (by omega) (HS.out.asks HAL.out) (fun r hr => ⟨HS.out.row_in HAL.out hr, by have := HS.out.row_size hr; omega⟩) hr12 (fun w' h => HTV.out w' ((Touch.ext he).trans h)) (fun w' h => HTC.out w' ((Touch.ext he).trans h)) (by omega))
          clear HCT hke HAP
          go_wp2_with fail
          refine HRN.out.mono ?_
          rintro e w6 ⟨bm, D, nm, rfl, hmo, hbm, HM, ⟨c6, hc6, hJ6⟩, ht6⟩
          obtain ⟨sz, hsz⟩ : ∃ sz, Maps.size D = sz := ⟨_, rfl⟩
          have heq : ((sz : Int) == (t.rows.length : Int)) = va := by
            rw [← HVA.out, Bool.eq_iff_iff, validT_iff, beq_iff_eq]
            have h1 : sz = (seenM f t.rows t.cols).length := by rw [← hsz]; exact HM.2
            constructor
            · intro h2
              exact ⟨HS.out, seenM_len.1 (by omega)⟩
            · intro h2
              have := seenM_len.2 h2.2
              omega
          have HEQ := Lib.hid heq
          have hfin : OraEnd m lo J c (.bool va) w (.returned (.bool va)) w6 := ⟨rfl, ⟨c6, by omega, hJ6⟩, (Touch.ext he).trans ht6⟩
          have HFIN := Lib.hid hfin
          clear heq hfin b2_0 b2_1 b3_0 b3_1 HM
          go_wp2_with (at_len; refine wpList_len_own _ rfl _ 201 rfl 9 3 Tryz.underlying201 _ bm nm D rfl hmo ?_; rw [hsz])
          go_ret
          rw [HEQ.out]
          exact HFIN.out
        obtain ⟨x, hx⟩ : ∃ x, t.cols[k + 1]? = some x := ⟨_, List.getElem?_eq_getElem hlt⟩
        obtain rfl := HAP.out (by omega)
        have q1 : wr.cell? ⟨bc, oc + 1 + k, none⟩ = some (.string x) := by rw [show oc + 1 + k = oc + (k + 1) by omega]; exact he.cell (HQC.out (k + 1) x hx)
        have hki : (k : Int) < ((t.cols.length - 1 : Nat) : Int) := by omega
        have hki2 : (k : Int) < (t.cols.length : Int) - 1 := by omega
        have hkc : ((k + 1 : Nat) : Int) ≤ (cC : Int) := by omega
        have hkc2 : (k : Int) + 1 ≤ (cC : Int) := by omega
        have hxz := HF.out.cs x (List.mem_of_getElem? hx)
        have HX := Lib.hid hx
        clear hx
        obtain ⟨cw, hcw⟩ : ∃ cw, (wordIn x al && decide (x.size ≤ 4000)) = cw := ⟨_, rfl⟩
        have HCW := Lib.hid (columnWord_c al vo x wr hxz)
        rw [hcw] at HCW
        have HW := Lib.hid hcw
        clear hcw
        go_wp2_with fail
        refine HCW.out.mono ?_
        rintro e w5 ⟨rfl, he5⟩
        replace he := he.trans he5
        replace b2 := b2.ext he5
        replace b3 := b3.ext he5
        clear b2_0 b2_1 q1 he5 HCW
        cases cw with
        | false =>
          have hbad : va = false := by
            rw [← HVA.out]
            refine validT_shape (shapeB_not fun h => ?_)
            have h2 := h.cols (k + 1) x (by omega) HX.out
            have h3 := HW.out
            rw [h2.2.1, decide_eq_true h2.1] at h3
            cases h3
          subst hbad
          go_wp2_with fail
          go_ret
          exact HEXT.out _ _ he
        | true =>
          have hww := HW.out
          simp only [Bool.and_eq_true, decide_eq_true_eq] at hww
          have HWW := Lib.hid hww
          clear hww
          obtain ⟨mb, hmb⟩ : ∃ mb, decide (x ∈ t.cols.take (k + 1)) = mb := ⟨_, rfl⟩
          have HIN := Lib.hid (ContainsS_c _ (t.cols.take (k + 1)) x _ (HCV.out _ he (k + 1) (by omega)) (by rw [List.length_take]; omega) hmb)
          have HM := Lib.hid hmb
          clear hmb
          cases mb with
          | true =>
            have hbad : va = false := by rw [← HVA.out]; exact validT_shape (shapeB_not fun h => (h.cols (k + 1) x (by omega) HX.out).2.2 (of_decide_eq_true HM.out))
            subst hbad
            go_wp2_with (go_at_call 174; refine HIN.out.mono ?_; rintro e w' ⟨rfl, rfl⟩)
            go_ret
            exact HEXT.out _ _ he
          | false =>
            have HN := Lib.hid (HCT.out.succ HX.out HWW.out.2 HWW.out.1 (of_decide_eq_false HM.out))
            go_wp2_with (go_at_call 174; refine HIN.out.mono ?_; rintro e w' ⟨rfl, rfl⟩)
            exact ⟨⟨k + 1, by omega, by go_num, HN, he, b2, b3⟩, by simp [intOf]; omega⟩
    obtain ⟨r, hr⟩ : ∃ r, t.rows[k + 1]? = some r := ⟨_, List.getElem?_eq_getElem hlt⟩
    obtain rfl := HAO.out (by omega)
    have q1 : wr.cell? ⟨br, or_ + 1 + k, none⟩ = some (.string r) := by rw [show or_ + 1 + k = or_ + (k + 1) by omega]; exact he.cell (HQR.out (k + 1) r hr)
    have hki : (k : Int) < ((t.rows.length - 1 : Nat) : Int) := by omega
    have hki2 : (k : Int) < (t.rows.length : Int) - 1 := by omega
    have hkc : ((k + 1 : Nat) : Int) ≤ (cR : Int) := by omega
    have hkc2 : (k : Int) + 1 ≤ (cR : Int) := by omega
    have hrz := HF.out.rs r (List.mem_of_getElem? hr)
    have HX := Lib.hid hr
    have D0 := fun d os => cell_regrown (b2.cell 0 rfl) d os
    clear hr
    by_cases h1 : r = ByteArray.mk #[]
    · have HZ := Lib.hid h1
      have hnil : r.toList.isEmpty = true := by rw [h1]; exact ba_nil
      have hnil2 : (r == ByteArray.mk #[]) = true := by rw [ba_beq]; exact decide_eq_true h1
      have hbad : va = false := by rw [← HVA.out]; exact validT_shape (shapeB_not fun h => (h.rows (k + 1) r (by omega) HX.out).1 (by rw [HZ.out]; rfl))
      subst hbad
      clear h1
      go_wp2_with fail
      refine wp_region_quiet_below (by kernel_rfl) (by kernel_rfl) ?_
      repeat (go_big_quiet_step (fail))
      refine wpQuiet_nil ?_
      intro _ hw'
      obtain ⟨⟨dq, osq⟩, hw''⟩ := hw'
      subst hw''
      have hq3 : Ext wr (Go.Sort.grow (redrawn wr dq) osq) := below_regrown wr dq osq
      generalize Go.Sort.grow (redrawn wr dq) osq = wq at hq3 ⊢
      go_wp2_with fail
      go_ret
      exact HEXT.out _ _ (he.trans hq3)
    have h1z : r.size ≠ 0 := fun h => h1 ((ba_empty r).2 h)
    obtain ⟨f1, f2, f3, f4, f5⟩ := ba_ne r h1
    have HZ := Lib.hid h1z
    obtain ⟨z, hz⟩ : ∃ z, r.size = z + 1 := ⟨r.size - 1, by omega⟩
    have hw1 : IntKind.i64.wrap ((r.size : Int) - 1) = (z : Int) := by rw [IntKind.wrap_i64]; omega
    have hzs : (z : Int) ≤ (r.size : Int) := by omega
    have hz2 : Hid (r.size - 1 = z) := Lib.hid (by omega)
    clear h1 h1z hz
    obtain ⟨wi, hwi⟩ : ∃ wi, wordIn r al = wi := ⟨_, rfl⟩
    have HW := Lib.hid (fun w' => WordWithin_c r al w' hrz)
    rw [hwi] at HW
    have HWI := Lib.hid hwi
    clear hwi
    cases wi with
    | false =>
      have hbad : va = false := by rw [← HVA.out]; exact validT_shape (shapeB_not fun h => by have := (h.rows (k + 1) r (by omega) HX.out).2.1; rw [HWI.out] at this; cases this)
      subst hbad
      go_wp2_with fail
      refine wp_region_quiet_below (by kernel_rfl) (by kernel_rfl) ?_
      repeat (go_big_quiet_step ((go_at_call 173; exact Same.quiet (HW.out _))))
      refine wpQuiet_nil ?_
      intro _ hw'
      obtain ⟨⟨dq, osq⟩, hw''⟩ := hw'
      subst hw''
      have hq3 : Ext wr (Go.Sort.grow (redrawn wr dq) osq) := below_regrown wr dq osq
      generalize Go.Sort.grow (redrawn wr dq) osq = wq at hq3 ⊢
      go_wp2_with fail
      go_ret
      exact HEXT.out _ _ (he.trans hq3)
    | true =>
      obtain ⟨mb, hmb⟩ : ∃ mb, decide (r.extract 0 z ∈ t.rows.take (k + 1)) = mb := ⟨_, rfl⟩
      have HIN := Lib.hid (fun w' (h : Ext w w') => ContainsS_c _ (t.rows.take (k + 1)) (r.extract 0 z) w' (HRV.out _ h (k + 1) (by omega)) (by rw [List.length_take]; omega) hmb)
      have HM := Lib.hid hmb
      clear hmb
      cases mb with
      | false =>
        have hbad : va = false := by rw [← HVA.out]; exact validT_shape (shapeB_not fun h => by have := (h.rows (k + 1) r (by omega) HX.out).2.2; rw [hz2.out] at this; exact of_decide_eq_false HM.out this)
        subst hbad
        go_wp2_with fail
        refine wp_region_quiet_below (by kernel_rfl) (by kernel_rfl) ?_
        repeat (go_big_quiet_step (first | (go_at_call 173; exact Same.quiet (HW.out _)) | (go_at_call 174; exact Same.quiet (HIN.out _ (he.trans (below_regrown _ _ _))))))
        refine wpQuiet_nil ?_
        intro _ hw'
        obtain ⟨⟨dq, osq⟩, hw''⟩ := hw'
        subst hw''
        have hq3 : Ext wr (Go.Sort.grow (redrawn wr dq) osq) := below_regrown wr dq osq
        generalize Go.Sort.grow (redrawn wr dq) osq = wq at hq3 ⊢
        go_wp2_with fail
        go_ret
        exact HEXT.out _ _ (he.trans hq3)
      | true =>
        have HN := Lib.hid (HRT.out.succ HX.out HZ.out HWI.out (by rw [hz2.out]; exact of_decide_eq_true HM.out))
        go_wp2_with fail
        refine wp_region_quiet_below (by kernel_rfl) (by kernel_rfl) ?_
        repeat (go_big_quiet_step (first | (go_at_call 173; exact Same.quiet (HW.out _)) | (go_at_call 174; exact Same.quiet (HIN.out _ (he.trans (below_regrown _ _ _))))))
        refine wpQuiet_nil ?_
        intro _ hw'
        obtain ⟨⟨dq, osq⟩, hw''⟩ := hw'
        subst hw''
        have hq3 : Ext wr (Go.Sort.grow (redrawn wr dq) osq) := below_regrown wr dq osq
        generalize Go.Sort.grow (redrawn wr dq) osq = wq at hq3 ⊢
        go_wp2_with fail
        exact ⟨⟨k + 1, by omega, by go_num, HN, he.trans hq3, b2.ext hq3, b3.ext hq3⟩, by simp [intOf]; omega⟩
end
--CUT--
end Go.Proofs.YtadplnbadfnlfaaGreatDoor
