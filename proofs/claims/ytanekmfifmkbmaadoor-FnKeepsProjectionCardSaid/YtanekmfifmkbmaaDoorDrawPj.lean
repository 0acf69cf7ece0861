/- Part of this seat's proofs, cut to what its law needs. -/

import Derived.Test.YtanekmfifmkbmaaDoorDrawE
import Derived.Test.YtanekmfifmkbmaaDoorDrawU
import Derived.Deep.RegionLaw
import Derived.Deep.DrawnRows
import Derived.Deep.DeepCutAuto
namespace Go.Proofs.YtanekmfifmkbmaaDoor
set_option linter.unusedSimpArgs false
set_option linter.unusedVariables false
open Go.RowKit
set_option maxHeartbeats 1500000
set_option maxRecDepth 100000
attribute [local go_sem ↓] Go.wp_at_zero Go.wp_at_succ

variable {D D' D'' : Nat → Prop} {g q q' : Nat} {w w' : World}

theorem l2Any_t (h : St D g q w) (hq : q + 4700 ≤ 1000000) :
    Calls Tryd.prog 33 #[.pointer (some ⟨g, 0, none⟩)] w (Drawn D g q 4700 w SysT) := by
  have hg := h.g_lt
  have hd := fun x hx => (h.dom x hx).2
  have B0 := Box.new h #[.int .i64 0, .int .i64 0, .slice none 0 0] 25
  go_enter Tryd.func33, Tryd.ntmps33
  go_wp2_with fail
  generalize w.alloc (.cells #[.int .i64 0, .int .i64 0, .slice none 0 0] 25) = w1 at B0 ⊢
  refine (pick_t 12 B0.st (by omega) (by omega)).mono ?_
  rintro e w2 ⟨x, rfl, -, -, hs2, hk2⟩
  have B1 := B0.kept hg hk2 (c' := 1) hs2
  clear hs2 hk2 B0
  by_cases hx : x = 0
  · subst hx
    go_wp2_with fail
    refine (l2Big_t B1.st (by omega)).mono ?_
    rintro e w3 ⟨v3, D3, rfl, hi3, hs3, ht3, hS⟩
    obtain ⟨al, st, n, aE, cE, rfl, hn, hE⟩ := hS.boxed
    have B2 := B1.drawn hg hi3 ht3 (c' := 4700) (hs3.up (by omega))
    clear hs3 ht3 hi3 hS
    have rc0 := B2.blk.cell 0 rfl; have rf0 := B2.blk.fr 0; have rc1 := B2.blk.cell 1 rfl; have rf1 := B2.blk.fr 1; have rc2 := B2.blk.cell 2 rfl; have rf2 := B2.blk.fr 2
    go_wp2_with fail
    refine bodyPost_ret (v := .agg #[.int .i64 al, .int .i64 st, .slice aE n cE]) (by simp [results, Tryd.results33, go_sem, rc0, rc1, rc2, rf0, rf1, rf2]) rfl ?_
    have BZ := ((B2.set hg hd (Nat.le_refl _) 0 (.int .i64 al)).set hg hd (Nat.le_refl _) 1 (.int .i64 st)).set hg hd (Nat.le_refl _) 2 (.slice aE n cE)
    have oZ := B2.out
    exact ⟨_, _, rfl, BZ.inc, BZ.st.up (by omega), BZ.tr, _, _, _, _, rfl, by omega, (((hE.tr (fun _ h => h) (Shp.box oZ)).tr (fun _ h => h) (Shp.box oZ)).tr (fun _ h => h) (Shp.box oZ))⟩
  · have hx' : ((x : Int) == 0) = false := beq_eq_false_iff_ne.2 (by omega)
    go_wp2_with fail
    refine (l2Draw_t B1.st (by omega)).mono ?_
    rintro e w3 ⟨v3, D3, rfl, hi3, hs3, ht3, hS⟩
    have B2 := B1.drawn hg hi3 ht3 (c' := 4601) (hs3.up (by omega))
    clear hi3 hs3 ht3
    go_wp2_with fail
    refine (l2Wrong_t _ hS B2.st (by omega)).mono ?_
    rintro e w4 ⟨v4, D4, rfl, hi4, hs4, ht4, hS4⟩
    obtain ⟨al, st, n, aE, cE, rfl, hn, hE⟩ := hS4.boxed
    have B3 := B2.drawn hg hi4 ht4 (c' := 4700) (hs4.up (by omega))
    clear hs4 ht4 hi4 hS4
    have rc0 := B3.blk.cell 0 rfl; have rf0 := B3.blk.fr 0; have rc1 := B3.blk.cell 1 rfl; have rf1 := B3.blk.fr 1; have rc2 := B3.blk.cell 2 rfl; have rf2 := B3.blk.fr 2
    go_wp2_with fail
    refine bodyPost_ret (v := .agg #[.int .i64 al, .int .i64 st, .slice aE n cE]) (by simp [results, Tryd.results33, go_sem, rc0, rc1, rc2, rf0, rf1, rf2]) rfl ?_
    have BZ := ((B3.set hg hd (Nat.le_refl _) 0 (.int .i64 al)).set hg hd (Nat.le_refl _) 1 (.int .i64 st)).set hg hd (Nat.le_refl _) 2 (.slice aE n cE)
    have oZ := B3.out
    exact ⟨_, _, rfl, BZ.inc, BZ.st.up (by omega), BZ.tr, _, _, _, _, rfl, by omega, (((hE.tr (fun _ h => h) (Shp.box oZ)).tr (fun _ h => h) (Shp.box oZ)).tr (fun _ h => h) (Shp.box oZ))⟩

def SysI (D : Nat → Prop) (q : Nat) (w : World) (v : Value) : Prop := ∃ (s : Value) (x : Int), v = .tuple #[s, .int .i64 x] ∧ SysT D q w s
theorem SysI.tr {v : Value} (h : SysI D q w v) (hi : ∀ b, D b → D' b) (hs : Shp D w w') (hq : q ≤ q') : SysI D' q' w' v := by
  obtain ⟨s, x, rfl, h1⟩ := h
  exact ⟨s, x, rfl, h1.tr hi hs hq⟩

theorem DrawProjectSystem_t (v : Value) (l : List UInt8) (w : World) (hv : BytesV w v l) (hl : l.length ≤ 1048576) :
    Calls Tryd.prog 13 #[v] w (Drew 7000 w SysI) := by
  obtain ⟨wo, hwo⟩ : ∃ wo, wo = w.alloc (.cells #[.int .i64 0, .int .i64 0, .slice none 0 0] 25) := ⟨_, rfl⟩
  have he : Ext w wo := by rw [hwo]; exact Ext.alloc _ _
  have b0 : Blk wo w.heap.size #[.int .i64 0, .int .i64 0, .slice none 0 0] 25 := by rw [hwo]; exact Blk.new _ _ _
  have hso : wo.heap.size = w.heap.size + 1 := by rw [hwo]; simp
  go_enter Tryd.func13, Tryd.ntmps13
  go_wp2_with fail
  rw [← hwo]
  clear hwo
  refine (l19Open_t v l wo (hv.mono (fun b o x _ h => he.cell h) he.size) hl).mono ?_
  rintro e w1 ⟨g, rfl, hgb, he1, hs1⟩
  have b0 := b0.ext he1
  have hw1 : w.heap.size + 1 ≤ w1.heap.size := by have := he1.size; omega
  have hb1 : Ext w w1 := he.trans he1
  clear he he1 hv
  have N0 := Bare.new hs1
  have hd : ∀ x, (fun _ => False : Nat → Prop) x → x < w1.heap.size := fun x hx => hx.elim
  go_wp2_with fail
  refine (l2Any_t hs1 (by omega)).mono ?_
  rintro e w2 ⟨r, D2, rfl, hi2, hs2, ht2, hR⟩
  obtain ⟨al, st, n, aE, cE, rfl, hn, hE⟩ := hR.boxed
  have hw2 := ht2.size
  have b0 := b0.tr ht2 (fun h => h) (by omega)
  have N2 := N0.drawn (c' := 4700) hi2 ht2 hs2
  clear N0 hi2 ht2 hs2
  have B6 := N2.box #[.int .i64 al, .int .i64 st, .slice aE n cE] 25
  have hx3 : Ext w2 (w2.alloc (.cells #[.int .i64 al, .int .i64 st, .slice aE n cE] 25)) := Ext.alloc _ _
  have hE := hE.tr' (Inc.refl _ _) (Tr.ext N2.st hx3)
  have b0 := b0.ext hx3
  have hgG : g < w2.heap.size := N2.st.g_lt
  clear hx3 N2 hR
  go_upto_region 3 with fail
  generalize (w2.alloc (.cells #[.int .i64 al, .int .i64 st, .slice aE n cE] 25)) = w3 at B6 hE b0 ⊢
  generalize w2.heap.size = G6 at B6 hgG hw2 ⊢
  have B6' := B6.ext (Ext.drew w3)
  have b0' := b0.ext (Ext.drew w3)
  have hE' := hE.tr' (Inc.refl _ _) (Tr.ext B6.st (Ext.drew w3))
  have gc0 := B6.blk.cell 0 rfl
  have gc1 := B6'.blk.cell 0 rfl
  have ga0 := fun o => (Ext.alloc w3 o).cell gc0
  go_region_law (go_simp; go_wp2_with (go_at_call 34; refine (num_drew [5, 3, 1, 6, 63, 0, 2] rfl B6.st (by omega) (by decide) (by decide)).mono ?_; rintro e w6 ⟨y, hy, rfl, hs6, hk6⟩; have gc6 := (B6'.blk.kept hk6 (by omega)).cell 0 rfl))
  all_goals
    have b0 := b0'.kept hk6 (by omega)
    have B6 := B6'.kept (by omega) hk6 (c' := 4701) (hs6.up (by omega))
    have hE := hE'.tr' (Inc.refl _ _) (Tr.kept B6'.st hk6)
    clear gc0 gc1 ga0 gc6 hs6 hk6 B6' b0' hE'
    generalize bits .and .i64 al y = x6
    go_wp2_with fail
    refine (pick_t 12 B6.st (by omega) (by omega)).mono ?_
    rintro e w7 ⟨x, rfl, -, -, hs7, hk7⟩
    have b0 := b0.kept hk7 (by omega)
    have hE := hE.tr' (Inc.refl _ _) (Tr.kept B6.st hk7)
    have B6 := B6.kept (by omega) hk7 (c' := 4702) (hs7.up (by omega))
    clear hs7 hk7
    go_upto_if 19 with fail
    go_cut [6] (fun v6 wc => ∃ (D' : Nat → Prop) (y : Int), v6 = .int .i64 y ∧ Box (fun _ => False) g 2000 w1 G6 4710 #[.int .i64 al, .int .i64 st, .slice aE n cE] 25 wc D' ∧ SlOk D' wc 85 3 (.slice aE n cE) n ∧ Blk wc w.heap.size #[.int .i64 0, .int .i64 0, .slice none 0 0] 25)
    case first =>
      by_cases hx : x = 0
      · subst hx
        go_wp2_with fail
        refine (l1Some_t B6.st (by omega)).mono ?_
        rintro e w8 ⟨v8, D8, rfl, hi8, hs8, ht8, y8, -, rfl⟩
        have b0 := b0.tr ht8 (fun h => by have := (B6.st.dom _ h).1; omega) (by omega)
        have hE := hE.tr' hi8 ht8
        have B6 := B6.drawn (by omega) hi8 ht8 (c' := 4703) (hs8.up (by omega))
        clear hi8 hs8 ht8
        go_wp2_with fail
        refine (l1Wrong_t _ B6.st (by omega)).mono ?_
        rintro e w9 ⟨v9, D9, rfl, hi9, hs9, ht9, y9, rfl⟩
        have b0 := b0.tr ht9 (fun h => by have := (B6.st.dom _ h).1; omega) (by omega)
        have hE := hE.tr' hi9 ht9
        have B6 := B6.drawn (by omega) hi9 ht9 (c' := 4710) (hs9.up (by omega))
        clear hi9 hs9 ht9
        go_wp2_with fail
        go_meet
        case rel => exact ⟨_, _, rfl, B6, hE, b0⟩
      · have hx' : ((x : Int) == 0) = false := beq_eq_false_iff_ne.2 (by omega)
        go_wp2_with fail
        go_meet
        case rel => exact ⟨_, _, rfl, B6.up (by omega), hE, b0⟩
    case rest =>
    clear B6 hE b0
    obtain ⟨D7, y7, rfl, B6, hE, b0⟩ := hcut
    have hbn : Below w.heap.size w wc := Below.trans hb1 (B6.tr.tnd.below (lo := w.heap.size) (by omega) (fun b hb => by rcases hb with hb | hb; exact hb.elim; omega))
    have hX : SysI D7 7000 wc (.tuple #[.agg #[.int .i64 al, .int .i64 st, .slice aE n cE], .int .i64 y7]) := ⟨_, _, rfl, _, _, _, n, rfl, by omega, hE⟩
    have hsn : St D7 g 7000 wc := B6.st.up (by omega)
    have gc0 := B6.blk.cell 0 rfl; have gc1 := B6.blk.cell 1 rfl; have gc2 := B6.blk.cell 2 rfl
    have pc0 := b0.cell 0 rfl; have pf0 := b0.fr 0; have pc1 := b0.cell 1 rfl; have pf1 := b0.fr 1; have pc2 := b0.cell 2 rfl; have pf2 := b0.fr 2
    clear B6 hE
    go_wp2_with fail
    have y9 : Tnd (fun b => w.heap.size ≤ b ∧ b < w.heap.size + 1) wc (((wc.setCell ⟨w.heap.size, 0, none⟩ (.int .i64 al)).setCell ⟨w.heap.size, 1, none⟩ (.int .i64 st)).setCell ⟨w.heap.size, 2, none⟩ (.slice aE n cE)) := Tnd.set3 (b := w.heap.size) (by omega) _ _ _
    refine bodyPost_ret (v := .tuple #[.agg #[.int .i64 al, .int .i64 st, .slice aE n cE], .int .i64 y7]) (by simp [results, Tryd.results13, go_sem, pc0, pc1, pc2, pf0, pf1, pf2]) rfl ?_
    exact Drew.mk' (fun w' hw' => hX.tr (fun _ h => h) hw' (by omega)) hbn (fun b hb => by have := (hsn.dom b hb).1; omega) hsn.typ y9
end Go.Proofs.YtanekmfifmkbmaaDoor
