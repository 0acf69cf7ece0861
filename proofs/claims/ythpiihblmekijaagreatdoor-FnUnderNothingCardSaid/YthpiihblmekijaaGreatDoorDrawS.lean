/- Draws, typed: parts that are wrong, parts and a property; the draws of checks' arguments out of bytes. -/
import Derived.Test.YthpiihblmekijaaGreatDoorDrawR
import Derived.Test.YthpiihblmekijaaGreatDoorDrawL
import Derived.Deep.RegionHeld3
import Derived.Deep.CutBlock
import Derived.Deep.DeepCutAuto
namespace Go.Proofs.YthpiihblmekijaaGreatDoor
set_option linter.unusedSimpArgs false
set_option linter.unusedVariables false
open Go.RowKit
set_option maxHeartbeats 1000000
set_option maxRecDepth 100000
attribute [local go_sem ↓] Go.wp_at_zero Go.wp_at_succ

variable {D D' D'' : Nat → Prop} {g q q' : Nat} {w w' : World}

theorem l7Wrong_t (v : Value) (n : Nat) (hL : SlOk D w 25 3 v n) (hn1 : 1 ≤ n) (hn3 : n ≤ 3) (h : St D g q w) (hq : q + 16100 ≤ 1000000) :
    Calls Tryz.prog 121 #[.pointer (some ⟨g, 0, none⟩), v] w (Drawn D g q 16100 w (SyssT 4)) := by
  have hg := h.g_lt
  have hd := fun x hx => (h.dom x hx).2
  obtain ⟨aL, cL, rfl⟩ := hL.shape
  have N0 := Bare.new h
  go_enter Tryz.func121, Tryz.ntmps121
  go_wp2_with fail
  refine (pick_t 20 h (by omega) (by omega)).mono ?_
  rintro e w2 ⟨x, rfl, -, -, hs2, hk2⟩
  have hL := hL.tr' (Inc.refl _ _) (Tr.kept h hk2)
  have N := N0.kept hk2 (c' := 1) hs2
  clear N0 hs2 hk2
  have hx : x = 0 ∨ x = 1 ∨ x = 2 ∨ 2 < x := by omega
  rcases hx with rfl | rfl | rfl | hx
  · obtain ⟨i3, s3, t3, l3⟩ := SlOk.lit N.st 25 3
    have M := N.drawn (c' := 1) i3 t3 s3
    go_wp2_with fail
    go_ret
    exact ⟨_, _, rfl, M.inc, M.st.up (by omega), M.tr, 0, by omega, l3⟩
  · go_wp2_with fail
    go_loopw [1] (fun vl wr => ∃ (m : Nat) (D' : Nat → Prop), m ≤ 4 ∧ Bare D g q w (1 + m * 4004) wr D' ∧ SlOk D' wr 25 3 vl m) (fun vl _ => 4 - lenOf vl)
    case atStart => exact ⟨n, D, by omega, N.up (by omega), hL⟩
    case round =>
      clear N hL
      obtain ⟨m, D1, hm, N1, hL⟩ := hrel
      obtain ⟨aM, cM, rfl⟩ := hL.shape
      by_cases hlt : m ≤ 3
      · go_wp2_with fail
        refine (l2Small_t N1.st (by omega)).mono ?_
        rintro e w3 ⟨v3, D3, rfl, hi3, hs3, ht3, hS3⟩
        obtain ⟨al1, st1, n1, a1, c1, rfl, hn1, hE1⟩ := hS3.sysT.boxed
        have hL := hL.tr' hi3 ht3
        have N3 := N1.drawn (c' := 1 + m * 4004 + 4003) hi3 ht3 (hs3.up (by omega))
        clear hs3 ht3 hi3 hS3 N1
        go_wp2_with (at_builtin; refine app1_t (q + (1 + m * 4004 + 4004)) rfl rfl Tryz.underlying38 infoSys rfl (by decide) per_sys zk_sys N3.st hL rfl rfl rfl (by simp [Value.oneCell']) (kin_sys hE1 (by omega)) (by omega) (by decide) (by omega) ?_; intro v1 w7 D8 hi7 hs7 ht7 hL7; obtain ⟨a7, c7, rfl⟩ := hL7.shape; have N7 := N3.drawn (c' := 1 + m * 4004 + 4004) hi7 ht7 hs7)
        exact ⟨⟨m + 1, D8, by omega, N7.up (by omega), hL7⟩, by simp [lenOf]; omega⟩
      · go_wp2_with fail
        go_ret
        exact ⟨_, D1, rfl, N1.inc, N1.st.up (by omega), N1.tr, m, hm, hL⟩
  · obtain ⟨b, cap, al, st, a1, n1, c1, hv, g0, g1, g2, hm1, hE, -, -⟩ := hL.sys_at N.st (i := 0) (by omega)
    cases hv
    simp only [Nat.zero_mul, Nat.zero_add] at g0 g1 g2
    have hn0 : (0 : Int) < (n : Int) := by omega
    go_wp2_with fail
    refine (l2Wrong_t _ ⟨_, _, _, n1, rfl, hm1, hE⟩ N.st (by omega)).mono ?_
    rintro e u1 ⟨v1, D1, rfl, hi1, hs1, ht1, hS1⟩
    have hL := hL.tr' hi1 ht1
    have N := N.drawn hi1 ht1 (c' := 11) (hs1.up (by omega))
    clear g0 g1 g2 hE hs1 ht1 hi1
    go_wp2_with fail
    refine (l2Wrong_t _ (hS1.tr (fun _ h => h) (Shp.refl _ _) (by omega)) N.st (by omega)).mono ?_
    rintro e u2 ⟨v2, D2, rfl, hi2, hs2, ht2, hS2⟩
    have hL := hL.tr' hi2 ht2
    have N := N.drawn hi2 ht2 (c' := 21) (hs2.up (by omega))
    clear hs2 ht2 hi2
    go_wp2_with fail
    refine (l2Wrong_t _ (hS2.tr (fun _ h => h) (Shp.refl _ _) (by omega)) N.st (by omega)).mono ?_
    rintro e u3 ⟨v3, D3, rfl, hi3, hs3, ht3, hS3⟩
    have hL := hL.tr' hi3 ht3
    have N := N.drawn hi3 ht3 (c' := 31) (hs3.up (by omega))
    clear hs3 ht3 hi3
    obtain ⟨al3, st3, n3, a3, c3, rfl, hn3', hE3⟩ := hS3.boxed
    obtain ⟨b, cap, al, st, a1, n1, c1, hv, g0, g1, g2, hm1, hE, hf, hst⟩ := hL.sys_at N.st (i := 0) (by omega)
    cases hv
    simp only [Nat.zero_mul, Nat.zero_add] at g0 g1 g2 hf hst
    have f0 := hf 0
    have f1 := hf 1
    have f2 := hf 2
    obtain ⟨s4, t4⟩ := hst al3 st3 _ n3 (by omega) hE3
    have M := N.drawn (c' := 31) (Inc.refl _ _) t4 s4
    have hL4 := hL.tr' (Inc.refl _ _) t4
    clear hst hf hE hS1 hS2 hS3
    go_wp2_with fail
    go_ret
    exact ⟨_, D3, rfl, M.inc, M.st.up (by omega), M.tr, n, by omega, hL4⟩
  · have z0 : ((x : Int) == 0) = false := beq_eq_false_iff_ne.2 (by omega)
    have z1 : ((x : Int) == 1) = false := beq_eq_false_iff_ne.2 (by omega)
    have z2 : ((x : Int) == 2) = false := beq_eq_false_iff_ne.2 (by omega)
    go_wp2_with fail
    go_ret
    exact ⟨_, D, rfl, N.inc, N.st.up (by omega), N.tr, n, by omega, hL⟩
/-- Systems and an automaton. -/
def PartsT (D : Nat → Prop) (q : Nat) (w : World) (v : Value) : Prop := ∃ s p, v = .tuple #[s, p] ∧ SyssT 4 D q w s ∧ AutoT D q w p
theorem three_of {G5 : Nat} {x1 x2 x3 : Value} {t1 : TypeId} (h5 : Blk w G5 #[x1, x2, x3] t1) : w.cell? ⟨G5, 0, none⟩ = some x1 ∧ w.cell? ⟨G5, 1, none⟩ = some x2 ∧ w.cell? ⟨G5, 2, none⟩ = some x3 :=
  ⟨h5.cell 0 rfl, h5.cell 1 rfl, h5.cell 2 rfl⟩

theorem l8Parts_t (h : St D g q w) (hq : q + 43000 ≤ 1000000) :
    Calls Tryz.prog 60 #[.pointer (some ⟨g, 0, none⟩)] w (Drawn D g q 43000 w PartsT) := by
  have hg := h.g_lt
  have hd := fun x hx => (h.dom x hx).2
  have B0 := Box.new h #[.int .i64 0, .slice none 0 0, .slice none 0 0] 29
  go_enter Tryz.func60, Tryz.ntmps60
  go_wp2_with fail
  generalize hwo : w.alloc (.cells #[.int .i64 0, .slice none 0 0, .slice none 0 0] 29) = wo at B0 ⊢
  have hso : w.heap.size < wo.heap.size := by rw [← hwo]; simp
  clear hwo
  refine (l7Draw_t B0.st (by omega)).mono ?_
  rintro e w1 ⟨v1, D1, rfl, hi1, hs1, ht1, nL, hn1, hn3, hL⟩
  have hsz := ht1.size
  have B0 := B0.drawn (by omega) hi1 ht1 (c' := 26000) (hs1.up (by omega))
  clear hs1 ht1 hi1
  obtain ⟨aL, cL, rfl⟩ := hL.shape
  obtain ⟨lS, hlS, hLS, -⟩ := hL.syss B0.st
  go_wp2_with fail
  refine (PartsAlphabet_s _ lS _ hLS (by omega)).mono ?_
  rintro e w2 ⟨rfl, he2⟩
  have hL := hL.tr' (Inc.refl _ _) (Tr.ext B0.st he2)
  have B0 := B0.ext he2
  have hsz2 := he2.size
  clear he2 hLS
  go_wp2_with fail
  refine (l8Property_t _ B0.st (by omega)).mono ?_
  rintro e w3 ⟨v3, D3, rfl, hi3, hs3, ht3, hS3⟩
  obtain ⟨al2, n2, m2, aN, cN, aA, cA, rfl, hn2, hm2, hN, hA⟩ := hS3.boxed
  have hsz3 := ht3.size
  have hL := hL.tr' hi3 ht3
  have B0 := B0.drawn (by omega) hi3 ht3 (c' := 26400) (hs3.up (by omega))
  clear hs3 ht3 hi3 hS3
  have heB5 := Ext.alloc w3 (.cells #[.int .i64 al2, .slice aN n2 cN, .slice aA m2 cA] 29)
  have B5 : Box D g q w w3.heap.size _ #[.int .i64 al2, .slice aN n2 cN, .slice aA m2 cA] 29 _ _ := ⟨B0.inc, (B0.ext heB5).st, (B0.ext heB5).tr, Blk.new _ _ _, B0.st.out (Nat.le_refl _)⟩
  have hL := hL.tr' (Inc.refl _ _) (Tr.ext B0.st heB5)
  have hN := hN.tr' (Inc.refl _ _) (Tr.ext B0.st heB5)
  have hA := hA.tr' (Inc.refl _ _) (Tr.ext B0.st heB5)
  have B0 := B0.ext heB5
  go_wp2_with fail
  generalize w3.alloc (.cells #[.int .i64 al2, .slice aN n2 cN, .slice aA m2 cA] 29) = w4 at B0 B5 hL hN hA ⊢
  have hG5 : w.heap.size < w3.heap.size := by omega
  generalize w3.heap.size = G5 at B5 hG5 ⊢
  refine (pick_t 20 B0.st (by omega) (by omega)).mono ?_
  rintro e w5 ⟨x, rfl, -, -, hs5, hk5⟩
  have hL := hL.tr' (Inc.refl _ _) (Tr.kept B0.st hk5)
  have hN := hN.tr' (Inc.refl _ _) (Tr.kept B0.st hk5)
  have hA := hA.tr' (Inc.refl _ _) (Tr.kept B0.st hk5)
  have B0 := B0.kept (by omega) hk5 (c' := 26401) (hs5.up (by omega))
  have B5 := B5.kept (by omega) hk5 (c' := 26401) (hs5.up (by omega))
  clear hs5 hk5
  go_upto_if 14 with fail
  go_cut [] (fun wc => ∃ (D' : Nat → Prop) (al2 : Int) (n2 m2 : Nat) (aN : Option Addr) (cN : Nat) (aA : Option Addr) (cA : Nat),
    Box D g q w w.heap.size 26551 #[.int .i64 0, .slice none 0 0, .slice none 0 0] 29 wc D' ∧ Box D g q w G5 26551 #[.int .i64 al2, .slice aN n2 cN, .slice aA m2 cA] 29 wc D' ∧
    SlOk D' wc 25 3 (.slice aL nL cL) nL ∧ SlOk D' wc 68 1 (.slice aN n2 cN) n2 ∧ SlOk D' wc 4 1 (.slice aA m2 cA) m2 ∧ n2 ≤ q + 26551 ∧ m2 ≤ q + 26551)
  case first =>
    by_cases hx : x = 0
    · subst hx
      have gc0 := B5.blk.cell 0 rfl; have gf0 := B5.blk.fr 0; have gc1 := B5.blk.cell 1 rfl; have gf1 := B5.blk.fr 1; have gc2 := B5.blk.cell 2 rfl; have gf2 := B5.blk.fr 2
      go_wp2_with fail
      refine (l3Wrong_t _ (⟨_, _, _, n2, m2, rfl, by omega, by omega, hN, hA⟩) B0.st (by omega)).mono ?_
      rintro e u1 ⟨v1, D1, rfl, hi1, hs1, ht1, hS1⟩
      have hL := hL.tr' hi1 ht1
      have B0 := B0.drawn (by omega) hi1 ht1 (c' := 26401 + 50) (hs1.up (by omega))
      have B5 := B5.drawn (by omega) hi1 ht1 (c' := 26401 + 50) (hs1.up (by omega))
      clear hi1 hs1 ht1
      go_wp2_with fail
      refine (l3Wrong_t _ (hS1.tr (fun _ h => h) (Shp.refl _ _) (by omega)) B0.st (by omega)).mono ?_
      rintro e u2 ⟨v2, D2, rfl, hi2, hs2, ht2, hS2⟩
      have hL := hL.tr' hi2 ht2
      have B0 := B0.drawn (by omega) hi2 ht2 (c' := 26401 + 100) (hs2.up (by omega))
      have B5 := B5.drawn (by omega) hi2 ht2 (c' := 26401 + 100) (hs2.up (by omega))
      clear hi2 hs2 ht2
      go_wp2_with fail
      refine (l3Wrong_t _ (hS2.tr (fun _ h => h) (Shp.refl _ _) (by omega)) B0.st (by omega)).mono ?_
      rintro e u3 ⟨v3, D3, rfl, hi3, hs3, ht3, hS3⟩
      have hL := hL.tr' hi3 ht3
      have B0 := B0.drawn (by omega) hi3 ht3 (c' := 26401 + 150) (hs3.up (by omega))
      have B5 := B5.drawn (by omega) hi3 ht3 (c' := 26401 + 150) (hs3.up (by omega))
      clear hi3 hs3 ht3
      obtain ⟨al3, n3, m3, aN3, cN3, aA3, cA3, rfl, hn3, hm3, hN3, hA3⟩ := hS3.boxed
      clear gc0 gc1 gc2 gf0 gf1 gf2
      have gc0 := B5.blk.cell 0 rfl; have gf0 := B5.blk.fr 0; have gc1 := B5.blk.cell 1 rfl; have gf1 := B5.blk.fr 1; have gc2 := B5.blk.cell 2 rfl; have gf2 := B5.blk.fr 2
      go_wp2_with fail
      have o := B5.out
      go_meet
      case rel => exact ⟨_, _, _, _, _, _, _, _, B0.other3 (by omega) hd (by omega) (by omega) o _ _ _, B5.set3 (by omega) hd (by omega) _ _ _, hL.box3 o _ _ _, hN3.box3 o _ _ _, hA3.box3 o _ _ _, by omega, by omega⟩
    · have hx' : ((x : Int) == 0) = false := beq_eq_false_iff_ne.2 (by omega)
      go_wp2_with fail
      go_meet
      case rel => exact ⟨_, _, _, _, _, _, _, _, B0.up (by omega), B5.up (by omega), hL, hN, hA, by omega, by omega⟩
  case rest =>
  clear B0 B5 hL hN hA
  obtain ⟨D7, al2, n2, m2, aN, cN, aA, cA, B0, B5, hL, hN, hA, hn2, hm2⟩ := hcut
  go_wp2_with fail
  have E0 := B0.ext (Ext.drew wc)
  have E5 := B5.ext (Ext.drew wc)
  have FL := hL.tr' (Inc.refl _ _) (Tr.ext B0.st (Ext.drew wc))
  have FN := hN.tr' (Inc.refl _ _) (Tr.ext B0.st (Ext.drew wc))
  have FA := hA.tr' (Inc.refl _ _) (Tr.ext B0.st (Ext.drew wc))
  clear B0 B5 hL hN hA
  go_region_held3 (fun v => v.cell? ⟨G5, 0, none⟩ = some (.int .i64 al2) ∧ v.cell? ⟨G5, 1, none⟩ = some (.slice aN n2 cN) ∧ v.cell? ⟨G5, 2, none⟩ = some (.slice aA m2 cA))
    (first
      | with_reducible exact three_of E5.blk
      | with_reducible exact three_of B5.blk
      | with_reducible exact three_of (B5.other3 (by omega) hd (by omega) (by omega) o0 _ _ _).blk)
    (first | (go_at_call 121; refine (l7Wrong_t _ nL FL (by omega) (by omega) E0.st (by omega)).mono ?_; rintro e w6 ⟨v6, D6, rfl, hi6, hs6, ht6, nM, hnM, hM⟩; obtain ⟨aM, cM, rfl⟩ := hM.shape; have B0 := E0.drawn (by omega) hi6 ht6 (c' := 42900) (hs6.up (by omega)); have B5 := E5.drawn (by omega) hi6 ht6 (c' := 42900) (hs6.up (by omega)); have hN := FN.tr' hi6 ht6; have hA := FA.tr' hi6 ht6; have o0 := B0.out; have ff00 := B0.blk.fr 0; have ff01 := B0.blk.fr 1; have ff02 := B0.blk.fr 2; have kk00 := B0.blk.cell 0 rfl; have kk01 := B0.blk.cell 1 rfl; have kk02 := B0.blk.cell 2 rfl))
  have Z0 := B0.set3 (by omega) hd (by omega) (.int .i64 al2) (.slice aN n2 cN) (.slice aA m2 cA)
  have SM := hM.box3 o0 (.int .i64 al2) (.slice aN n2 cN) (.slice aA m2 cA)
  have SN := hN.box3 o0 (.int .i64 al2) (.slice aN n2 cN) (.slice aA m2 cA)
  have SB := hA.box3 o0 (.int .i64 al2) (.slice aN n2 cN) (.slice aA m2 cA)
  clear B0 B5 hN hA E0 E5 FL FN FA hM kk00 kk01 kk02 ff00 ff01 ff02
  generalize (((w6.setCell ⟨w.heap.size, 0, none⟩ (.int .i64 al2)).setCell ⟨w.heap.size, 1, none⟩ (.slice aN n2 cN)).setCell ⟨w.heap.size, 2, none⟩ (.slice aA m2 cA)) = wz at Z0 SM SN SB ⊢
  have xc0 := Z0.blk.cell 0 rfl; have xf0 := Z0.blk.fr 0; have xc1 := Z0.blk.cell 1 rfl; have xf1 := Z0.blk.fr 1; have xc2 := Z0.blk.cell 2 rfl; have xf2 := Z0.blk.fr 2
  go_wp2_with fail
  refine bodyPost_ret (v := .tuple #[.slice aM nM cM, .agg #[.int .i64 al2, .slice aN n2 cN, .slice aA m2 cA]]) (by simp [results, Tryz.results60, go_sem, xc0, xc1, xc2, xf0, xf1, xf2]) rfl ?_
  exact ⟨_, D6, rfl, Z0.inc, Z0.st.up (by omega), Z0.tr, _, _, rfl, ⟨nM, hnM, SM⟩, ⟨_, _, _, _, _, rfl, by omega, by omega, SN, SB⟩⟩
end Go.Proofs.YthpiihblmekijaaGreatDoor
