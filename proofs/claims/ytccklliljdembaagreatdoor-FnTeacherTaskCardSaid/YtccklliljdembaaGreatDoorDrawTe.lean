/- Part of this seat's proofs, cut to what its law needs. -/

import Derived.Test.YtccklliljdembaaGreatDoorDrawLp
import Derived.Deep.RegionLaw
import Derived.Deep.DrawnRows
namespace Go.Proofs.YtccklliljdembaaGreatDoor
set_option linter.unusedSimpArgs false
set_option linter.unusedVariables false
open Go.RowKit
set_option maxHeartbeats 1500000
set_option maxRecDepth 100000
attribute [local go_sem ↓] Go.wp_at_zero Go.wp_at_succ

variable {D D' D'' : Nat → Prop} {g q q' : Nat} {w w' : World}

def LA (D : Nat → Prop) (g q : Nat) (w : World) (G4 c : Nat) (wc : World) : Prop :=
  ∃ (D' : Nat → Prop) (al1 : Int) (n1 m1 : Nat) (aN1 : Option Addr) (cN1 : Nat) (aA1 : Option Addr) (cA1 : Nat),
    Box D g q w w.heap.size c #[.int .i64 0, .slice none 0 0, .slice none 0 0] 26 wc D' ∧
    Box D g q w G4 c #[.int .i64 al1, .slice aN1 n1 cN1, .slice aA1 m1 cA1] 26 wc D' ∧
    SlOk D' wc 78 1 (.slice aN1 n1 cN1) n1 ∧ SlOk D' wc 4 1 (.slice aA1 m1 cA1) m1 ∧ n1 ≤ q + c ∧ m1 ≤ q + c
theorem l5Any_t (h : St D g q w) (hq : q + 43500 ≤ 1000000) :
    Calls Tryz.prog 127 #[.pointer (some ⟨g, 0, none⟩)] w (Drawn D g q 43500 w AutoT) := by
  have hg := h.g_lt
  have hd := fun x hx => (h.dom x hx).2
  have B0 := Box.new h #[.int .i64 0, .slice none 0 0, .slice none 0 0] 26
  have hs0 : w.heap.size < (w.alloc (.cells #[.int .i64 0, .slice none 0 0, .slice none 0 0] 26)).heap.size := by simp
  go_enter Tryz.func127, Tryz.ntmps127
  go_wp2_with fail
  generalize w.alloc (.cells #[.int .i64 0, .slice none 0 0, .slice none 0 0] 26) = w1 at B0 hs0 ⊢
  refine (l3Draw_t B0.st (by omega)).mono ?_
  rintro e u9 ⟨v9, D9, rfl, hi9, hs9, ht9, hS9⟩
  have B0 := B0.drawn (by omega) hi9 ht9 (c' := 43000) (hs9.up (by omega))
  obtain ⟨al1, n1, m1, aN1, cN1, aA1, cA1, rfl, hn1, hm1, hN1, hA1⟩ := hS9.boxed
  have hsz := ht9.size
  clear hi9 hs9 ht9
  have heB4 := Ext.alloc u9 (.cells #[.int .i64 al1, .slice aN1 n1 cN1, .slice aA1 m1 cA1] 26)
  have B4 : Box D g q w u9.heap.size _ #[.int .i64 al1, .slice aN1 n1 cN1, .slice aA1 m1 cA1] 26 _ _ := ⟨B0.inc, (B0.ext heB4).st, (B0.ext heB4).tr, Blk.new _ _ _, B0.st.out (Nat.le_refl _)⟩
  have hN1 := hN1.tr' (Inc.refl _ _) (Tr.ext B0.st heB4)
  have hA1 := hA1.tr' (Inc.refl _ _) (Tr.ext B0.st heB4)
  have B0 := B0.ext heB4
  go_wp2_with fail
  have hG4 : w.heap.size < u9.heap.size := by omega
  generalize u9.alloc (.cells #[.int .i64 al1, .slice aN1 n1 cN1, .slice aA1 m1 cA1] 26) = w2 at B0 B4 hN1 hA1 ⊢
  generalize u9.heap.size = G4 at B4 hG4 ⊢
  clear hsz hs0 heB4
  refine (pick_t 3 B0.st (by omega) (by omega)).mono ?_
  rintro e w3 ⟨x, rfl, hx3, -, hs3, hk3⟩
  have hN1 := hN1.tr' (Inc.refl _ _) (Tr.kept B0.st hk3)
  have hA1 := hA1.tr' (Inc.refl _ _) (Tr.kept B0.st hk3)
  have B0 := B0.kept (by omega) hk3 (c' := 43001) (hs3.up (by omega))
  have B4 := B4.kept (by omega) hk3 (c' := 43001) (hs3.up (by omega))
  have hx2 : x ≤ 2 := by have := hx3 (by omega); omega
  clear hs3 hk3 hx3
  go_wp2_with fail
  go_loopw [4] (fun i wr => ∃ k : Nat, k ≤ 2 ∧ i = .int .i64 k ∧ LA D g q w G4 (43101 - 50 * k) wr) (fun i _ => (intOf i).toNat)
  case atStart => exact ⟨x, hx2, rfl, D9, _, _, _, _, _, _, _, B0.up (by omega), B4.up (by omega), hN1, hA1, by omega, by omega⟩
  case round =>
    clear B0 B4 hN1 hA1 hn1 hm1
    obtain ⟨k, hk, rfl, D7, al1, n1, m1, aN1, cN1, aA1, cA1, B0, B4, hN1, hA1, hn1, hm1⟩ := hrel
    by_cases h0 : k = 0
    case neg =>
      have hk0 : (0 : Int) < (k : Int) := by omega
      have gc0 := B4.blk.cell 0 rfl; have gc1 := B4.blk.cell 1 rfl; have gc2 := B4.blk.cell 2 rfl
      go_wp2_with fail
      refine (l4Change_t _ ⟨_, _, _, n1, m1, rfl, by omega, by omega, hN1, hA1⟩ B0.st (by omega)).mono ?_
      rintro e u3 ⟨v3, D3, rfl, hi3, hs3, ht3, hS3⟩
      have hS3' := hS3
      obtain ⟨al3, n3, m3, aN3, cN3, aA3, cA3, rfl, hn3, hm3, hN3, hA3⟩ := hS3.boxed
      have B0 := B0.drawn hg hi3 ht3 (c' := 43101 - 50 * (k - 1)) (hs3.up (by omega))
      have B4 := B4.drawn (by omega) hi3 ht3 (c' := 43101 - 50 * (k - 1)) (hs3.up (by omega))
      clear hi3 hs3 ht3 gc0 gc1 gc2 hS3 hS3'
      have gc0 := B4.blk.cell 0 rfl; have gf0 := B4.blk.fr 0; have gc1 := B4.blk.cell 1 rfl; have gf1 := B4.blk.fr 1; have gc2 := B4.blk.cell 2 rfl; have gf2 := B4.blk.fr 2
      have o := B4.out
      go_wp2_with fail
      exact ⟨⟨k - 1, by omega, by go_num, _, _, _, _, _, _, _, _, B0.other3 (by omega) hd (by omega) (by omega) o _ _ _, B4.set3 (by omega) hd (by omega) _ _ _, hN3.box3 o _ _ _, hA3.box3 o _ _ _, by omega, by omega⟩, by simp [intOf]; omega⟩
    subst h0
    go_wp2_with fail
    refine (pick_t 10 B0.st (by omega) (by omega)).mono ?_
    rintro e w5 ⟨y, rfl, -, -, hs5, hk5⟩
    have hN1 := hN1.tr' (Inc.refl _ _) (Tr.kept B0.st hk5)
    have hA1 := hA1.tr' (Inc.refl _ _) (Tr.kept B0.st hk5)
    have B0 := B0.kept (by omega) hk5 (c' := 43102) (hs5.up (by omega))
    have B4 := B4.kept (by omega) hk5 (c' := 43102) (hs5.up (by omega))
    clear hs5 hk5
    go_upto_if 18 with fail
    go_cut [] (fun wc => LA D g q w G4 43200 wc)
    case first =>
      by_cases hy : y = 0
      · subst hy
        go_wp2_with fail
        refine (l3Big_t B0.st (by omega)).mono ?_
        rintro e u3 ⟨v3, D3, rfl, hi3, hs3, ht3, hS3⟩
        have hN1 := hN1.tr' hi3 ht3
        have hA1 := hA1.tr' hi3 ht3
        have B0 := B0.drawn (by omega) hi3 ht3 (c' := 43200) (hs3.up (by omega))
        have B4 := B4.drawn (by omega) hi3 ht3 (c' := 43200) (hs3.up (by omega))
        obtain ⟨al3, n3, m3, aN3, cN3, aA3, cA3, rfl, hn3, hm3, hN3, hA3⟩ := hS3.boxed
        clear hi3 hs3 ht3
        have gc0 := B4.blk.cell 0 rfl; have gf0 := B4.blk.fr 0; have gc1 := B4.blk.cell 1 rfl; have gf1 := B4.blk.fr 1; have gc2 := B4.blk.cell 2 rfl; have gf2 := B4.blk.fr 2
        have o := B4.out
        go_wp2_with fail
        go_meet
        case rel => exact ⟨_, _, _, _, _, _, _, _, B0.other3 (by omega) hd (by omega) (by omega) o _ _ _, B4.set3 (by omega) hd (by omega) _ _ _, hN3.box3 o _ _ _, hA3.box3 o _ _ _, by omega, by omega⟩
      · have hy' : ((y : Int) == 0) = false := beq_eq_false_iff_ne.2 (by omega)
        go_wp2_with fail
        go_meet
        case rel => exact ⟨_, _, _, _, _, _, _, _, B0.up (by omega), B4.up (by omega), hN1, hA1, by omega, by omega⟩
    case rest =>
    clear B0 B4 hN1 hA1 hn1 hm1
    obtain ⟨D8, al1, n1, m1, aN1, cN1, aA1, cA1, B0, B4, hN1, hA1, hn1, hm1⟩ := hcut
    go_wp2_with fail
    refine (pick_t 6 B0.st (by omega) (by omega)).mono ?_
    rintro e w6 ⟨y, rfl, -, -, hs6, hk6⟩
    have hN1 := hN1.tr' (Inc.refl _ _) (Tr.kept B0.st hk6)
    have hA1 := hA1.tr' (Inc.refl _ _) (Tr.kept B0.st hk6)
    have B0 := B0.kept (by omega) hk6 (c' := 43201) (hs6.up (by omega))
    have B4 := B4.kept (by omega) hk6 (c' := 43201) (hs6.up (by omega))
    clear hs6 hk6
    go_upto_if 23 with fail
    go_cut [] (fun wc => LA D g q w G4 43300 wc)
    case first =>
      by_cases hy : y = 0
      · subst hy
        have gc0 := B4.blk.cell 0 rfl; have gc1 := B4.blk.cell 1 rfl; have gc2 := B4.blk.cell 2 rfl
        go_wp2_with fail
        refine (l3Wrong_t _ (⟨_, _, _, n1, m1, rfl, by omega, by omega, hN1, hA1⟩) B0.st (by omega)).mono ?_
        rintro e u3 ⟨v3, D3, rfl, hi3, hs3, ht3, hS3⟩
        have hN1 := hN1.tr' hi3 ht3
        have hA1 := hA1.tr' hi3 ht3
        have B0 := B0.drawn (by omega) hi3 ht3 (c' := 43300) (hs3.up (by omega))
        have B4 := B4.drawn (by omega) hi3 ht3 (c' := 43300) (hs3.up (by omega))
        obtain ⟨al3, n3, m3, aN3, cN3, aA3, cA3, rfl, hn3, hm3, hN3, hA3⟩ := hS3.boxed
        clear hi3 hs3 ht3
        clear gc0 gc1 gc2
        have gc0 := B4.blk.cell 0 rfl; have gf0 := B4.blk.fr 0; have gc1 := B4.blk.cell 1 rfl; have gf1 := B4.blk.fr 1; have gc2 := B4.blk.cell 2 rfl; have gf2 := B4.blk.fr 2
        have o := B4.out
        go_wp2_with fail
        go_meet
        case rel => exact ⟨_, _, _, _, _, _, _, _, B0.other3 (by omega) hd (by omega) (by omega) o _ _ _, B4.set3 (by omega) hd (by omega) _ _ _, hN3.box3 o _ _ _, hA3.box3 o _ _ _, by omega, by omega⟩
      · have hy' : ((y : Int) == 0) = false := beq_eq_false_iff_ne.2 (by omega)
        go_wp2_with fail
        go_meet
        case rel => exact ⟨_, _, _, _, _, _, _, _, B0.up (by omega), B4.up (by omega), hN1, hA1, by omega, by omega⟩
    case rest =>
    clear B0 B4 hN1 hA1 hn1 hm1
    obtain ⟨D6, al1, n1, m1, aN1, cN1, aA1, cA1, B0, B4, hN1, hA1, hn1, hm1⟩ := hcut
    have gc0 := B4.blk.cell 0 rfl; have gc1 := B4.blk.cell 1 rfl; have gc2 := B4.blk.cell 2 rfl
    have rc0 := B0.blk.cell 0 rfl; have rf0 := B0.blk.fr 0; have rc1 := B0.blk.cell 1 rfl; have rf1 := B0.blk.fr 1; have rc2 := B0.blk.cell 2 rfl; have rf2 := B0.blk.fr 2
    go_wp2_with fail
    refine bodyPost_ret (v := .agg #[.int .i64 al1, .slice aN1 n1 cN1, .slice aA1 m1 cA1]) (by simp [results, Tryz.results127, go_sem, rc0, rc1, rc2, rf0, rf1, rf2]) rfl ?_
    have BZ := ((B0.set hg hd (Nat.le_refl _) 0 (.int .i64 al1)).set hg hd (Nat.le_refl _) 1 (.slice aN1 n1 cN1)).set hg hd (Nat.le_refl _) 2 (.slice aA1 m1 cA1)
    have oZ := B0.out
    exact ⟨_, _, rfl, BZ.inc, BZ.st.up (by omega), BZ.tr, _, _, _, _, _, rfl, by omega, by omega, (((hN1.tr (fun _ h => h) (Shp.box oZ)).tr (fun _ h => h) (Shp.box oZ)).tr (fun _ h => h) (Shp.box oZ)), (((hA1.tr (fun _ h => h) (Shp.box oZ)).tr (fun _ h => h) (Shp.box oZ)).tr (fun _ h => h) (Shp.box oZ))⟩


theorem TaskF.set {base b : Nat} {v : Value} (h : TaskF base D g q w v) (hb : b ≤ base) (hD : ¬ D b) (j : Nat) (u : Value) : TaskF base D g q (w.setCell ⟨b, j, none⟩ u) v := by
  obtain ⟨lo, hi, al, st, pal, tal, ve, vn, va, rfl, h1, h2, h3, h4, h5, h6⟩ := h
  exact ⟨lo, hi, al, st, pal, tal, ve, vn, va, rfl, h1.set hD (.inl (by omega)) j u, h2.set hD (.inl (by omega)) j u, h3, h4, by simp; exact h5, h6⟩
theorem TaskF.up {base : Nat} {v : Value} (h : TaskF base D g q w v) (hq : q ≤ q') : TaskF base D g q' w v := by
  obtain ⟨lo, hi, al, st, pal, tal, ve, vn, va, rfl, h1, h2, h3, h4, h5, h6⟩ := h
  exact ⟨lo, hi, al, st, pal, tal, ve, vn, va, rfl, h1.go (fun _ h => h) (Shp.refl _ _) hq (Agr.refl _ _ _) (Nat.le_refl _), h2.go (fun _ h => h) (Shp.refl _ _) hq (Agr.refl _ _ _) (Nat.le_refl _), h3, h4, h5, h6⟩
theorem TaskE.zero (D : Nat → Prop) (g q : Nat) (w : World) : TaskE D g q w (.agg #[.int .i64 0, .int .i64 0, .slice none 0 0, .int .i64 0, .slice none 0 0, .slice none 0 0, .int .i64 0]) :=
  ⟨g + 1, 0, 0, 0, 0, 0, _, _, _, rfl, .inl ⟨0, Nat.zero_le _, SlOk.nil⟩, .inl ⟨0, 0, Nat.zero_le _, Nat.zero_le _, SlOk.nil, SlOk.nil⟩, fun b h1 h2 => absurd h2 (Nat.not_lt_zero _), Nat.lt_succ_self _, Nat.zero_le _⟩
theorem AutoT.zero (D : Nat → Prop) (q : Nat) (w : World) : AutoT D q w (.agg #[.int .i64 0, .slice none 0 0, .slice none 0 0]) := ⟨0, _, _, 0, 0, rfl, Nat.zero_le _, Nat.zero_le _, SlOk.nil, SlOk.nil⟩
def TeachE (D : Nat → Prop) (g q : Nat) (w : World) (v : Value) : Prop := ∃ (kn : Bool) (c1 c2 c3 c4 c5 c6 c7 c8 c9 c10 : Value), v = .agg #[.bool kn, c1, c2, c3, c4, c5, c6, c7, c8, c9, c10] ∧ AutoT D q w (.agg #[c1, c2, c3]) ∧ TaskE D g q w (.agg #[c4, c5, c6, c7, c8, c9, c10])
theorem TeachE.go {v : Value} (h : TeachE D g q w v) (hi' : Inc D D' w) (ht : Tr D g w w') (hq : q ≤ q') : TeachE D' g q' w' v := by
  obtain ⟨kn, c1, c2, c3, c4, c5, c6, c7, c8, c9, c10, rfl, h1, h2⟩ := h
  exact ⟨kn, c1, c2, c3, c4, c5, c6, c7, c8, c9, c10, rfl, h1.tr hi'.sub ht.shp hq, h2.go hi' ht hq⟩
theorem TeachE.teacher {v : Value} (h : TeachE D g q w v) (hT : Typed D q w) : ∃ t : Teacher, t.task.sys.edges.length ≤ q ∧ TeacherV w v t := by
  obtain ⟨kn, c1, c2, c3, c4, c5, c6, c7, c8, c9, c10, rfl, h1, h2⟩ := h
  obtain ⟨a, -, -, vn, va, e, ha1, ha2⟩ := h1.auto hT
  obtain ⟨t, ht, ve, vn', va', e', k1, k2, k3⟩ := h2.task hT
  simp at e e'
  obtain ⟨rfl, rfl, rfl⟩ := e
  obtain ⟨rfl, rfl, rfl, rfl, rfl, rfl, rfl⟩ := e'
  exact ⟨⟨kn, a, t⟩, ht, _, _, _, _, _, rfl, ha1, ha2, k1, k2, k3⟩
theorem TeachE.shape {v : Value} (h : TeachE D g q w v) : ∃ (kn : Bool) (a1 : Int) (s1 : Option Addr) (s2 s3 : Nat) (s4 : Option Addr) (s5 s6 : Nat) (al st pal tal : Int) (r1 : Option Addr) (r2 r3 : Nat) (r4 : Option Addr) (r5 r6 : Nat) (r7 : Option Addr) (r8 r9 : Nat),
    v = .agg #[.bool kn, .int .i64 a1, .slice s1 s2 s3, .slice s4 s5 s6, .int .i64 al, .int .i64 st, .slice r1 r2 r3, .int .i64 pal, .slice r4 r5 r6, .slice r7 r8 r9, .int .i64 tal] := by
  obtain ⟨kn, c1, c2, c3, c4, c5, c6, c7, c8, c9, c10, rfl, h1, h2⟩ := h
  obtain ⟨al, n, m, aN, cN, aA, cA, e, -⟩ := h1.boxed
  obtain ⟨al', st, pal, tal, s1, s2, s3, s4, s5, s6, s7, s8, s9, e'⟩ := h2.shape
  simp at e e'
  obtain ⟨rfl, rfl, rfl⟩ := e
  obtain ⟨rfl, rfl, rfl, rfl, rfl, rfl, rfl⟩ := e'
  exact ⟨kn, _, _, _, _, _, _, _, _, _, _, _, _, _, _, _, _, _, _, _, _, rfl⟩

theorem AutoT.set1 {b : Nat} {v : Value} (h : AutoT D q w v) (ho : ¬ D b) (j : Nat) (u : Value) : AutoT D q (w.setCell ⟨b, j, none⟩ u) v := h.tr (fun _ h => h) (Shp.box ho) (Nat.le_refl _)

theorem Blk.put11 {w : World} {b : Nat} {t : TypeId} {c0 c1 c2 c3 c4 c5 c6 c7 c8 c9 c10 : Value} (h : Blk w b #[c0, c1, c2, c3, c4, c5, c6, c7, c8, c9, c10] t) (v0 v1 v2 v3 v4 v5 v6 v7 v8 v9 v10 : Value) :
    Blk (((((((((((w.setCell ⟨b, 0, none⟩ v0).setCell ⟨b, 1, none⟩ v1).setCell ⟨b, 2, none⟩ v2).setCell ⟨b, 3, none⟩ v3).setCell ⟨b, 4, none⟩ v4).setCell ⟨b, 5, none⟩ v5).setCell ⟨b, 6, none⟩ v6).setCell ⟨b, 7, none⟩ v7).setCell ⟨b, 8, none⟩ v8).setCell ⟨b, 9, none⟩ v9).setCell ⟨b, 10, none⟩ v10) b #[v0, v1, v2, v3, v4, v5, v6, v7, v8, v9, v10] t := by
  have h0 : Blk (w.setCell ⟨b, 0, none⟩ v0) b #[v0, c1, c2, c3, c4, c5, c6, c7, c8, c9, c10] t := (h).set 0 v0
  have h1 : Blk ((w.setCell ⟨b, 0, none⟩ v0).setCell ⟨b, 1, none⟩ v1) b #[v0, v1, c2, c3, c4, c5, c6, c7, c8, c9, c10] t := (h0).set 1 v1
  have h2 : Blk (((w.setCell ⟨b, 0, none⟩ v0).setCell ⟨b, 1, none⟩ v1).setCell ⟨b, 2, none⟩ v2) b #[v0, v1, v2, c3, c4, c5, c6, c7, c8, c9, c10] t := (h1).set 2 v2
  have h3 : Blk ((((w.setCell ⟨b, 0, none⟩ v0).setCell ⟨b, 1, none⟩ v1).setCell ⟨b, 2, none⟩ v2).setCell ⟨b, 3, none⟩ v3) b #[v0, v1, v2, v3, c4, c5, c6, c7, c8, c9, c10] t := (h2).set 3 v3
  have h4 : Blk (((((w.setCell ⟨b, 0, none⟩ v0).setCell ⟨b, 1, none⟩ v1).setCell ⟨b, 2, none⟩ v2).setCell ⟨b, 3, none⟩ v3).setCell ⟨b, 4, none⟩ v4) b #[v0, v1, v2, v3, v4, c5, c6, c7, c8, c9, c10] t := (h3).set 4 v4
  have h5 : Blk ((((((w.setCell ⟨b, 0, none⟩ v0).setCell ⟨b, 1, none⟩ v1).setCell ⟨b, 2, none⟩ v2).setCell ⟨b, 3, none⟩ v3).setCell ⟨b, 4, none⟩ v4).setCell ⟨b, 5, none⟩ v5) b #[v0, v1, v2, v3, v4, v5, c6, c7, c8, c9, c10] t := (h4).set 5 v5
  have h6 : Blk (((((((w.setCell ⟨b, 0, none⟩ v0).setCell ⟨b, 1, none⟩ v1).setCell ⟨b, 2, none⟩ v2).setCell ⟨b, 3, none⟩ v3).setCell ⟨b, 4, none⟩ v4).setCell ⟨b, 5, none⟩ v5).setCell ⟨b, 6, none⟩ v6) b #[v0, v1, v2, v3, v4, v5, v6, c7, c8, c9, c10] t := (h5).set 6 v6
  have h7 : Blk ((((((((w.setCell ⟨b, 0, none⟩ v0).setCell ⟨b, 1, none⟩ v1).setCell ⟨b, 2, none⟩ v2).setCell ⟨b, 3, none⟩ v3).setCell ⟨b, 4, none⟩ v4).setCell ⟨b, 5, none⟩ v5).setCell ⟨b, 6, none⟩ v6).setCell ⟨b, 7, none⟩ v7) b #[v0, v1, v2, v3, v4, v5, v6, v7, c8, c9, c10] t := (h6).set 7 v7
  have h8 : Blk (((((((((w.setCell ⟨b, 0, none⟩ v0).setCell ⟨b, 1, none⟩ v1).setCell ⟨b, 2, none⟩ v2).setCell ⟨b, 3, none⟩ v3).setCell ⟨b, 4, none⟩ v4).setCell ⟨b, 5, none⟩ v5).setCell ⟨b, 6, none⟩ v6).setCell ⟨b, 7, none⟩ v7).setCell ⟨b, 8, none⟩ v8) b #[v0, v1, v2, v3, v4, v5, v6, v7, v8, c9, c10] t := (h7).set 8 v8
  have h9 : Blk ((((((((((w.setCell ⟨b, 0, none⟩ v0).setCell ⟨b, 1, none⟩ v1).setCell ⟨b, 2, none⟩ v2).setCell ⟨b, 3, none⟩ v3).setCell ⟨b, 4, none⟩ v4).setCell ⟨b, 5, none⟩ v5).setCell ⟨b, 6, none⟩ v6).setCell ⟨b, 7, none⟩ v7).setCell ⟨b, 8, none⟩ v8).setCell ⟨b, 9, none⟩ v9) b #[v0, v1, v2, v3, v4, v5, v6, v7, v8, v9, c10] t := (h8).set 9 v9
  have h10 : Blk (((((((((((w.setCell ⟨b, 0, none⟩ v0).setCell ⟨b, 1, none⟩ v1).setCell ⟨b, 2, none⟩ v2).setCell ⟨b, 3, none⟩ v3).setCell ⟨b, 4, none⟩ v4).setCell ⟨b, 5, none⟩ v5).setCell ⟨b, 6, none⟩ v6).setCell ⟨b, 7, none⟩ v7).setCell ⟨b, 8, none⟩ v8).setCell ⟨b, 9, none⟩ v9).setCell ⟨b, 10, none⟩ v10) b #[v0, v1, v2, v3, v4, v5, v6, v7, v8, v9, v10] t := (h9).set 10 v10
  exact h10

theorem l9Teacher_t (h : St D g q w) (hq : q + 44000 ≤ 1000000) :
    Calls Tryz.prog 68 #[.pointer (some ⟨g, 0, none⟩)] w (Drawn D g q 44000 w fun D' q' w' v => TeachE D' g q' w' v) := by
  have hg := h.g_lt
  have hd := fun x hx => (h.dom x hx).2
  have B0 := Box.new h #[.bool false, .int .i64 0, .slice none 0 0, .slice none 0 0, .int .i64 0, .int .i64 0, .slice none 0 0, .int .i64 0, .slice none 0 0, .slice none 0 0, .int .i64 0] 50
  have hs0 : w.heap.size < (w.alloc (.cells #[.bool false, .int .i64 0, .slice none 0 0, .slice none 0 0, .int .i64 0, .int .i64 0, .slice none 0 0, .int .i64 0, .slice none 0 0, .slice none 0 0, .int .i64 0] 50)).heap.size := by simp
  go_enter Tryz.func68, Tryz.ntmps68
  go_wp2_with fail
  generalize w.alloc (.cells #[.bool false, .int .i64 0, .slice none 0 0, .slice none 0 0, .int .i64 0, .int .i64 0, .slice none 0 0, .int .i64 0, .slice none 0 0, .slice none 0 0, .int .i64 0] 50) = w1 at B0 hs0 ⊢
  refine (pick_t 2 B0.st (by omega) (by omega)).mono ?_
  rintro e w2 ⟨x, rfl, -, -, hs2, hk2⟩
  have hsz : w.heap.size < w2.heap.size := Nat.lt_of_lt_of_le hs0 hk2.size
  have B0 := B0.kept hg hk2 (c' := 1) hs2
  clear hs2 hk2 hs0
  have o0 := B0.out
  by_cases hx : x = 0
  · subst hx
    have B6 := B0.bare.box #[.bool true, .int .i64 0, .slice none 0 0, .slice none 0 0, .int .i64 0, .int .i64 0, .slice none 0 0, .int .i64 0, .slice none 0 0, .slice none 0 0, .int .i64 0] 50
    have hx3 := Ext.alloc w2 (.cells #[.bool true, .int .i64 0, .slice none 0 0, .slice none 0 0, .int .i64 0, .int .i64 0, .slice none 0 0, .int .i64 0, .slice none 0 0, .slice none 0 0, .int .i64 0] 50)
    have B0 := B0.ext hx3
    go_upto_region 2 with fail
    generalize w2.alloc (.cells #[.bool true, .int .i64 0, .slice none 0 0, .slice none 0 0, .int .i64 0, .int .i64 0, .slice none 0 0, .int .i64 0, .slice none 0 0, .slice none 0 0, .int .i64 0] 50) = w3 at B0 B6 hx3 ⊢
    generalize w2.heap.size = G at B6 hsz ⊢
    have k0 := B6.blk.cell 0 rfl
    go_wp2_with fail
    refine (l5Any_t B0.st (by omega)).mono ?_
    rintro e u1 ⟨v1, D1, rfl, hi1, hs1, ht1, hS1⟩
    have B0 := B0.drawn hg hi1 ht1 (c' := 44000) (hs1.up (by omega))
    have B6 := B6.drawn (by omega) hi1 ht1 (c' := 44000) (hs1.up (by omega))
    replace hS1 := hS1.tr (fun _ h => h) (Shp.refl _ _) (q' := q + 44000) (by omega)
    obtain ⟨a1, s2, s5, s1, s3, s4, s6, rfl, -⟩ := hS1.boxed
    have o0 := B0.out
    have o6 := B6.out
    clear hi1 hs1 ht1 k0 hx3
    have f1 := B6.blk.fr 1; have e1 := B6.blk.cell 1 rfl; have f2 := B6.blk.fr 2; have e2 := B6.blk.cell 2 rfl; have f3 := B6.blk.fr 3; have e3 := B6.blk.cell 3 rfl
    go_upto_region 5 with fail
    have C0 := (((B0.other (b' := G) (by omega) hd (by omega) (by omega) o6 1 (.int .i64 a1)).other (b' := G) (by omega) hd (by omega) (by omega) o6 2 (.slice s1 s2 s3)).other (b' := G) (by omega) hd (by omega) (by omega) o6 3 (.slice s4 s5 s6))
    have C6 := (((B6.set (by omega) hd (by omega) 1 (.int .i64 a1)).set (by omega) hd (by omega) 2 (.slice s1 s2 s3)).set (by omega) hd (by omega) 3 (.slice s4 s5 s6))
    have hT := (((hS1.set1 o6 1 (.int .i64 a1)).set1 o6 2 (.slice s1 s2 s3)).set1 o6 3 (.slice s4 s5 s6))
    clear f1 f2 f3 e1 e2 e3 B0 B6 hS1
    generalize (((u1.setCell ⟨G, 1, none⟩ (.int .i64 a1)).setCell ⟨G, 2, none⟩ (.slice s1 s2 s3)).setCell ⟨G, 3, none⟩ (.slice s4 s5 s6)) = w4 at C0 C6 hT ⊢
    have C6' : Blk w4 G #[.bool true, .int .i64 a1, .slice s1 s2 s3, .slice s4 s5 s6, .int .i64 0, .int .i64 0, .slice none 0 0, .int .i64 0, .slice none 0 0, .slice none 0 0, .int .i64 0] 50 := C6.blk
    have k0 := C6'.cell 0 rfl; have k1 := C6'.cell 1 rfl; have k2 := C6'.cell 2 rfl; have k3 := C6'.cell 3 rfl; have k4 := C6'.cell 4 rfl; have k5 := C6'.cell 5 rfl; have k6 := C6'.cell 6 rfl; have k7 := C6'.cell 7 rfl; have k8 := C6'.cell 8 rfl; have k9 := C6'.cell 9 rfl; have k10 := C6'.cell 10 rfl
    have r0 := C0.blk.cell 0 rfl; have f0 := C0.blk.fr 0; have r1 := C0.blk.cell 1 rfl; have f1 := C0.blk.fr 1; have r2 := C0.blk.cell 2 rfl; have f2 := C0.blk.fr 2; have r3 := C0.blk.cell 3 rfl; have f3 := C0.blk.fr 3; have r4 := C0.blk.cell 4 rfl; have f4 := C0.blk.fr 4; have r5 := C0.blk.cell 5 rfl; have f5 := C0.blk.fr 5; have r6 := C0.blk.cell 6 rfl; have f6 := C0.blk.fr 6; have r7 := C0.blk.cell 7 rfl; have f7 := C0.blk.fr 7; have r8 := C0.blk.cell 8 rfl; have f8 := C0.blk.fr 8; have r9 := C0.blk.cell 9 rfl; have f9 := C0.blk.fr 9; have r10 := C0.blk.cell 10 rfl; have f10 := C0.blk.fr 10
    have E0 := (((((((((((C0.set hg hd (Nat.le_refl _) 0 (.bool true)).set hg hd (Nat.le_refl _) 1 (.int .i64 a1)).set hg hd (Nat.le_refl _) 2 (.slice s1 s2 s3)).set hg hd (Nat.le_refl _) 3 (.slice s4 s5 s6)).set hg hd (Nat.le_refl _) 4 (.int .i64 0)).set hg hd (Nat.le_refl _) 5 (.int .i64 0)).set hg hd (Nat.le_refl _) 6 (.slice none 0 0)).set hg hd (Nat.le_refl _) 7 (.int .i64 0)).set hg hd (Nat.le_refl _) 8 (.slice none 0 0)).set hg hd (Nat.le_refl _) 9 (.slice none 0 0)).set hg hd (Nat.le_refl _) 10 (.int .i64 0))
    have hTT := (((((((((((hT.set1 o0 0 (.bool true)).set1 o0 1 (.int .i64 a1)).set1 o0 2 (.slice s1 s2 s3)).set1 o0 3 (.slice s4 s5 s6)).set1 o0 4 (.int .i64 0)).set1 o0 5 (.int .i64 0)).set1 o0 6 (.slice none 0 0)).set1 o0 7 (.int .i64 0)).set1 o0 8 (.slice none 0 0)).set1 o0 9 (.slice none 0 0)).set1 o0 10 (.int .i64 0))
    have HEND := Lib.hid (show Drawn D g q 44000 w (fun D' q' w' v => TeachE D' g q' w' v) (.returned (.agg #[.bool true, .int .i64 a1, .slice s1 s2 s3, .slice s4 s5 s6, .int .i64 0, .int .i64 0, .slice none 0 0, .int .i64 0, .slice none 0 0, .slice none 0 0, .int .i64 0])) _ from
      ⟨_, D1, rfl, E0.inc, E0.st, E0.tr, true, _, _, _, _, _, _, _, _, _, _, rfl, hTT, TaskE.zero _ _ _ _⟩)
    have E0' := Blk.put11 C0.blk (.bool true) (.int .i64 a1) (.slice s1 s2 s3) (.slice s4 s5 s6) (.int .i64 0) (.int .i64 0) (.slice none 0 0) (.int .i64 0) (.slice none 0 0) (.slice none 0 0) (.int .i64 0)
    clear hT hTT E0 C0 C6 C6'
    go_wp2_with fail
    clear k0 r0 f0 k1 r1 f1 k2 r2 f2 k3 r3 f3 k4 r4 f4 k5 r5 f5 k6 r6 f6 k7 r7 f7 k8 r8 f8 k9 r9 f9 k10 r10 f10
    generalize (((((((((((w4.setCell ⟨w.heap.size, 0, none⟩ (.bool true)).setCell ⟨w.heap.size, 1, none⟩ (.int .i64 a1)).setCell ⟨w.heap.size, 2, none⟩ (.slice s1 s2 s3)).setCell ⟨w.heap.size, 3, none⟩ (.slice s4 s5 s6)).setCell ⟨w.heap.size, 4, none⟩ (.int .i64 0)).setCell ⟨w.heap.size, 5, none⟩ (.int .i64 0)).setCell ⟨w.heap.size, 6, none⟩ (.slice none 0 0)).setCell ⟨w.heap.size, 7, none⟩ (.int .i64 0)).setCell ⟨w.heap.size, 8, none⟩ (.slice none 0 0)).setCell ⟨w.heap.size, 9, none⟩ (.slice none 0 0)).setCell ⟨w.heap.size, 10, none⟩ (.int .i64 0)) = w9 at E0' HEND ⊢
    have g0 := E0'.cell 0 rfl; have g1 := E0'.cell 1 rfl; have g2 := E0'.cell 2 rfl; have g3 := E0'.cell 3 rfl; have g4 := E0'.cell 4 rfl; have g5 := E0'.cell 5 rfl; have g6 := E0'.cell 6 rfl; have g7 := E0'.cell 7 rfl; have g8 := E0'.cell 8 rfl; have g9 := E0'.cell 9 rfl; have g10 := E0'.cell 10 rfl
    refine bodyPost_ret (v := .agg #[.bool true, .int .i64 a1, .slice s1 s2 s3, .slice s4 s5 s6, .int .i64 0, .int .i64 0, .slice none 0 0, .int .i64 0, .slice none 0 0, .slice none 0 0, .int .i64 0]) (by simp [results, Tryz.results68, go_sem, g0, g1, g2, g3, g4, g5, g6, g7, g8, g9, g10]) rfl HEND.out
  · have hx' : ((x : Int) == 0) = false := beq_eq_false_iff_ne.2 (by omega)
    have B6 := B0.bare.box #[.bool false, .int .i64 0, .slice none 0 0, .slice none 0 0, .int .i64 0, .int .i64 0, .slice none 0 0, .int .i64 0, .slice none 0 0, .slice none 0 0, .int .i64 0] 50
    have hx3 := Ext.alloc w2 (.cells #[.bool false, .int .i64 0, .slice none 0 0, .slice none 0 0, .int .i64 0, .int .i64 0, .slice none 0 0, .int .i64 0, .slice none 0 0, .slice none 0 0, .int .i64 0] 50)
    have B0 := B0.ext hx3
    go_upto_region 2 with fail
    generalize w2.alloc (.cells #[.bool false, .int .i64 0, .slice none 0 0, .slice none 0 0, .int .i64 0, .int .i64 0, .slice none 0 0, .int .i64 0, .slice none 0 0, .slice none 0 0, .int .i64 0] 50) = w3 at B0 B6 hx3 ⊢
    generalize w2.heap.size = G at B6 hsz ⊢
    have hG3 : G < w3.heap.size := B6.blk.lt
    have k0 := B6.blk.cell 0 rfl
    go_wp2_with fail
    refine (l9Draw_f B0.st (by omega)).mono ?_
    rintro e u1 ⟨v1, D1, rfl, hi1, hs1, ht1, hS1⟩
    have B0 := B0.drawn hg hi1 ht1 (c' := 44000) (hs1.up (by omega))
    have B6 := B6.drawn (by omega) hi1 ht1 (c' := 44000) (hs1.up (by omega))
    replace hS1 := hS1.up (q' := q + 44000) (by omega)
    obtain ⟨al, st, pal, tal, r1, r2, r3, r4, r5, r6, r7, r8, r9, rfl⟩ := hS1.task.shape
    have o0 := B0.out
    have o6 := B6.out
    clear hi1 hs1 ht1 k0 hx3
    have f4 := B6.blk.fr 4; have e4 := B6.blk.cell 4 rfl; have f5 := B6.blk.fr 5; have e5 := B6.blk.cell 5 rfl; have f6 := B6.blk.fr 6; have e6 := B6.blk.cell 6 rfl; have f7 := B6.blk.fr 7; have e7 := B6.blk.cell 7 rfl; have f8 := B6.blk.fr 8; have e8 := B6.blk.cell 8 rfl; have f9 := B6.blk.fr 9; have e9 := B6.blk.cell 9 rfl; have f10 := B6.blk.fr 10; have e10 := B6.blk.cell 10 rfl
    go_upto_region 5 with fail
    have C0 := (((((((B0.other (b' := G) (by omega) hd (by omega) (by omega) o6 4 (.int .i64 al)).other (b' := G) (by omega) hd (by omega) (by omega) o6 5 (.int .i64 st)).other (b' := G) (by omega) hd (by omega) (by omega) o6 6 (.slice r1 r2 r3)).other (b' := G) (by omega) hd (by omega) (by omega) o6 7 (.int .i64 pal)).other (b' := G) (by omega) hd (by omega) (by omega) o6 8 (.slice r4 r5 r6)).other (b' := G) (by omega) hd (by omega) (by omega) o6 9 (.slice r7 r8 r9)).other (b' := G) (by omega) hd (by omega) (by omega) o6 10 (.int .i64 tal))
    have C6 := (((((((B6.set (by omega) hd (by omega) 4 (.int .i64 al)).set (by omega) hd (by omega) 5 (.int .i64 st)).set (by omega) hd (by omega) 6 (.slice r1 r2 r3)).set (by omega) hd (by omega) 7 (.int .i64 pal)).set (by omega) hd (by omega) 8 (.slice r4 r5 r6)).set (by omega) hd (by omega) 9 (.slice r7 r8 r9)).set (by omega) hd (by omega) 10 (.int .i64 tal))
    have hT := (((((((hS1.set (by omega) o6 4 (.int .i64 al)).set (by omega) o6 5 (.int .i64 st)).set (by omega) o6 6 (.slice r1 r2 r3)).set (by omega) o6 7 (.int .i64 pal)).set (by omega) o6 8 (.slice r4 r5 r6)).set (by omega) o6 9 (.slice r7 r8 r9)).set (by omega) o6 10 (.int .i64 tal))
    clear f4 f5 f6 f7 f8 f9 f10 e4 e5 e6 e7 e8 e9 e10 B0 B6 hS1
    generalize (((((((u1.setCell ⟨G, 4, none⟩ (.int .i64 al)).setCell ⟨G, 5, none⟩ (.int .i64 st)).setCell ⟨G, 6, none⟩ (.slice r1 r2 r3)).setCell ⟨G, 7, none⟩ (.int .i64 pal)).setCell ⟨G, 8, none⟩ (.slice r4 r5 r6)).setCell ⟨G, 9, none⟩ (.slice r7 r8 r9)).setCell ⟨G, 10, none⟩ (.int .i64 tal)) = w4 at C0 C6 hT ⊢
    have C6' : Blk w4 G #[.bool false, .int .i64 0, .slice none 0 0, .slice none 0 0, .int .i64 al, .int .i64 st, .slice r1 r2 r3, .int .i64 pal, .slice r4 r5 r6, .slice r7 r8 r9, .int .i64 tal] 50 := C6.blk
    have k0 := C6'.cell 0 rfl; have k1 := C6'.cell 1 rfl; have k2 := C6'.cell 2 rfl; have k3 := C6'.cell 3 rfl; have k4 := C6'.cell 4 rfl; have k5 := C6'.cell 5 rfl; have k6 := C6'.cell 6 rfl; have k7 := C6'.cell 7 rfl; have k8 := C6'.cell 8 rfl; have k9 := C6'.cell 9 rfl; have k10 := C6'.cell 10 rfl
    have r_0 := C0.blk.cell 0 rfl; have f0 := C0.blk.fr 0; have r_1 := C0.blk.cell 1 rfl; have f1 := C0.blk.fr 1; have r_2 := C0.blk.cell 2 rfl; have f2 := C0.blk.fr 2; have r_3 := C0.blk.cell 3 rfl; have f3 := C0.blk.fr 3; have r_4 := C0.blk.cell 4 rfl; have f4 := C0.blk.fr 4; have r_5 := C0.blk.cell 5 rfl; have f5 := C0.blk.fr 5; have r_6 := C0.blk.cell 6 rfl; have f6 := C0.blk.fr 6; have r_7 := C0.blk.cell 7 rfl; have f7 := C0.blk.fr 7; have r_8 := C0.blk.cell 8 rfl; have f8 := C0.blk.fr 8; have r_9 := C0.blk.cell 9 rfl; have f9 := C0.blk.fr 9; have r_10 := C0.blk.cell 10 rfl; have f10 := C0.blk.fr 10
    have E0 := (((((((((((C0.set hg hd (Nat.le_refl _) 0 (.bool false)).set hg hd (Nat.le_refl _) 1 (.int .i64 0)).set hg hd (Nat.le_refl _) 2 (.slice none 0 0)).set hg hd (Nat.le_refl _) 3 (.slice none 0 0)).set hg hd (Nat.le_refl _) 4 (.int .i64 al)).set hg hd (Nat.le_refl _) 5 (.int .i64 st)).set hg hd (Nat.le_refl _) 6 (.slice r1 r2 r3)).set hg hd (Nat.le_refl _) 7 (.int .i64 pal)).set hg hd (Nat.le_refl _) 8 (.slice r4 r5 r6)).set hg hd (Nat.le_refl _) 9 (.slice r7 r8 r9)).set hg hd (Nat.le_refl _) 10 (.int .i64 tal))
    have hTT := (((((((((((hT.set (by omega) o0 0 (.bool false)).set (by omega) o0 1 (.int .i64 0)).set (by omega) o0 2 (.slice none 0 0)).set (by omega) o0 3 (.slice none 0 0)).set (by omega) o0 4 (.int .i64 al)).set (by omega) o0 5 (.int .i64 st)).set (by omega) o0 6 (.slice r1 r2 r3)).set (by omega) o0 7 (.int .i64 pal)).set (by omega) o0 8 (.slice r4 r5 r6)).set (by omega) o0 9 (.slice r7 r8 r9)).set (by omega) o0 10 (.int .i64 tal))
    have HEND := Lib.hid (show Drawn D g q 44000 w (fun D' q' w' v => TeachE D' g q' w' v) (.returned (.agg #[.bool false, .int .i64 0, .slice none 0 0, .slice none 0 0, .int .i64 al, .int .i64 st, .slice r1 r2 r3, .int .i64 pal, .slice r4 r5 r6, .slice r7 r8 r9, .int .i64 tal])) _ from
      ⟨_, D1, rfl, E0.inc, E0.st, E0.tr, false, _, _, _, _, _, _, _, _, _, _, rfl, AutoT.zero _ _ _, hTT.task⟩)
    have E0' := Blk.put11 C0.blk (.bool false) (.int .i64 0) (.slice none 0 0) (.slice none 0 0) (.int .i64 al) (.int .i64 st) (.slice r1 r2 r3) (.int .i64 pal) (.slice r4 r5 r6) (.slice r7 r8 r9) (.int .i64 tal)
    clear hT hTT E0 C0 C6 C6'
    go_wp2_with fail
    clear k0 r_0 f0 k1 r_1 f1 k2 r_2 f2 k3 r_3 f3 k4 r_4 f4 k5 r_5 f5 k6 r_6 f6 k7 r_7 f7 k8 r_8 f8 k9 r_9 f9 k10 r_10 f10
    generalize (((((((((((w4.setCell ⟨w.heap.size, 0, none⟩ (.bool false)).setCell ⟨w.heap.size, 1, none⟩ (.int .i64 0)).setCell ⟨w.heap.size, 2, none⟩ (.slice none 0 0)).setCell ⟨w.heap.size, 3, none⟩ (.slice none 0 0)).setCell ⟨w.heap.size, 4, none⟩ (.int .i64 al)).setCell ⟨w.heap.size, 5, none⟩ (.int .i64 st)).setCell ⟨w.heap.size, 6, none⟩ (.slice r1 r2 r3)).setCell ⟨w.heap.size, 7, none⟩ (.int .i64 pal)).setCell ⟨w.heap.size, 8, none⟩ (.slice r4 r5 r6)).setCell ⟨w.heap.size, 9, none⟩ (.slice r7 r8 r9)).setCell ⟨w.heap.size, 10, none⟩ (.int .i64 tal)) = w9 at E0' HEND ⊢
    have g0 := E0'.cell 0 rfl; have g1 := E0'.cell 1 rfl; have g2 := E0'.cell 2 rfl; have g3 := E0'.cell 3 rfl; have g4 := E0'.cell 4 rfl; have g5 := E0'.cell 5 rfl; have g6 := E0'.cell 6 rfl; have g7 := E0'.cell 7 rfl; have g8 := E0'.cell 8 rfl; have g9 := E0'.cell 9 rfl; have g10 := E0'.cell 10 rfl
    refine bodyPost_ret (v := .agg #[.bool false, .int .i64 0, .slice none 0 0, .slice none 0 0, .int .i64 al, .int .i64 st, .slice r1 r2 r3, .int .i64 pal, .slice r4 r5 r6, .slice r7 r8 r9, .int .i64 tal]) (by simp [results, Tryz.results68, go_sem, g0, g1, g2, g3, g4, g5, g6, g7, g8, g9, g10]) rfl HEND.out
end Go.Proofs.YtccklliljdembaaGreatDoor
