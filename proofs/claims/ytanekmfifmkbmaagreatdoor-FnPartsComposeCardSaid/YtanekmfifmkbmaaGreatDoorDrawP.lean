/- Part of this seat's proofs, cut to what its law needs. -/

import Derived.Test.YtanekmfifmkbmaaGreatDoorDrawD
import Derived.Deep.DeepCutAuto
import Derived.Test.YtanekmfifmkbmaaGreatDoorDrawF
import Derived.Test.YtanekmfifmkbmaaGreatDoorDrawK
import Derived.Deep.RegionHeld3
import Derived.Deep.CutBlock

namespace Go.Proofs.YtanekmfifmkbmaaGreatDoor
set_option linter.unusedSimpArgs false
set_option linter.unusedVariables false
open Go.RowKit
set_option maxHeartbeats 1000000
set_option maxRecDepth 100000
attribute [local go_sem ↓] Go.wp_at_zero Go.wp_at_succ

variable {D D' : Nat → Prop} {g q q' : Nat} {w w' : World}

theorem cells3 {wn wd : World} {x y z : Value} {t : TypeId} (h : Ext (wd.alloc (.cells #[x, y, z] t)) wn) : ∀ (j' : Nat) (u : Value), [x, y, z][j']? = some u → wn.cell? ((⟨wd.heap.size, 0, none⟩ : Addr).add j') = some u := fun j' u hu => by
  rw [add_none, Nat.zero_add]
  match j', hu with
  | 0, hu => simp at hu; subst hu; exact h.new 0 rfl
  | 1, hu => simp at hu; subst hu; exact h.new 1 rfl
  | 2, hu => simp at hu; subst hu; exact h.new 2 rfl
  | j' + 3, hu => simp at hu
theorem cells1 {wn wd : World} {x : Value} {t : TypeId} (h : Ext (wd.alloc (.cells #[x] t)) wn) : ∀ (j' : Nat) (u : Value), [x][j']? = some u → wn.cell? ((⟨wd.heap.size, 0, none⟩ : Addr).add j') = some u := fun j' u hu => by
  rw [add_none, Nat.zero_add]
  match j', hu with
  | 0, hu => simp at hu; subst hu; exact h.new 0 rfl
  | j' + 1, hu => simp at hu
theorem kin_int2 (x y : Int) : Kin D q w 3 [.int .i64 x, .int .i64 y] := fun i u hu => by
  match i, hu with
  | 0, hu => exact ⟨.int, rfl, x, by simpa using hu.symm⟩
  | 1, hu => exact ⟨.int, rfl, y, by simpa using hu.symm⟩
  | i + 2, hu => simp at hu

def SysN (D : Nat → Prop) (q : Nat) (w : World) (v : Value) : Prop := ∃ al st ve n, v = .agg #[.int .i64 al, .int .i64 st, ve] ∧ 1 ≤ n ∧ n ≤ q ∧ SlOk D w 87 3 ve n
theorem l2Big_n (h : St D g q w) (hq : q + 64 ≤ 1000000) :
    Calls Tryz.prog 26 #[.pointer (some ⟨g, 0, none⟩)] w (Drawn D g q 64 w SysN) := by
  have hg := h.g_lt
  have hd := fun x hx => (h.dom x hx).2
  have B0 := Box.new h #[.int .i64 0, .int .i64 0, .slice none 0 0] 25
  have B0 := B0.ext (Ext.alloc _ (.cells #[.int .i64 3, .int .i64 16, .slice none 0 0] 25))
  have B1 : Box D g q w (w.heap.size + 1) 0 #[.int .i64 3, .int .i64 16, .slice none 0 0] 25 _ D := ⟨B0.inc, B0.st, B0.tr, Ext.blk1 (Ext.refl _), h.out (by omega)⟩
  go_enter Tryz.func26, Tryz.ntmps26
  go_wp2_with fail
  generalize (w.alloc (.cells #[.int .i64 0, .int .i64 0, .slice none 0 0] 25)).alloc (.cells #[.int .i64 3, .int .i64 16, .slice none 0 0] 25) = w1 at B0 B1 ⊢
  go_loopw [4] (fun i wr => ∃ (k n : Nat) (D' : Nat → Prop) (vE : Value), k ≤ 16 ∧ (k ≤ n ∧ n ≤ 2 * k) ∧ i = .int .i64 k ∧ Box D g q w w.heap.size (k * 4) #[.int .i64 0, .int .i64 0, .slice none 0 0] 25 wr D' ∧ Box D g q w (w.heap.size + 1) (k * 4) #[.int .i64 3, .int .i64 16, vE] 25 wr D' ∧ SlOk D' wr 87 3 vE n) (fun i _ => 16 - (intOf i).toNat)
  case atStart => exact ⟨0, 0, D, _, by omega, by omega, rfl, B0.up (by omega), B1.up (by omega), SlOk.nil⟩
  case round =>
    clear B0 B1
    obtain ⟨k, n, D1, vE, hk, hn, rfl, B0, B1, hE⟩ := hrel
    have gc1 := B1.blk.cell 1 rfl
    by_cases hlt : k < 16
    · obtain ⟨aE, cE, rfl⟩ := hE.shape
      go_wp2_with fail
      have D0 := fun d os => cell_regrown (B1.blk.cell 2 rfl) d os
      have D2 := fun d os => cell_regrown (B1.blk.cell 1 rfl) d os
      obtain ⟨Kc, HKc⟩ : ∃ Kc : FuncId → Array Value → World → Value → World → Prop, Hid (Kc = fun _ _ _ _ _ => True) := ⟨_, rfl⟩
      refine wp_region_ext (Kc := Kc) 10 (by kernel_rfl) (by kernel_rfl) ?_
      simp only [List.take_succ_cons, List.take_zero]
      repeat (refine WalkE.pure rfl (fun K hK => ?_); simp only [PureDo]; go_simp; refine hK _ ?_; clear hK K)
      refine WalkE.step (fun K hK wd hwd hdd => ?_)
      simp only [OpDo, OpSafe, OpOut]
      go_simp
      refine ⟨Ext.alloc _ _, hK _ _ ?_⟩
      clear hK K hdd
      refine WalkE.nil (fun wn hwn hmn => ?_)
      simp only [List.drop_succ_cons, List.drop_zero, List.drop_nil]
      have hcell := cells3 (hmn 9 (by omega))
      have hx := (Ext.drew wr).trans hwn
      have hE := hE.tr' (Inc.refl _ _) (Tr.ext B1.st hx)
      have B0 := B0.ext hx
      have B1 := B1.ext hx
      clear hmn HKc D0 D2 hwn hwd hx gc1
      generalize wd.heap.size = r at hcell ⊢
      clear wd
      go_wp2_with (at_builtin; refine app_t (news := _) (q' := q + (k * 4 + 1)) rfl _ _ _ rfl Tryz.underlying23 infoEdge rfl (by decide) per_edge zk_edge B1.st hE rfl rfl (by simp) hcell (by simp [Value.oneCell']) (kin_edge _ _ _) (by omega) (by decide) (by omega) ?_; intro v1 w3 D3 hi3 hs3 ht3 hE3; obtain ⟨a3, c3, rfl⟩ := hE3.shape; have B0 := B0.drawn hg hi3 ht3 (c' := k * 4 + 1) hs3; have B1 := B1.drawn (by omega) hi3 ht3 (c' := k * 4 + 1) hs3; have gc2 := B1.blk.cell 2 rfl; have gf2 := B1.blk.fr 2)
      have o1 := B1.out
      have B0 := B0.other (b' := w.heap.size + 1) (by omega) hd (by omega) (by omega) o1 2 (.slice a3 (n + 1) c3)
      have B1 := B1.set (by omega) hd (by omega) 2 (.slice a3 (n + 1) c3)
      have hE := hE3.tr (fun _ h => h) (Shp.box (j := 2) (u := .slice a3 (n + 1) c3) o1)
      clear hE3 hi3 hs3 ht3 gc2 gf2
      generalize w3.setCell ⟨w.heap.size + 1, 2, none⟩ (.slice a3 (n + 1) c3) = w4 at B0 B1 hE ⊢
      refine (pick_t 3 B0.st (by omega) (by omega)).mono ?_
      rintro e w5 ⟨x, rfl, -, -, hs5, hk5⟩
      have hE := hE.tr' (Inc.refl _ _) (Tr.kept B1.st hk5)
      have B0 := B0.kept (by omega) hk5 (c' := k * 4 + 2) hs5
      have B1 := B1.kept (by omega) hk5 (c' := k * 4 + 2) hs5
      clear hs5 hk5
      by_cases hx : x = 0
      · subst hx
        have gc1 := B1.blk.cell 1 rfl
        have gc2 : w5.cell? ⟨w.heap.size + 1, 2, none⟩ = some (.slice a3 (n + 1) c3) := B1.blk.cell 2 rfl
        go_wp2_with fail
        have B1' := B1.ext (Ext.drew _)
        have B0' := B0.ext (Ext.drew _)
        have hE' := hE.tr' (Inc.refl _ _) (Tr.ext B1.st (Ext.drew _))
        have hs6 := B1'.st
        have hkk : Kept g w5.drew w5.drew := Tnd.refl _ _
        go_region_law (first
          | (refine step_app1_t (q + (k * 4 + 4)) (by rfl) (by rfl) Tryz.underlying23 infoEdge (by rfl) (by decide) per_edge zk_edge hs6 (hE'.tr' (Inc.refl _ _) (Tr.kept B1'.st hkk)) (by rfl) (by rfl) (by rfl) (by simp [Value.oneCell']) (kin_edge _ _ _) (by omega) (by decide) (by omega) ?_; intro v1 w7 D7 hi7 hs7 ht7 hE7; obtain ⟨a7, c7, rfl⟩ := hE7.shape; have BG7 := (B1'.kept (by omega) hkk (c' := k * 4 + 3) (hs6.up (by omega))).drawn (by omega) hi7 ht7 (c' := k * 4 + 4) hs7; have gc7 := BG7.blk.cell 2 rfl; have gf7 := BG7.blk.fr 2)
          | (go_simp; go_wp2_with (go_at_call 23; refine (pick_t _ hs6 (by omega) (by omega)).mono ?_; rintro e w6 ⟨x6, rfl, -, -, hs6, hk6⟩; replace hkk := hkk.trans hk6; have gc6 : w6.cell? ⟨w.heap.size + 1, 2, none⟩ = some (.slice a3 (n + 1) c3) := (B1'.blk.kept hkk (by omega)).cell 2 rfl; have gc8 := fun o => (Ext.alloc w6 o).cell gc6)))
        all_goals
          have BR7 := (B0'.kept (by omega) hkk (c' := k * 4 + 3) (hs6.up (by omega))).drawn (by omega) hi7 ht7 (c' := k * 4 + 4) hs7
          have BR8 := BR7.other (b' := w.heap.size + 1) (by omega) hd (by omega) (by omega) BG7.out 2 (.slice a7 (n + 2) c7)
          have hE8 := hE7.tr (fun _ h => h) (Shp.box (j := 2) (u := .slice a7 (n + 1 + 1) c7) BG7.out)
          have BG8 := BG7.set (by omega) hd (by omega) 2 (.slice a7 (n + 1 + 1) c7)
          go_wp2_with fail
          exact ⟨⟨k + 1, n + 1 + 1, D7, _, by omega, by omega, by go_num, BR8.up (by omega), BG8.up (by omega), hE8⟩, by simp [intOf]; omega⟩
      · have hx' : ((x : Int) == 0) = false := beq_eq_false_iff_ne.2 (by omega)
        go_wp2_with fail
        exact ⟨⟨k + 1, n + 1, D3, _, by omega, by omega, by go_num, B0.up (by omega), B1.up (by omega), hE⟩, by simp [intOf]; omega⟩
    · obtain rfl : k = 16 := by omega
      obtain ⟨aE, cE, rfl⟩ := hE.shape
      have gc0 := B1.blk.cell 0 rfl; have gf0 := B1.blk.fr 0; have gc1 := B1.blk.cell 1 rfl; have gf1 := B1.blk.fr 1; have gc2 := B1.blk.cell 2 rfl; have gf2 := B1.blk.fr 2
      have rc0 := B0.blk.cell 0 rfl; have rf0 := B0.blk.fr 0; have rc1 := B0.blk.cell 1 rfl; have rf1 := B0.blk.fr 1; have rc2 := B0.blk.cell 2 rfl; have rf2 := B0.blk.fr 2
      go_wp2_with fail
      refine bodyPost_ret (v := .agg #[.int .i64 3, .int .i64 16, .slice aE n cE]) (by simp [results, Tryz.results26, go_sem, rc0, rc1, rc2, rf0, rf1, rf2]) rfl ?_
      have B5 := ((B0.set hg hd (Nat.le_refl _) 0 (.int .i64 3)).set hg hd (Nat.le_refl _) 1 (.int .i64 16)).set hg hd (Nat.le_refl _) 2 (.slice aE n cE)
      exact ⟨_, D1, rfl, B5.inc, B5.st.up (by omega), B5.tr, 3, 16, _, n, rfl, by omega, by omega, (((hE.tr (fun _ h => h) (Shp.box B0.out)).tr (fun _ h => h) (Shp.box B0.out)).tr (fun _ h => h) (Shp.box B0.out))⟩
theorem l2Big_t (h : St D g q w) (hq : q + 64 ≤ 1000000) :
    Calls Tryz.prog 26 #[.pointer (some ⟨g, 0, none⟩)] w (Drawn D g q 64 w SysT) :=
  (l2Big_n h hq).mono fun _ _ ⟨v, D', h1, h2, h3, h4, al, st, ve, n, h5, _, h6, h7⟩ => ⟨v, D', h1, h2, h3, h4, al, st, ve, n, h5, h6, h7⟩
theorem num_drew (l : List Int) {b : Nat} (hb : b = w.heap.size) (h : St D g q w) (hq : q + 1 ≤ 1000000) (h0 : 0 < l.length) (hl : l.length ≤ 100) :
    Calls Tryz.prog 63 #[.pointer (some ⟨g, 0, none⟩), .slice (some ⟨b, 0, none⟩) l.length l.length] (w.alloc (.cells (l.map (Value.int .i64)).toArray 3)).drew
      (fun e w' => ∃ x ∈ l, e = .returned (.int .i64 x) ∧ St D g (q + 1) w' ∧ Kept g w.drew w') :=
  num_t (w := w.drew) l hb (h.ext (Ext.drew w)) hq h0 hl

set_option maxHeartbeats 4000000 in
theorem l3Big_t (h : St D g q w) (hq : q + 64 ≤ 1000000) :
    Calls Tryz.prog 70 #[.pointer (some ⟨g, 0, none⟩)] w (Drawn D g q 64 w AutoT) := by
  have hg := h.g_lt
  have hd := fun x hx => (h.dom x hx).2
  have B0 := Box.new h #[.int .i64 0, .slice none 0 0, .slice none 0 0] 31
  have B0 := B0.ext (Ext.alloc _ (.cells #[.int .i64 3, .slice none 0 0, .slice none 0 0] 31))
  have B1 : Box D g q w (w.heap.size + 1) 0 #[.int .i64 3, .slice none 0 0, .slice none 0 0] 31 _ D := ⟨B0.inc, B0.st, B0.tr, Ext.blk1 (Ext.refl _), h.out (by omega)⟩
  go_enter Tryz.func70, Tryz.ntmps70
  go_wp2_with fail
  generalize (w.alloc (.cells #[.int .i64 0, .slice none 0 0, .slice none 0 0] 31)).alloc (.cells #[.int .i64 3, .slice none 0 0, .slice none 0 0] 31) = w1 at B0 B1 ⊢
  go_loopw [4, 28, 29, 30] (fun i _ _ _ wr => ∃ (k : Nat) (D' : Nat → Prop) (vN vA : Value), k ≤ 12 ∧ i = .int .i64 k ∧ Box D g q w w.heap.size (2 + k * 5) #[.int .i64 0, .slice none 0 0, .slice none 0 0] 31 wr D' ∧ Box D g q w (w.heap.size + 1) (2 + k * 5) #[.int .i64 3, vN, vA] 31 wr D' ∧ SlOk D' wr 80 1 vN k ∧ SlOk D' wr 4 1 vA k) (fun i _ _ _ _ => 12 - (intOf i).toNat)
  case atStart => exact ⟨0, D, _, _, by omega, rfl, B0.up (by omega), B1.up (by omega), SlOk.nil, SlOk.nil⟩
  case round =>
    clear B0 B1
    obtain ⟨k, D1, vN, vA, hk, rfl, B0, B1, hN, hA⟩ := hrel
    obtain ⟨aN, cN, rfl⟩ := hN.shape
    obtain ⟨aA, cA, rfl⟩ := hA.shape
    by_cases hlt : k < 12
    · have gc1 : wr.cell? ⟨w.heap.size + 1, 1, none⟩ = some (.slice aN k cN) := B1.blk.cell 1 rfl
      go_upto_region 6 with fail
      go_cut [] (fun wc => ∃ (D' : Nat → Prop) (a7 : Option Addr) (c7 : Nat) (aA : Option Addr) (cA : Nat), Box D g q w w.heap.size (2 + k * 5 + 2) #[.int .i64 0, .slice none 0 0, .slice none 0 0] 31 wc D' ∧ Box D g q w (w.heap.size + 1) (2 + k * 5 + 2) #[.int .i64 3, .slice a7 (k + 1) c7, .slice aA k cA] 31 wc D' ∧ SlOk D' wc 80 1 (.slice a7 (k + 1) c7) (k + 1) ∧ SlOk D' wc 4 1 (.slice aA k cA) k)
      case first =>
        have B1' := B1.ext (Ext.drew _)
        have B0' := B0.ext (Ext.drew _)
        have hN' := hN.tr' (Inc.refl _ _) (Tr.ext B1.st (Ext.drew _))
        have hA' := hA.tr' (Inc.refl _ _) (Tr.ext B1.st (Ext.drew _))
        have gd1 := fun o => (Ext.alloc wr o).cell gc1
        go_region_law (first
          | (refine step_app1_t (q + (2 + k * 5 + 2)) (by rfl) (by rfl) Tryz.underlying28 infoInts (by rfl) (by decide) per_ints zk_ints hn9.2 hN9 (by rfl) (Eq.trans (b := Value.slice (some ⟨w6.heap.size + 1, 0, none⟩) 1 1) (by rfl) (by rw [World.size_alloc])) (by rfl) (by simp [Value.oneCell']) (kin_ints hr9 (by omega)) (by omega) (by decide) (by omega) ?_; intro v1 w7 D7 hi7 hs7 ht7 hN7; obtain ⟨a7, c7, rfl⟩ := hN7.shape; have B7 := B9.drawn (by omega) hi7 ht7 (c' := 2 + k * 5 + 2) hs7; have gc7 := B7.blk.cell 1 rfl; have gf7 := B7.blk.fr 1)
          | (go_simp; go_wp2_with (go_at_call 63; refine (num_drew [(k : Int), 0, 11] rfl B1.st (by omega) (by simp) (by simp)).mono ?_; rintro e w6 ⟨x6, -, rfl, hs6, hk6⟩; have gc6 : w6.cell? ⟨w.heap.size + 1, 1, none⟩ = some (.slice aN k cN) := (B1'.blk.kept hk6 (by omega)).cell 1 rfl; have gc8 := fun o => (Ext.alloc w6 o).cell gc6; have gc9 := fun o o' => (Ext.alloc (w6.alloc o) o').cell (gc8 o); have hn9 := hs6.new (Ext.alloc w6 (.cells #[.int .i64 ((IntKind.i64.wrap ((k : Int) + 1)).tmod 12), .int .i64 x6] 3)) (Nat.le_refl _) (heap_alloc_new w6 _) (kin_int2 _ _); have hr9 : SlOk (fun x => D1 x ∨ x = w6.heap.size) (w6.alloc (.cells #[.int .i64 ((IntKind.i64.wrap ((k : Int) + 1)).tmod 12), .int .i64 x6] 3)) 3 1 (.slice (some ⟨w6.heap.size, 0, none⟩) 2 2) 2 := .inr ⟨w6.heap.size, 2, _, rfl, .inr rfl, heap_alloc_new w6 _, Nat.le_refl _, by unfold maxLen; omega, rfl⟩; have hN9 := (hN'.tr' (Inc.refl _ _) (Tr.kept B1'.st hk6)).tr' hn9.1 (Tr.ext hs6 (Ext.alloc w6 (.cells #[.int .i64 ((IntKind.i64.wrap ((k : Int) + 1)).tmod 12), .int .i64 x6] 3))); have hA9 := (hA'.tr' (Inc.refl _ _) (Tr.kept B1'.st hk6)).tr' hn9.1 (Tr.ext hs6 (Ext.alloc w6 (.cells #[.int .i64 ((IntKind.i64.wrap ((k : Int) + 1)).tmod 12), .int .i64 x6] 3))); have B9 := (B1'.kept (by omega) hk6 (c' := 2 + k * 5 + 1) (hs6.up (by omega))).grow (Ext.alloc w6 (.cells #[.int .i64 ((IntKind.i64.wrap ((k : Int) + 1)).tmod 12), .int .i64 x6] 3)) hn9.1 (c' := 2 + k * 5 + 1) (hn9.2.up (by omega)))))
        all_goals
          have o1 := B7.out
          have B6 := ((B0'.kept (by omega) hk6 (c' := 2 + k * 5 + 1) (hs6.up (by omega))).grow (Ext.alloc w6 _) hn9.1 (c' := 2 + k * 5 + 1) (hn9.2.up (by omega))).drawn (by omega) hi7 ht7 (c' := 2 + k * 5 + 2) hs7
          have hA7 := hA9.tr' hi7 ht7
          have B0 := B6.other (b' := w.heap.size + 1) (by omega) hd (by omega) (by omega) o1 1 (.slice a7 (k + 1) c7)
          have B1 := B7.set (by omega) hd (by omega) 1 (.slice a7 (k + 1) c7)
          have hN := hN7.tr (fun _ h => h) (Shp.box (j := 1) (u := .slice a7 (k + 1) c7) o1)
          have hA := hA7.tr (fun _ h => h) (Shp.box (j := 1) (u := .slice a7 (k + 1) c7) o1)
          go_wp2_with fail
          go_meet
          case rel => exact ⟨_, _, _, _, _, B0, B1, hN, hA⟩
      case rest =>
        clear B0 B1 hN hA gc1
        obtain ⟨D2, a7, c7, aA, cA, B0, B1, hN, hA⟩ := hcut
        have gc2 : wc.cell? ⟨w.heap.size + 1, 2, none⟩ = some (.slice aA k cA) := B1.blk.cell 2 rfl
        by_cases hk0 : k = 0
        · have hkz : ((k : Int) == 0) = true := by rw [hk0]; rfl
          clear hk0
          go_wp2_with fail
          have D0 := fun d os => cell_regrown gc2 d os
          obtain ⟨Kc, HKc⟩ : ∃ Kc : FuncId → Array Value → World → Value → World → Prop, Hid (Kc = fun _ _ _ _ _ => True) := ⟨_, rfl⟩
          refine wp_region_ext (Kc := Kc) 10 (by kernel_rfl) (by kernel_rfl) ?_
          simp only [List.take_succ_cons, List.take_zero]
          repeat (refine WalkE.pure rfl (fun K hK => ?_); simp only [PureDo]; go_simp; refine hK _ ?_; clear hK K)
          refine WalkE.step (fun K hK wd hwd hdd => ?_)
          simp only [OpDo, OpSafe, OpOut]
          go_simp
          refine ⟨Ext.alloc _ _, hK _ _ ?_⟩
          clear hK K hdd
          refine WalkE.nil (fun wn hwn hmn => ?_)
          simp only [List.drop_succ_cons, List.drop_zero, List.drop_nil]
          have hcell := cells1 (hmn 9 (by omega))
          have hx := (Ext.drew wc).trans hwn
          have hN := hN.tr' (Inc.refl _ _) (Tr.ext B1.st hx)
          have hA := hA.tr' (Inc.refl _ _) (Tr.ext B1.st hx)
          have B0 := B0.ext hx
          have B1 := B1.ext hx
          clear hmn HKc D0 hwn hwd hx gc2
          generalize wd.heap.size = r at hcell ⊢
          clear wd
          go_wp2_with (at_builtin; refine app_t (news := _) (q' := q + (2 + k * 5 + 4)) rfl _ _ _ rfl Tryz.underlying29 infoBool rfl (by decide) per_bool zk_bool B1.st hA rfl rfl (by simp) hcell (by simp [Value.oneCell']) (kin_bool _) (by omega) (by decide) (by omega) ?_; intro v1 wa D8 hi8 hs8 ht8 hA8; obtain ⟨a8, c8', rfl⟩ := hA8.shape; have B8 := B1.drawn (by omega) hi8 ht8 (c' := 2 + k * 5 + 4) hs8; have gc7 := B8.blk.cell 2 rfl; have gf7 := B8.blk.fr 2)
          have B9 := B0.drawn (by omega) hi8 ht8 (c' := 2 + k * 5 + 4) hs8
          have hN8 := hN.tr' hi8 ht8
          have o8 := B8.out
          exact ⟨⟨k + 1, D8, _, _, by omega, by go_num, (B9.other (b' := w.heap.size + 1) (by omega) hd (by omega) (by omega) o8 2 _).up (by omega), (B8.set (by omega) hd (by omega) 2 _).up (by omega), hN8.tr (fun _ h => h) (Shp.box o8), hA8.tr (fun _ h => h) (Shp.box o8)⟩, by simp [intOf]; omega⟩
        · have hkz : ((k : Int) == 0) = false := beq_eq_false_iff_ne.2 (by omega)
          go_wp2_with fail
          have B1' := B1.ext (Ext.drew _)
          have B0' := B0.ext (Ext.drew _)
          have hN' := hN.tr' (Inc.refl _ _) (Tr.ext B1.st (Ext.drew _))
          have hA' := hA.tr' (Inc.refl _ _) (Tr.ext B1.st (Ext.drew _))
          have hs6 := B1'.st
          have hkk : Kept g wc.drew wc.drew := Tnd.refl _ _
          go_region_law (first
            | (refine step_app1_t (q + (2 + k * 5 + 4)) (by rfl) (by rfl) Tryz.underlying29 infoBool (by rfl) (by decide) per_bool zk_bool hs6 (hA'.tr' (Inc.refl _ _) (Tr.kept B1'.st hkk)) (by rfl) (by rfl) (by rfl) (by simp [Value.oneCell']) (kin_bool _) (by omega) (by decide) (by omega) ?_; intro v1 wa D8 hi8 hs8 ht8 hA8; obtain ⟨a8, c8', rfl⟩ := hA8.shape; have B8 := (B1'.kept (by omega) hkk (c' := 2 + k * 5 + 3) (hs6.up (by omega))).drawn (by omega) hi8 ht8 (c' := 2 + k * 5 + 4) hs8; have gc7 := B8.blk.cell 2 rfl; have gf7 := B8.blk.fr 2)
            | (go_simp; go_wp2_with (go_at_call 23; refine (pick_t 5 hs6 (by omega) (by omega)).mono ?_; rintro e w9 ⟨x9, rfl, -, -, hs6, hk9⟩; replace hkk := hkk.trans hk9; have gc6 : w9.cell? ⟨w.heap.size + 1, 2, none⟩ = some (.slice aA k cA) := (B1'.blk.kept hkk (by omega)).cell 2 rfl; have gc8 := fun o => (Ext.alloc w9 o).cell gc6)))
          all_goals
            have B9 := (B0'.kept (by omega) hkk (c' := 2 + k * 5 + 3) (hs6.up (by omega))).drawn (by omega) hi8 ht8 (c' := 2 + k * 5 + 4) hs8
            have hN8 := (hN'.tr' (Inc.refl _ _) (Tr.kept B1'.st hkk)).tr' hi8 ht8
            have o8 := B8.out
            go_wp2_with fail
            exact ⟨⟨k + 1, D8, _, _, by omega, by go_num, (B9.other (b' := w.heap.size + 1) (by omega) hd (by omega) (by omega) o8 2 _).up (by omega), (B8.set (by omega) hd (by omega) 2 _).up (by omega), hN8.tr (fun _ h => h) (Shp.box o8), hA8.tr (fun _ h => h) (Shp.box o8)⟩, by simp [intOf]; omega⟩
    · obtain rfl : k = 12 := by omega
      have gc0 := B1.blk.cell 0 rfl; have gf0 := B1.blk.fr 0; have gc1 := B1.blk.cell 1 rfl; have gf1 := B1.blk.fr 1; have gc2 := B1.blk.cell 2 rfl; have gf2 := B1.blk.fr 2
      have rc0 := B0.blk.cell 0 rfl; have rf0 := B0.blk.fr 0; have rc1 := B0.blk.cell 1 rfl; have rf1 := B0.blk.fr 1; have rc2 := B0.blk.cell 2 rfl; have rf2 := B0.blk.fr 2
      go_wp2_with fail
      refine bodyPost_ret (v := .agg #[.int .i64 3, .slice aN 12 cN, .slice aA 12 cA]) (by simp [results, Tryz.results70, go_sem, rc0, rc1, rc2, rf0, rf1, rf2]) rfl ?_
      have B5 := ((B0.set hg hd (Nat.le_refl _) 0 (.int .i64 3)).set hg hd (Nat.le_refl _) 1 (.slice aN 12 cN)).set hg hd (Nat.le_refl _) 2 (.slice aA 12 cA)
      exact ⟨_, D1, rfl, B5.inc, B5.st.up (by omega), B5.tr, 3, _, _, 12, 12, rfl, by omega, by omega, (((hN.tr (fun _ h => h) (Shp.box B0.out)).tr (fun _ h => h) (Shp.box B0.out)).tr (fun _ h => h) (Shp.box B0.out)), (((hA.tr (fun _ h => h) (Shp.box B0.out)).tr (fun _ h => h) (Shp.box B0.out)).tr (fun _ h => h) (Shp.box B0.out))⟩
end Go.Proofs.YtanekmfifmkbmaaGreatDoor

namespace Go.Proofs.YtanekmfifmkbmaaGreatDoor
set_option linter.unusedSimpArgs false
set_option linter.unusedVariables false
open Go.RowKit
set_option maxHeartbeats 1000000
set_option maxRecDepth 100000
attribute [local go_sem ↓] Go.wp_at_zero Go.wp_at_succ

variable {D D' D'' : Nat → Prop} {g q q' : Nat} {w w' : World}

theorem Box.other3 {b b' c : Nat} {cs : Array Value} {t : TypeId} {w0 : World} (h : Box D g q w0 b c cs t w D') (hg : g < b') (hd : ∀ x, D x → x < w0.heap.size) (hb : w0.heap.size ≤ b') (hn : b ≠ b') (ho : ¬ D' b') (u v x : Value) :
    Box D g q w0 b c cs t (((w.setCell ⟨b', 0, none⟩ u).setCell ⟨b', 1, none⟩ v).setCell ⟨b', 2, none⟩ x) D' :=
  ((h.other hg hd hb hn ho 0 u).other hg hd hb hn ho 1 v).other hg hd hb hn ho 2 x
theorem Box.set3 {b c : Nat} {p r s : Value} {t : TypeId} {w0 : World} (h : Box D g q w0 b c #[p, r, s] t w D') (hg : g < b) (hd : ∀ x, D x → x < w0.heap.size) (hb : w0.heap.size ≤ b) (u v x : Value) :
    Box D g q w0 b c #[u, v, x] t (((w.setCell ⟨b, 0, none⟩ u).setCell ⟨b, 1, none⟩ v).setCell ⟨b, 2, none⟩ x) D' :=
  ((h.set hg hd hb 0 u).set hg hd hb 1 v).set hg hd hb 2 x
theorem SlOk.box3 {e : TypeId} {sz n b : Nat} {y : Value} (h : SlOk D w e sz y n) (ho : ¬ D b) (u v x : Value) : SlOk D (((w.setCell ⟨b, 0, none⟩ u).setCell ⟨b, 1, none⟩ v).setCell ⟨b, 2, none⟩ x) e sz y n :=
  ((h.tr (fun _ h => h) (Shp.box ho)).tr (fun _ h => h) (Shp.box ho)).tr (fun _ h => h) (Shp.box ho)
theorem six_of {G5 G6 : Nat} {x1 x2 x3 y1 y2 y3 : Value} {t1 t2 : TypeId} (h5 : Blk w G5 #[x1, x2, x3] t1) (h6 : Blk w G6 #[y1, y2, y3] t2) :
    w.cell? ⟨G5, 0, none⟩ = some x1 ∧ w.cell? ⟨G5, 1, none⟩ = some x2 ∧ w.cell? ⟨G5, 2, none⟩ = some x3 ∧ w.cell? ⟨G6, 0, none⟩ = some y1 ∧ w.cell? ⟨G6, 1, none⟩ = some y2 ∧ w.cell? ⟨G6, 2, none⟩ = some y3 :=
  ⟨h5.cell 0 rfl, h5.cell 1 rfl, h5.cell 2 rfl, h6.cell 0 rfl, h6.cell 1 rfl, h6.cell 2 rfl⟩
theorem Typed.tnd {S : Nat → Prop} (h : Typed D q w) (ht : Tnd S w w') (hS : ∀ b, S b → ¬ D b) : Typed D q w' := fun b hb => by
  obtain ⟨cs, t, h1, h2⟩ := h b hb
  have hsh : Shp D w w' := Shp.tnd ht fun b hb hs => hS b hs hb
  exact ⟨cs, t, by rw [ht.block b (Array.getElem?_eq_some_iff.1 h1).1 (fun hs => hS b hs hb)]; exact h1, fun i v hv => let ⟨k, h3, h4⟩ := h2 i v hv; ⟨k, h3, h4.tr (fun _ h => h) hsh (Nat.le_refl _)⟩⟩
def Drew (Q : Nat) (w : World) (Φ : (Nat → Prop) → Nat → World → Value → Prop) (e : Ending) (w' : World) : Prop :=
  ∃ v D, e = .returned v ∧ Ext w w' ∧ (∀ b, D b → w.heap.size ≤ b) ∧ Typed D Q w' ∧ Φ D Q w' v
theorem Tnd.set3 {S : Nat → Prop} {b : Nat} (hS : S b) (u v x : Value) : Tnd S w (((w.setCell ⟨b, 0, none⟩ u).setCell ⟨b, 1, none⟩ v).setCell ⟨b, 2, none⟩ x) :=
  (((Kept.set w b 0 u).trans (Kept.set _ b 1 v)).trans (Kept.set _ b 2 x)).imp fun c hc => by subst hc; exact hS

structure Bare (D : Nat → Prop) (g q : Nat) (w0 : World) (c : Nat) (w : World) (D' : Nat → Prop) : Prop where
  inc : Inc D D' w0
  st : St D' g (q + c) w
  tr : Tr D g w0 w
theorem Bare.new (h : St D g q w) : Bare D g q w 0 w D := ⟨Inc.refl _ _, h, Tr.refl _ _ _⟩
theorem Bare.drawn {c c' : Nat} {w0 : World} (h : Bare D g q w0 c w D') (hi : Inc D' D'' w) (hk : Tr D' g w w') (hs : St D'' g (q + c') w') : Bare D g q w0 c' w' D'' := ⟨h.inc.trans h.tr.size hi, hs, h.tr.trans h.inc hk⟩
theorem Bare.box {c : Nat} {w0 : World} (h : Bare D g q w0 c w D') (cs : Array Value) (t : TypeId) : Box D g q w0 w.heap.size c cs t (w.alloc (.cells cs t)) D' :=
  ⟨h.inc, h.st.ext (Ext.alloc _ _), h.tr.trans h.inc (Tr.ext h.st (Ext.alloc _ _)), Blk.new _ _ _, h.st.out (Nat.le_refl _)⟩
theorem Box.bare {b c : Nat} {cs : Array Value} {t : TypeId} {w0 : World} (h : Box D g q w0 b c cs t w D') : Bare D g q w0 c w D' := ⟨h.inc, h.st, h.tr⟩

def TwoT (D : Nat → Prop) (q : Nat) (w : World) (v : Value) : Prop := ∃ s p, v = .tuple #[s, p] ∧ SysT D q w s ∧ AutoT D q w p

def L8 (D : Nat → Prop) (g q : Nat) (w : World) (G4 G5 c : Nat) (wc : World) : Prop :=
  ∃ (D' : Nat → Prop) (al1 st1 : Int) (n1 : Nat) (a1 : Option Addr) (c1 : Nat) (al2 : Int) (n2 m2 : Nat) (aN : Option Addr) (cN : Nat) (aA : Option Addr) (cA : Nat),
    Box D g q w w.heap.size c #[.int .i64 0, .int .i64 0, .slice none 0 0] 25 wc D' ∧ Box D g q w (w.heap.size + 1) c #[.int .i64 0, .slice none 0 0, .slice none 0 0] 31 wc D' ∧
    Box D g q w G4 c #[.int .i64 al1, .int .i64 st1, .slice a1 n1 c1] 25 wc D' ∧ Box D g q w G5 c #[.int .i64 al2, .slice aN n2 cN, .slice aA m2 cA] 31 wc D' ∧
    SlOk D' wc 87 3 (.slice a1 n1 c1) n1 ∧ SlOk D' wc 80 1 (.slice aN n2 cN) n2 ∧ SlOk D' wc 4 1 (.slice aA m2 cA) m2 ∧ n1 ≤ q + c ∧ n2 ≤ q + c ∧ m2 ≤ q + c

theorem l8Draw_t (h : St D g q w) (hq : q + 5400 ≤ 1000000) :
    Calls Tryz.prog 28 #[.pointer (some ⟨g, 0, none⟩)] w (Drawn D g q 5400 w TwoT) := by
  have hg := h.g_lt
  have hd := fun x hx => (h.dom x hx).2
  obtain ⟨wo, hwo⟩ : ∃ wo, wo = (w.alloc (.cells #[.int .i64 0, .int .i64 0, .slice none 0 0] 25)).alloc (.cells #[.int .i64 0, .slice none 0 0, .slice none 0 0] 31) := ⟨_, rfl⟩
  have he : Ext w wo := by rw [hwo]; exact (Ext.alloc _ _).trans (Ext.alloc _ _)
  have B0 : Box D g q w w.heap.size 0 #[.int .i64 0, .int .i64 0, .slice none 0 0] 25 wo D := ⟨Inc.refl _ _, h.ext he, Tr.ext h he, by rw [hwo]; exact Ext.blk (Ext.alloc _ _), h.out (by omega)⟩
  have B1 : Box D g q w (w.heap.size + 1) 0 #[.int .i64 0, .slice none 0 0, .slice none 0 0] 31 wo D := ⟨Inc.refl _ _, h.ext he, Tr.ext h he, by rw [hwo]; exact Ext.blk1 (Ext.refl _), h.out (by omega)⟩
  have hso : w.heap.size + 2 ≤ wo.heap.size := by rw [hwo]; simp
  go_enter Tryz.func28, Tryz.ntmps28
  go_wp2_with fail
  rw [← hwo]
  clear hwo
  refine (l2Draw_t B0.st (by omega)).mono ?_
  rintro e w1 ⟨v1, D1, rfl, hi1, hs1, ht1, hS1⟩
  obtain ⟨al1, st1, n1, a1, c1, rfl, hn1, hE1⟩ := hS1.boxed
  have B0 := B0.drawn (by omega) hi1 ht1 (c' := 4600) (hs1.up (by omega))
  have B1 := B1.drawn (by omega) hi1 ht1 (c' := 4600) (hs1.up (by omega))
  have hsz := ht1.size
  clear hs1 ht1 hi1 he hS1
  have heB4 := Ext.alloc w1 (.cells #[.int .i64 al1, .int .i64 st1, .slice a1 n1 c1] 25)
  have B4 : Box D g q w w1.heap.size _ #[.int .i64 al1, .int .i64 st1, .slice a1 n1 c1] 25 _ _ := ⟨B0.inc, (B0.ext heB4).st, (B0.ext heB4).tr, Blk.new _ _ _, B0.st.out (Nat.le_refl _)⟩
  have hE1 := hE1.tr' (Inc.refl _ _) (Tr.ext B0.st heB4)
  have B0 := B0.ext heB4
  have B1 := B1.ext heB4
  have gc0 := B4.blk.cell 0 rfl
  go_wp2_with fail
  clear gc0
  generalize w1.alloc (.cells #[.int .i64 al1, .int .i64 st1, .slice a1 n1 c1] 25) = w2 at B0 B1 B4 hE1 ⊢
  generalize w1.heap.size = G4 at B4 hsz ⊢
  refine (l8Property_t _ B0.st (by omega)).mono ?_
  rintro e w3 ⟨v3, D3, rfl, hi3, hs3, ht3, hS3⟩
  obtain ⟨al2, n2, m2, aN, cN, aA, cA, rfl, hn2, hm2, hN, hA⟩ := hS3.boxed
  have hsz3 : G4 < w3.heap.size := Nat.lt_of_lt_of_le B4.blk.lt ht3.size
  have hE1 := hE1.tr' hi3 ht3
  have B0 := B0.drawn (by omega) hi3 ht3 (c' := 5000) (hs3.up (by omega))
  have B1 := B1.drawn (by omega) hi3 ht3 (c' := 5000) (hs3.up (by omega))
  have B4 := B4.drawn (by omega) hi3 ht3 (c' := 5000) (hs3.up (by omega))
  clear hs3 ht3 hi3 hS3
  have heB5 := Ext.alloc w3 (.cells #[.int .i64 al2, .slice aN n2 cN, .slice aA m2 cA] 31)
  have B5 : Box D g q w w3.heap.size _ #[.int .i64 al2, .slice aN n2 cN, .slice aA m2 cA] 31 _ _ := ⟨B0.inc, (B0.ext heB5).st, (B0.ext heB5).tr, Blk.new _ _ _, B0.st.out (Nat.le_refl _)⟩
  have hE1 := hE1.tr' (Inc.refl _ _) (Tr.ext B0.st heB5)
  have hN := hN.tr' (Inc.refl _ _) (Tr.ext B0.st heB5)
  have hA := hA.tr' (Inc.refl _ _) (Tr.ext B0.st heB5)
  have B0 := B0.ext heB5
  have B1 := B1.ext heB5
  have B4 := B4.ext heB5
  go_wp2_with fail
  generalize w3.alloc (.cells #[.int .i64 al2, .slice aN n2 cN, .slice aA m2 cA] 31) = w4 at B0 B1 B4 B5 hE1 hN hA ⊢
  generalize w3.heap.size = G5 at B5 hsz3 ⊢
  refine (pick_t 20 B0.st (by omega) (by omega)).mono ?_
  rintro e w5 ⟨x, rfl, -, -, hs5, hk5⟩
  have hE1 := hE1.tr' (Inc.refl _ _) (Tr.kept B0.st hk5)
  have hN := hN.tr' (Inc.refl _ _) (Tr.kept B0.st hk5)
  have hA := hA.tr' (Inc.refl _ _) (Tr.kept B0.st hk5)
  have B0 := B0.kept (by omega) hk5 (c' := 5001) (hs5.up (by omega))
  have B1 := B1.kept (by omega) hk5 (c' := 5001) (hs5.up (by omega))
  have B4 := B4.kept (by omega) hk5 (c' := 5001) (hs5.up (by omega))
  have B5 := B5.kept (by omega) hk5 (c' := 5001) (hs5.up (by omega))
  clear hs5 hk5
  go_upto_block 0 with fail
  go_cut [] (fun wc => L8 D g q w G4 G5 5300 wc)
  case first =>
    have hx : x = 0 ∨ x = 1 ∨ x = 2 ∨ x = 3 ∨ 3 < x := by omega
    rcases hx with rfl | rfl | rfl | rfl | hx
    · have gc0 := B4.blk.cell 0 rfl; have gf0 := B4.blk.fr 0; have gc1 := B4.blk.cell 1 rfl; have gf1 := B4.blk.fr 1; have gc2 := B4.blk.cell 2 rfl; have gf2 := B4.blk.fr 2
      go_wp2_with fail
      refine (l2Wrong_t _ ⟨_, _, _, n1, rfl, by omega, hE1⟩ B0.st (by omega)).mono ?_
      rintro e u1 ⟨v1, D1, rfl, hi1, hs1, ht1, hS1⟩
      have hE1 := hE1.tr' hi1 ht1
      have hN := hN.tr' hi1 ht1
      have hA := hA.tr' hi1 ht1
      have B0 := B0.drawn (by omega) hi1 ht1 (c' := 5011) (hs1.up (by omega))
      have B1 := B1.drawn (by omega) hi1 ht1 (c' := 5011) (hs1.up (by omega))
      have B4 := B4.drawn (by omega) hi1 ht1 (c' := 5011) (hs1.up (by omega))
      have B5 := B5.drawn (by omega) hi1 ht1 (c' := 5011) (hs1.up (by omega))
      go_wp2_with fail
      refine (l2Wrong_t _ (hS1.tr (fun _ h => h) (Shp.refl _ _) (by omega)) B0.st (by omega)).mono ?_
      rintro e u2 ⟨v2, D2, rfl, hi2, hs2, ht2, hS2⟩
      have hE1 := hE1.tr' hi2 ht2
      have hN := hN.tr' hi2 ht2
      have hA := hA.tr' hi2 ht2
      have B0 := B0.drawn (by omega) hi2 ht2 (c' := 5021) (hs2.up (by omega))
      have B1 := B1.drawn (by omega) hi2 ht2 (c' := 5021) (hs2.up (by omega))
      have B4 := B4.drawn (by omega) hi2 ht2 (c' := 5021) (hs2.up (by omega))
      have B5 := B5.drawn (by omega) hi2 ht2 (c' := 5021) (hs2.up (by omega))
      go_wp2_with fail
      refine (l2Wrong_t _ (hS2.tr (fun _ h => h) (Shp.refl _ _) (by omega)) B0.st (by omega)).mono ?_
      rintro e u3 ⟨v3, D3, rfl, hi3, hs3, ht3, hS3⟩
      have hE1 := hE1.tr' hi3 ht3
      have hN := hN.tr' hi3 ht3
      have hA := hA.tr' hi3 ht3
      have B0 := B0.drawn (by omega) hi3 ht3 (c' := 5300) (hs3.up (by omega))
      have B1 := B1.drawn (by omega) hi3 ht3 (c' := 5300) (hs3.up (by omega))
      have B4 := B4.drawn (by omega) hi3 ht3 (c' := 5300) (hs3.up (by omega))
      have B5 := B5.drawn (by omega) hi3 ht3 (c' := 5300) (hs3.up (by omega))
      obtain ⟨al3, st3, n3, a3, c3, rfl, hn3, hE3⟩ := hS3.boxed
      clear gc0 gc1 gc2 gf0 gf1 gf2
      have gc0 := B4.blk.cell 0 rfl; have gf0 := B4.blk.fr 0; have gc1 := B4.blk.cell 1 rfl; have gf1 := B4.blk.fr 1; have gc2 := B4.blk.cell 2 rfl; have gf2 := B4.blk.fr 2
      go_wp2_with fail
      have o := B4.out
      go_meet
      case rel => exact ⟨_, _, _, _, _, _, _, _, _, _, _, _, _, B0.other3 (by omega) hd (by omega) (by omega) o _ _ _, B1.other3 (by omega) hd (by omega) (by omega) o _ _ _, B4.set3 (by omega) hd (by omega) _ _ _, B5.other3 (by omega) hd (by omega) (by omega) o _ _ _, hE3.box3 o _ _ _, hN.box3 o _ _ _, hA.box3 o _ _ _, by omega, by omega, by omega⟩
    · have gc0 := B5.blk.cell 0 rfl; have gf0 := B5.blk.fr 0; have gc1 := B5.blk.cell 1 rfl; have gf1 := B5.blk.fr 1; have gc2 := B5.blk.cell 2 rfl; have gf2 := B5.blk.fr 2
      go_wp2_with fail
      refine (l3Wrong_t _ ⟨_, _, _, n2, m2, rfl, by omega, by omega, hN, hA⟩ B0.st (by omega)).mono ?_
      rintro e u1 ⟨v1, D1, rfl, hi1, hs1, ht1, hS1⟩
      have hE1 := hE1.tr' hi1 ht1
      have hN := hN.tr' hi1 ht1
      have hA := hA.tr' hi1 ht1
      have B0 := B0.drawn (by omega) hi1 ht1 (c' := 5051) (hs1.up (by omega))
      have B1 := B1.drawn (by omega) hi1 ht1 (c' := 5051) (hs1.up (by omega))
      have B4 := B4.drawn (by omega) hi1 ht1 (c' := 5051) (hs1.up (by omega))
      have B5 := B5.drawn (by omega) hi1 ht1 (c' := 5051) (hs1.up (by omega))
      go_wp2_with fail
      refine (l3Wrong_t _ (hS1.tr (fun _ h => h) (Shp.refl _ _) (by omega)) B0.st (by omega)).mono ?_
      rintro e u2 ⟨v2, D2, rfl, hi2, hs2, ht2, hS2⟩
      have hE1 := hE1.tr' hi2 ht2
      have hN := hN.tr' hi2 ht2
      have hA := hA.tr' hi2 ht2
      have B0 := B0.drawn (by omega) hi2 ht2 (c' := 5101) (hs2.up (by omega))
      have B1 := B1.drawn (by omega) hi2 ht2 (c' := 5101) (hs2.up (by omega))
      have B4 := B4.drawn (by omega) hi2 ht2 (c' := 5101) (hs2.up (by omega))
      have B5 := B5.drawn (by omega) hi2 ht2 (c' := 5101) (hs2.up (by omega))
      go_wp2_with fail
      refine (l3Wrong_t _ (hS2.tr (fun _ h => h) (Shp.refl _ _) (by omega)) B0.st (by omega)).mono ?_
      rintro e u3 ⟨v3, D3, rfl, hi3, hs3, ht3, hS3⟩
      have hE1 := hE1.tr' hi3 ht3
      have hN := hN.tr' hi3 ht3
      have hA := hA.tr' hi3 ht3
      have B0 := B0.drawn (by omega) hi3 ht3 (c' := 5300) (hs3.up (by omega))
      have B1 := B1.drawn (by omega) hi3 ht3 (c' := 5300) (hs3.up (by omega))
      have B4 := B4.drawn (by omega) hi3 ht3 (c' := 5300) (hs3.up (by omega))
      have B5 := B5.drawn (by omega) hi3 ht3 (c' := 5300) (hs3.up (by omega))
      obtain ⟨al3, n3, m3, aN3, cN3, aA3, cA3, rfl, hn3, hm3, hN3, hA3⟩ := hS3.boxed
      clear gc0 gc1 gc2 gf0 gf1 gf2
      have gc0 := B5.blk.cell 0 rfl; have gf0 := B5.blk.fr 0; have gc1 := B5.blk.cell 1 rfl; have gf1 := B5.blk.fr 1; have gc2 := B5.blk.cell 2 rfl; have gf2 := B5.blk.fr 2
      go_wp2_with fail
      have o := B5.out
      go_meet
      case rel => exact ⟨_, _, _, _, _, _, _, _, _, _, _, _, _, B0.other3 (by omega) hd (by omega) (by omega) o _ _ _, B1.other3 (by omega) hd (by omega) (by omega) o _ _ _, B4.other3 (by omega) hd (by omega) (by omega) o _ _ _, B5.set3 (by omega) hd (by omega) _ _ _, hE1.box3 o _ _ _, hN3.box3 o _ _ _, hA3.box3 o _ _ _, by omega, by omega, by omega⟩
    · go_wp2_with fail
      refine (l2Big_t B0.st (by omega)).mono ?_
      rintro e u3 ⟨v3, D3, rfl, hi3, hs3, ht3, hS3⟩
      have hE1 := hE1.tr' hi3 ht3
      have hN := hN.tr' hi3 ht3
      have hA := hA.tr' hi3 ht3
      have B0 := B0.drawn (by omega) hi3 ht3 (c' := 5300) (hs3.up (by omega))
      have B1 := B1.drawn (by omega) hi3 ht3 (c' := 5300) (hs3.up (by omega))
      have B4 := B4.drawn (by omega) hi3 ht3 (c' := 5300) (hs3.up (by omega))
      have B5 := B5.drawn (by omega) hi3 ht3 (c' := 5300) (hs3.up (by omega))
      obtain ⟨al3, st3, n3, a3, c3, rfl, hn3, hE3⟩ := hS3.boxed
      have gc0 := B4.blk.cell 0 rfl; have gf0 := B4.blk.fr 0; have gc1 := B4.blk.cell 1 rfl; have gf1 := B4.blk.fr 1; have gc2 := B4.blk.cell 2 rfl; have gf2 := B4.blk.fr 2
      go_wp2_with fail
      have o := B4.out
      go_meet
      case rel => exact ⟨_, _, _, _, _, _, _, _, _, _, _, _, _, B0.other3 (by omega) hd (by omega) (by omega) o _ _ _, B1.other3 (by omega) hd (by omega) (by omega) o _ _ _, B4.set3 (by omega) hd (by omega) _ _ _, B5.other3 (by omega) hd (by omega) (by omega) o _ _ _, hE3.box3 o _ _ _, hN.box3 o _ _ _, hA.box3 o _ _ _, by omega, by omega, by omega⟩
    · go_wp2_with fail
      refine (l3Big_t B0.st (by omega)).mono ?_
      rintro e u3 ⟨v3, D3, rfl, hi3, hs3, ht3, hS3⟩
      have hE1 := hE1.tr' hi3 ht3
      have hN := hN.tr' hi3 ht3
      have hA := hA.tr' hi3 ht3
      have B0 := B0.drawn (by omega) hi3 ht3 (c' := 5300) (hs3.up (by omega))
      have B1 := B1.drawn (by omega) hi3 ht3 (c' := 5300) (hs3.up (by omega))
      have B4 := B4.drawn (by omega) hi3 ht3 (c' := 5300) (hs3.up (by omega))
      have B5 := B5.drawn (by omega) hi3 ht3 (c' := 5300) (hs3.up (by omega))
      obtain ⟨al3, n3, m3, aN3, cN3, aA3, cA3, rfl, hn3, hm3, hN3, hA3⟩ := hS3.boxed
      have gc0 := B5.blk.cell 0 rfl; have gf0 := B5.blk.fr 0; have gc1 := B5.blk.cell 1 rfl; have gf1 := B5.blk.fr 1; have gc2 := B5.blk.cell 2 rfl; have gf2 := B5.blk.fr 2
      go_wp2_with fail
      have o := B5.out
      go_meet
      case rel => exact ⟨_, _, _, _, _, _, _, _, _, _, _, _, _, B0.other3 (by omega) hd (by omega) (by omega) o _ _ _, B1.other3 (by omega) hd (by omega) (by omega) o _ _ _, B4.other3 (by omega) hd (by omega) (by omega) o _ _ _, B5.set3 (by omega) hd (by omega) _ _ _, hE1.box3 o _ _ _, hN3.box3 o _ _ _, hA3.box3 o _ _ _, by omega, by omega, by omega⟩
    · have g0 : ((x : Int) == 0) = false := beq_eq_false_iff_ne.2 (by omega)
      have g1 : ((x : Int) == 1) = false := beq_eq_false_iff_ne.2 (by omega)
      have g2 : ((x : Int) == 2) = false := beq_eq_false_iff_ne.2 (by omega)
      have g3 : ((x : Int) == 3) = false := beq_eq_false_iff_ne.2 (by omega)
      go_wp2_with fail
      go_meet
      case rel => exact ⟨_, _, _, _, _, _, _, _, _, _, _, _, _, B0.up (by omega), B1.up (by omega), B4.up (by omega), B5.up (by omega), hE1, hN, hA, by omega, by omega, by omega⟩
  case rest =>
  clear B0 B1 B4 B5 hE1 hN hA
  obtain ⟨D8, al1, st1, n1, a1, c1, al2, n2, m2, aN, cN, aA, cA, B0, B1, B4, B5, hE1, hN, hA, hn1, hn2, hm2⟩ := hcut
  go_wp2_with fail
  have o0 := B0.out
  have o1 := B1.out
  have xc0 := B0.blk.cell 0 rfl; have xf0 := B0.blk.fr 0; have xc1 := B0.blk.cell 1 rfl; have xf1 := B0.blk.fr 1; have xc2 := B0.blk.cell 2 rfl; have xf2 := B0.blk.fr 2
  have yc0 := B1.blk.cell 0 rfl; have yf0 := B1.blk.fr 0; have yc1 := B1.blk.cell 1 rfl; have yf1 := B1.blk.fr 1; have yc2 := B1.blk.cell 2 rfl; have yf2 := B1.blk.fr 2
  go_region_held3 (fun v => v.cell? ⟨G4, 0, none⟩ = some (.int .i64 al1) ∧ v.cell? ⟨G4, 1, none⟩ = some (.int .i64 st1) ∧ v.cell? ⟨G4, 2, none⟩ = some (.slice a1 n1 c1) ∧ v.cell? ⟨G5, 0, none⟩ = some (.int .i64 al2) ∧ v.cell? ⟨G5, 1, none⟩ = some (.slice aN n2 cN) ∧ v.cell? ⟨G5, 2, none⟩ = some (.slice aA m2 cA))
    (first
      | with_reducible exact six_of ((B4).ext (Ext.drew _)).blk ((B5).ext (Ext.drew _)).blk
      | with_reducible exact six_of (((B4.other3 (b' := w.heap.size) (by omega) hd (by omega) (by omega) o0 (.int .i64 al1) (.int .i64 st1) (.slice a1 n1 c1))).ext (Ext.drew _)).blk (((B5.other3 (b' := w.heap.size) (by omega) hd (by omega) (by omega) o0 (.int .i64 al1) (.int .i64 st1) (.slice a1 n1 c1))).ext (Ext.drew _)).blk
      | with_reducible exact six_of ((((B4.other3 (b' := w.heap.size) (by omega) hd (by omega) (by omega) o0 (.int .i64 al1) (.int .i64 st1) (.slice a1 n1 c1)).other3 (b' := w.heap.size + 1) (by omega) hd (by omega) (by omega) o1 (.int .i64 al2) (.slice aN n2 cN) (.slice aA m2 cA))).ext (Ext.drew _)).blk ((((B5.other3 (b' := w.heap.size) (by omega) hd (by omega) (by omega) o0 (.int .i64 al1) (.int .i64 st1) (.slice a1 n1 c1)).other3 (b' := w.heap.size + 1) (by omega) hd (by omega) (by omega) o1 (.int .i64 al2) (.slice aN n2 cN) (.slice aA m2 cA))).ext (Ext.drew _)).blk)
    (fail)
  have Y0 := ((B0.set3 (by omega) hd (by omega) (.int .i64 al1) (.int .i64 st1) (.slice a1 n1 c1)).other3 (b' := w.heap.size + 1) (by omega) hd (by omega) (by omega) o1 (.int .i64 al2) (.slice aN n2 cN) (.slice aA m2 cA))
  have Z0 := Y0.ext (Ext.drew _)
  have Z1 := ((B1.other3 (b' := w.heap.size) (by omega) hd (by omega) (by omega) o0 (.int .i64 al1) (.int .i64 st1) (.slice a1 n1 c1)).set3 (by omega) hd (by omega) (.int .i64 al2) (.slice aN n2 cN) (.slice aA m2 cA)).ext (Ext.drew _)
  have S1 := ((hE1.box3 o0 (.int .i64 al1) (.int .i64 st1) (.slice a1 n1 c1)).box3 o1 (.int .i64 al2) (.slice aN n2 cN) (.slice aA m2 cA)).tr' (Inc.refl _ _) (Tr.ext Y0.st (Ext.drew _))
  have SN := ((hN.box3 o0 (.int .i64 al1) (.int .i64 st1) (.slice a1 n1 c1)).box3 o1 (.int .i64 al2) (.slice aN n2 cN) (.slice aA m2 cA)).tr' (Inc.refl _ _) (Tr.ext Y0.st (Ext.drew _))
  have SB := ((hA.box3 o0 (.int .i64 al1) (.int .i64 st1) (.slice a1 n1 c1)).box3 o1 (.int .i64 al2) (.slice aN n2 cN) (.slice aA m2 cA)).tr' (Inc.refl _ _) (Tr.ext Y0.st (Ext.drew _))
  clear B0 B1 B4 B5 hE1 hN hA Y0 xc0 xc1 xc2 yc0 yc1 yc2 xf0 xf1 xf2 yf0 yf1 yf2
  generalize ((((((wc.setCell ⟨w.heap.size, 0, none⟩ (.int .i64 al1)).setCell ⟨w.heap.size, 1, none⟩ (.int .i64 st1)).setCell ⟨w.heap.size, 2, none⟩ (.slice a1 n1 c1)).setCell ⟨w.heap.size + 1, 0, none⟩ (.int .i64 al2)).setCell ⟨w.heap.size + 1, 1, none⟩ (.slice aN n2 cN)).setCell ⟨w.heap.size + 1, 2, none⟩ (.slice aA m2 cA)).drew = wz at Z0 Z1 S1 SN SB ⊢
  have xc0 := Z0.blk.cell 0 rfl; have xf0 := Z0.blk.fr 0; have xc1 := Z0.blk.cell 1 rfl; have xf1 := Z0.blk.fr 1; have xc2 := Z0.blk.cell 2 rfl; have xf2 := Z0.blk.fr 2
  have yc0 := Z1.blk.cell 0 rfl; have yf0 := Z1.blk.fr 0; have yc1 := Z1.blk.cell 1 rfl; have yf1 := Z1.blk.fr 1; have yc2 := Z1.blk.cell 2 rfl; have yf2 := Z1.blk.fr 2
  go_wp2_with fail
  refine bodyPost_ret (v := .tuple #[.agg #[.int .i64 al1, .int .i64 st1, .slice a1 n1 c1], .agg #[.int .i64 al2, .slice aN n2 cN, .slice aA m2 cA]]) (by simp [results, Tryz.results28, go_sem, xc0, xc1, xc2, yc0, yc1, yc2, xf0, xf1, xf2, yf0, yf1, yf2]) rfl ?_
  exact ⟨_, D8, rfl, Z0.inc, Z0.st.up (by omega), Z0.tr, _, _, rfl, ⟨_, _, _, n1, rfl, by omega, S1⟩, ⟨_, _, _, _, _, rfl, by omega, by omega, SN, SB⟩⟩
end Go.Proofs.YtanekmfifmkbmaaGreatDoor
