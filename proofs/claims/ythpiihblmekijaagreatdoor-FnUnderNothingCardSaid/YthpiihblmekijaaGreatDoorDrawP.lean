/- Draws, typed: the greatest systems and automata. -/
import Derived.Test.YthpiihblmekijaaGreatDoorDrawD
import Derived.Deep.DeepCutAuto
namespace Go.Proofs.YthpiihblmekijaaGreatDoor
set_option linter.unusedSimpArgs false
set_option linter.unusedVariables false
open Go.RowKit
set_option maxHeartbeats 1000000
set_option maxRecDepth 100000
attribute [local go_sem ↓] Go.wp_at_zero Go.wp_at_succ

variable {D D' : Nat → Prop} {g q q' : Nat} {w w' : World}

/-- The cells of a literal of three. -/
theorem cells3 {wn wd : World} {x y z : Value} {t : TypeId} (h : Ext (wd.alloc (.cells #[x, y, z] t)) wn) : ∀ (j' : Nat) (u : Value), [x, y, z][j']? = some u → wn.cell? ((⟨wd.heap.size, 0, none⟩ : Addr).add j') = some u := fun j' u hu => by
  rw [add_none, Nat.zero_add]
  match j', hu with
  | 0, hu => simp at hu; subst hu; exact h.new 0 rfl
  | 1, hu => simp at hu; subst hu; exact h.new 1 rfl
  | 2, hu => simp at hu; subst hu; exact h.new 2 rfl
  | j' + 3, hu => simp at hu
theorem cells1 {wn wd : World} {x : Value} {t : TypeId} (h : Ext (wd.alloc (.cells #[x] t)) wn) : ∀ (j' : Nat) (u : Value), [x][j']? = some u → wn.cell? ((⟨wd.heap.size, 0, none⟩ : Addr).add j') = some u := fun j' u hu => by
  rw [add_none, Nat.zero_add]
  match j', hu with
  | 0, hu => simp at hu; subst hu; exact h.new 0 rfl
  | j' + 1, hu => simp at hu
theorem kin_int2 (x y : Int) : Kin D q w 3 [.int .i64 x, .int .i64 y] := fun i u hu => by
  match i, hu with
  | 0, hu => exact ⟨.int, rfl, x, by simpa using hu.symm⟩
  | 1, hu => exact ⟨.int, rfl, y, by simpa using hu.symm⟩
  | i + 2, hu => simp at hu

theorem l2Big_t (h : St D g q w) (hq : q + 64 ≤ 1000000) :
    Calls Tryz.prog 84 #[.pointer (some ⟨g, 0, none⟩)] w (Drawn D g q 64 w SysT) := by
  have hg := h.g_lt
  have hd := fun x hx => (h.dom x hx).2
  have B0 := Box.new h #[.int .i64 0, .int .i64 0, .slice none 0 0] 25
  have B0 := B0.ext (Ext.alloc _ (.cells #[.int .i64 3, .int .i64 16, .slice none 0 0] 25))
  have B1 : Box D g q w (w.heap.size + 1) 0 #[.int .i64 3, .int .i64 16, .slice none 0 0] 25 _ D := ⟨B0.inc, B0.st, B0.tr, Ext.blk1 (Ext.refl _), h.out (by omega)⟩
  go_enter Tryz.func84, Tryz.ntmps84
  go_wp2_with fail
  generalize (w.alloc (.cells #[.int .i64 0, .int .i64 0, .slice none 0 0] 25)).alloc (.cells #[.int .i64 3, .int .i64 16, .slice none 0 0] 25) = w1 at B0 B1 ⊢
  go_loopw [4] (fun i wr => ∃ (k n : Nat) (D' : Nat → Prop) (vE : Value), k ≤ 16 ∧ n ≤ 2 * k ∧ i = .int .i64 k ∧ Box D g q w w.heap.size (k * 4) #[.int .i64 0, .int .i64 0, .slice none 0 0] 25 wr D' ∧ Box D g q w (w.heap.size + 1) (k * 4) #[.int .i64 3, .int .i64 16, vE] 25 wr D' ∧ SlOk D' wr 62 3 vE n) (fun i _ => 16 - (intOf i).toNat)
  case atStart => exact ⟨0, 0, D, _, by omega, by omega, rfl, B0.up (by omega), B1.up (by omega), SlOk.nil⟩
  case round =>
    clear B0 B1
    obtain ⟨k, n, D1, vE, hk, hn, rfl, B0, B1, hE⟩ := hrel
    have gc1 := B1.blk.cell 1 rfl
    by_cases hlt : k < 16
    · obtain ⟨aE, cE, rfl⟩ := hE.shape
      go_wp2_with fail
      have D0 := fun d os => cell_regrown (B1.blk.cell 2 rfl) d os
      have D2 := fun d os => cell_regrown (B1.blk.cell 1 rfl) d os
      obtain ⟨Kc, HKc⟩ : ∃ Kc : FuncId → Array Value → World → Value → World → Prop, Hid (Kc = fun _ _ _ _ _ => True) := ⟨_, rfl⟩
      refine wp_region_ext (Kc := Kc) 10 (by kernel_rfl) (by kernel_rfl) ?_
      simp only [List.take_succ_cons, List.take_zero]
      repeat (refine WalkE.pure rfl (fun K hK => ?_); simp only [PureDo]; go_simp; refine hK _ ?_; clear hK K)
      refine WalkE.step (fun K hK wd hwd hdd => ?_)
      simp only [OpDo, OpSafe, OpOut]
      go_simp
      refine ⟨Ext.alloc _ _, hK _ _ ?_⟩
      clear hK K hdd
      refine WalkE.nil (fun wn hwn hmn => ?_)
      simp only [List.drop_succ_cons, List.drop_zero, List.drop_nil]
      have hcell := cells3 (hmn 9 (by omega))
      have hx := (Ext.drew wr).trans hwn
      have hE := hE.tr' (Inc.refl _ _) (Tr.ext B1.st hx)
      have B0 := B0.ext hx
      have B1 := B1.ext hx
      clear hmn HKc D0 D2 hwn hwd hx gc1
      generalize wd.heap.size = r at hcell ⊢
      clear wd
      go_wp2_with (at_builtin; refine app_t (news := _) (q' := q + (k * 4 + 1)) rfl _ _ _ rfl Tryz.underlying23 infoEdge rfl (by decide) per_edge zk_edge B1.st hE rfl rfl (by simp) hcell (by simp [Value.oneCell']) (kin_edge _ _ _) (by omega) (by decide) (by omega) ?_; intro v1 w3 D3 hi3 hs3 ht3 hE3; obtain ⟨a3, c3, rfl⟩ := hE3.shape; have B0 := B0.drawn hg hi3 ht3 (c' := k * 4 + 1) hs3; have B1 := B1.drawn (by omega) hi3 ht3 (c' := k * 4 + 1) hs3; have gc2 := B1.blk.cell 2 rfl; have gf2 := B1.blk.fr 2)
      have o1 := B1.out
      have B0 := B0.other (b' := w.heap.size + 1) (by omega) hd (by omega) (by omega) o1 2 (.slice a3 (n + 1) c3)
      have B1 := B1.set (by omega) hd (by omega) 2 (.slice a3 (n + 1) c3)
      have hE := hE3.tr (fun _ h => h) (Shp.box (j := 2) (u := .slice a3 (n + 1) c3) o1)
      clear hE3 hi3 hs3 ht3 gc2 gf2
      generalize w3.setCell ⟨w.heap.size + 1, 2, none⟩ (.slice a3 (n + 1) c3) = w4 at B0 B1 hE ⊢
      refine (pick_t 3 B0.st (by omega) (by omega)).mono ?_
      rintro e w5 ⟨x, rfl, -, -, hs5, hk5⟩
      have hE := hE.tr' (Inc.refl _ _) (Tr.kept B1.st hk5)
      have B0 := B0.kept (by omega) hk5 (c' := k * 4 + 2) hs5
      have B1 := B1.kept (by omega) hk5 (c' := k * 4 + 2) hs5
      clear hs5 hk5
      by_cases hx : x = 0
      · subst hx
        have gc1 := B1.blk.cell 1 rfl
        have gc2 : w5.cell? ⟨w.heap.size + 1, 2, none⟩ = some (.slice a3 (n + 1) c3) := B1.blk.cell 2 rfl
        go_wp2_with fail
        have B1' := B1.ext (Ext.drew _)
        have B0' := B0.ext (Ext.drew _)
        have hE' := hE.tr' (Inc.refl _ _) (Tr.ext B1.st (Ext.drew _))
        have hs6 := B1'.st
        have hkk : Kept g w5.drew w5.drew := Tnd.refl _ _
        go_region_law (first
          | (refine step_app1_t (q + (k * 4 + 4)) (by rfl) (by rfl) Tryz.underlying23 infoEdge (by rfl) (by decide) per_edge zk_edge hs6 (hE'.tr' (Inc.refl _ _) (Tr.kept B1'.st hkk)) (by rfl) (by rfl) (by rfl) (by simp [Value.oneCell']) (kin_edge _ _ _) (by omega) (by decide) (by omega) ?_; intro v1 w7 D7 hi7 hs7 ht7 hE7; obtain ⟨a7, c7, rfl⟩ := hE7.shape; have BG7 := (B1'.kept (by omega) hkk (c' := k * 4 + 3) (hs6.up (by omega))).drawn (by omega) hi7 ht7 (c' := k * 4 + 4) hs7; have gc7 := BG7.blk.cell 2 rfl; have gf7 := BG7.blk.fr 2)
          | (go_simp; go_wp2_with (go_at_call 40; refine (pick_t _ hs6 (by omega) (by omega)).mono ?_; rintro e w6 ⟨x6, rfl, -, -, hs6, hk6⟩; replace hkk := hkk.trans hk6; have gc6 : w6.cell? ⟨w.heap.size + 1, 2, none⟩ = some (.slice a3 (n + 1) c3) := (B1'.blk.kept hkk (by omega)).cell 2 rfl; have gc8 := fun o => (Ext.alloc w6 o).cell gc6)))
        all_goals
          have BR7 := (B0'.kept (by omega) hkk (c' := k * 4 + 3) (hs6.up (by omega))).drawn (by omega) hi7 ht7 (c' := k * 4 + 4) hs7
          have BR8 := BR7.other (b' := w.heap.size + 1) (by omega) hd (by omega) (by omega) BG7.out 2 (.slice a7 (n + 2) c7)
          have hE8 := hE7.tr (fun _ h => h) (Shp.box (j := 2) (u := .slice a7 (n + 1 + 1) c7) BG7.out)
          have BG8 := BG7.set (by omega) hd (by omega) 2 (.slice a7 (n + 1 + 1) c7)
          go_wp2_with fail
          exact ⟨⟨k + 1, n + 1 + 1, D7, _, by omega, by omega, by go_num, BR8.up (by omega), BG8.up (by omega), hE8⟩, by simp [intOf]; omega⟩
      · have hx' : ((x : Int) == 0) = false := beq_eq_false_iff_ne.2 (by omega)
        go_wp2_with fail
        exact ⟨⟨k + 1, n + 1, D3, _, by omega, by omega, by go_num, B0.up (by omega), B1.up (by omega), hE⟩, by simp [intOf]; omega⟩
    · obtain rfl : k = 16 := by omega
      obtain ⟨aE, cE, rfl⟩ := hE.shape
      have gc0 := B1.blk.cell 0 rfl; have gf0 := B1.blk.fr 0; have gc1 := B1.blk.cell 1 rfl; have gf1 := B1.blk.fr 1; have gc2 := B1.blk.cell 2 rfl; have gf2 := B1.blk.fr 2
      have rc0 := B0.blk.cell 0 rfl; have rf0 := B0.blk.fr 0; have rc1 := B0.blk.cell 1 rfl; have rf1 := B0.blk.fr 1; have rc2 := B0.blk.cell 2 rfl; have rf2 := B0.blk.fr 2
      go_wp2_with fail
      refine bodyPost_ret (v := .agg #[.int .i64 3, .int .i64 16, .slice aE n cE]) (by simp [results, Tryz.results84, go_sem, rc0, rc1, rc2, rf0, rf1, rf2]) rfl ?_
      have B5 := ((B0.set hg hd (Nat.le_refl _) 0 (.int .i64 3)).set hg hd (Nat.le_refl _) 1 (.int .i64 16)).set hg hd (Nat.le_refl _) 2 (.slice aE n cE)
      exact ⟨_, D1, rfl, B5.inc, B5.st.up (by omega), B5.tr, 3, 16, _, n, rfl, by omega, (((hE.tr (fun _ h => h) (Shp.box B0.out)).tr (fun _ h => h) (Shp.box B0.out)).tr (fun _ h => h) (Shp.box B0.out))⟩
/-- num, asked for an element of a literal that was laid in a region that draws its order. -/
theorem num_drew (l : List Int) {b : Nat} (hb : b = w.heap.size) (h : St D g q w) (hq : q + 1 ≤ 1000000) (h0 : 0 < l.length) (hl : l.length ≤ 100) :
    Calls Tryz.prog 39 #[.pointer (some ⟨g, 0, none⟩), .slice (some ⟨b, 0, none⟩) l.length l.length] (w.alloc (.cells (l.map (Value.int .i64)).toArray 3)).drew
      (fun e w' => ∃ x ∈ l, e = .returned (.int .i64 x) ∧ St D g (q + 1) w' ∧ Kept g w.drew w') :=
  num_t (w := w.drew) l hb (h.ext (Ext.drew w)) hq h0 hl

set_option maxHeartbeats 4000000 in
theorem l3Big_t (h : St D g q w) (hq : q + 64 ≤ 1000000) :
    Calls Tryz.prog 85 #[.pointer (some ⟨g, 0, none⟩)] w (Drawn D g q 64 w AutoT) := by
  have hg := h.g_lt
  have hd := fun x hx => (h.dom x hx).2
  have B0 := Box.new h #[.int .i64 0, .slice none 0 0, .slice none 0 0] 29
  have B0 := B0.ext (Ext.alloc _ (.cells #[.int .i64 3, .slice none 0 0, .slice none 0 0] 29))
  have B1 : Box D g q w (w.heap.size + 1) 0 #[.int .i64 3, .slice none 0 0, .slice none 0 0] 29 _ D := ⟨B0.inc, B0.st, B0.tr, Ext.blk1 (Ext.refl _), h.out (by omega)⟩
  go_enter Tryz.func85, Tryz.ntmps85
  go_wp2_with fail
  generalize (w.alloc (.cells #[.int .i64 0, .slice none 0 0, .slice none 0 0] 29)).alloc (.cells #[.int .i64 3, .slice none 0 0, .slice none 0 0] 29) = w1 at B0 B1 ⊢
  go_loopw [4, 28, 29, 30] (fun i _ _ _ wr => ∃ (k : Nat) (D' : Nat → Prop) (vN vA : Value), k ≤ 12 ∧ i = .int .i64 k ∧ Box D g q w w.heap.size (2 + k * 5) #[.int .i64 0, .slice none 0 0, .slice none 0 0] 29 wr D' ∧ Box D g q w (w.heap.size + 1) (2 + k * 5) #[.int .i64 3, vN, vA] 29 wr D' ∧ SlOk D' wr 68 1 vN k ∧ SlOk D' wr 4 1 vA k) (fun i _ _ _ _ => 12 - (intOf i).toNat)
  case atStart => exact ⟨0, D, _, _, by omega, rfl, B0.up (by omega), B1.up (by omega), SlOk.nil, SlOk.nil⟩
  case round =>
    clear B0 B1
    obtain ⟨k, D1, vN, vA, hk, rfl, B0, B1, hN, hA⟩ := hrel
    obtain ⟨aN, cN, rfl⟩ := hN.shape
    obtain ⟨aA, cA, rfl⟩ := hA.shape
    by_cases hlt : k < 12
    · have gc1 : wr.cell? ⟨w.heap.size + 1, 1, none⟩ = some (.slice aN k cN) := B1.blk.cell 1 rfl
      go_upto_region 6 with fail
      go_cut [] (fun wc => ∃ (D' : Nat → Prop) (a7 : Option Addr) (c7 : Nat) (aA : Option Addr) (cA : Nat), Box D g q w w.heap.size (2 + k * 5 + 2) #[.int .i64 0, .slice none 0 0, .slice none 0 0] 29 wc D' ∧ Box D g q w (w.heap.size + 1) (2 + k * 5 + 2) #[.int .i64 3, .slice a7 (k + 1) c7, .slice aA k cA] 29 wc D' ∧ SlOk D' wc 68 1 (.slice a7 (k + 1) c7) (k + 1) ∧ SlOk D' wc 4 1 (.slice aA k cA) k)
      case first =>
        have B1' := B1.ext (Ext.drew _)
        have B0' := B0.ext (Ext.drew _)
        have hN' := hN.tr' (Inc.refl _ _) (Tr.ext B1.st (Ext.drew _))
        have hA' := hA.tr' (Inc.refl _ _) (Tr.ext B1.st (Ext.drew _))
        have gd1 := fun o => (Ext.alloc wr o).cell gc1
        go_region_law (first
          | (refine step_app1_t (q + (2 + k * 5 + 2)) (by rfl) (by rfl) Tryz.underlying26 infoInts (by rfl) (by decide) per_ints zk_ints hn9.2 hN9 (by rfl) (Eq.trans (b := Value.slice (some ⟨w6.heap.size + 1, 0, none⟩) 1 1) (by rfl) (by rw [World.size_alloc])) (by rfl) (by simp [Value.oneCell']) (kin_ints hr9 (by omega)) (by omega) (by decide) (by omega) ?_; intro v1 w7 D7 hi7 hs7 ht7 hN7; obtain ⟨a7, c7, rfl⟩ := hN7.shape; have B7 := B9.drawn (by omega) hi7 ht7 (c' := 2 + k * 5 + 2) hs7; have gc7 := B7.blk.cell 1 rfl; have gf7 := B7.blk.fr 1)
          | (go_simp; go_wp2_with (go_at_call 39; refine (num_drew [(k : Int), 0, 11] rfl B1.st (by omega) (by simp) (by simp)).mono ?_; rintro e w6 ⟨x6, -, rfl, hs6, hk6⟩; have gc6 : w6.cell? ⟨w.heap.size + 1, 1, none⟩ = some (.slice aN k cN) := (B1'.blk.kept hk6 (by omega)).cell 1 rfl; have gc8 := fun o => (Ext.alloc w6 o).cell gc6; have gc9 := fun o o' => (Ext.alloc (w6.alloc o) o').cell (gc8 o); have hn9 := hs6.new (Ext.alloc w6 (.cells #[.int .i64 ((IntKind.i64.wrap ((k : Int) + 1)).tmod 12), .int .i64 x6] 3)) (Nat.le_refl _) (heap_alloc_new w6 _) (kin_int2 _ _); have hr9 : SlOk (fun x => D1 x ∨ x = w6.heap.size) (w6.alloc (.cells #[.int .i64 ((IntKind.i64.wrap ((k : Int) + 1)).tmod 12), .int .i64 x6] 3)) 3 1 (.slice (some ⟨w6.heap.size, 0, none⟩) 2 2) 2 := .inr ⟨w6.heap.size, 2, _, rfl, .inr rfl, heap_alloc_new w6 _, Nat.le_refl _, by unfold maxLen; omega, rfl⟩; have hN9 := (hN'.tr' (Inc.refl _ _) (Tr.kept B1'.st hk6)).tr' hn9.1 (Tr.ext hs6 (Ext.alloc w6 (.cells #[.int .i64 ((IntKind.i64.wrap ((k : Int) + 1)).tmod 12), .int .i64 x6] 3))); have hA9 := (hA'.tr' (Inc.refl _ _) (Tr.kept B1'.st hk6)).tr' hn9.1 (Tr.ext hs6 (Ext.alloc w6 (.cells #[.int .i64 ((IntKind.i64.wrap ((k : Int) + 1)).tmod 12), .int .i64 x6] 3))); have B9 := (B1'.kept (by omega) hk6 (c' := 2 + k * 5 + 1) (hs6.up (by omega))).grow (Ext.alloc w6 (.cells #[.int .i64 ((IntKind.i64.wrap ((k : Int) + 1)).tmod 12), .int .i64 x6] 3)) hn9.1 (c' := 2 + k * 5 + 1) (hn9.2.up (by omega)))))
        all_goals
          have o1 := B7.out
          have B6 := ((B0'.kept (by omega) hk6 (c' := 2 + k * 5 + 1) (hs6.up (by omega))).grow (Ext.alloc w6 _) hn9.1 (c' := 2 + k * 5 + 1) (hn9.2.up (by omega))).drawn (by omega) hi7 ht7 (c' := 2 + k * 5 + 2) hs7
          have hA7 := hA9.tr' hi7 ht7
          have B0 := B6.other (b' := w.heap.size + 1) (by omega) hd (by omega) (by omega) o1 1 (.slice a7 (k + 1) c7)
          have B1 := B7.set (by omega) hd (by omega) 1 (.slice a7 (k + 1) c7)
          have hN := hN7.tr (fun _ h => h) (Shp.box (j := 1) (u := .slice a7 (k + 1) c7) o1)
          have hA := hA7.tr (fun _ h => h) (Shp.box (j := 1) (u := .slice a7 (k + 1) c7) o1)
          go_wp2_with fail
          go_meet
          case rel => exact ⟨_, _, _, _, _, B0, B1, hN, hA⟩
      case rest =>
        clear B0 B1 hN hA gc1
        obtain ⟨D2, a7, c7, aA, cA, B0, B1, hN, hA⟩ := hcut
        have gc2 : wc.cell? ⟨w.heap.size + 1, 2, none⟩ = some (.slice aA k cA) := B1.blk.cell 2 rfl
        by_cases hk0 : k = 0
        · have hkz : ((k : Int) == 0) = true := by rw [hk0]; rfl
          clear hk0
          go_wp2_with fail
          have D0 := fun d os => cell_regrown gc2 d os
          obtain ⟨Kc, HKc⟩ : ∃ Kc : FuncId → Array Value → World → Value → World → Prop, Hid (Kc = fun _ _ _ _ _ => True) := ⟨_, rfl⟩
          refine wp_region_ext (Kc := Kc) 10 (by kernel_rfl) (by kernel_rfl) ?_
          simp only [List.take_succ_cons, List.take_zero]
          repeat (refine WalkE.pure rfl (fun K hK => ?_); simp only [PureDo]; go_simp; refine hK _ ?_; clear hK K)
          refine WalkE.step (fun K hK wd hwd hdd => ?_)
          simp only [OpDo, OpSafe, OpOut]
          go_simp
          refine ⟨Ext.alloc _ _, hK _ _ ?_⟩
          clear hK K hdd
          refine WalkE.nil (fun wn hwn hmn => ?_)
          simp only [List.drop_succ_cons, List.drop_zero, List.drop_nil]
          have hcell := cells1 (hmn 9 (by omega))
          have hx := (Ext.drew wc).trans hwn
          have hN := hN.tr' (Inc.refl _ _) (Tr.ext B1.st hx)
          have hA := hA.tr' (Inc.refl _ _) (Tr.ext B1.st hx)
          have B0 := B0.ext hx
          have B1 := B1.ext hx
          clear hmn HKc D0 hwn hwd hx gc2
          generalize wd.heap.size = r at hcell ⊢
          clear wd
          go_wp2_with (at_builtin; refine app_t (news := _) (q' := q + (2 + k * 5 + 4)) rfl _ _ _ rfl Tryz.underlying27 infoBool rfl (by decide) per_bool zk_bool B1.st hA rfl rfl (by simp) hcell (by simp [Value.oneCell']) (kin_bool _) (by omega) (by decide) (by omega) ?_; intro v1 wa D8 hi8 hs8 ht8 hA8; obtain ⟨a8, c8', rfl⟩ := hA8.shape; have B8 := B1.drawn (by omega) hi8 ht8 (c' := 2 + k * 5 + 4) hs8; have gc7 := B8.blk.cell 2 rfl; have gf7 := B8.blk.fr 2)
          have B9 := B0.drawn (by omega) hi8 ht8 (c' := 2 + k * 5 + 4) hs8
          have hN8 := hN.tr' hi8 ht8
          have o8 := B8.out
          exact ⟨⟨k + 1, D8, _, _, by omega, by go_num, (B9.other (b' := w.heap.size + 1) (by omega) hd (by omega) (by omega) o8 2 _).up (by omega), (B8.set (by omega) hd (by omega) 2 _).up (by omega), hN8.tr (fun _ h => h) (Shp.box o8), hA8.tr (fun _ h => h) (Shp.box o8)⟩, by simp [intOf]; omega⟩
        · have hkz : ((k : Int) == 0) = false := beq_eq_false_iff_ne.2 (by omega)
          go_wp2_with fail
          have B1' := B1.ext (Ext.drew _)
          have B0' := B0.ext (Ext.drew _)
          have hN' := hN.tr' (Inc.refl _ _) (Tr.ext B1.st (Ext.drew _))
          have hA' := hA.tr' (Inc.refl _ _) (Tr.ext B1.st (Ext.drew _))
          have hs6 := B1'.st
          have hkk : Kept g wc.drew wc.drew := Tnd.refl _ _
          go_region_law (first
            | (refine step_app1_t (q + (2 + k * 5 + 4)) (by rfl) (by rfl) Tryz.underlying27 infoBool (by rfl) (by decide) per_bool zk_bool hs6 (hA'.tr' (Inc.refl _ _) (Tr.kept B1'.st hkk)) (by rfl) (by rfl) (by rfl) (by simp [Value.oneCell']) (kin_bool _) (by omega) (by decide) (by omega) ?_; intro v1 wa D8 hi8 hs8 ht8 hA8; obtain ⟨a8, c8', rfl⟩ := hA8.shape; have B8 := (B1'.kept (by omega) hkk (c' := 2 + k * 5 + 3) (hs6.up (by omega))).drawn (by omega) hi8 ht8 (c' := 2 + k * 5 + 4) hs8; have gc7 := B8.blk.cell 2 rfl; have gf7 := B8.blk.fr 2)
            | (go_simp; go_wp2_with (go_at_call 40; refine (pick_t 5 hs6 (by omega) (by omega)).mono ?_; rintro e w9 ⟨x9, rfl, -, -, hs6, hk9⟩; replace hkk := hkk.trans hk9; have gc6 : w9.cell? ⟨w.heap.size + 1, 2, none⟩ = some (.slice aA k cA) := (B1'.blk.kept hkk (by omega)).cell 2 rfl; have gc8 := fun o => (Ext.alloc w9 o).cell gc6)))
          all_goals
            have B9 := (B0'.kept (by omega) hkk (c' := 2 + k * 5 + 3) (hs6.up (by omega))).drawn (by omega) hi8 ht8 (c' := 2 + k * 5 + 4) hs8
            have hN8 := (hN'.tr' (Inc.refl _ _) (Tr.kept B1'.st hkk)).tr' hi8 ht8
            have o8 := B8.out
            go_wp2_with fail
            exact ⟨⟨k + 1, D8, _, _, by omega, by go_num, (B9.other (b' := w.heap.size + 1) (by omega) hd (by omega) (by omega) o8 2 _).up (by omega), (B8.set (by omega) hd (by omega) 2 _).up (by omega), hN8.tr (fun _ h => h) (Shp.box o8), hA8.tr (fun _ h => h) (Shp.box o8)⟩, by simp [intOf]; omega⟩
    · obtain rfl : k = 12 := by omega
      have gc0 := B1.blk.cell 0 rfl; have gf0 := B1.blk.fr 0; have gc1 := B1.blk.cell 1 rfl; have gf1 := B1.blk.fr 1; have gc2 := B1.blk.cell 2 rfl; have gf2 := B1.blk.fr 2
      have rc0 := B0.blk.cell 0 rfl; have rf0 := B0.blk.fr 0; have rc1 := B0.blk.cell 1 rfl; have rf1 := B0.blk.fr 1; have rc2 := B0.blk.cell 2 rfl; have rf2 := B0.blk.fr 2
      go_wp2_with fail
      refine bodyPost_ret (v := .agg #[.int .i64 3, .slice aN 12 cN, .slice aA 12 cA]) (by simp [results, Tryz.results85, go_sem, rc0, rc1, rc2, rf0, rf1, rf2]) rfl ?_
      have B5 := ((B0.set hg hd (Nat.le_refl _) 0 (.int .i64 3)).set hg hd (Nat.le_refl _) 1 (.slice aN 12 cN)).set hg hd (Nat.le_refl _) 2 (.slice aA 12 cA)
      exact ⟨_, D1, rfl, B5.inc, B5.st.up (by omega), B5.tr, 3, _, _, 12, 12, rfl, by omega, by omega, (((hN.tr (fun _ h => h) (Shp.box B0.out)).tr (fun _ h => h) (Shp.box B0.out)).tr (fun _ h => h) (Shp.box B0.out)), (((hA.tr (fun _ h => h) (Shp.box B0.out)).tr (fun _ h => h) (Shp.box B0.out)).tr (fun _ h => h) (Shp.box B0.out))⟩
end Go.Proofs.YthpiihblmekijaaGreatDoor
