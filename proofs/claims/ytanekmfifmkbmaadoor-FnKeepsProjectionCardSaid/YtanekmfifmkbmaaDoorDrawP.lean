/- Part of this seat's proofs, cut to what its law needs. -/

import Derived.Test.YtanekmfifmkbmaaDoorDrawD
import Derived.Deep.DeepCutAuto
import Derived.Test.YtanekmfifmkbmaaDoorDrawF
import Derived.Test.YtanekmfifmkbmaaDoorDrawK
import Derived.Deep.RegionHeld3
import Derived.Deep.CutBlock

namespace Go.Proofs.YtanekmfifmkbmaaDoor
set_option linter.unusedSimpArgs false
set_option linter.unusedVariables false
open Go.RowKit
set_option maxHeartbeats 1000000
set_option maxRecDepth 100000
attribute [local go_sem ↓] Go.wp_at_zero Go.wp_at_succ

variable {D D' : Nat → Prop} {g q q' : Nat} {w w' : World}

theorem cells3 {wn wd : World} {x y z : Value} {t : TypeId} (h : Ext (wd.alloc (.cells #[x, y, z] t)) wn) : ∀ (j' : Nat) (u : Value), [x, y, z][j']? = some u → wn.cell? ((⟨wd.heap.size, 0, none⟩ : Addr).add j') = some u := fun j' u hu => by
  rw [add_none, Nat.zero_add]
  match j', hu with
  | 0, hu => simp at hu; subst hu; exact h.new 0 rfl
  | 1, hu => simp at hu; subst hu; exact h.new 1 rfl
  | 2, hu => simp at hu; subst hu; exact h.new 2 rfl
  | j' + 3, hu => simp at hu
theorem cells1 {wn wd : World} {x : Value} {t : TypeId} (h : Ext (wd.alloc (.cells #[x] t)) wn) : ∀ (j' : Nat) (u : Value), [x][j']? = some u → wn.cell? ((⟨wd.heap.size, 0, none⟩ : Addr).add j') = some u := fun j' u hu => by
  rw [add_none, Nat.zero_add]
  match j', hu with
  | 0, hu => simp at hu; subst hu; exact h.new 0 rfl
  | j' + 1, hu => simp at hu
def SysN (D : Nat → Prop) (q : Nat) (w : World) (v : Value) : Prop := ∃ al st ve n, v = .agg #[.int .i64 al, .int .i64 st, ve] ∧ 1 ≤ n ∧ n ≤ q ∧ SlOk D w 85 3 ve n
theorem l2Big_n (h : St D g q w) (hq : q + 64 ≤ 1000000) :
    Calls Tryd.prog 53 #[.pointer (some ⟨g, 0, none⟩)] w (Drawn D g q 64 w SysN) := by
  have hg := h.g_lt
  have hd := fun x hx => (h.dom x hx).2
  have B0 := Box.new h #[.int .i64 0, .int .i64 0, .slice none 0 0] 25
  have B0 := B0.ext (Ext.alloc _ (.cells #[.int .i64 3, .int .i64 16, .slice none 0 0] 25))
  have B1 : Box D g q w (w.heap.size + 1) 0 #[.int .i64 3, .int .i64 16, .slice none 0 0] 25 _ D := ⟨B0.inc, B0.st, B0.tr, Ext.blk1 (Ext.refl _), h.out (by omega)⟩
  go_enter Tryd.func53, Tryd.ntmps53
  go_wp2_with fail
  generalize (w.alloc (.cells #[.int .i64 0, .int .i64 0, .slice none 0 0] 25)).alloc (.cells #[.int .i64 3, .int .i64 16, .slice none 0 0] 25) = w1 at B0 B1 ⊢
  go_loopw [4] (fun i wr => ∃ (k n : Nat) (D' : Nat → Prop) (vE : Value), k ≤ 16 ∧ (k ≤ n ∧ n ≤ 2 * k) ∧ i = .int .i64 k ∧ Box D g q w w.heap.size (k * 4) #[.int .i64 0, .int .i64 0, .slice none 0 0] 25 wr D' ∧ Box D g q w (w.heap.size + 1) (k * 4) #[.int .i64 3, .int .i64 16, vE] 25 wr D' ∧ SlOk D' wr 85 3 vE n) (fun i _ => 16 - (intOf i).toNat)
  case atStart => exact ⟨0, 0, D, _, by omega, by omega, rfl, B0.up (by omega), B1.up (by omega), SlOk.nil⟩
  case round =>
    clear B0 B1
    obtain ⟨k, n, D1, vE, hk, hn, rfl, B0, B1, hE⟩ := hrel
    have gc1 := B1.blk.cell 1 rfl
    by_cases hlt : k < 16
    · obtain ⟨aE, cE, rfl⟩ := hE.shape
      go_wp2_with fail
      have D0 := fun d os => cell_regrown (B1.blk.cell 2 rfl) d os
      have D2 := fun d os => cell_regrown (B1.blk.cell 1 rfl) d os
      obtain ⟨Kc, HKc⟩ : ∃ Kc : FuncId → Array Value → World → Value → World → Prop, Hid (Kc = fun _ _ _ _ _ => True) := ⟨_, rfl⟩
      refine wp_region_ext (Kc := Kc) 10 (by kernel_rfl) (by kernel_rfl) ?_
      simp only [List.take_succ_cons, List.take_zero]
      repeat (refine WalkE.pure rfl (fun K hK => ?_); simp only [PureDo]; go_simp; refine hK _ ?_; clear hK K)
      refine WalkE.step (fun K hK wd hwd hdd => ?_)
      simp only [OpDo, OpSafe, OpOut]
      go_simp
      refine ⟨Ext.alloc _ _, hK _ _ ?_⟩
      clear hK K hdd
      refine WalkE.nil (fun wn hwn hmn => ?_)
      simp only [List.drop_succ_cons, List.drop_zero, List.drop_nil]
      have hcell := cells3 (hmn 9 (by omega))
      have hx := (Ext.drew wr).trans hwn
      have hE := hE.tr' (Inc.refl _ _) (Tr.ext B1.st hx)
      have B0 := B0.ext hx
      have B1 := B1.ext hx
      clear hmn HKc D0 D2 hwn hwd hx gc1
      generalize wd.heap.size = r at hcell ⊢
      clear wd
      go_wp2_with (at_builtin; refine app_t (news := _) (q' := q + (k * 4 + 1)) rfl _ _ _ rfl Tryd.underlying23 infoEdge rfl (by decide) per_edge zk_edge B1.st hE rfl rfl (by simp) hcell (by simp [Value.oneCell']) (kin_edge _ _ _) (by omega) (by decide) (by omega) ?_; intro v1 w3 D3 hi3 hs3 ht3 hE3; obtain ⟨a3, c3, rfl⟩ := hE3.shape; have B0 := B0.drawn hg hi3 ht3 (c' := k * 4 + 1) hs3; have B1 := B1.drawn (by omega) hi3 ht3 (c' := k * 4 + 1) hs3; have gc2 := B1.blk.cell 2 rfl; have gf2 := B1.blk.fr 2)
      have o1 := B1.out
      have B0 := B0.other (b' := w.heap.size + 1) (by omega) hd (by omega) (by omega) o1 2 (.slice a3 (n + 1) c3)
      have B1 := B1.set (by omega) hd (by omega) 2 (.slice a3 (n + 1) c3)
      have hE := hE3.tr (fun _ h => h) (Shp.box (j := 2) (u := .slice a3 (n + 1) c3) o1)
      clear hE3 hi3 hs3 ht3 gc2 gf2
      generalize w3.setCell ⟨w.heap.size + 1, 2, none⟩ (.slice a3 (n + 1) c3) = w4 at B0 B1 hE ⊢
      refine (pick_t 3 B0.st (by omega) (by omega)).mono ?_
      rintro e w5 ⟨x, rfl, -, -, hs5, hk5⟩
      have hE := hE.tr' (Inc.refl _ _) (Tr.kept B1.st hk5)
      have B0 := B0.kept (by omega) hk5 (c' := k * 4 + 2) hs5
      have B1 := B1.kept (by omega) hk5 (c' := k * 4 + 2) hs5
      clear hs5 hk5
      by_cases hx : x = 0
      · subst hx
        have gc1 := B1.blk.cell 1 rfl
        have gc2 : w5.cell? ⟨w.heap.size + 1, 2, none⟩ = some (.slice a3 (n + 1) c3) := B1.blk.cell 2 rfl
        go_wp2_with fail
        have B1' := B1.ext (Ext.drew _)
        have B0' := B0.ext (Ext.drew _)
        have hE' := hE.tr' (Inc.refl _ _) (Tr.ext B1.st (Ext.drew _))
        have hs6 := B1'.st
        have hkk : Kept g w5.drew w5.drew := Tnd.refl _ _
        go_region_law (first
          | (refine step_app1_t (q + (k * 4 + 4)) (by rfl) (by rfl) Tryd.underlying23 infoEdge (by rfl) (by decide) per_edge zk_edge hs6 (hE'.tr' (Inc.refl _ _) (Tr.kept B1'.st hkk)) (by rfl) (by rfl) (by rfl) (by simp [Value.oneCell']) (kin_edge _ _ _) (by omega) (by decide) (by omega) ?_; intro v1 w7 D7 hi7 hs7 ht7 hE7; obtain ⟨a7, c7, rfl⟩ := hE7.shape; have BG7 := (B1'.kept (by omega) hkk (c' := k * 4 + 3) (hs6.up (by omega))).drawn (by omega) hi7 ht7 (c' := k * 4 + 4) hs7; have gc7 := BG7.blk.cell 2 rfl; have gf7 := BG7.blk.fr 2)
          | (go_simp; go_wp2_with (go_at_call 35; refine (pick_t _ hs6 (by omega) (by omega)).mono ?_; rintro e w6 ⟨x6, rfl, -, -, hs6, hk6⟩; replace hkk := hkk.trans hk6; have gc6 : w6.cell? ⟨w.heap.size + 1, 2, none⟩ = some (.slice a3 (n + 1) c3) := (B1'.blk.kept hkk (by omega)).cell 2 rfl; have gc8 := fun o => (Ext.alloc w6 o).cell gc6)))
        all_goals
          have BR7 := (B0'.kept (by omega) hkk (c' := k * 4 + 3) (hs6.up (by omega))).drawn (by omega) hi7 ht7 (c' := k * 4 + 4) hs7
          have BR8 := BR7.other (b' := w.heap.size + 1) (by omega) hd (by omega) (by omega) BG7.out 2 (.slice a7 (n + 2) c7)
          have hE8 := hE7.tr (fun _ h => h) (Shp.box (j := 2) (u := .slice a7 (n + 1 + 1) c7) BG7.out)
          have BG8 := BG7.set (by omega) hd (by omega) 2 (.slice a7 (n + 1 + 1) c7)
          go_wp2_with fail
          exact ⟨⟨k + 1, n + 1 + 1, D7, _, by omega, by omega, by go_num, BR8.up (by omega), BG8.up (by omega), hE8⟩, by simp [intOf]; omega⟩
      · have hx' : ((x : Int) == 0) = false := beq_eq_false_iff_ne.2 (by omega)
        go_wp2_with fail
        exact ⟨⟨k + 1, n + 1, D3, _, by omega, by omega, by go_num, B0.up (by omega), B1.up (by omega), hE⟩, by simp [intOf]; omega⟩
    · obtain rfl : k = 16 := by omega
      obtain ⟨aE, cE, rfl⟩ := hE.shape
      have gc0 := B1.blk.cell 0 rfl; have gf0 := B1.blk.fr 0; have gc1 := B1.blk.cell 1 rfl; have gf1 := B1.blk.fr 1; have gc2 := B1.blk.cell 2 rfl; have gf2 := B1.blk.fr 2
      have rc0 := B0.blk.cell 0 rfl; have rf0 := B0.blk.fr 0; have rc1 := B0.blk.cell 1 rfl; have rf1 := B0.blk.fr 1; have rc2 := B0.blk.cell 2 rfl; have rf2 := B0.blk.fr 2
      go_wp2_with fail
      refine bodyPost_ret (v := .agg #[.int .i64 3, .int .i64 16, .slice aE n cE]) (by simp [results, Tryd.results53, go_sem, rc0, rc1, rc2, rf0, rf1, rf2]) rfl ?_
      have B5 := ((B0.set hg hd (Nat.le_refl _) 0 (.int .i64 3)).set hg hd (Nat.le_refl _) 1 (.int .i64 16)).set hg hd (Nat.le_refl _) 2 (.slice aE n cE)
      exact ⟨_, D1, rfl, B5.inc, B5.st.up (by omega), B5.tr, 3, 16, _, n, rfl, by omega, by omega, (((hE.tr (fun _ h => h) (Shp.box B0.out)).tr (fun _ h => h) (Shp.box B0.out)).tr (fun _ h => h) (Shp.box B0.out))⟩
theorem l2Big_t (h : St D g q w) (hq : q + 64 ≤ 1000000) :
    Calls Tryd.prog 53 #[.pointer (some ⟨g, 0, none⟩)] w (Drawn D g q 64 w SysT) :=
  (l2Big_n h hq).mono fun _ _ ⟨v, D', h1, h2, h3, h4, al, st, ve, n, h5, _, h6, h7⟩ => ⟨v, D', h1, h2, h3, h4, al, st, ve, n, h5, h6, h7⟩
theorem num_drew (l : List Int) {b : Nat} (hb : b = w.heap.size) (h : St D g q w) (hq : q + 1 ≤ 1000000) (h0 : 0 < l.length) (hl : l.length ≤ 100) :
    Calls Tryd.prog 34 #[.pointer (some ⟨g, 0, none⟩), .slice (some ⟨b, 0, none⟩) l.length l.length] (w.alloc (.cells (l.map (Value.int .i64)).toArray 3)).drew
      (fun e w' => ∃ x ∈ l, e = .returned (.int .i64 x) ∧ St D g (q + 1) w' ∧ Kept g w.drew w') :=
  num_t (w := w.drew) l hb (h.ext (Ext.drew w)) hq h0 hl

end Go.Proofs.YtanekmfifmkbmaaDoor

namespace Go.Proofs.YtanekmfifmkbmaaDoor
set_option linter.unusedSimpArgs false
set_option linter.unusedVariables false
open Go.RowKit
set_option maxHeartbeats 1000000
set_option maxRecDepth 100000
attribute [local go_sem ↓] Go.wp_at_zero Go.wp_at_succ

variable {D D' D'' : Nat → Prop} {g q q' : Nat} {w w' : World}

theorem Box.other3 {b b' c : Nat} {cs : Array Value} {t : TypeId} {w0 : World} (h : Box D g q w0 b c cs t w D') (hg : g < b') (hd : ∀ x, D x → x < w0.heap.size) (hb : w0.heap.size ≤ b') (hn : b ≠ b') (ho : ¬ D' b') (u v x : Value) :
    Box D g q w0 b c cs t (((w.setCell ⟨b', 0, none⟩ u).setCell ⟨b', 1, none⟩ v).setCell ⟨b', 2, none⟩ x) D' :=
  ((h.other hg hd hb hn ho 0 u).other hg hd hb hn ho 1 v).other hg hd hb hn ho 2 x
theorem Box.set3 {b c : Nat} {p r s : Value} {t : TypeId} {w0 : World} (h : Box D g q w0 b c #[p, r, s] t w D') (hg : g < b) (hd : ∀ x, D x → x < w0.heap.size) (hb : w0.heap.size ≤ b) (u v x : Value) :
    Box D g q w0 b c #[u, v, x] t (((w.setCell ⟨b, 0, none⟩ u).setCell ⟨b, 1, none⟩ v).setCell ⟨b, 2, none⟩ x) D' :=
  ((h.set hg hd hb 0 u).set hg hd hb 1 v).set hg hd hb 2 x
theorem SlOk.box3 {e : TypeId} {sz n b : Nat} {y : Value} (h : SlOk D w e sz y n) (ho : ¬ D b) (u v x : Value) : SlOk D (((w.setCell ⟨b, 0, none⟩ u).setCell ⟨b, 1, none⟩ v).setCell ⟨b, 2, none⟩ x) e sz y n :=
  ((h.tr (fun _ h => h) (Shp.box ho)).tr (fun _ h => h) (Shp.box ho)).tr (fun _ h => h) (Shp.box ho)
theorem six_of {G5 G6 : Nat} {x1 x2 x3 y1 y2 y3 : Value} {t1 t2 : TypeId} (h5 : Blk w G5 #[x1, x2, x3] t1) (h6 : Blk w G6 #[y1, y2, y3] t2) :
    w.cell? ⟨G5, 0, none⟩ = some x1 ∧ w.cell? ⟨G5, 1, none⟩ = some x2 ∧ w.cell? ⟨G5, 2, none⟩ = some x3 ∧ w.cell? ⟨G6, 0, none⟩ = some y1 ∧ w.cell? ⟨G6, 1, none⟩ = some y2 ∧ w.cell? ⟨G6, 2, none⟩ = some y3 :=
  ⟨h5.cell 0 rfl, h5.cell 1 rfl, h5.cell 2 rfl, h6.cell 0 rfl, h6.cell 1 rfl, h6.cell 2 rfl⟩
theorem Typed.tnd {S : Nat → Prop} (h : Typed D q w) (ht : Tnd S w w') (hS : ∀ b, S b → ¬ D b) : Typed D q w' := fun b hb => by
  obtain ⟨cs, t, h1, h2⟩ := h b hb
  have hsh : Shp D w w' := Shp.tnd ht fun b hb hs => hS b hs hb
  exact ⟨cs, t, by rw [ht.block b (Array.getElem?_eq_some_iff.1 h1).1 (fun hs => hS b hs hb)]; exact h1, fun i v hv => let ⟨k, h3, h4⟩ := h2 i v hv; ⟨k, h3, h4.tr (fun _ h => h) hsh (Nat.le_refl _)⟩⟩
def Drew (Q : Nat) (w : World) (Φ : (Nat → Prop) → Nat → World → Value → Prop) (e : Ending) (w' : World) : Prop :=
  ∃ v D, e = .returned v ∧ Ext w w' ∧ (∀ b, D b → w.heap.size ≤ b) ∧ Typed D Q w' ∧ Φ D Q w' v
theorem Tnd.set3 {S : Nat → Prop} {b : Nat} (hS : S b) (u v x : Value) : Tnd S w (((w.setCell ⟨b, 0, none⟩ u).setCell ⟨b, 1, none⟩ v).setCell ⟨b, 2, none⟩ x) :=
  (((Kept.set w b 0 u).trans (Kept.set _ b 1 v)).trans (Kept.set _ b 2 x)).imp fun c hc => by subst hc; exact hS

structure Bare (D : Nat → Prop) (g q : Nat) (w0 : World) (c : Nat) (w : World) (D' : Nat → Prop) : Prop where
  inc : Inc D D' w0
  st : St D' g (q + c) w
  tr : Tr D g w0 w
theorem Bare.new (h : St D g q w) : Bare D g q w 0 w D := ⟨Inc.refl _ _, h, Tr.refl _ _ _⟩
theorem Bare.kept {c c' : Nat} {w0 : World} (h : Bare D g q w0 c w D') (hk : Kept g w w') (hs : St D' g (q + c') w') : Bare D g q w0 c' w' D' := ⟨h.inc, hs, h.tr.trans h.inc (Tr.kept h.st hk)⟩
theorem Bare.drawn {c c' : Nat} {w0 : World} (h : Bare D g q w0 c w D') (hi : Inc D' D'' w) (hk : Tr D' g w w') (hs : St D'' g (q + c') w') : Bare D g q w0 c' w' D'' := ⟨h.inc.trans h.tr.size hi, hs, h.tr.trans h.inc hk⟩
theorem Bare.box {c : Nat} {w0 : World} (h : Bare D g q w0 c w D') (cs : Array Value) (t : TypeId) : Box D g q w0 w.heap.size c cs t (w.alloc (.cells cs t)) D' :=
  ⟨h.inc, h.st.ext (Ext.alloc _ _), h.tr.trans h.inc (Tr.ext h.st (Ext.alloc _ _)), Blk.new _ _ _, h.st.out (Nat.le_refl _)⟩
end Go.Proofs.YtanekmfifmkbmaaDoor
