/- Part of this seat's proofs, cut to what its law needs. -/

import Derived.Test.YtanekmfifmkbmaaDoorDrawA
import Derived.Test.YtanekmfifmkbmaaDoorRegion
import Derived.Deep.RegionLaw
import Derived.Deep.DrawnRows

namespace Go.Proofs.YtanekmfifmkbmaaDoor
set_option linter.unusedSimpArgs false
set_option linter.unusedVariables false
open Go.RowKit
set_option maxHeartbeats 1000000
set_option maxRecDepth 100000

variable {D D' : Nat → Prop} {g q q' : Nat} {w w' : World}

theorem zk_edge : ∀ (D : Nat → Prop) q w, Kin D q w 85 (Value.agg #[.int .i64 0, .int .i64 0, .int .i64 0]).cells.toList := fun D q w i u hu => by
  match i, hu with
  | 0, hu => exact ⟨.int, rfl, 0, by simpa [Value.cells] using hu.symm⟩
  | 1, hu => exact ⟨.int, rfl, 0, by simpa [Value.cells] using hu.symm⟩
  | 2, hu => exact ⟨.int, rfl, 0, by simpa [Value.cells] using hu.symm⟩
  | i + 3, hu => simp [Value.cells] at hu
theorem kin_edge (x y z : Int) : Kin D q w 85 [.int .i64 x, .int .i64 y, .int .i64 z] := fun i u hu => by
  match i, hu with
  | 0, hu => exact ⟨.int, rfl, x, by simpa using hu.symm⟩
  | 1, hu => exact ⟨.int, rfl, y, by simpa using hu.symm⟩
  | 2, hu => exact ⟨.int, rfl, z, by simpa using hu.symm⟩
  | i + 3, hu => simp at hu

theorem SlOk.tr' {e : TypeId} {sz n : Nat} {v : Value} (h : SlOk D w e sz v n) (hi : Inc D D' w) (ht : Tr D g w w') : SlOk D' w' e sz v n := h.tr hi.sub ht.shp
theorem SlOk.int_at {n i : Nat} {v : Value} (hs : SlOk D w 3 1 v n) (hT : Typed D q w) (hi : i < n) : ∃ b cap x, v = .slice (some ⟨b, 0, none⟩) n cap ∧ D b ∧ w.cell? ⟨b, i, none⟩ = some (.int .i64 x) := by
  obtain ⟨b, cap, cs, u, k, rfl, hb, hh, h1, -, h2, h3⟩ := hs.at hT hi (j := 0) (by omega)
  simp only [ck, true_or, if_true, Option.some.injEq] at h2
  subst h2
  obtain ⟨x, rfl⟩ := h3
  exact ⟨b, cap, x, rfl, hb, by simpa using h1⟩

structure L2R (D : Nat → Prop) (g q : Nat) (w : World) (al ns : Int) (m : Nat) (va : Value) (c : Nat) (wr : World) (D' : Nat → Prop) (vE : Value) (n : Nat) : Prop where
  inc : Inc D D' w
  st : St D' g (q + c) wr
  tr : Tr D g w wr
  box : Blk wr (w.heap.size + 1) #[.int .i64 al, .int .i64 ns, vE] 25
  res : Blk wr w.heap.size #[.int .i64 0, .int .i64 0, .slice none 0 0] 25
  edges : SlOk D' wr 85 3 vE n
  few : n ≤ q + c
  lets : SlOk D' wr 3 1 va m
  o1 : ¬ D' w.heap.size
  o2 : ¬ D' (w.heap.size + 1)
theorem L2R.up {al ns : Int} {m : Nat} {va : Value} {c c' : Nat} {wr : World} {vE : Value} {n : Nat} (h : L2R D g q w al ns m va c wr D' vE n) (hc : c ≤ c') : L2R D g q w al ns m va c' wr D' vE n :=
  ⟨h.inc, h.st.up (by omega), h.tr, h.box, h.res, h.edges, by have := h.few; omega, h.lets, h.o1, h.o2⟩
def L2S (D : Nat → Prop) (g q : Nat) (w : World) (al ns : Int) (m : Nat) (va : Value) (c : Nat) (wr : World) : Prop := ∃ D' vE n, L2R D g q w al ns m va c wr D' vE n
theorem L2S.up {al ns : Int} {m : Nat} {va : Value} {c c' : Nat} {wr : World} (h : L2S D g q w al ns m va c wr) (hc : c ≤ c') : L2S D g q w al ns m va c' wr := let ⟨D', vE, n, h1⟩ := h; ⟨D', vE, n, h1.up hc⟩

theorem l2Random_t (al few : Int) (s : Nat) (hst2 : s ≤ 16) (hfew : few ≤ 1000) (h : St D g q w) (hq : q + 4000 ≤ 1000000) :
    Calls Tryd.prog 51 #[.pointer (some ⟨g, 0, none⟩), .int .i64 al, .int .i64 s, .int .i64 few] w
      (Drawn D g q 4000 w fun D' q' w' v => ∃ ve n, v = .agg #[.int .i64 al, .int .i64 s, ve] ∧ n ≤ q' ∧ SlOk D' w' 85 3 ve n) := by
  have hg := h.g_lt
  obtain ⟨wo, hwo⟩ : ∃ wo, wo = (w.alloc (.cells #[.int .i64 0, .int .i64 0, .slice none 0 0] 25)).alloc (.cells #[.int .i64 al, .int .i64 s, .slice none 0 0] 25) := ⟨_, rfl⟩
  have he : Ext w wo := by rw [hwo]; exact (Ext.alloc _ _).trans (Ext.alloc _ _)
  have hR : Blk wo w.heap.size #[.int .i64 0, .int .i64 0, .slice none 0 0] 25 := by rw [hwo]; exact Ext.blk (Ext.alloc _ _)
  have hB : Blk wo (w.heap.size + 1) #[.int .i64 al, .int .i64 s, .slice none 0 0] 25 := by rw [hwo]; exact Ext.blk1 (Ext.refl _)
  have hws : w.heap.size + 2 ≤ wo.heap.size := by rw [hwo]; simp
  have ho1 : ¬ D w.heap.size := h.out (Nat.le_refl _)
  have ho2 : ¬ D (w.heap.size + 1) := h.out (by omega)
  have hso := h.ext he
  have hto := Tr.ext h he
  go_enter Tryd.func51, Tryd.ntmps51
  go_wp2_with fail
  rw [← hwo]
  clear hwo
  refine (l1Letters_t al hso (by omega)).mono ?_
  rintro e w1 ⟨va, D1, rfl, hi1, hs1, ht1, m, hm, hl1⟩
  have H0 : L2S D g q w al s m va 6 w1 := ⟨D1, .slice none 0 0, 0, hi1.low he.size, hs1, hto.trans (Inc.refl _ _) ht1, hB.tr ht1 ho2 (by omega), hR.tr ht1 ho1 (by omega), SlOk.nil, by omega, hl1, hi1.out ho1 (by omega), hi1.out ho2 (by omega)⟩
  obtain ⟨av, cv, rfl⟩ := hl1.shape
  clear hB hR hso hto hs1 ht1 hl1 hi1 hws he
  go_wp2_with fail
  go_loopw [11] (fun i wr => ∃ k : Nat, k ≤ s ∧ i = .int .i64 k ∧ L2S D g q w al s m (.slice av m cv) (6 + k * 192) wr) (fun i _ => s - (intOf i).toNat)
  case atStart => exact ⟨0, by omega, rfl, H0.up (by omega)⟩
  case round =>
    clear H0
    obtain ⟨k, hk, rfl, H⟩ := hrel
    by_cases hlt : k < s
    · go_wp2_with fail
      go_loopw [12] (fun i wr => ∃ j : Nat, j ≤ m ∧ i = .int .i64 j ∧ L2S D g q w al s m (.slice av m cv) (6 + k * 192 + j * 32) wr) (fun i _ => m - (intOf i).toNat)
      case atStart => exact ⟨0, by omega, rfl, H.up (by omega)⟩
      case round =>
        clear H
        obtain ⟨j, hj, rfl, H⟩ := hrel
        by_cases hjm : j < m
        · go_wp2_with fail
          go_loopw [13] (fun i wr => ∃ t : Nat, t ≤ s ∧ i = .int .i64 t ∧ L2S D g q w al s m (.slice av m cv) (6 + k * 192 + j * 32 + t * 2) wr) (fun i _ => s - (intOf i).toNat)
          case atStart => exact ⟨0, by omega, rfl, H.up (by omega)⟩
          case round =>
            clear H
            obtain ⟨t, ht, rfl, H⟩ := hrel
            by_cases hts : t < s
            · obtain ⟨D1, vE, n, H⟩ := H
              go_wp2_with fail
              refine (pick_t few H.st (by omega) (by omega)).mono ?_
              rintro e w2 ⟨x, rfl, -, -, hs2, hk2⟩
              have ht2 := Tr.kept H.st hk2
              have hB2 := H.box.kept hk2 (by omega)
              have hR2 := H.res.kept hk2 (by omega)
              have hE2 := H.edges.tr' (Inc.refl _ _) ht2
              have hL2 := H.lets.tr' (Inc.refl _ _) ht2
              have hi2 := H.inc
              have htr2 := H.tr.trans H.inc ht2
              have hn2 := H.few
              have o1 := H.o1
              have o2 := H.o2
              clear H ht2 hk2
              by_cases hx : x = 0
              · subst hx
                obtain ⟨b, cap, y, hv, hb, hc⟩ := hL2.int_at hs2.typ hjm
                cases hv
                obtain ⟨aE, cE, rfl⟩ := hE2.shape
                go_wp2_with fail
                have D0 := fun d os => cell_regrown (hB2.cell 2 rfl) d os
                have D2 := fun d os => cell_regrown hc d os
                obtain ⟨Kc, HKc⟩ : ∃ Kc : FuncId → Array Value → World → Value → World → Prop, Hid (Kc = fun _ _ _ _ _ => True) := ⟨_, rfl⟩
                refine wp_region_ext (Kc := Kc) 10 (by kernel_rfl) (by kernel_rfl) ?_
                simp only [List.take_succ_cons, List.take_zero]
                repeat (refine WalkE.pure rfl (fun K hK => ?_); simp only [PureDo]; go_simp; refine hK _ ?_; clear hK K)
                refine WalkE.step (fun K hK wd hwd hdd => ?_)
                simp only [OpDo, OpSafe, OpOut]
                go_simp
                refine ⟨Ext.alloc _ _, hK _ _ ?_⟩
                clear hK K hdd
                refine WalkE.nil (fun wn hwn hmn => ?_)
                simp only [List.drop_succ_cons, List.drop_zero, List.drop_nil]
                have hl := (hmn 9 (by omega))
                have l0 := hl.new 0 rfl
                have l1 := hl.new 1 rfl
                have l2 := hl.new 2 rfl
                have hx := (Ext.drew w2).trans hwn
                have hcell : ∀ (j' : Nat) (u : Value), [Value.int .i64 k, Value.int .i64 y, Value.int .i64 t][j']? = some u → wn.cell? ((⟨wd.heap.size, 0, none⟩ : Addr).add j') = some u := fun j' u hu => by
                  rw [add_none, Nat.zero_add]
                  match j', hu with
                  | 0, hu => simp at hu; subst hu; exact l0
                  | 1, hu => simp at hu; subst hu; exact l1
                  | 2, hu => simp at hu; subst hu; exact l2
                  | j' + 3, hu => simp at hu
                have hsn := hs2.ext hx
                have htn := Tr.ext hs2 hx
                have hEn := hE2.tr' (Inc.refl _ _) htn
                have hLn := hL2.tr' (Inc.refl _ _) htn
                have hBn := hB2.ext hx
                have hRn := hR2.ext hx
                have htrn := htr2.trans hi2 htn
                clear l0 l1 l2 hl hmn HKc D0 D2 hE2 hL2 hB2 hR2 htr2 htn hwn hwd hc hs2 hx
                generalize wd.heap.size = r at hcell ⊢
                clear wd w2
                go_wp2_with (at_builtin; refine app_t (news := [Value.int .i64 k, Value.int .i64 y, Value.int .i64 t]) (q' := q + (6 + k * 192 + j * 32 + (t + 1) * 2)) rfl _ _ _ rfl Tryd.underlying23 infoEdge rfl (by decide) per_edge zk_edge hsn hEn rfl rfl (by simp) hcell (by simp [Value.oneCell']) (kin_edge _ _ _) (by omega) (by decide) (by omega) ?_; intro v1 w3 D3 hi3 hs3 ht3 hE3; obtain ⟨a3, c3, rfl⟩ := hE3.shape; have hB3 := hBn.tr ht3 o2 (by omega); have gc2 := hB3.cell 2 rfl; have gf2 := hB3.fr 2)
                have hsz := htrn.size
                have hbs := hBn.lt
                have o13 := hi3.out o1 hRn.lt
                have o23 := hi3.out o2 hBn.lt
                have hi' := hi2.trans htrn.size hi3
                exact ⟨⟨t + 1, by omega, by go_num, D3, _, n + 1, ⟨hi', hs3.box o23 (by omega), (htrn.trans hi2 ht3).box hi' (fun x hx => (h.dom x hx).2) (by omega), hB3.set 2 _, (hRn.tr ht3 o1 (by omega)).other (p := ⟨w.heap.size + 1, 2, none⟩) (by simp only []; omega) _, hE3.tr (fun _ h => h) (Shp.box o23), by omega, (hLn.tr' hi3 ht3).tr (fun _ h => h) (Shp.box o23), o13, o23⟩⟩, by simp [intOf]; omega⟩
              · have hx' : ((x : Int) == 0) = false := beq_eq_false_iff_ne.2 (by omega)
                go_wp2_with fail
                exact ⟨⟨t + 1, by omega, by go_num, D1, _, n, ⟨hi2, hs2.up (by omega), htr2, hB2, hR2, hE2, by omega, hL2, o1, o2⟩⟩, by simp [intOf]; omega⟩
            · obtain rfl : t = s := by omega
              go_wp2_with fail
              exact ⟨⟨j + 1, by omega, by go_num, H.up (by omega)⟩, by simp [intOf]; omega⟩
        · obtain rfl : j = m := by omega
          go_wp2_with fail
          exact ⟨⟨k + 1, by omega, by go_num, H.up (by omega)⟩, by simp [intOf]; omega⟩
    · obtain rfl : k = s := by omega
      obtain ⟨D1, vE, n, H⟩ := H
      obtain ⟨aE, cE, rfl⟩ := H.edges.shape
      have c0 := H.box.cell 0 rfl
      have c1 := H.box.cell 1 rfl
      have c2 := H.box.cell 2 rfl
      have rc0 := H.res.cell 0 rfl; have rf0 := H.res.fr 0; have rc1 := H.res.cell 1 rfl; have rf1 := H.res.fr 1; have rc2 := H.res.cell 2 rfl; have rf2 := H.res.fr 2
      go_wp2_with fail
      refine bodyPost_ret (v := .agg #[.int .i64 al, .int .i64 k, .slice aE n cE]) (by simp [results, Tryd.results51, go_sem, rc0, rc1, rc2, rf0, rf1, rf2]) rfl ?_
      have hgz : g < w.heap.size := hg
      refine ⟨_, D1, rfl, H.inc, ((H.st.box H.o1 hgz).box H.o1 hgz |>.box H.o1 hgz).up (by omega), ((H.tr.box H.inc (fun x hx => (h.dom x hx).2) (Nat.le_refl _)).box H.inc (fun x hx => (h.dom x hx).2) (Nat.le_refl _)).box H.inc (fun x hx => (h.dom x hx).2) (Nat.le_refl _), _, n, rfl, by have := H.few; omega, ((H.edges.tr (fun _ h => h) (Shp.box H.o1)).tr (fun _ h => h) (Shp.box H.o1)).tr (fun _ h => h) (Shp.box H.o1)⟩
end Go.Proofs.YtanekmfifmkbmaaDoor

namespace Go.Proofs.YtanekmfifmkbmaaDoor
set_option linter.unusedSimpArgs false
set_option linter.unusedVariables false
open Go.RowKit
set_option maxHeartbeats 1000000
set_option maxRecDepth 100000

variable {D D' : Nat → Prop} {g q q' : Nat} {w w' : World}

theorem SysT.tr {v : Value} (h : SysT D q w v) (hi : ∀ b, D b → D' b) (hs : Shp D w w') (hq : q ≤ q') : SysT D' q' w' v := by
  obtain ⟨al, st, ve, n, h2, h3, h4⟩ := h
  exact ⟨al, st, ve, n, h2, by omega, h4.tr hi hs⟩
theorem Drawn.of_kept {C : Nat} {v : Value} {Φ : (Nat → Prop) → Nat → World → Value → Prop} (h : St D g q w) (hs : St D g (q + C) w') (hk : Kept g w w') (hv : Φ D (q + C) w' v) : Drawn D g q C w Φ (.returned v) w' :=
  ⟨v, D, rfl, Inc.refl _ _, hs, Tr.kept h hk, hv⟩

theorem nat_of_mem {l : List Int} {x : Int} {B : Nat} (h : x ∈ l) (hl : ∀ y ∈ l, 0 ≤ y ∧ y ≤ B) : ∃ m : Nat, x = m ∧ m ≤ B := by
  obtain ⟨h1, h2⟩ := hl x h
  obtain ⟨m, rfl⟩ := Int.eq_ofNat_of_zero_le h1
  exact ⟨m, rfl, by omega⟩

theorem l1Some_t (h : St D g q w) (hq : q + 1 ≤ 1000000) :
    Calls Tryd.prog 37 #[.pointer (some ⟨g, 0, none⟩)] w (Drawn D g q 1 w fun _ _ _ v => ∃ x : Nat, x ≤ 63 ∧ v = .int .i64 x) := by
  go_enter Tryd.func37, Tryd.ntmps37
  go_wp2_with fail
  refine (num_t [3, 7, 1, 5, 0, 6, 63, 2, 21] rfl h (by omega) (by decide) (by decide)).mono ?_
  rintro e w2 ⟨x, hm, rfl, hs2, hk2⟩
  obtain ⟨m, rfl, hm2⟩ := nat_of_mem (B := 63) hm (by decide)
  go_wp2_with fail
  go_ret
  exact Drawn.of_kept h hs2 hk2 ⟨m, hm2, rfl⟩

structure Box (D : Nat → Prop) (g q : Nat) (w0 : World) (b c : Nat) (cs : Array Value) (t : TypeId) (w : World) (D' : Nat → Prop) : Prop where
  inc : Inc D D' w0
  st : St D' g (q + c) w
  tr : Tr D g w0 w
  blk : Blk w b cs t
  out : ¬ D' b
theorem Box.new (h : St D g q w) (cs : Array Value) (t : TypeId) : Box D g q w w.heap.size 0 cs t (w.alloc (.cells cs t)) D :=
  ⟨Inc.refl _ _, h.ext (Ext.alloc _ _), Tr.ext h (Ext.alloc _ _), Blk.new _ _ _, h.out (Nat.le_refl _)⟩
theorem Box.kept {b c c' : Nat} {cs : Array Value} {t : TypeId} {w0 : World} (h : Box D g q w0 b c cs t w D') (hb : g < b) (hk : Kept g w w') (hs : St D' g (q + c') w') : Box D g q w0 b c' cs t w' D' :=
  ⟨h.inc, hs, h.tr.trans h.inc (Tr.kept h.st hk), h.blk.kept hk (by omega), h.out⟩
theorem Box.drawn {b c c' : Nat} {cs : Array Value} {t : TypeId} {w0 : World} {D'' : Nat → Prop} (h : Box D g q w0 b c cs t w D') (hb : g < b) (hi : Inc D' D'' w) (hk : Tr D' g w w') (hs : St D'' g (q + c') w') : Box D g q w0 b c' cs t w' D'' :=
  ⟨h.inc.trans h.tr.size hi, hs, h.tr.trans h.inc hk, h.blk.tr hk h.out (by omega), hi.out h.out h.blk.lt⟩
theorem Box.up {b c c' : Nat} {cs : Array Value} {t : TypeId} {w0 : World} (h : Box D g q w0 b c cs t w D') (hc : c ≤ c') : Box D g q w0 b c' cs t w D' :=
  ⟨h.inc, h.st.up (by omega), h.tr, h.blk, h.out⟩
theorem Box.ext {b c : Nat} {cs : Array Value} {t : TypeId} {w0 : World} (h : Box D g q w0 b c cs t w D') (he : Ext w w') : Box D g q w0 b c cs t w' D' :=
  ⟨h.inc, h.st.ext he, h.tr.trans h.inc (Tr.ext h.st he), h.blk.ext he, h.out⟩
theorem Box.set {b c : Nat} {cs : Array Value} {t : TypeId} {w0 : World} (h : Box D g q w0 b c cs t w D') (hg : g < b) (hd : ∀ x, D x → x < w0.heap.size) (hb : w0.heap.size ≤ b) (j : Nat) (u : Value) : Box D g q w0 b c (cs.setIfInBounds j u) t (w.setCell ⟨b, j, none⟩ u) D' :=
  ⟨h.inc, h.st.box h.out hg, h.tr.box h.inc hd hb, h.blk.set j u, h.out⟩
theorem Box.other {b b' c : Nat} {cs : Array Value} {t : TypeId} {w0 : World} (h : Box D g q w0 b c cs t w D') (hg : g < b') (hd : ∀ x, D x → x < w0.heap.size) (hb : w0.heap.size ≤ b') (hn : b ≠ b') (ho : ¬ D' b') (j : Nat) (u : Value) : Box D g q w0 b c cs t (w.setCell ⟨b', j, none⟩ u) D' :=
  ⟨h.inc, h.st.box ho hg, h.tr.box h.inc hd hb, h.blk.other (p := ⟨b', j, none⟩) hn _, h.out⟩

end Go.Proofs.YtanekmfifmkbmaaDoor

namespace Go.Proofs.YtanekmfifmkbmaaDoor
set_option linter.unusedSimpArgs false
set_option linter.unusedVariables false
open Go.RowKit
set_option maxHeartbeats 1000000
set_option maxRecDepth 100000
attribute [local go_sem ↓] Go.wp_at_zero Go.wp_at_succ

variable {D D' : Nat → Prop} {g q q' : Nat} {w w' : World}

theorem SlOk.lit (h : St D g q w) (e : TypeId) (sz : Nat) : Inc D (fun x => D x ∨ x = w.heap.size) w ∧ St (fun x => D x ∨ x = w.heap.size) g q (w.alloc (.cells #[] e)) ∧ Tr D g w (w.alloc (.cells #[] e)) ∧ SlOk (fun x => D x ∨ x = w.heap.size) (w.alloc (.cells #[] e)) e sz (.slice (some ⟨w.heap.size, 0, none⟩) 0 0) 0 := by
  obtain ⟨hi, hs⟩ := h.new (Ext.alloc w (.cells #[] e)) (Nat.le_refl _) (heap_alloc_new w _) (fun i u hu => by simp at hu)
  exact ⟨hi, hs, Tr.ext h (Ext.alloc _ _), .inr ⟨w.heap.size, 0, #[], rfl, .inr rfl, heap_alloc_new w _, by omega, by unfold maxLen; omega, by simp⟩⟩

end Go.Proofs.YtanekmfifmkbmaaDoor

namespace Go.Proofs.YtanekmfifmkbmaaDoor
set_option linter.unusedSimpArgs false
set_option linter.unusedVariables false
open Go.RowKit
set_option maxHeartbeats 1000000
set_option maxRecDepth 100000

variable {D D' : Nat → Prop} {g q q' : Nat} {w w' : World}

theorem SysT.boxed {v : Value} (h : SysT D q w v) : ∃ al st n a c, v = .agg #[.int .i64 al, .int .i64 st, .slice a n c] ∧ n ≤ q ∧ SlOk D w 85 3 (.slice a n c) n := by
  obtain ⟨al, st, ve, n, rfl, hn, h1⟩ := h
  obtain ⟨a, c, rfl⟩ := h1.shape
  exact ⟨al, st, n, a, c, rfl, hn, h1⟩

end Go.Proofs.YtanekmfifmkbmaaDoor
