/- Part of this seat's proofs, cut to what its law needs. -/

import Derived.Test.YtanekmfifmkbmaaGreatDoorDrawA
import Derived.Test.YtanekmfifmkbmaaGreatDoorRegion
import Derived.Deep.RegionLaw
import Derived.Deep.DrawnRows

namespace Go.Proofs.YtanekmfifmkbmaaGreatDoor
set_option linter.unusedSimpArgs false
set_option linter.unusedVariables false
open Go.RowKit
set_option maxHeartbeats 1000000
set_option maxRecDepth 100000

variable {D D' : Nat → Prop} {g q q' : Nat} {w w' : World}

theorem zk_edge : ∀ (D : Nat → Prop) q w, Kin D q w 87 (Value.agg #[.int .i64 0, .int .i64 0, .int .i64 0]).cells.toList := fun D q w i u hu => by
  match i, hu with
  | 0, hu => exact ⟨.int, rfl, 0, by simpa [Value.cells] using hu.symm⟩
  | 1, hu => exact ⟨.int, rfl, 0, by simpa [Value.cells] using hu.symm⟩
  | 2, hu => exact ⟨.int, rfl, 0, by simpa [Value.cells] using hu.symm⟩
  | i + 3, hu => simp [Value.cells] at hu
theorem kin_edge (x y z : Int) : Kin D q w 87 [.int .i64 x, .int .i64 y, .int .i64 z] := fun i u hu => by
  match i, hu with
  | 0, hu => exact ⟨.int, rfl, x, by simpa using hu.symm⟩
  | 1, hu => exact ⟨.int, rfl, y, by simpa using hu.symm⟩
  | 2, hu => exact ⟨.int, rfl, z, by simpa using hu.symm⟩
  | i + 3, hu => simp at hu

theorem SlOk.tr' {e : TypeId} {sz n : Nat} {v : Value} (h : SlOk D w e sz v n) (hi : Inc D D' w) (ht : Tr D g w w') : SlOk D' w' e sz v n := h.tr hi.sub ht.shp
theorem SlOk.int_at {n i : Nat} {v : Value} (hs : SlOk D w 3 1 v n) (hT : Typed D q w) (hi : i < n) : ∃ b cap x, v = .slice (some ⟨b, 0, none⟩) n cap ∧ D b ∧ w.cell? ⟨b, i, none⟩ = some (.int .i64 x) := by
  obtain ⟨b, cap, cs, u, k, rfl, hb, hh, h1, -, h2, h3⟩ := hs.at hT hi (j := 0) (by omega)
  simp only [ck, true_or, if_true, Option.some.injEq] at h2
  subst h2
  obtain ⟨x, rfl⟩ := h3
  exact ⟨b, cap, x, rfl, hb, by simpa using h1⟩

structure L2R (D : Nat → Prop) (g q : Nat) (w : World) (al ns : Int) (m : Nat) (va : Value) (c : Nat) (wr : World) (D' : Nat → Prop) (vE : Value) (n : Nat) : Prop where
  inc : Inc D D' w
  st : St D' g (q + c) wr
  tr : Tr D g w wr
  box : Blk wr (w.heap.size + 1) #[.int .i64 al, .int .i64 ns, vE] 25
  res : Blk wr w.heap.size #[.int .i64 0, .int .i64 0, .slice none 0 0] 25
  edges : SlOk D' wr 87 3 vE n
  few : n ≤ q + c
  lets : SlOk D' wr 3 1 va m
  o1 : ¬ D' w.heap.size
  o2 : ¬ D' (w.heap.size + 1)
theorem L2R.up {al ns : Int} {m : Nat} {va : Value} {c c' : Nat} {wr : World} {vE : Value} {n : Nat} (h : L2R D g q w al ns m va c wr D' vE n) (hc : c ≤ c') : L2R D g q w al ns m va c' wr D' vE n :=
  ⟨h.inc, h.st.up (by omega), h.tr, h.box, h.res, h.edges, by have := h.few; omega, h.lets, h.o1, h.o2⟩
def L2S (D : Nat → Prop) (g q : Nat) (w : World) (al ns : Int) (m : Nat) (va : Value) (c : Nat) (wr : World) : Prop := ∃ D' vE n, L2R D g q w al ns m va c wr D' vE n
theorem L2S.up {al ns : Int} {m : Nat} {va : Value} {c c' : Nat} {wr : World} (h : L2S D g q w al ns m va c wr) (hc : c ≤ c') : L2S D g q w al ns m va c' wr := let ⟨D', vE, n, h1⟩ := h; ⟨D', vE, n, h1.up hc⟩

theorem l2Random_t (al few : Int) (s : Nat) (hst2 : s ≤ 16) (hfew : few ≤ 1000) (h : St D g q w) (hq : q + 4000 ≤ 1000000) :
    Calls Tryz.prog 62 #[.pointer (some ⟨g, 0, none⟩), .int .i64 al, .int .i64 s, .int .i64 few] w
      (Drawn D g q 4000 w fun D' q' w' v => ∃ ve n, v = .agg #[.int .i64 al, .int .i64 s, ve] ∧ n ≤ q' ∧ SlOk D' w' 87 3 ve n) := by
  have hg := h.g_lt
  obtain ⟨wo, hwo⟩ : ∃ wo, wo = (w.alloc (.cells #[.int .i64 0, .int .i64 0, .slice none 0 0] 25)).alloc (.cells #[.int .i64 al, .int .i64 s, .slice none 0 0] 25) := ⟨_, rfl⟩
  have he : Ext w wo := by rw [hwo]; exact (Ext.alloc _ _).trans (Ext.alloc _ _)
  have hR : Blk wo w.heap.size #[.int .i64 0, .int .i64 0, .slice none 0 0] 25 := by rw [hwo]; exact Ext.blk (Ext.alloc _ _)
  have hB : Blk wo (w.heap.size + 1) #[.int .i64 al, .int .i64 s, .slice none 0 0] 25 := by rw [hwo]; exact Ext.blk1 (Ext.refl _)
  have hws : w.heap.size + 2 ≤ wo.heap.size := by rw [hwo]; simp
  have ho1 : ¬ D w.heap.size := h.out (Nat.le_refl _)
  have ho2 : ¬ D (w.heap.size + 1) := h.out (by omega)
  have hso := h.ext he
  have hto := Tr.ext h he
  go_enter Tryz.func62, Tryz.ntmps62
  go_wp2_with fail
  rw [← hwo]
  clear hwo
  refine (l1Letters_t al hso (by omega)).mono ?_
  rintro e w1 ⟨va, D1, rfl, hi1, hs1, ht1, m, hm, hl1⟩
  have H0 : L2S D g q w al s m va 6 w1 := ⟨D1, .slice none 0 0, 0, hi1.low he.size, hs1, hto.trans (Inc.refl _ _) ht1, hB.tr ht1 ho2 (by omega), hR.tr ht1 ho1 (by omega), SlOk.nil, by omega, hl1, hi1.out ho1 (by omega), hi1.out ho2 (by omega)⟩
  obtain ⟨av, cv, rfl⟩ := hl1.shape
  clear hB hR hso hto hs1 ht1 hl1 hi1 hws he
  go_wp2_with fail
  go_loopw [11] (fun i wr => ∃ k : Nat, k ≤ s ∧ i = .int .i64 k ∧ L2S D g q w al s m (.slice av m cv) (6 + k * 192) wr) (fun i _ => s - (intOf i).toNat)
  case atStart => exact ⟨0, by omega, rfl, H0.up (by omega)⟩
  case round =>
    clear H0
    obtain ⟨k, hk, rfl, H⟩ := hrel
    by_cases hlt : k < s
    · go_wp2_with fail
      go_loopw [12] (fun i wr => ∃ j : Nat, j ≤ m ∧ i = .int .i64 j ∧ L2S D g q w al s m (.slice av m cv) (6 + k * 192 + j * 32) wr) (fun i _ => m - (intOf i).toNat)
      case atStart => exact ⟨0, by omega, rfl, H.up (by omega)⟩
      case round =>
        clear H
        obtain ⟨j, hj, rfl, H⟩ := hrel
        by_cases hjm : j < m
        · go_wp2_with fail
          go_loopw [13] (fun i wr => ∃ t : Nat, t ≤ s ∧ i = .int .i64 t ∧ L2S D g q w al s m (.slice av m cv) (6 + k * 192 + j * 32 + t * 2) wr) (fun i _ => s - (intOf i).toNat)
          case atStart => exact ⟨0, by omega, rfl, H.up (by omega)⟩
          case round =>
            clear H
            obtain ⟨t, ht, rfl, H⟩ := hrel
            by_cases hts : t < s
            · obtain ⟨D1, vE, n, H⟩ := H
              go_wp2_with fail
              refine (pick_t few H.st (by omega) (by omega)).mono ?_
              rintro e w2 ⟨x, rfl, -, -, hs2, hk2⟩
              have ht2 := Tr.kept H.st hk2
              have hB2 := H.box.kept hk2 (by omega)
              have hR2 := H.res.kept hk2 (by omega)
              have hE2 := H.edges.tr' (Inc.refl _ _) ht2
              have hL2 := H.lets.tr' (Inc.refl _ _) ht2
              have hi2 := H.inc
              have htr2 := H.tr.trans H.inc ht2
              have hn2 := H.few
              have o1 := H.o1
              have o2 := H.o2
              clear H ht2 hk2
              by_cases hx : x = 0
              · subst hx
                obtain ⟨b, cap, y, hv, hb, hc⟩ := hL2.int_at hs2.typ hjm
                cases hv
                obtain ⟨aE, cE, rfl⟩ := hE2.shape
                go_wp2_with fail
                have D0 := fun d os => cell_regrown (hB2.cell 2 rfl) d os
                have D2 := fun d os => cell_regrown hc d os
                obtain ⟨Kc, HKc⟩ : ∃ Kc : FuncId → Array Value → World → Value → World → Prop, Hid (Kc = fun _ _ _ _ _ => True) := ⟨_, rfl⟩
                refine wp_region_ext (Kc := Kc) 10 (by kernel_rfl) (by kernel_rfl) ?_
                simp only [List.take_succ_cons, List.take_zero]
                repeat (refine WalkE.pure rfl (fun K hK => ?_); simp only [PureDo]; go_simp; refine hK _ ?_; clear hK K)
                refine WalkE.step (fun K hK wd hwd hdd => ?_)
                simp only [OpDo, OpSafe, OpOut]
                go_simp
                refine ⟨Ext.alloc _ _, hK _ _ ?_⟩
                clear hK K hdd
                refine WalkE.nil (fun wn hwn hmn => ?_)
                simp only [List.drop_succ_cons, List.drop_zero, List.drop_nil]
                have hl := (hmn 9 (by omega))
                have l0 := hl.new 0 rfl
                have l1 := hl.new 1 rfl
                have l2 := hl.new 2 rfl
                have hx := (Ext.drew w2).trans hwn
                have hcell : ∀ (j' : Nat) (u : Value), [Value.int .i64 k, Value.int .i64 y, Value.int .i64 t][j']? = some u → wn.cell? ((⟨wd.heap.size, 0, none⟩ : Addr).add j') = some u := fun j' u hu => by
                  rw [add_none, Nat.zero_add]
                  match j', hu with
                  | 0, hu => simp at hu; subst hu; exact l0
                  | 1, hu => simp at hu; subst hu; exact l1
                  | 2, hu => simp at hu; subst hu; exact l2
                  | j' + 3, hu => simp at hu
                have hsn := hs2.ext hx
                have htn := Tr.ext hs2 hx
                have hEn := hE2.tr' (Inc.refl _ _) htn
                have hLn := hL2.tr' (Inc.refl _ _) htn
                have hBn := hB2.ext hx
                have hRn := hR2.ext hx
                have htrn := htr2.trans hi2 htn
                clear l0 l1 l2 hl hmn HKc D0 D2 hE2 hL2 hB2 hR2 htr2 htn hwn hwd hc hs2 hx
                generalize wd.heap.size = r at hcell ⊢
                clear wd w2
                go_wp2_with (at_builtin; refine app_t (news := [Value.int .i64 k, Value.int .i64 y, Value.int .i64 t]) (q' := q + (6 + k * 192 + j * 32 + (t + 1) * 2)) rfl _ _ _ rfl Tryz.underlying23 infoEdge rfl (by decide) per_edge zk_edge hsn hEn rfl rfl (by simp) hcell (by simp [Value.oneCell']) (kin_edge _ _ _) (by omega) (by decide) (by omega) ?_; intro v1 w3 D3 hi3 hs3 ht3 hE3; obtain ⟨a3, c3, rfl⟩ := hE3.shape; have hB3 := hBn.tr ht3 o2 (by omega); have gc2 := hB3.cell 2 rfl; have gf2 := hB3.fr 2)
                have hsz := htrn.size
                have hbs := hBn.lt
                have o13 := hi3.out o1 hRn.lt
                have o23 := hi3.out o2 hBn.lt
                have hi' := hi2.trans htrn.size hi3
                exact ⟨⟨t + 1, by omega, by go_num, D3, _, n + 1, ⟨hi', hs3.box o23 (by omega), (htrn.trans hi2 ht3).box hi' (fun x hx => (h.dom x hx).2) (by omega), hB3.set 2 _, (hRn.tr ht3 o1 (by omega)).other (p := ⟨w.heap.size + 1, 2, none⟩) (by simp only []; omega) _, hE3.tr (fun _ h => h) (Shp.box o23), by omega, (hLn.tr' hi3 ht3).tr (fun _ h => h) (Shp.box o23), o13, o23⟩⟩, by simp [intOf]; omega⟩
              · have hx' : ((x : Int) == 0) = false := beq_eq_false_iff_ne.2 (by omega)
                go_wp2_with fail
                exact ⟨⟨t + 1, by omega, by go_num, D1, _, n, ⟨hi2, hs2.up (by omega), htr2, hB2, hR2, hE2, by omega, hL2, o1, o2⟩⟩, by simp [intOf]; omega⟩
            · obtain rfl : t = s := by omega
              go_wp2_with fail
              exact ⟨⟨j + 1, by omega, by go_num, H.up (by omega)⟩, by simp [intOf]; omega⟩
        · obtain rfl : j = m := by omega
          go_wp2_with fail
          exact ⟨⟨k + 1, by omega, by go_num, H.up (by omega)⟩, by simp [intOf]; omega⟩
    · obtain rfl : k = s := by omega
      obtain ⟨D1, vE, n, H⟩ := H
      obtain ⟨aE, cE, rfl⟩ := H.edges.shape
      have c0 := H.box.cell 0 rfl
      have c1 := H.box.cell 1 rfl
      have c2 := H.box.cell 2 rfl
      have rc0 := H.res.cell 0 rfl; have rf0 := H.res.fr 0; have rc1 := H.res.cell 1 rfl; have rf1 := H.res.fr 1; have rc2 := H.res.cell 2 rfl; have rf2 := H.res.fr 2
      go_wp2_with fail
      refine bodyPost_ret (v := .agg #[.int .i64 al, .int .i64 k, .slice aE n cE]) (by simp [results, Tryz.results62, go_sem, rc0, rc1, rc2, rf0, rf1, rf2]) rfl ?_
      have hgz : g < w.heap.size := hg
      refine ⟨_, D1, rfl, H.inc, ((H.st.box H.o1 hgz).box H.o1 hgz |>.box H.o1 hgz).up (by omega), ((H.tr.box H.inc (fun x hx => (h.dom x hx).2) (Nat.le_refl _)).box H.inc (fun x hx => (h.dom x hx).2) (Nat.le_refl _)).box H.inc (fun x hx => (h.dom x hx).2) (Nat.le_refl _), _, n, rfl, by have := H.few; omega, ((H.edges.tr (fun _ h => h) (Shp.box H.o1)).tr (fun _ h => h) (Shp.box H.o1)).tr (fun _ h => h) (Shp.box H.o1)⟩
end Go.Proofs.YtanekmfifmkbmaaGreatDoor

namespace Go.Proofs.YtanekmfifmkbmaaGreatDoor
set_option linter.unusedSimpArgs false
set_option linter.unusedVariables false
open Go.RowKit
set_option maxHeartbeats 1000000
set_option maxRecDepth 100000

variable {D D' : Nat → Prop} {g q q' : Nat} {w w' : World}

def SysA (D : Nat → Prop) (q : Nat) (w : World) (v : Value) : Prop := ∃ (al st : Nat) (ve : Value) (n : Nat), al ≤ 63 ∧ st ≤ 16 ∧ v = .agg #[.int .i64 al, .int .i64 st, ve] ∧ n ≤ q ∧ SlOk D w 87 3 ve n
theorem SysA.sysT {v : Value} (h : SysA D q w v) : SysT D q w v := by
  obtain ⟨al, st, ve, n, -, -, h1, h2, h3⟩ := h
  exact ⟨al, st, ve, n, h1, h2, h3⟩
theorem SysT.tr {v : Value} (h : SysT D q w v) (hi : ∀ b, D b → D' b) (hs : Shp D w w') (hq : q ≤ q') : SysT D' q' w' v := by
  obtain ⟨al, st, ve, n, h2, h3, h4⟩ := h
  exact ⟨al, st, ve, n, h2, by omega, h4.tr hi hs⟩
theorem AutoT.tr {v : Value} (h : AutoT D q w v) (hi : ∀ b, D b → D' b) (hs : Shp D w w') (hq : q ≤ q') : AutoT D' q' w' v := by
  obtain ⟨al, vn, va, n, m, h2, h3, h4, h5, h6⟩ := h
  exact ⟨al, vn, va, n, m, h2, by omega, by omega, h5.tr hi hs, h6.tr hi hs⟩

theorem Drawn.of_kept {C : Nat} {v : Value} {Φ : (Nat → Prop) → Nat → World → Value → Prop} (h : St D g q w) (hs : St D g (q + C) w') (hk : Kept g w w') (hv : Φ D (q + C) w' v) : Drawn D g q C w Φ (.returned v) w' :=
  ⟨v, D, rfl, Inc.refl _ _, hs, Tr.kept h hk, hv⟩

theorem nat_of_mem {l : List Int} {x : Int} {B : Nat} (h : x ∈ l) (hl : ∀ y ∈ l, 0 ≤ y ∧ y ≤ B) : ∃ m : Nat, x = m ∧ m ≤ B := by
  obtain ⟨h1, h2⟩ := hl x h
  obtain ⟨m, rfl⟩ := Int.eq_ofNat_of_zero_le h1
  exact ⟨m, rfl, by omega⟩

theorem l1Some_t (h : St D g q w) (hq : q + 1 ≤ 1000000) :
    Calls Tryz.prog 121 #[.pointer (some ⟨g, 0, none⟩)] w (Drawn D g q 1 w fun _ _ _ v => ∃ x : Nat, x ≤ 63 ∧ v = .int .i64 x) := by
  go_enter Tryz.func121, Tryz.ntmps121
  go_wp2_with fail
  refine (num_t [3, 7, 1, 5, 0, 6, 63, 2, 21] rfl h (by omega) (by decide) (by decide)).mono ?_
  rintro e w2 ⟨x, hm, rfl, hs2, hk2⟩
  obtain ⟨m, rfl, hm2⟩ := nat_of_mem (B := 63) hm (by decide)
  go_wp2_with fail
  go_ret
  exact Drawn.of_kept h hs2 hk2 ⟨m, hm2, rfl⟩

structure Box (D : Nat → Prop) (g q : Nat) (w0 : World) (b c : Nat) (cs : Array Value) (t : TypeId) (w : World) (D' : Nat → Prop) : Prop where
  inc : Inc D D' w0
  st : St D' g (q + c) w
  tr : Tr D g w0 w
  blk : Blk w b cs t
  out : ¬ D' b
theorem Box.new (h : St D g q w) (cs : Array Value) (t : TypeId) : Box D g q w w.heap.size 0 cs t (w.alloc (.cells cs t)) D :=
  ⟨Inc.refl _ _, h.ext (Ext.alloc _ _), Tr.ext h (Ext.alloc _ _), Blk.new _ _ _, h.out (Nat.le_refl _)⟩
theorem Box.kept {b c c' : Nat} {cs : Array Value} {t : TypeId} {w0 : World} (h : Box D g q w0 b c cs t w D') (hb : g < b) (hk : Kept g w w') (hs : St D' g (q + c') w') : Box D g q w0 b c' cs t w' D' :=
  ⟨h.inc, hs, h.tr.trans h.inc (Tr.kept h.st hk), h.blk.kept hk (by omega), h.out⟩
theorem Box.drawn {b c c' : Nat} {cs : Array Value} {t : TypeId} {w0 : World} {D'' : Nat → Prop} (h : Box D g q w0 b c cs t w D') (hb : g < b) (hi : Inc D' D'' w) (hk : Tr D' g w w') (hs : St D'' g (q + c') w') : Box D g q w0 b c' cs t w' D'' :=
  ⟨h.inc.trans h.tr.size hi, hs, h.tr.trans h.inc hk, h.blk.tr hk h.out (by omega), hi.out h.out h.blk.lt⟩
theorem Box.up {b c c' : Nat} {cs : Array Value} {t : TypeId} {w0 : World} (h : Box D g q w0 b c cs t w D') (hc : c ≤ c') : Box D g q w0 b c' cs t w D' :=
  ⟨h.inc, h.st.up (by omega), h.tr, h.blk, h.out⟩
theorem Box.ext {b c : Nat} {cs : Array Value} {t : TypeId} {w0 : World} (h : Box D g q w0 b c cs t w D') (he : Ext w w') : Box D g q w0 b c cs t w' D' :=
  ⟨h.inc, h.st.ext he, h.tr.trans h.inc (Tr.ext h.st he), h.blk.ext he, h.out⟩
theorem Box.set {b c : Nat} {cs : Array Value} {t : TypeId} {w0 : World} (h : Box D g q w0 b c cs t w D') (hg : g < b) (hd : ∀ x, D x → x < w0.heap.size) (hb : w0.heap.size ≤ b) (j : Nat) (u : Value) : Box D g q w0 b c (cs.setIfInBounds j u) t (w.setCell ⟨b, j, none⟩ u) D' :=
  ⟨h.inc, h.st.box h.out hg, h.tr.box h.inc hd hb, h.blk.set j u, h.out⟩
theorem Box.other {b b' c : Nat} {cs : Array Value} {t : TypeId} {w0 : World} (h : Box D g q w0 b c cs t w D') (hg : g < b') (hd : ∀ x, D x → x < w0.heap.size) (hb : w0.heap.size ≤ b') (hn : b ≠ b') (ho : ¬ D' b') (j : Nat) (u : Value) : Box D g q w0 b c cs t (w.setCell ⟨b', j, none⟩ u) D' :=
  ⟨h.inc, h.st.box ho hg, h.tr.box h.inc hd hb, h.blk.other (p := ⟨b', j, none⟩) hn _, h.out⟩

theorem l2Small_t (h : St D g q w) (hq : q + 4003 ≤ 1000000) :
    Calls Tryz.prog 22 #[.pointer (some ⟨g, 0, none⟩)] w (Drawn D g q 4003 w fun D' q' w' v => SysA D' q' w' v) := by
  have hg := h.g_lt
  have hd := fun x hx => (h.dom x hx).2
  have B0 := Box.new h #[.int .i64 0, .int .i64 0, .slice none 0 0] 25
  go_enter Tryz.func22, Tryz.ntmps22
  go_wp2_with fail
  refine (num_t [3, 6, 7, 5, 2] (by simp) B0.st (by omega) (by decide) (by decide)).mono ?_
  rintro e w2 ⟨x, hx, rfl, hs2, hk2⟩
  obtain ⟨al, rfl, hal⟩ := nat_of_mem (B := 63) hx (by decide)
  have B1 := B0.kept hg hk2 (c' := 1) hs2
  go_wp2_with fail
  refine (num_t [2, 3, 1, 3] rfl B1.st (by omega) (by decide) (by decide)).mono ?_
  rintro e w3 ⟨y, hy, rfl, hs3, hk3⟩
  obtain ⟨st, rfl, hst⟩ := nat_of_mem (B := 3) hy (by decide)
  have B2 := B1.kept hg hk3 (c' := 2) hs3
  go_wp2_with fail
  refine (num_t [2, 3, 4] rfl B2.st (by omega) (by decide) (by decide)).mono ?_
  rintro e w4 ⟨z, hz, rfl, hs4, hk4⟩
  obtain ⟨fw, rfl, hfw⟩ := nat_of_mem (B := 4) hz (by decide)
  have B3 := B2.kept hg hk4 (c' := 3) hs4
  go_wp2_with fail
  refine (l2Random_t al fw st (by omega) (by omega) B3.st (by omega)).mono ?_
  rintro e w5 ⟨v, D1, rfl, hi5, hs5, ht5, ve, n, rfl, hn, hE⟩
  have B4 := B3.drawn hg hi5 ht5 (c' := 4003) (hs5.up (by omega))
  obtain ⟨aE, cE, rfl⟩ := hE.shape
  have rc0 := B4.blk.cell 0 rfl; have rf0 := B4.blk.fr 0; have rc1 := B4.blk.cell 1 rfl; have rf1 := B4.blk.fr 1; have rc2 := B4.blk.cell 2 rfl; have rf2 := B4.blk.fr 2
  go_wp2_with fail
  have hr : Tryz.results22 = Tryz.results22 := rfl
  refine bodyPost_ret (v := .agg #[.int .i64 al, .int .i64 st, .slice aE n cE]) (by simp [results, Tryz.results22, go_sem, rc0, rc1, rc2, rf0, rf1, rf2]) rfl ?_
  have B5 := ((B4.set hg hd (Nat.le_refl _) 0 (.int .i64 al)).set hg hd (Nat.le_refl _) 1 (.int .i64 st)).set hg hd (Nat.le_refl _) 2 (.slice aE n cE)
  exact ⟨_, D1, rfl, B5.inc, B5.st, B5.tr, al, st, _, n, by omega, by omega, rfl, by omega, ((hE.tr (fun _ h => h) (Shp.box B4.out)).tr (fun _ h => h) (Shp.box B4.out)).tr (fun _ h => h) (Shp.box B4.out)⟩
end Go.Proofs.YtanekmfifmkbmaaGreatDoor

namespace Go.Proofs.YtanekmfifmkbmaaGreatDoor
set_option linter.unusedSimpArgs false
set_option linter.unusedVariables false
open Go.RowKit
set_option maxHeartbeats 1000000
set_option maxRecDepth 100000
attribute [local go_sem ↓] Go.wp_at_zero Go.wp_at_succ

variable {D D' : Nat → Prop} {g q q' : Nat} {w w' : World}

theorem zk_bool : ∀ (D : Nat → Prop) q w, Kin D q w 4 (Value.bool false).cells.toList := fun D q w i u hu => by
  match i, hu with
  | 0, hu => exact ⟨.bool, rfl, false, by simpa [Value.cells] using hu.symm⟩
  | i + 1, hu => simp [Value.cells] at hu
theorem kin_bool (x : Bool) : Kin D q w 4 [.bool x] := fun i u hu => by
  match i, hu with
  | 0, hu => exact ⟨.bool, rfl, x, by simpa using hu.symm⟩
  | i + 1, hu => simp at hu
theorem zk_ints : ∀ (D : Nat → Prop) q w, Kin D q w 80 (Value.slice none 0 0).cells.toList := fun D q w i u hu => by
  match i, hu with
  | 0, hu => exact ⟨.sl 3 1, rfl, 0, by omega, by simp [Value.cells] at hu; subst hu; exact SlOk.nil⟩
  | i + 1, hu => simp [Value.cells] at hu
theorem kin_ints {v : Value} {n : Nat} (h : SlOk D w 3 1 v n) (hn : n ≤ q) : Kin D q w 80 [v] := fun i u hu => by
  match i, hu with
  | 0, hu => exact ⟨.sl 3 1, rfl, n, hn, by simp at hu; subst hu; exact h⟩
  | i + 1, hu => simp at hu
theorem SlOk.lit (h : St D g q w) (e : TypeId) (sz : Nat) : Inc D (fun x => D x ∨ x = w.heap.size) w ∧ St (fun x => D x ∨ x = w.heap.size) g q (w.alloc (.cells #[] e)) ∧ Tr D g w (w.alloc (.cells #[] e)) ∧ SlOk (fun x => D x ∨ x = w.heap.size) (w.alloc (.cells #[] e)) e sz (.slice (some ⟨w.heap.size, 0, none⟩) 0 0) 0 := by
  obtain ⟨hi, hs⟩ := h.new (Ext.alloc w (.cells #[] e)) (Nat.le_refl _) (heap_alloc_new w _) (fun i u hu => by simp at hu)
  exact ⟨hi, hs, Tr.ext h (Ext.alloc _ _), .inr ⟨w.heap.size, 0, #[], rfl, .inr rfl, heap_alloc_new w _, by omega, by unfold maxLen; omega, by simp⟩⟩

theorem l3Random_t (al : Int) (s : Nat) (hst : s ≤ 16) (h : St D g q w) (hq : q + 300 ≤ 1000000) :
    Calls Tryz.prog 176 #[.pointer (some ⟨g, 0, none⟩), .int .i64 al, .int .i64 s] w
      (Drawn D g q 300 w fun D' q' w' v => ∃ vn va, v = .agg #[.int .i64 al, vn, va] ∧ SlOk D' w' 80 1 vn s ∧ SlOk D' w' 4 1 va s) := by
  have hg := h.g_lt
  have hd := fun x hx => (h.dom x hx).2
  have B0 := Box.new h #[.int .i64 0, .slice none 0 0, .slice none 0 0] 31
  have B0 := B0.ext (Ext.alloc _ (.cells #[.int .i64 al, .slice none 0 0, .slice none 0 0] 31))
  have B1 : Box D g q w (w.heap.size + 1) 0 #[.int .i64 al, .slice none 0 0, .slice none 0 0] 31 _ D := ⟨B0.inc, B0.st, B0.tr, Ext.blk1 (Ext.refl _), h.out (by omega)⟩
  go_enter Tryz.func176, Tryz.ntmps176
  go_wp2_with fail
  generalize (w.alloc (.cells #[.int .i64 0, .slice none 0 0, .slice none 0 0] 31)).alloc (.cells #[.int .i64 al, .slice none 0 0, .slice none 0 0] 31) = w1 at B0 B1 ⊢
  refine (l1Letters_t al B0.st (by omega)).mono ?_
  rintro e w2 ⟨vl, D1, rfl, hi2, hs2, ht2, m, hm, hl2⟩
  have B0 := B0.drawn hg hi2 ht2 (c' := 6) (hs2.up (by omega))
  have B1 := B1.drawn (by omega) hi2 ht2 (c' := 6) (hs2.up (by omega))
  obtain ⟨al', cl', rfl⟩ := hl2.shape
  clear hl2 hs2 ht2 hi2
  go_wp2_with fail
  go_loopw [9] (fun i wr => ∃ (k : Nat) (D' : Nat → Prop) (vN vA : Value), k ≤ s ∧ i = .int .i64 k ∧ Box D g q w w.heap.size (6 + k * 15) #[.int .i64 0, .slice none 0 0, .slice none 0 0] 31 wr D' ∧ Box D g q w (w.heap.size + 1) (6 + k * 15) #[.int .i64 al, vN, vA] 31 wr D' ∧ SlOk D' wr 80 1 vN k ∧ SlOk D' wr 4 1 vA k) (fun i _ => s - (intOf i).toNat)
  case atStart => exact ⟨0, D1, _, _, by omega, rfl, B0.up (by omega), B1.up (by omega), SlOk.nil, SlOk.nil⟩
  case round =>
    clear B0 B1
    obtain ⟨k, D2, vN, vA, hk, rfl, B0, B1, hN, hA⟩ := hrel
    by_cases hlt : k < s
    · obtain ⟨i3, s3, t3, l3⟩ := SlOk.lit B1.st 3 1
      have hN := hN.tr' i3 t3
      have hA := hA.tr' i3 t3
      have B0 := B0.drawn hg i3 t3 s3
      have B1 := B1.drawn (by omega) i3 t3 s3
      clear i3 s3 t3
      go_wp2_with fail
      generalize hrs : wr.heap.size = rs at l3 ⊢
      go_loopw [10, 11] (fun v i wr => ∃ (j : Nat) (D' : Nat → Prop), j ≤ m ∧ i = .int .i64 j ∧ Box D g q w w.heap.size (6 + k * 15 + j * 2) #[.int .i64 0, .slice none 0 0, .slice none 0 0] 31 wr D' ∧ Box D g q w (w.heap.size + 1) (6 + k * 15 + j * 2) #[.int .i64 al, vN, vA] 31 wr D' ∧ SlOk D' wr 80 1 vN k ∧ SlOk D' wr 4 1 vA k ∧ SlOk D' wr 3 1 v j) (fun _ i _ => m - (intOf i).toNat)
      case atStart => subst hrs; exact ⟨0, _, by omega, rfl, B0.up (by omega), B1.up (by omega), hN, hA, l3⟩
      case round =>
        clear B0 B1 hN hA l3
        obtain ⟨j, D3, hj, rfl, B0, B1, hN, hA, hr⟩ := hrel
        obtain ⟨ar, cr, rfl⟩ := hr.shape
        by_cases hjm : j < m
        · go_wp2_with fail
          refine (pick_t s B1.st (by omega) (by omega)).mono ?_
          rintro e w3 ⟨x, rfl, -, -, hs3, hk3⟩
          have ht3 := Tr.kept B1.st hk3
          have hr := hr.tr' (Inc.refl _ _) ht3
          have hN := hN.tr' (Inc.refl _ _) ht3
          have hA := hA.tr' (Inc.refl _ _) ht3
          have B0 := B0.kept hg hk3 (c' := 6 + k * 15 + (j * 2 + 1)) (hs3.up (by omega))
          have B1 := B1.kept (by omega) hk3 (c' := 6 + k * 15 + (j * 2 + 1)) (hs3.up (by omega))
          clear ht3 hk3 hs3
          go_wp2_with (at_builtin; refine app1_t (q + (6 + k * 15 + (j + 1) * 2)) rfl rfl Tryz.underlying80 infoInt rfl (by decide) per_int zk_int B1.st hr rfl rfl rfl (by simp [Value.oneCell']) (kin_int _) (by omega) (by decide) (by omega) ?_; intro v1 w4 D4 hi4 hs4 ht4 hr4)
          exact ⟨⟨j + 1, D4, by omega, by go_num, B0.drawn hg hi4 ht4 hs4, B1.drawn (by omega) hi4 ht4 hs4, hN.tr' hi4 ht4, hA.tr' hi4 ht4, hr4⟩, by simp [intOf]; omega⟩
        · obtain rfl : j = m := by omega
          obtain ⟨aN, cN, rfl⟩ := hN.shape
          have gc1 := B1.blk.cell 1 rfl
          go_wp2_with (at_builtin; refine app1_t (q + (6 + k * 15 + 13)) rfl rfl Tryz.underlying28 infoInts rfl (by decide) per_ints zk_ints B1.st hN rfl rfl rfl (by simp [Value.oneCell']) (kin_ints hr (by omega)) (by omega) (by decide) (by omega) ?_; intro v1 w4 D4 hi4 hs4 ht4 hN4; obtain ⟨aM, cM, rfl⟩ := hN4.shape; have B0 := B0.drawn hg hi4 ht4 hs4; have hA := hA.tr' hi4 ht4; have B1 := B1.drawn (by omega) hi4 ht4 hs4; have gc4 := B1.blk.cell 1 rfl; have gf4 := B1.blk.fr 1)
          have o4 := B1.out
          have B0 := B0.other (b' := w.heap.size + 1) (by omega) hd (by omega) (by omega) o4 1 (.slice aM (k + 1) cM)
          have B1 := B1.set (by omega) hd (by omega) 1 (.slice aM (k + 1) cM)
          have hN5 := hN4.tr (fun _ h => h) (Shp.box (j := 1) (u := .slice aM (k + 1) cM) o4)
          have hA := hA.tr (fun _ h => h) (Shp.box (j := 1) (u := .slice aM (k + 1) cM) o4)
          generalize w4.setCell ⟨w.heap.size + 1, 1, none⟩ (.slice aM (k + 1) cM) = w5 at B0 B1 hN5 hA ⊢
          obtain ⟨aA, cA, rfl⟩ := hA.shape
          have gc5 : w5.cell? ⟨w.heap.size + 1, 2, none⟩ = some (.slice aA k cA) := B1.blk.cell 2 rfl
          have B1' := B1.ext (Ext.drew _)
          have hA' := hA.tr' (Inc.refl _ _) (Tr.ext B1.st (Ext.drew _))
          clear gc1 gc4 gf4
          go_region_law (first | (refine step_app1_t (q + (6 + k * 15 + 15)) (by rfl) (by rfl) Tryz.underlying29 infoBool (by rfl) (by decide) per_bool zk_bool hs6 (hA'.tr' (Inc.refl _ _) (Tr.kept B1'.st hk6)) (by rfl) (by rfl) (by rfl) (by simp [Value.oneCell']) (kin_bool _) (by omega) (by decide) (by omega) ?_; intro v1 w7 D7 hi7 hs7 ht7 hA7; obtain ⟨a7, c7, rfl⟩ := hA7.shape; have B7 := (B1'.kept (by omega) hk6 (c' := 6 + k * 15 + 14) (hs6.up (by omega))).drawn (by omega) hi7 ht7 (c' := 6 + (k + 1) * 15) (hs7.up (by omega)); have gc7 := B7.blk.cell 2 rfl; have gf7 := B7.blk.fr 2) | (go_simp; go_wp2_with (go_at_call 23; refine (pick_t 3 B1'.st (by omega) (by omega)).mono ?_; rintro e w6 ⟨x, rfl, -, -, hs6, hk6⟩; have gc6 : w6.cell? ⟨w.heap.size + 1, 2, none⟩ = some (.slice aA k cA) := (B1'.blk.kept hk6 (by omega)).cell 2 rfl; have gc8 := fun o => (Ext.alloc w6 o).cell gc6)))
          all_goals
            have B8 := ((B0.ext (Ext.drew _)).kept hg hk6 (c' := 6 + k * 15 + 14) (hs6.up (by omega))).drawn hg hi7 ht7 (c' := 6 + (k + 1) * 15) (hs7.up (by omega))
            have hN8 := ((hN5.tr' (Inc.refl _ _) (Tr.ext B1.st (Ext.drew _))).tr' (Inc.refl _ _) (Tr.kept B1'.st hk6)).tr' hi7 ht7
            have o7 := B7.out
            go_wp2_with fail
            exact ⟨⟨k + 1, D7, _, _, by omega, by go_num, B8.other (b' := w.heap.size + 1) (by omega) hd (by omega) (by omega) o7 2 _, B7.set (by omega) hd (by omega) 2 _, hN8.tr (fun _ h => h) (Shp.box o7), hA7.tr (fun _ h => h) (Shp.box o7)⟩, by simp [intOf]; omega⟩
    · obtain rfl : k = s := by omega
      obtain ⟨aN, cN, rfl⟩ := hN.shape
      obtain ⟨aA, cA, rfl⟩ := hA.shape
      have c0 := B1.blk.cell 0 rfl
      have c1 := B1.blk.cell 1 rfl
      have c2 := B1.blk.cell 2 rfl
      have rc0 := B0.blk.cell 0 rfl; have rf0 := B0.blk.fr 0; have rc1 := B0.blk.cell 1 rfl; have rf1 := B0.blk.fr 1; have rc2 := B0.blk.cell 2 rfl; have rf2 := B0.blk.fr 2
      go_wp2_with fail
      refine bodyPost_ret (v := .agg #[.int .i64 al, .slice aN k cN, .slice aA k cA]) (by simp [results, Tryz.results176, go_sem, rc0, rc1, rc2, rf0, rf1, rf2]) rfl ?_
      have B5 := ((B0.set hg hd (Nat.le_refl _) 0 (.int .i64 al)).set hg hd (Nat.le_refl _) 1 (.slice aN k cN)).set hg hd (Nat.le_refl _) 2 (.slice aA k cA)
      have o := B0.out
      exact ⟨_, D2, rfl, B5.inc, B5.st.up (by omega), B5.tr, _, _, rfl, ((hN.tr (fun _ h => h) (Shp.box o)).tr (fun _ h => h) (Shp.box o)).tr (fun _ h => h) (Shp.box o), ((hA.tr (fun _ h => h) (Shp.box o)).tr (fun _ h => h) (Shp.box o)).tr (fun _ h => h) (Shp.box o)⟩
end Go.Proofs.YtanekmfifmkbmaaGreatDoor

namespace Go.Proofs.YtanekmfifmkbmaaGreatDoor
set_option linter.unusedSimpArgs false
set_option linter.unusedVariables false
open Go.RowKit
set_option maxHeartbeats 1000000
set_option maxRecDepth 100000

variable {D D' : Nat → Prop} {g q q' : Nat} {w w' : World}

theorem SlOk.row_at {n i : Nat} {v : Value} (hs : SlOk D w 80 1 v n) (hT : Typed D q w) (hi : i < n) : ∃ b cap r c m, v = .slice (some ⟨b, 0, none⟩) n cap ∧ D b ∧ w.cell? ⟨b, i, none⟩ = some (.slice r m c) ∧ m ≤ q ∧ SlOk D w 3 1 (.slice r m c) m := by
  obtain ⟨b, cap, cs, u, k, rfl, hb, hh, h1, -, h2, h3⟩ := hs.at hT hi (j := 0) (by omega)
  have h2' : CK.sl 3 1 = k := Option.some.inj h2
  subst h2'
  obtain ⟨m, hm, h4⟩ := h3
  obtain ⟨r, c, rfl⟩ := h4.shape
  exact ⟨b, cap, r, c, m, rfl, hb, by simpa using h1, hm, h4⟩
theorem SlOk.store_int {n i : Nat} {v : Value} (hs : SlOk D w 3 1 v n) (h : St D g q w) (hi : i < n) : ∃ b cap u, v = .slice (some ⟨b, 0, none⟩) n cap ∧ D b ∧ w.cell? ⟨b, i, none⟩ = some (.int .i64 u) ∧ w.frozen? ⟨b, i, none⟩ = false ∧ ∀ x, St D g q (w.setCell ⟨b, i, none⟩ (.int .i64 x)) ∧ Tr D g w (w.setCell ⟨b, i, none⟩ (.int .i64 x)) := by
  obtain ⟨b, cap, cs, u, k, rfl, hb, hh, h1, hf, h2, h3⟩ := hs.at h.typ hi (j := 0) (by omega)
  have h2' : CK.int = k := Option.some.inj h2
  subst h2'
  obtain ⟨x, rfl⟩ := h3
  simp only [Nat.mul_one, Nat.add_zero] at h1 hf h2
  exact ⟨b, cap, x, rfl, hb, h1, hf, fun y => h.set hb hh h2 ⟨y, rfl⟩⟩
theorem SlOk.store_bool {n i : Nat} {v : Value} (hs : SlOk D w 4 1 v n) (h : St D g q w) (hi : i < n) : ∃ b cap u, v = .slice (some ⟨b, 0, none⟩) n cap ∧ D b ∧ w.cell? ⟨b, i, none⟩ = some (.bool u) ∧ w.frozen? ⟨b, i, none⟩ = false ∧ ∀ x, St D g q (w.setCell ⟨b, i, none⟩ (.bool x)) ∧ Tr D g w (w.setCell ⟨b, i, none⟩ (.bool x)) := by
  obtain ⟨b, cap, cs, u, k, rfl, hb, hh, h1, hf, h2, h3⟩ := hs.at h.typ hi (j := 0) (by omega)
  have h2' : CK.bool = k := Option.some.inj h2
  subst h2'
  obtain ⟨x, rfl⟩ := h3
  simp only [Nat.mul_one, Nat.add_zero] at h1 hf h2
  exact ⟨b, cap, x, rfl, hb, h1, hf, fun y => h.set hb hh h2 ⟨y, rfl⟩⟩

theorem l3Safe_t (al : Int) (s : Nat) (hs1 : 1 ≤ s) (hst : s ≤ 16) (h : St D g q w) (hq : q + 300 ≤ 1000000) :
    Calls Tryz.prog 122 #[.pointer (some ⟨g, 0, none⟩), .int .i64 al, .int .i64 s] w
      (Drawn D g q 300 w fun D' q' w' v => ∃ vn va, v = .agg #[.int .i64 al, vn, va] ∧ SlOk D' w' 80 1 vn s ∧ SlOk D' w' 4 1 va s) := by
  obtain ⟨r, rfl⟩ : ∃ r, s = r + 1 := ⟨s - 1, by omega⟩
  have hg := h.g_lt
  have hd := fun x hx => (h.dom x hx).2
  have B0 := Box.new h #[.int .i64 0, .slice none 0 0, .slice none 0 0] 31
  go_enter Tryz.func122, Tryz.ntmps122
  go_wp2_with fail
  refine (l3Random_t al (r + 1) (by omega) B0.st (by omega)).mono ?_
  rintro e w1 ⟨v, D1, rfl, hi1, hs1, ht1, vN, vA, rfl, hN, hA⟩
  have B0 := B0.drawn hg hi1 ht1 (c' := 300) (hs1.up (by omega))
  obtain ⟨aN, cN, rfl⟩ := hN.shape
  obtain ⟨aA, cA, rfl⟩ := hA.shape
  go_wp2_with fail
  have he := Ext.alloc w1 (.cells #[.int .i64 al, .slice aN (r + 1) cN, .slice aA (r + 1) cA] 31)
  have B1 : Box D g q w w1.heap.size 300 #[.int .i64 al, .slice aN (r + 1) cN, .slice aA (r + 1) cA] 31 _ D1 := ⟨B0.inc, (B0.ext he).st, (B0.ext he).tr, Blk.new _ _ _, B0.st.out (Nat.le_refl _)⟩
  have hN := hN.tr' (Inc.refl _ _) (Tr.ext B0.st he)
  have hA := hA.tr' (Inc.refl _ _) (Tr.ext B0.st he)
  have B0 := B0.ext he
  have hGs : w.heap.size < w1.heap.size := Nat.lt_of_lt_of_le (by simp) ht1.size
  clear ht1 hi1 hs1 he
  generalize w1.alloc (.cells #[.int .i64 al, .slice aN (r + 1) cN, .slice aA (r + 1) cA] 31) = w2 at B0 B1 hN hA ⊢
  generalize w1.heap.size = G at B1 hGs ⊢
  go_loopw [8] (fun i wr => ∃ k : Nat, k ≤ r + 1 ∧ i = .int .i64 k ∧ Box D g q w w.heap.size 300 #[.int .i64 0, .slice none 0 0, .slice none 0 0] 31 wr D1 ∧ Box D g q w G 300 #[.int .i64 al, .slice aN (r + 1) cN, .slice aA (r + 1) cA] 31 wr D1 ∧ SlOk D1 wr 80 1 (.slice aN (r + 1) cN) (r + 1) ∧ SlOk D1 wr 4 1 (.slice aA (r + 1) cA) (r + 1)) (fun i _ => r + 1 - (intOf i).toNat)
  case atStart => exact ⟨0, by omega, rfl, B0, B1, hN, hA⟩
  case round =>
    clear B0 B1 hN hA
    obtain ⟨k, hk, rfl, B0, B1, hN, hA⟩ := hrel
    by_cases hlt : k < r + 1
    · obtain ⟨b, cap, u, hv, hb, hc, hf, hst1⟩ := hA.store_bool B1.st hlt
      cases hv
      have gc2 := B1.blk.cell 2 rfl
      go_wp2_with fail
      obtain ⟨s5, t5⟩ := hst1 (decide (k < r))
      exact ⟨⟨k + 1, by omega, by go_num, B0.drawn hg (Inc.refl _ _) t5 s5, B1.drawn (by omega) (Inc.refl _ _) t5 s5, hN.tr' (Inc.refl _ _) t5, hA.tr' (Inc.refl _ _) t5⟩, by simp [intOf]; omega⟩
    · obtain rfl : k = r + 1 := by omega
      go_wp2_with fail
      go_loopw [9] (fun i wr => ∃ k : Nat, k ≤ q + 300 ∧ i = .int .i64 k ∧ Box D g q w w.heap.size 300 #[.int .i64 0, .slice none 0 0, .slice none 0 0] 31 wr D1 ∧ Box D g q w G 300 #[.int .i64 al, .slice aN (r + 1) cN, .slice aA (r + 1) cA] 31 wr D1 ∧ SlOk D1 wr 80 1 (.slice aN (r + 1) cN) (r + 1) ∧ SlOk D1 wr 4 1 (.slice aA (r + 1) cA) (r + 1)) (fun i _ => q + 301 - (intOf i).toNat)
      case atStart => exact ⟨0, by omega, rfl, B0, B1, hN, hA⟩
      case round =>
        clear B0 B1 hN hA
        obtain ⟨k, hk, rfl, B0, B1, hN, hA⟩ := hrel
        obtain ⟨b, cap, rr, rc, m, hv, hb, hc, hm, hrow⟩ := hN.row_at B1.st.typ (i := r) (by omega)
        cases hv
        have gc1 := B1.blk.cell 1 rfl
        by_cases hkm : k < m
        · obtain ⟨b2, cap2, u2, hv2, hb2, hc2, hf2, hst2⟩ := hrow.store_int B1.st hkm
          cases hv2
          go_wp2_with fail
          obtain ⟨s5, t5⟩ := hst2 r
          exact ⟨⟨k + 1, by omega, by go_num, B0.drawn hg (Inc.refl _ _) t5 s5, B1.drawn (by omega) (Inc.refl _ _) t5 s5, hN.tr' (Inc.refl _ _) t5, hA.tr' (Inc.refl _ _) t5⟩, by simp [intOf]; omega⟩
        · have c0 := B1.blk.cell 0 rfl
          have c2 := B1.blk.cell 2 rfl
          have rc0 := B0.blk.cell 0 rfl; have rf0 := B0.blk.fr 0; have rc1 := B0.blk.cell 1 rfl; have rf1 := B0.blk.fr 1; have rc2 := B0.blk.cell 2 rfl; have rf2 := B0.blk.fr 2
          go_wp2_with fail
          refine bodyPost_ret (v := .agg #[.int .i64 al, .slice (some ⟨b, 0, none⟩) (r + 1) cN, .slice aA (r + 1) cA]) (by simp [results, Tryz.results122, go_sem, rc0, rc1, rc2, rf0, rf1, rf2]) rfl ?_
          have B5 := ((B0.set hg hd (Nat.le_refl _) 0 (.int .i64 al)).set hg hd (Nat.le_refl _) 1 (.slice (some ⟨b, 0, none⟩) (r + 1) cN)).set hg hd (Nat.le_refl _) 2 (.slice aA (r + 1) cA)
          have o := B0.out
          exact ⟨_, D1, rfl, B5.inc, B5.st, B5.tr, _, _, rfl, ((hN.tr (fun _ h => h) (Shp.box o)).tr (fun _ h => h) (Shp.box o)).tr (fun _ h => h) (Shp.box o), ((hA.tr (fun _ h => h) (Shp.box o)).tr (fun _ h => h) (Shp.box o)).tr (fun _ h => h) (Shp.box o)⟩

theorem AutoT.of {al : Int} {vn va : Value} {n : Nat} (h1 : SlOk D w 80 1 vn n) (h2 : SlOk D w 4 1 va n) (hn : n ≤ q) : AutoT D q w (.agg #[.int .i64 al, vn, va]) := ⟨al, vn, va, n, n, rfl, hn, hn, h1, h2⟩

theorem l3Over_t (al : Int) (h : St D g q w) (hq : q + 350 ≤ 1000000) :
    Calls Tryz.prog 123 #[.pointer (some ⟨g, 0, none⟩), .int .i64 al] w (Drawn D g q 350 w AutoT) := by
  have hg := h.g_lt
  have hd := fun x hx => (h.dom x hx).2
  have B0 := Box.new h #[.int .i64 0, .slice none 0 0, .slice none 0 0] 31
  go_enter Tryz.func123, Tryz.ntmps123
  go_wp2_with fail
  refine (pick_t 2 B0.st (by omega) (by omega)).mono ?_
  rintro e w1 ⟨x, rfl, -, -, hs1, hk1⟩
  have B1 := B0.kept hg hk1 (c' := 1) hs1
  by_cases hx : x = 0
  · subst hx
    go_wp2_with fail
    refine (num_t [3, 2, 4, 1] rfl B1.st (by omega) (by decide) (by decide)).mono ?_
    rintro e w2 ⟨y, hy, rfl, hs2, hk2⟩
    have hy1 : 1 ≤ y := (show ∀ y ∈ [3, 2, 4, (1 : Int)], 1 ≤ y by decide) y hy
    obtain ⟨m, rfl, hm⟩ := nat_of_mem (B := 4) hy (by decide)
    have B2 := B1.kept hg hk2 (c' := 2) hs2
    go_wp2_with fail
    refine (l3Safe_t al m (by omega) (by omega) B2.st (by omega)).mono ?_
    rintro e w3 ⟨v, D1, rfl, hi3, hs3, ht3, vN, vA, rfl, hN, hA⟩
    have B3 := B2.drawn hg hi3 ht3 (c' := 350) (hs3.up (by omega))
    obtain ⟨aN, cN, rfl⟩ := hN.shape
    obtain ⟨aA, cA, rfl⟩ := hA.shape
    have rc0 := B3.blk.cell 0 rfl; have rf0 := B3.blk.fr 0; have rc1 := B3.blk.cell 1 rfl; have rf1 := B3.blk.fr 1; have rc2 := B3.blk.cell 2 rfl; have rf2 := B3.blk.fr 2
    go_wp2_with fail
    refine bodyPost_ret (v := .agg #[.int .i64 al, .slice aN m cN, .slice aA m cA]) (by simp [results, Tryz.results123, go_sem, rc0, rc1, rc2, rf0, rf1, rf2]) rfl ?_
    have B5 := ((B3.set hg hd (Nat.le_refl _) 0 (.int .i64 al)).set hg hd (Nat.le_refl _) 1 (.slice aN m cN)).set hg hd (Nat.le_refl _) 2 (.slice aA m cA)
    have o := B3.out
    exact ⟨_, D1, rfl, B5.inc, B5.st, B5.tr, AutoT.of (((hN.tr (fun _ h => h) (Shp.box o)).tr (fun _ h => h) (Shp.box o)).tr (fun _ h => h) (Shp.box o)) (((hA.tr (fun _ h => h) (Shp.box o)).tr (fun _ h => h) (Shp.box o)).tr (fun _ h => h) (Shp.box o)) (by omega)⟩
  · have hx' : ((x : Int) == 0) = false := beq_eq_false_iff_ne.2 (by omega)
    go_wp2_with fail
    refine (num_t [2, 3, 1, 4, 5] rfl B1.st (by omega) (by decide) (by decide)).mono ?_
    rintro e w2 ⟨y, hy, rfl, hs2, hk2⟩
    obtain ⟨m, rfl, hm⟩ := nat_of_mem (B := 5) hy (by decide)
    have B2 := B1.kept hg hk2 (c' := 2) hs2
    go_wp2_with fail
    refine (l3Random_t al m (by omega) B2.st (by omega)).mono ?_
    rintro e w3 ⟨v, D1, rfl, hi3, hs3, ht3, vN, vA, rfl, hN, hA⟩
    have B3 := B2.drawn hg hi3 ht3 (c' := 350) (hs3.up (by omega))
    obtain ⟨aN, cN, rfl⟩ := hN.shape
    obtain ⟨aA, cA, rfl⟩ := hA.shape
    have rc0 := B3.blk.cell 0 rfl; have rf0 := B3.blk.fr 0; have rc1 := B3.blk.cell 1 rfl; have rf1 := B3.blk.fr 1; have rc2 := B3.blk.cell 2 rfl; have rf2 := B3.blk.fr 2
    go_wp2_with fail
    refine bodyPost_ret (v := .agg #[.int .i64 al, .slice aN m cN, .slice aA m cA]) (by simp [results, Tryz.results123, go_sem, rc0, rc1, rc2, rf0, rf1, rf2]) rfl ?_
    have B5 := ((B3.set hg hd (Nat.le_refl _) 0 (.int .i64 al)).set hg hd (Nat.le_refl _) 1 (.slice aN m cN)).set hg hd (Nat.le_refl _) 2 (.slice aA m cA)
    have o := B3.out
    exact ⟨_, D1, rfl, B5.inc, B5.st, B5.tr, AutoT.of (((hN.tr (fun _ h => h) (Shp.box o)).tr (fun _ h => h) (Shp.box o)).tr (fun _ h => h) (Shp.box o)) (((hA.tr (fun _ h => h) (Shp.box o)).tr (fun _ h => h) (Shp.box o)).tr (fun _ h => h) (Shp.box o)) (by omega)⟩

theorem AutoT.boxed {v : Value} (h : AutoT D q w v) : ∃ al n m aN cN aA cA, v = .agg #[.int .i64 al, .slice aN n cN, .slice aA m cA] ∧ n ≤ q ∧ m ≤ q ∧ SlOk D w 80 1 (.slice aN n cN) n ∧ SlOk D w 4 1 (.slice aA m cA) m := by
  obtain ⟨al, vn, va, n, m, rfl, hn, hm, h1, h2⟩ := h
  obtain ⟨aN, cN, rfl⟩ := h1.shape
  obtain ⟨aA, cA, rfl⟩ := h2.shape
  exact ⟨al, n, m, aN, cN, aA, cA, rfl, hn, hm, h1, h2⟩
theorem SysT.boxed {v : Value} (h : SysT D q w v) : ∃ al st n a c, v = .agg #[.int .i64 al, .int .i64 st, .slice a n c] ∧ n ≤ q ∧ SlOk D w 87 3 (.slice a n c) n := by
  obtain ⟨al, st, ve, n, rfl, hn, h1⟩ := h
  obtain ⟨a, c, rfl⟩ := h1.shape
  exact ⟨al, st, n, a, c, rfl, hn, h1⟩

theorem and_small (a : Int) (b : Nat) (hb : b ≤ 63) : ∃ m : Nat, m ≤ 63 ∧ bits .and .i64 a (b : Int) = (m : Int) := by
  refine ⟨((BitVec.ofInt 64 a) &&& (BitVec.ofInt 64 (b : Int))).toNat, ?_, ?_⟩
  · rw [BitVec.toNat_and, ofInt_i64 b (by omega)]
    exact Nat.le_trans Nat.and_le_right hb
  · have : ((BitVec.ofInt 64 a) &&& (BitVec.ofInt 64 (b : Int))).toNat ≤ 63 := by
      rw [BitVec.toNat_and, ofInt_i64 b (by omega)]
      exact Nat.le_trans Nat.and_le_right hb
    show IntKind.i64.wrap (((BitVec.ofInt 64 a) &&& (BitVec.ofInt 64 (b : Int))).toNat : Int) = _
    exact IntWalk.i64_in _ (by omega)

theorem l8Property_t (al : Int) (h : St D g q w) (hq : q + 400 ≤ 1000000) :
    Calls Tryz.prog 68 #[.pointer (some ⟨g, 0, none⟩), .int .i64 al] w (Drawn D g q 400 w AutoT) := by
  have hg := h.g_lt
  have hd := fun x hx => (h.dom x hx).2
  have B0 := Box.new h #[.int .i64 0, .slice none 0 0, .slice none 0 0] 31
  go_enter Tryz.func68, Tryz.ntmps68
  go_wp2_with fail
  refine (num_t [63, 63, 5, 3, 6] (by simp) B0.st (by omega) (by decide) (by decide)).mono ?_
  rintro e w1 ⟨y, hy, rfl, hs1, hk1⟩
  obtain ⟨m, rfl, hm⟩ := nat_of_mem (B := 63) hy (by decide)
  have B1 := B0.kept hg hk1 (c' := 1) hs1
  clear hs1 hk1 B0
  obtain ⟨z, hz, hzz⟩ := and_small al m hm
  go_wp2_with fail
  refine (pick_t 8 B1.st (by omega) (by omega)).mono ?_
  rintro e w2 ⟨x, rfl, -, -, hs2, hk2⟩
  have B2 := B1.kept hg hk2 (c' := 2) hs2
  clear hs2 hk2 B1
  by_cases hx : x = 0
  · subst hx
    go_wp2_with fail
    refine (l1Some_t B2.st (by omega)).mono ?_
    rintro e w3 ⟨v3, D3, rfl, hi3, hs3, ht3, z3, hz3, rfl⟩
    have B3 := B2.drawn hg hi3 ht3 (c' := 3) (hs3.up (by omega))
    clear hs3 ht3 hi3 B2
    go_wp2_with fail
    refine (pick_t 4 B3.st (by omega) (by omega)).mono ?_
    rintro e w4 ⟨x4, rfl, -, -, hs4, hk4⟩
    have B4 := B3.kept hg hk4 (c' := 4) (hs4.up (by omega))
    clear hs4 hk4
    by_cases hx4 : 0 < x4
    · go_wp2_with fail
      refine (num_t [3, 2, 4, 1] rfl B4.st (by omega) (by decide) (by decide)).mono ?_
      rintro e w5 ⟨y5, hy5, rfl, hs5, hk5⟩
      have hy51 : 1 ≤ y5 := (show ∀ y ∈ [3, 2, 4, (1 : Int)], 1 ≤ y by decide) y5 hy5
      obtain ⟨m5, rfl, hm5⟩ := nat_of_mem (B := 4) hy5 (by decide)
      have B5 := B4.kept hg hk5 (c' := 5) (hs5.up (by omega))
      go_wp2_with fail
      refine (l3Safe_t z3 m5 (by omega) (by omega) B5.st (by omega)).mono ?_
      rintro e w6 ⟨v6, D6, rfl, hi6, hs6, ht6, vN, vA, rfl, hN, hA⟩
      have B6 := B5.drawn hg hi6 ht6 (c' := 400) (hs6.up (by omega))
      obtain ⟨aN, cN, rfl⟩ := hN.shape
      obtain ⟨aA, cA, rfl⟩ := hA.shape
      have rc0 := B6.blk.cell 0 rfl; have rf0 := B6.blk.fr 0; have rc1 := B6.blk.cell 1 rfl; have rf1 := B6.blk.fr 1; have rc2 := B6.blk.cell 2 rfl; have rf2 := B6.blk.fr 2
      go_wp2_with fail
      refine bodyPost_ret (v := .agg #[.int .i64 z3, .slice aN m5 cN, .slice aA m5 cA]) (by simp [results, Tryz.results68, go_sem, rc0, rc1, rc2, rf0, rf1, rf2]) rfl ?_
      have BZ := ((B6.set hg hd (Nat.le_refl _) 0 (.int .i64 z3)).set hg hd (Nat.le_refl _) 1 (.slice aN m5 cN)).set hg hd (Nat.le_refl _) 2 (.slice aA m5 cA)
      have oZ := B6.out
      exact ⟨_, _, rfl, BZ.inc, BZ.st.up (by omega), BZ.tr, _, _, _, _, _, rfl, by omega, by omega, (((hN.tr (fun _ h => h) (Shp.box oZ)).tr (fun _ h => h) (Shp.box oZ)).tr (fun _ h => h) (Shp.box oZ)), (((hA.tr (fun _ h => h) (Shp.box oZ)).tr (fun _ h => h) (Shp.box oZ)).tr (fun _ h => h) (Shp.box oZ))⟩
    · obtain rfl : x4 = 0 := by omega
      go_wp2_with fail
      refine (l3Over_t z3 B4.st (by omega)).mono ?_
      rintro e w6 ⟨v6, D6, rfl, hi6, hs6, ht6, hv6⟩
      obtain ⟨al6, n6, m6, aN, cN, aA, cA, rfl, hn6, hm6, hN, hA⟩ := hv6.boxed
      have B6 := B4.drawn hg hi6 ht6 (c' := 400) (hs6.up (by omega))
      have rc0 := B6.blk.cell 0 rfl; have rf0 := B6.blk.fr 0; have rc1 := B6.blk.cell 1 rfl; have rf1 := B6.blk.fr 1; have rc2 := B6.blk.cell 2 rfl; have rf2 := B6.blk.fr 2
      go_wp2_with fail
      refine bodyPost_ret (v := .agg #[.int .i64 al6, .slice aN n6 cN, .slice aA m6 cA]) (by simp [results, Tryz.results68, go_sem, rc0, rc1, rc2, rf0, rf1, rf2]) rfl ?_
      have BZ := ((B6.set hg hd (Nat.le_refl _) 0 (.int .i64 al6)).set hg hd (Nat.le_refl _) 1 (.slice aN n6 cN)).set hg hd (Nat.le_refl _) 2 (.slice aA m6 cA)
      have oZ := B6.out
      exact ⟨_, _, rfl, BZ.inc, BZ.st.up (by omega), BZ.tr, _, _, _, _, _, rfl, by omega, by omega, (((hN.tr (fun _ h => h) (Shp.box oZ)).tr (fun _ h => h) (Shp.box oZ)).tr (fun _ h => h) (Shp.box oZ)), (((hA.tr (fun _ h => h) (Shp.box oZ)).tr (fun _ h => h) (Shp.box oZ)).tr (fun _ h => h) (Shp.box oZ))⟩
  · have hx' : ((x : Int) == 0) = false := beq_eq_false_iff_ne.2 (by omega)
    go_wp2_with fail
    refine (pick_t 4 B2.st (by omega) (by omega)).mono ?_
    rintro e w4 ⟨x4, rfl, -, -, hs4, hk4⟩
    have B4 := B2.kept hg hk4 (c' := 3) (hs4.up (by omega))
    clear hs4 hk4
    by_cases hx4 : 0 < x4
    · go_wp2_with fail
      refine (num_t [3, 2, 4, 1] rfl B4.st (by omega) (by decide) (by decide)).mono ?_
      rintro e w5 ⟨y5, hy5, rfl, hs5, hk5⟩
      have hy51 : 1 ≤ y5 := (show ∀ y ∈ [3, 2, 4, (1 : Int)], 1 ≤ y by decide) y5 hy5
      obtain ⟨m5, rfl, hm5⟩ := nat_of_mem (B := 4) hy5 (by decide)
      have B5 := B4.kept hg hk5 (c' := 4) (hs5.up (by omega))
      go_wp2_with fail
      refine (l3Safe_t z m5 (by omega) (by omega) B5.st (by omega)).mono ?_
      rintro e w6 ⟨v6, D6, rfl, hi6, hs6, ht6, vN, vA, rfl, hN, hA⟩
      have B6 := B5.drawn hg hi6 ht6 (c' := 400) (hs6.up (by omega))
      obtain ⟨aN, cN, rfl⟩ := hN.shape
      obtain ⟨aA, cA, rfl⟩ := hA.shape
      have rc0 := B6.blk.cell 0 rfl; have rf0 := B6.blk.fr 0; have rc1 := B6.blk.cell 1 rfl; have rf1 := B6.blk.fr 1; have rc2 := B6.blk.cell 2 rfl; have rf2 := B6.blk.fr 2
      go_wp2_with fail
      refine bodyPost_ret (v := .agg #[.int .i64 z, .slice aN m5 cN, .slice aA m5 cA]) (by simp [results, Tryz.results68, go_sem, rc0, rc1, rc2, rf0, rf1, rf2]) rfl ?_
      have BZ := ((B6.set hg hd (Nat.le_refl _) 0 (.int .i64 z)).set hg hd (Nat.le_refl _) 1 (.slice aN m5 cN)).set hg hd (Nat.le_refl _) 2 (.slice aA m5 cA)
      have oZ := B6.out
      exact ⟨_, _, rfl, BZ.inc, BZ.st.up (by omega), BZ.tr, _, _, _, _, _, rfl, by omega, by omega, (((hN.tr (fun _ h => h) (Shp.box oZ)).tr (fun _ h => h) (Shp.box oZ)).tr (fun _ h => h) (Shp.box oZ)), (((hA.tr (fun _ h => h) (Shp.box oZ)).tr (fun _ h => h) (Shp.box oZ)).tr (fun _ h => h) (Shp.box oZ))⟩
    · obtain rfl : x4 = 0 := by omega
      go_wp2_with fail
      refine (l3Over_t z B4.st (by omega)).mono ?_
      rintro e w6 ⟨v6, D6, rfl, hi6, hs6, ht6, hv6⟩
      obtain ⟨al6, n6, m6, aN, cN, aA, cA, rfl, hn6, hm6, hN, hA⟩ := hv6.boxed
      have B6 := B4.drawn hg hi6 ht6 (c' := 400) (hs6.up (by omega))
      have rc0 := B6.blk.cell 0 rfl; have rf0 := B6.blk.fr 0; have rc1 := B6.blk.cell 1 rfl; have rf1 := B6.blk.fr 1; have rc2 := B6.blk.cell 2 rfl; have rf2 := B6.blk.fr 2
      go_wp2_with fail
      refine bodyPost_ret (v := .agg #[.int .i64 al6, .slice aN n6 cN, .slice aA m6 cA]) (by simp [results, Tryz.results68, go_sem, rc0, rc1, rc2, rf0, rf1, rf2]) rfl ?_
      have BZ := ((B6.set hg hd (Nat.le_refl _) 0 (.int .i64 al6)).set hg hd (Nat.le_refl _) 1 (.slice aN n6 cN)).set hg hd (Nat.le_refl _) 2 (.slice aA m6 cA)
      have oZ := B6.out
      exact ⟨_, _, rfl, BZ.inc, BZ.st.up (by omega), BZ.tr, _, _, _, _, _, rfl, by omega, by omega, (((hN.tr (fun _ h => h) (Shp.box oZ)).tr (fun _ h => h) (Shp.box oZ)).tr (fun _ h => h) (Shp.box oZ)), (((hA.tr (fun _ h => h) (Shp.box oZ)).tr (fun _ h => h) (Shp.box oZ)).tr (fun _ h => h) (Shp.box oZ))⟩
end Go.Proofs.YtanekmfifmkbmaaGreatDoor
