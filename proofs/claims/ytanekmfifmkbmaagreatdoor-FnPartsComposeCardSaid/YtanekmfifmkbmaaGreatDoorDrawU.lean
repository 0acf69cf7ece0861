/- Part of this seat's proofs, cut to what its law needs. -/

import Derived.Test.YtanekmfifmkbmaaGreatDoorDrawF
import Derived.Test.YtanekmfifmkbmaaGreatDoorWalkR
import Derived.Test.YtanekmfifmkbmaaGreatDoorDrawO
import Derived.Test.YtanekmfifmkbmaaGreatDoorDrawP
import Derived.Test.YtanekmfifmkbmaaGreatDoorTaskC
import Derived.Deep.RegionHeld3
import Derived.Deep.DeepCutAuto
import Derived.Deep.CutBlock

namespace Go.Proofs.YtanekmfifmkbmaaGreatDoor
set_option linter.unusedSimpArgs false
set_option linter.unusedVariables false
open Go.RowKit
set_option maxHeartbeats 1000000
set_option maxRecDepth 100000
attribute [local go_sem ↓] Go.wp_at_zero Go.wp_at_succ

section
variable {P : Program} {D D' : Nat → Prop} {g q q' : Nat} {w w' w0 : World} {e : TypeId}
theorem copy_x {ops : Array Oper} {Kc : FuncId → Array Value → World → Value → World → Prop} {o : Oper} {a : Act} {K : Value → World → Prop} {s x : Operand} {t : TypeId} {size bytes b m c : Nat} {z : Value} {ao : Option Addr} {news : List Value} (hgd : o.guard = none)
    (ho : o.op = .call { callee := .builtin .append, args := #[s, x], argTypes := #[t, t] }) (ht : P.underlying t = some (.slice e)) (hinfo : (P.info? e).map (fun i => (i.zero, i.size, i.bytes)) = some (some z, size, bytes)) (hzs : z.cells.size = size) (hsz : 0 < size) (hp : Per e size)
    (hzk : ∀ D q w, Kin D q w e z.cells.toList) (h0 : St D g q w0) (hw0 : Ext w0 w) (hb : w0.heap.size ≤ b) (hlit : Blk w b #[] e) (hev : a.eval s = .slice (some ⟨b, 0, none⟩) 0 0) (hx : a.eval x = .slice ao m c)
    (hmc : m ≤ c) (hl : news.length = m * size) (hnews : 0 < m → ∃ ad, ao = some ad ∧ ∀ j u, news[j]? = some u → w.cell? (ad.add j) = some u) (hk : Kin D q w e news)
    (hnm : m ≤ 4294967296) (hby : bytes ≤ 1024)
    (hQ : ∀ v' w' D', Ext w w' → Inc D D' w0 → St D' g q w' → SlOk D' w' e size v' m → (∀ x, D' x → D x ∨ ∃ cs, w'.heap[x]? = some (.cells cs e (0, 0))) → K v' w') : OpDo P ops Kc Ext o a w K := by
  obtain ⟨i, hi, hz, rfl, rfl⟩ := info_parts hinfo
  have h := h0.ext hw0
  by_cases hm : m = 0
  · subst hm
    obtain ⟨h2, h3⟩ := h0.new hw0 hb hlit (fun i u hu => by simp at hu)
    refine OpDo.of_run (v := .slice (some ⟨b, 0, none⟩) 0 0) (w' := w) hgd ?_ (Ext.refl _) (hQ _ _ _ (Ext.refl _) h2 h3 (.inr ⟨b, 0, #[], rfl, .inr rfl, hlit, by omega, by unfold maxLen; omega, by simp⟩) (fun x hx => by rcases hx with hx | rfl; exact .inl hx; exact .inr ⟨_, hlit⟩))
    have hr : (Builtin.append_ #[t, t] o.type #[.slice (some ⟨b, 0, none⟩) 0 0, .slice ao 0 c]).run P w = .ok (.slice (some ⟨b, 0, none⟩) 0 0) w := by
      cases ao with
      | none => simp [Builtin.append_, run_underlying ht, sizeOf, typeInfo, hi, Builtin.lenOf, Builtin.firstCells, loadCells, loadCellsFrom, storeCells]
      | some ad => simp [Builtin.append_, run_underlying ht, sizeOf, typeInfo, hi, Builtin.lenOf, Builtin.firstCells, loadCells, loadCellsFrom, storeCells]
    unfold execOp
    simp only [ho, resolve, invoke, builtin, Sem.run_bind, Sem.run_pure, Result.andThen_ok, List.map_toArray, List.map_cons, List.map_nil, hev, hx, hr]
  · obtain ⟨ad, rfl, hc'⟩ := hnews (by omega)
    have hr := run_append_grow (P := P) w t o.type e i z ht hi hz ⟨b, 0, none⟩ 0 0 [] (by simp) (fun j v h => by simp at h) ad m c news hl hc' (by omega) (by omega) (growslice_fits (by omega) (by rw [Nat.zero_add]; have := Nat.mul_le_mul hnm hby; omega))
    simp only [Nat.zero_add, List.nil_append, Array.empty_append] at hr
    have he : Ext w (w.drew.alloc (.cells (news.toArray ++ Builtin.zeroCells z.cells (grownCap w m 0 e - m)) e)) := (Ext.drew w).trans (Ext.alloc _ _)
    have hsh := (Tr.ext h he).shp
    have hkk : Kin D q (w.drew.alloc (.cells (news.toArray ++ Builtin.zeroCells z.cells (grownCap w m 0 e - m)) e)) e (news.toArray ++ Builtin.zeroCells z.cells (grownCap w m 0 e - m)).toList := by
      simp only [Array.toList_append]
      exact Kin.append (n := m) hp (hk.tr (fun _ h => h) hsh (Nat.le_refl _)) hl (Kin.zeros hp hzs hsz (hzk _ _ _) _)
    obtain ⟨h2, h3⟩ := h.new (e := e) he (Nat.le_refl _) (heap_alloc_new w.drew _) hkk
    have hge := grownCap_ge w m 0 e
    have hcm' : grownCap w m 0 e ≤ maxLen := grownCap_le_maxLen w m 0 e (by unfold maxLen; omega)
    refine OpDo.of_run hgd ?_ he (hQ _ _ _ he (h2.low hw0.size) h3 (.inr ⟨w.heap.size, grownCap w m 0 e, _, rfl, .inr rfl, heap_alloc_new w.drew _, hge, hcm', ?_⟩) (fun x hx => by rcases hx with hx | rfl; exact .inl hx; exact .inr ⟨_, heap_alloc_new w.drew _⟩))
    · unfold execOp
      simp only [ho, resolve, invoke, builtin, Sem.run_bind, Sem.run_pure, Result.andThen_ok, List.map_toArray, List.map_cons, List.map_nil, hev, hx]
      rw [hr]
      rfl
    · simp only [Array.size_append, List.size_toArray, size_zeroCells, hzs, hl, ← Nat.add_mul]
      congr 1; omega
end

variable {D D' : Nat → Prop} {g q q' : Nat} {w w' : World}
theorem kin_bools (l : List Bool) : Kin D q w 4 (l.map Value.bool) := fun i u hu => by
  rw [List.getElem?_map] at hu
  obtain ⟨b, -, rfl⟩ := Option.map_eq_some_iff.1 hu
  exact ⟨.bool, rfl, b, rfl⟩
theorem kin_intl (l : List Int) : Kin D q w 3 (l.map (Value.int .i64)) := fun i u hu => by
  rw [List.getElem?_map] at hu
  obtain ⟨b, -, rfl⟩ := Option.map_eq_some_iff.1 hu
  exact ⟨.int, rfl, b, rfl⟩

theorem own_tr {base size n : Nat} {e : TypeId} {v : Value} {xs : List Value} (h : w.ownsRow base e size v n xs) (ht : Tr D g w w') (hD : ∀ b, D b → b < base) (hg : g < base) : w'.ownsRow base e size v n xs := by
  refine ⟨h.1, ?_⟩
  rcases h.2 with h1 | ⟨b, cap, cs, e1, hb, hh, h2⟩
  · exact .inl h1
  · refine .inr ⟨b, cap, cs, e1, hb, ?_, h2⟩
    have hlt := (Array.getElem?_eq_some_iff.1 hh).1
    rw [ht.tnd.block b hlt (fun hS => by rcases hS with hS | hS; have := hD b hS; omega; omega)]
    exact hh
theorem RowsAre.tr {base : Nat} {e : TypeId} {vs : List Value} {ll : List (List Int)} (h : RowsAre e base w vs ll) (ht : Tr D g w w') (hD : ∀ b, D b → b < base) (hg : g < base) : RowsAre e base w' vs ll :=
  ⟨h.len, fun j x l hx hl => own_tr (h.row j x l hx hl) ht hD hg, h.apart⟩

theorem l3Copy_x (x : Auto) (base : Nat) (vs : List Value) (aN aA : Option Addr) (cN cA : Nat) (hN : w.ownsRow base 80 1 (.slice aN x.next.length cN) x.next.length vs) (hR : RowsAre 3 base w vs x.next) (hA : BoolsOwn 4 base w (.slice aA x.accept.length cA) x.accept) (hD : ∀ b, D b → b < base) (hgb : g < base) (hn : x.next.length ≤ q) (hm : x.accept.length ≤ q) (hrl : ∀ r ∈ x.next, r.length ≤ q) (h : St D g q w) (hq : q ≤ 1000000) :
    Calls Tryz.prog 72 #[.agg #[.int .i64 x.alphabet, .slice aN x.next.length cN, .slice aA x.accept.length cA]] w (Drawn D g q 0 w fun D' _ w' v => ∃ vn va, v = .agg #[.int .i64 x.alphabet, vn, va] ∧ SlOk D' w' 80 1 vn x.next.length ∧ SlOk D' w' 4 1 va x.accept.length) := by
  have hg := h.g_lt
  have hd := fun x hx => (h.dom x hx).2
  have HN := Lib.hid (show ∀ w', Tr D g w w' → w'.ownsRow base 80 1 (.slice aN x.next.length cN) x.next.length vs from fun w' ht => own_tr hN ht hD hgb)
  have HRW := Lib.hid (show ∀ w', Tr D g w w' → RowsAre 3 base w' vs x.next from fun w' ht => hR.tr ht hD hgb)
  have HX := Lib.hid (show ∀ w', Tr D g w w' → BoolsV w' (.slice aA x.accept.length cA) x.accept from fun w' ht => BoolsOwn.bools (own_tr hA.own ht hD hgb))
  clear hN hR hA hD hgb
  obtain ⟨al, n, m, hAL, hNL, hML⟩ : ∃ (al : Int) (n m : Nat), Hid (x.alphabet = al) ∧ Hid (x.next.length = n) ∧ Hid (x.accept.length = m) := ⟨_, _, _, Lib.hid rfl, Lib.hid rfl, Lib.hid rfl⟩
  have e1 := hAL.out
  have e2 := hNL.out
  have e3 := hML.out
  rw [e1, e2, e3]
  rw [e2] at hn
  rw [e3] at hm
  clear e1 e2 e3
  have BA := Box.new h #[.int .i64 al, .slice aN n cN, .slice aA m cA] 31
  have BA := BA.ext (Ext.alloc _ (.cells #[.int .i64 0, .slice none 0 0, .slice none 0 0] 31))
  have BR : Box D g q w (w.heap.size + 1) 0 #[.int .i64 0, .slice none 0 0, .slice none 0 0] 31 _ D := ⟨BA.inc, BA.st, BA.tr, Ext.blk1 (Ext.refl _), h.out (by omega)⟩
  go_enter Tryz.func72, Tryz.ntmps72
  go_wp2_with fail
  generalize (w.alloc (.cells #[.int .i64 al, .slice aN n cN, .slice aA m cA] 31)).alloc (.cells #[.int .i64 0, .slice none 0 0, .slice none 0 0] 31) = w1 at BA BR ⊢
  have D0 := fun d os => cell_regrown (BA.blk.cell 0 rfl) d os
  have D2 := fun d os => cell_regrown (BA.blk.cell 2 rfl) d os
  have hsz1 := BR.blk.lt
  obtain ⟨Kc, HKc⟩ : ∃ Kc : FuncId → Array Value → World → Value → World → Prop, Hid (Kc = fun _ _ _ _ _ => True) := ⟨_, rfl⟩
  refine wp_region_ext (Kc := Kc) 8 (by kernel_rfl) (by kernel_rfl) ?_
  simp only [List.take_succ_cons, List.take_zero]
  repeat (refine WalkE.pure rfl (fun K hK => ?_); simp only [PureDo]; go_simp; refine hK _ ?_; clear hK K)
  refine WalkE.step (fun K hK wd hwd hdd => ?_)
  simp only [OpDo, OpSafe, OpOut]
  go_simp
  refine ⟨Ext.alloc _ _, hK _ _ ?_⟩
  clear hK K hdd
  repeat (refine WalkE.pure rfl (fun K hK => ?_); simp only [PureDo]; go_simp; refine hK _ ?_; clear hK K)
  refine WalkE.step (fun K hK we hwe hde => ?_)
  have j4 : Ext (wd.alloc (.cells #[] 4)) we := hde _ (Array.mem_of_getElem? (i := 0) rfl) rfl
  have hx1 : Ext w1 we := (Ext.drew _).trans hwe
  have hbv : BoolsV we (.slice aA m cA) x.accept := by have := HX.out we (BR.tr.trans BR.inc (Tr.ext BR.st hx1)); rwa [hML.out] at this
  have hbv' := hbv
  obtain ⟨aa', ca', e5, hac, -, h5⟩ := hbv'
  rw [hML.out] at e5
  cases e5
  refine copy_x (news := x.accept.map Value.bool) rfl rfl Tryz.underlying29 infoBool rfl (by decide) per_bool zk_bool BR.st hx1 (Nat.le_trans (Ext.drew w1).size hwd.size) ((Blk.new wd _ _).ext j4) rfl rfl (by rw [hML.out] at hac; exact hac) (by simp [hML.out]) (fun h0 => by
    obtain ⟨b, off, rfl, -⟩ := h5 (by rw [hML.out]; exact h0)
    exact ⟨_, rfl, (show BoolsV we (.slice (some ⟨b, off, none⟩) x.accept.length cA) x.accept from by rw [hML.out]; exact hbv).cells⟩) (kin_bools _) (by omega) (by decide) ?_
  intro v5 w5 D5 he5 hi5 hs5 hE5 hD5
  refine hK _ _ ?_
  clear hK K hde hbv h5
  obtain ⟨a5, c5, rfl⟩ := hE5.shape
  repeat (refine WalkE.pure rfl (fun K hK => ?_); simp only [PureDo]; go_simp; refine hK _ ?_; clear hK K)
  refine WalkE.step (fun K hK wf hwf hdf => ?_)
  simp only [OpDo, OpSafe, OpOut]
  go_simp
  refine ⟨Ext.alloc _ _, hK _ _ ?_⟩
  clear hK K hdf
  refine WalkE.nil (fun wn hwn hmn => ?_)
  simp only [List.drop_succ_cons, List.drop_zero, List.drop_nil]
  have e5 : Ext w5 wn := hmn 5 (by omega)
  have e9 := hmn 7 (by omega)
  have hxn : Ext w1 wn := (Ext.drew _).trans hwn
  have hGw : w1.heap.size ≤ wf.heap.size := Nat.le_trans (Ext.drew w1).size hwf.size
  have BG := BR.beside (c' := 0) hxn hi5 (hs5.ext e5) ((Blk.new wf _ _).ext e9) hGw e5 hD5 (by decide)
  have BR := BR.grow (c' := 0) hxn hi5 (hs5.ext e5)
  have BA := BA.grow (c' := 0) hxn hi5 (hs5.ext e5)
  have hA5 := hE5.tr' (Inc.refl _ _) (Tr.ext hs5 e5)
  clear D0 D2 hmn HKc hwe hwf hwn e5 e9 hxn j4 hx1 he5 hi5 hs5 hE5 hD5
  generalize wf.heap.size = G at BG hGw ⊢
  clear wf we w5
  have gc0 := BG.blk.cell 0 rfl; have gf0 := BG.blk.fr 0; have gc1 := BG.blk.cell 1 rfl; have gf1 := BG.blk.fr 1; have gc2 := BG.blk.cell 2 rfl; have gf2 := BG.blk.fr 2
  go_wp2_with fail
  have oG := BG.out
  have BR := ((BR.other (b' := G) (by omega) hd (by omega) (by omega) oG 0 (.int .i64 al)).other (b' := G) (by omega) hd (by omega) (by omega) oG 1 (.slice none 0 0)).other (b' := G) (by omega) hd (by omega) (by omega) oG 2 (.slice a5 m c5)
  have BA := ((BA.other (b' := G) (by omega) hd (by omega) (by omega) oG 0 (.int .i64 al)).other (b' := G) (by omega) hd (by omega) (by omega) oG 1 (.slice none 0 0)).other (b' := G) (by omega) hd (by omega) (by omega) oG 2 (.slice a5 m c5)
  have BG := ((BG.set (by omega) hd (by omega) 0 (.int .i64 al)).set (by omega) hd (by omega) 1 (.slice none 0 0)).set (by omega) hd (by omega) 2 (.slice a5 m c5)
  have hA5 : SlOk D5 (((wn.setCell ⟨G, 0, none⟩ (.int .i64 al)).setCell ⟨G, 1, none⟩ (.slice none 0 0)).setCell ⟨G, 2, none⟩ (.slice a5 m c5)) 4 1 (.slice a5 m c5) m := (((hA5.tr (fun _ h => h) (Shp.box oG)).tr (fun _ h => h) (Shp.box oG)).tr (fun _ h => h) (Shp.box oG))
  generalize ((wn.setCell ⟨G, 0, none⟩ (.int .i64 al)).setCell ⟨G, 1, none⟩ (.slice none 0 0)).setCell ⟨G, 2, none⟩ (.slice a5 m c5) = w2 at BR BA BG hA5 ⊢
  clear gc0 gc1 gc2 gf0 gf1 gf2 oG
  have hne1 : w.heap.size + 1 ≠ G := by omega
  have hne2 : G ≠ w.heap.size + 1 := by omega
  go_loopw [4] (fun i wr => ∃ (k : Nat) (D' : Nat → Prop) (vN : Value), k ≤ n ∧ i = .int .i64 k ∧ Box D g q w w.heap.size 0 #[.int .i64 al, .slice aN n cN, .slice aA m cA] 31 wr D' ∧ Box D g q w (w.heap.size + 1) 0 #[.int .i64 0, .slice none 0 0, .slice none 0 0] 31 wr D' ∧ Box D g q w G 0 #[.int .i64 al, vN, .slice a5 m c5] 31 wr D' ∧ SlOk D' wr 4 1 (.slice a5 m c5) m ∧ SlOk D' wr 80 1 vN k) (fun i _ => n - (intOf i).toNat)
  case atStart => exact ⟨0, D5, _, by omega, rfl, BA, BR, BG, hA5, SlOk.nil⟩
  case round =>
    clear BA BR BG hA5
    obtain ⟨k, D6, vN, hk, rfl, BA, BR, BG, hA, hV⟩ := hrel
    obtain ⟨aV, cV, rfl⟩ := hV.shape
    have ac1 := BA.blk.cell 1 rfl
    by_cases hlt : k < n
    · have hkx : k < x.next.length := by rw [hNL.out]; exact hlt
      obtain ⟨row, hr⟩ : ∃ row, x.next[k]? = some row := ⟨_, List.getElem?_eq_getElem hkx⟩
      have hnv := HN.out wr BR.tr
      have hrw := HRW.out wr BR.tr
      obtain ⟨vr, hvk⟩ : ∃ vr, vs[k]? = some vr := ⟨_, List.getElem?_eq_getElem (by rw [hrw.len]; exact hkx)⟩
      obtain ⟨b, rfl⟩ : ∃ b, aN = some ⟨b, 0, none⟩ := by
        rcases own_shape hnv with ⟨e, h0⟩ | ⟨b, cap, e, -⟩
        · omega
        · cases e; exact ⟨b, rfl⟩
      have g1 := own_cell hnv hvk
      obtain ⟨r, rc, rfl⟩ := (hrw.row k vr row hvk hr).shape
      obtain ⟨rm, hRM⟩ : ∃ rm, Hid (row.length = rm) := ⟨_, rfl⟩
      have hrm : rm ≤ q := by rw [← hRM.out]; exact hrl row (List.mem_of_getElem? hr)
      have HROW : Hid (∀ w', Tr D g w w' → IntsV w' (.slice r row.length rc) row) := Lib.hid fun w' ht => ((HRW.out w' ht).row k _ row hvk hr).ints
      rw [hRM.out] at g1 HROW
      have hk1 : (0 : Int) ≤ (k : Int) := by omega
      have hk2 : (k : Int) < (n : Int) := by omega
      clear hrw hnv hr hvk
      go_wp2_with fail
      have D0 := fun d os => cell_regrown (BG.blk.cell 1 rfl) d os
      have D1 := fun d os => cell_regrown ac1 d os
      have D2 := fun d os => cell_regrown g1 d os
      obtain ⟨Kc, HKc⟩ : ∃ Kc : FuncId → Array Value → World → Value → World → Prop, Hid (Kc = fun _ _ _ _ _ => True) := ⟨_, rfl⟩
      refine wp_region_ext (Kc := Kc) 10 (by kernel_rfl) (by kernel_rfl) ?_
      simp only [List.take_succ_cons, List.take_zero]
      repeat (refine WalkE.pure rfl (fun K hK => ?_); simp only [PureDo]; go_simp; refine hK _ ?_; clear hK K)
      refine WalkE.step (fun K hK we hwe hde => ?_)
      simp only [OpDo, OpSafe, OpOut]
      go_simp
      refine ⟨Ext.alloc _ _, hK _ _ ?_⟩
      clear hK K hde
      repeat (refine WalkE.pure rfl (fun K hK => ?_); simp only [PureDo]; go_simp; refine hK _ ?_; clear hK K)
      refine WalkE.step (fun K hK wf hwf hdf => ?_)
      have j4 : Ext (we.alloc (.cells #[] 3)) wf := hdf _ (Array.mem_of_getElem? (i := 0) rfl) rfl
      have hx1 : Ext wr wf := (Ext.drew _).trans hwf
      have hrv := HROW.out wf (BR.tr.trans BR.inc (Tr.ext BR.st hx1))
      have hrv' := hrv
      obtain ⟨ar', cr', e5, hrc, -, h5⟩ := hrv'
      rw [hRM.out] at e5
      cases e5
      refine copy_x (news := row.map (Value.int .i64)) rfl rfl Tryz.underlying80 infoInt rfl (by decide) per_int zk_int BR.st hx1 (Nat.le_trans (Ext.drew wr).size hwe.size) ((Blk.new we _ _).ext j4) rfl rfl (by rw [hRM.out] at hrc; exact hrc) (by simp [hRM.out]) (fun h0 => by
        obtain ⟨b, off, rfl, -⟩ := h5 (by rw [hRM.out]; exact h0)
        exact ⟨_, rfl, (show IntsV wf (.slice (some ⟨b, off, none⟩) row.length rc) row from by rw [hRM.out]; exact hrv).cells⟩) (kin_intl _) (by omega) (by decide) ?_
      intro v5 w5 D7 he5 hi5 hs5 hE5 hD5
      refine hK _ _ ?_
      clear hK K hdf hrv h5
      obtain ⟨a7, c7, rfl⟩ := hE5.shape
      repeat (refine WalkE.pure rfl (fun K hK => ?_); simp only [PureDo]; go_simp; refine hK _ ?_; clear hK K)
      refine WalkE.step (fun K hK wg hwg hdg => ?_)
      simp only [OpDo, OpSafe, OpOut]
      go_simp
      refine ⟨Ext.alloc _ _, hK _ _ ?_⟩
      clear hK K hdg
      refine WalkE.nil (fun wm hwm hmm => ?_)
      simp only [List.drop_succ_cons, List.drop_zero, List.drop_nil]
      have e5 : Ext w5 wm := hmm 8 (by omega)
      have e9 := hmm 9 (by omega)
      have hxn : Ext wr wm := (Ext.drew _).trans hwm
      have l0 := e9.new 0 rfl
      have hcell : ∀ (j' : Nat) (u : Value), [Value.slice a7 rm c7][j']? = some u → wm.cell? ((⟨wg.heap.size, 0, none⟩ : Addr).add j') = some u := fun j' u hu => by
        rw [add_none, Nat.zero_add]
        match j', hu with
        | 0, hu => simp at hu; subst hu; exact l0
        | j' + 1, hu => simp at hu
      have htn := Tr.ext BR.st hxn
      have hA := hA.tr' hi5 htn
      have hV := hV.tr' hi5 htn
      have hrow := hE5.tr' (Inc.refl _ _) (Tr.ext hs5 e5)
      have BA := BA.grow (c' := 0) hxn hi5 (hs5.ext e5)
      have BG := BG.grow (c' := 0) hxn hi5 (hs5.ext e5)
      have BR := BR.grow (c' := 0) hxn hi5 (hs5.ext e5)
      clear l0 e9 e5 hmm HKc D0 D1 D2 hwm hwe hwf hwg hxn htn g1 ac1 hE5 hs5 hi5 he5 hD5 j4 hx1 HROW
      generalize wg.heap.size = r5 at hcell ⊢
      go_wp2_with (at_builtin; refine app_t (news := [Value.slice a7 rm c7]) (q' := q) rfl _ _ _ rfl Tryz.underlying28 infoInts rfl (by decide) per_ints zk_ints BG.st hV rfl rfl (by simp) hcell (by simp [Value.oneCell']) (kin_ints hrow hrm) (by omega) (by decide) (by omega) ?_; intro v1 w7 D8 hi7 hs7 ht7 hV7; obtain ⟨a8, c8, rfl⟩ := hV7.shape; have BG7 := BG.drawn (by omega) hi7 ht7 (c' := 0) hs7; have gc1 := BG7.blk.cell 1 rfl; have gf1 := BG7.blk.fr 1)
      have BA7 := BA.drawn (by omega) hi7 ht7 (c' := 0) hs7
      have BR7 := BR.drawn (by omega) hi7 ht7 (c' := 0) hs7
      have oG := BG7.out
      exact ⟨⟨k + 1, D8, _, by omega, by go_num, BA7.other (b' := G) (by omega) hd (by omega) (by omega) oG 1 _, BR7.other (b' := G) (by omega) hd (by omega) (by omega) oG 1 _, BG7.set (by omega) hd (by omega) 1 _, (hA.tr' hi7 ht7).tr (fun _ h => h) (Shp.box oG), hV7.tr (fun _ h => h) (Shp.box oG)⟩, by simp [intOf]; omega⟩
    · obtain rfl : k = n := by omega
      have gc0 := BG.blk.cell 0 rfl; have gf0 := BG.blk.fr 0; have gc1 := BG.blk.cell 1 rfl; have gf1 := BG.blk.fr 1; have gc2 := BG.blk.cell 2 rfl; have gf2 := BG.blk.fr 2
      have zc0 := BR.blk.cell 0 rfl; have zf0 := BR.blk.fr 0; have zc1 := BR.blk.cell 1 rfl; have zf1 := BR.blk.fr 1; have zc2 := BR.blk.cell 2 rfl; have zf2 := BR.blk.fr 2
      go_wp2_with fail
      refine bodyPost_ret (v := .agg #[.int .i64 al, .slice aV k cV, .slice a5 m c5]) (by simp [results, Tryz.results72, go_sem, zc0, zc1, zc2, zf0, zf1, zf2]) rfl ?_
      have BZ := ((BR.set (by omega) hd (by omega) 0 (.int .i64 al)).set (by omega) hd (by omega) 1 (.slice aV k cV)).set (by omega) hd (by omega) 2 (.slice a5 m c5)
      have oZ := BR.out
      exact ⟨_, D6, rfl, BZ.inc, BZ.st, BZ.tr, _, _, rfl, (((hV.tr (fun _ h => h) (Shp.box oZ)).tr (fun _ h => h) (Shp.box oZ)).tr (fun _ h => h) (Shp.box oZ)), (((hA.tr (fun _ h => h) (Shp.box oZ)).tr (fun _ h => h) (Shp.box oZ)).tr (fun _ h => h) (Shp.box oZ))⟩
end Go.Proofs.YtanekmfifmkbmaaGreatDoor

namespace Go.Proofs.YtanekmfifmkbmaaGreatDoor
set_option linter.unusedSimpArgs false
set_option linter.unusedVariables false
open Go.RowKit
set_option maxHeartbeats 1000000
set_option maxRecDepth 100000
attribute [local go_sem ↓] Go.wp_at_zero Go.wp_at_succ

variable {D D' D'' : Nat → Prop} {g q q' : Nat} {w w' : World}

end Go.Proofs.YtanekmfifmkbmaaGreatDoor

namespace Go.Proofs.YtanekmfifmkbmaaGreatDoor
set_option linter.unusedSimpArgs false
set_option linter.unusedVariables false
open Go.RowKit
set_option maxHeartbeats 1000000
set_option maxRecDepth 100000
attribute [local go_sem ↓] Go.wp_at_zero Go.wp_at_succ

variable {D D' D'' : Nat → Prop} {g q q' : Nat} {w w' : World}


end Go.Proofs.YtanekmfifmkbmaaGreatDoor
