/- Part of this seat's proofs, cut to what its law needs. -/

import Derived.Test.YtadplnbadfnlfaaGreatDoorDrawF
import Derived.Test.YtadplnbadfnlfaaGreatDoorWalkR
import Derived.Test.YtadplnbadfnlfaaGreatDoorDrawO
import Derived.Test.YtadplnbadfnlfaaGreatDoorDrawP
import Derived.Test.YtadplnbadfnlfaaGreatDoorTaskC
import Derived.Deep.RegionHeld3
import Derived.Deep.DeepCutAuto
import Derived.Deep.CutBlock

namespace Go.Proofs.YtadplnbadfnlfaaGreatDoor
set_option linter.unusedSimpArgs false
set_option linter.unusedVariables false
open Go.RowKit
set_option maxHeartbeats 1000000
set_option maxRecDepth 100000
attribute [local go_sem ↓] Go.wp_at_zero Go.wp_at_succ

section
variable {P : Program} {D D' : Nat → Prop} {g q q' : Nat} {w w' w0 : World} {e : TypeId}
theorem copy_x {ops : Array Oper} {Kc : FuncId → Array Value → World → Value → World → Prop} {o : Oper} {a : Act} {K : Value → World → Prop} {s x : Operand} {t : TypeId} {size bytes b m c : Nat} {z : Value} {ao : Option Addr} {news : List Value} (hgd : o.guard = none)
    (ho : o.op = .call { callee := .builtin .append, args := #[s, x], argTypes := #[t, t] }) (ht : P.underlying t = some (.slice e)) (hinfo : (P.info? e).map (fun i => (i.zero, i.size, i.bytes)) = some (some z, size, bytes)) (hzs : z.cells.size = size) (hsz : 0 < size) (hp : Per e size)
    (hzk : ∀ D q w, Kin D q w e z.cells.toList) (h0 : St D g q w0) (hw0 : Ext w0 w) (hb : w0.heap.size ≤ b) (hlit : Blk w b #[] e) (hev : a.eval s = .slice (some ⟨b, 0, none⟩) 0 0) (hx : a.eval x = .slice ao m c)
    (hmc : m ≤ c) (hl : news.length = m * size) (hnews : 0 < m → ∃ ad, ao = some ad ∧ ∀ j u, news[j]? = some u → w.cell? (ad.add j) = some u) (hk : Kin D q w e news)
    (hnm : m ≤ 4294967296) (hby : bytes ≤ 1024)
    (hQ : ∀ v' w' D', Ext w w' → Inc D D' w0 → St D' g q w' → SlOk D' w' e size v' m → (∀ x, D' x → D x ∨ ∃ cs, w'.heap[x]? = some (.cells cs e (0, 0))) → K v' w') : OpDo P ops Kc Ext o a w K := by
  obtain ⟨i, hi, hz, rfl, rfl⟩ := info_parts hinfo
  have h := h0.ext hw0
  by_cases hm : m = 0
  · subst hm
    obtain ⟨h2, h3⟩ := h0.new hw0 hb hlit (fun i u hu => by simp at hu)
    refine OpDo.of_run (v := .slice (some ⟨b, 0, none⟩) 0 0) (w' := w) hgd ?_ (Ext.refl _) (hQ _ _ _ (Ext.refl _) h2 h3 (.inr ⟨b, 0, #[], rfl, .inr rfl, hlit, by omega, by unfold maxLen; omega, by simp⟩) (fun x hx => by rcases hx with hx | rfl; exact .inl hx; exact .inr ⟨_, hlit⟩))
    have hr : (Builtin.append_ #[t, t] o.type #[.slice (some ⟨b, 0, none⟩) 0 0, .slice ao 0 c]).run P w = .ok (.slice (some ⟨b, 0, none⟩) 0 0) w := by
      cases ao with
      | none => simp [Builtin.append_, run_underlying ht, sizeOf, typeInfo, hi, Builtin.lenOf, Builtin.firstCells, loadCells, loadCellsFrom, storeCells]
      | some ad => simp [Builtin.append_, run_underlying ht, sizeOf, typeInfo, hi, Builtin.lenOf, Builtin.firstCells, loadCells, loadCellsFrom, storeCells]
    unfold execOp
    simp only [ho, resolve, invoke, builtin, Sem.run_bind, Sem.run_pure, Result.andThen_ok, List.map_toArray, List.map_cons, List.map_nil, hev, hx, hr]
  · obtain ⟨ad, rfl, hc'⟩ := hnews (by omega)
    have hr := run_append_grow (P := P) w t o.type e i z ht hi hz ⟨b, 0, none⟩ 0 0 [] (by simp) (fun j v h => by simp at h) ad m c news hl hc' (by omega) (by omega) (growslice_fits (by omega) (by rw [Nat.zero_add]; have := Nat.mul_le_mul hnm hby; omega))
    simp only [Nat.zero_add, List.nil_append, Array.empty_append] at hr
    have he : Ext w (w.drew.alloc (.cells (news.toArray ++ Builtin.zeroCells z.cells (grownCap w m 0 e - m)) e)) := (Ext.drew w).trans (Ext.alloc _ _)
    have hsh := (Tr.ext h he).shp
    have hkk : Kin D q (w.drew.alloc (.cells (news.toArray ++ Builtin.zeroCells z.cells (grownCap w m 0 e - m)) e)) e (news.toArray ++ Builtin.zeroCells z.cells (grownCap w m 0 e - m)).toList := by
      simp only [Array.toList_append]
      exact Kin.append (n := m) hp (hk.tr (fun _ h => h) hsh (Nat.le_refl _)) hl (Kin.zeros hp hzs hsz (hzk _ _ _) _)
    obtain ⟨h2, h3⟩ := h.new (e := e) he (Nat.le_refl _) (heap_alloc_new w.drew _) hkk
    have hge := grownCap_ge w m 0 e
    have hcm' : grownCap w m 0 e ≤ maxLen := grownCap_le_maxLen w m 0 e (by unfold maxLen; omega)
    refine OpDo.of_run hgd ?_ he (hQ _ _ _ he (h2.low hw0.size) h3 (.inr ⟨w.heap.size, grownCap w m 0 e, _, rfl, .inr rfl, heap_alloc_new w.drew _, hge, hcm', ?_⟩) (fun x hx => by rcases hx with hx | rfl; exact .inl hx; exact .inr ⟨_, heap_alloc_new w.drew _⟩))
    · unfold execOp
      simp only [ho, resolve, invoke, builtin, Sem.run_bind, Sem.run_pure, Result.andThen_ok, List.map_toArray, List.map_cons, List.map_nil, hev, hx]
      rw [hr]
      rfl
    · simp only [Array.size_append, List.size_toArray, size_zeroCells, hzs, hl, ← Nat.add_mul]
      congr 1; omega
end

variable {D D' : Nat → Prop} {g q q' : Nat} {w w' : World}
theorem kin_bools (l : List Bool) : Kin D q w 4 (l.map Value.bool) := fun i u hu => by
  rw [List.getElem?_map] at hu
  obtain ⟨b, -, rfl⟩ := Option.map_eq_some_iff.1 hu
  exact ⟨.bool, rfl, b, rfl⟩
theorem kin_intl (l : List Int) : Kin D q w 3 (l.map (Value.int .i64)) := fun i u hu => by
  rw [List.getElem?_map] at hu
  obtain ⟨b, -, rfl⟩ := Option.map_eq_some_iff.1 hu
  exact ⟨.int, rfl, b, rfl⟩

theorem own_tr {base size n : Nat} {e : TypeId} {v : Value} {xs : List Value} (h : w.ownsRow base e size v n xs) (ht : Tr D g w w') (hD : ∀ b, D b → b < base) (hg : g < base) : w'.ownsRow base e size v n xs := by
  refine ⟨h.1, ?_⟩
  rcases h.2 with h1 | ⟨b, cap, cs, e1, hb, hh, h2⟩
  · exact .inl h1
  · refine .inr ⟨b, cap, cs, e1, hb, ?_, h2⟩
    have hlt := (Array.getElem?_eq_some_iff.1 hh).1
    rw [ht.tnd.block b hlt (fun hS => by rcases hS with hS | hS; have := hD b hS; omega; omega)]
    exact hh
theorem RowsAre.tr {base : Nat} {e : TypeId} {vs : List Value} {ll : List (List Int)} (h : RowsAre e base w vs ll) (ht : Tr D g w w') (hD : ∀ b, D b → b < base) (hg : g < base) : RowsAre e base w' vs ll :=
  ⟨h.len, fun j x l hx hl => own_tr (h.row j x l hx hl) ht hD hg, h.apart⟩

theorem l3Copy_x (x : Auto) (base : Nat) (vs : List Value) (aN aA : Option Addr) (cN cA : Nat) (hN : w.ownsRow base 96 1 (.slice aN x.next.length cN) x.next.length vs) (hR : RowsAre 3 base w vs x.next) (hA : BoolsOwn 4 base w (.slice aA x.accept.length cA) x.accept) (hD : ∀ b, D b → b < base) (hgb : g < base) (hn : x.next.length ≤ q) (hm : x.accept.length ≤ q) (hrl : ∀ r ∈ x.next, r.length ≤ q) (h : St D g q w) (hq : q ≤ 1000000) :
    Calls Tryz.prog 137 #[.agg #[.int .i64 x.alphabet, .slice aN x.next.length cN, .slice aA x.accept.length cA]] w (Drawn D g q 0 w fun D' _ w' v => ∃ vn va, v = .agg #[.int .i64 x.alphabet, vn, va] ∧ SlOk D' w' 96 1 vn x.next.length ∧ SlOk D' w' 4 1 va x.accept.length) := by
  have hg := h.g_lt
  have hd := fun x hx => (h.dom x hx).2
  have HN := Lib.hid (show ∀ w', Tr D g w w' → w'.ownsRow base 96 1 (.slice aN x.next.length cN) x.next.length vs from fun w' ht => own_tr hN ht hD hgb)
  have HRW := Lib.hid (show ∀ w', Tr D g w w' → RowsAre 3 base w' vs x.next from fun w' ht => hR.tr ht hD hgb)
  have HX := Lib.hid (show ∀ w', Tr D g w w' → BoolsV w' (.slice aA x.accept.length cA) x.accept from fun w' ht => BoolsOwn.bools (own_tr hA.own ht hD hgb))
  clear hN hR hA hD hgb
  obtain ⟨al, n, m, hAL, hNL, hML⟩ : ∃ (al : Int) (n m : Nat), Hid (x.alphabet = al) ∧ Hid (x.next.length = n) ∧ Hid (x.accept.length = m) := ⟨_, _, _, Lib.hid rfl, Lib.hid rfl, Lib.hid rfl⟩
  have e1 := hAL.out
  have e2 := hNL.out
  have e3 := hML.out
  rw [e1, e2, e3]
  rw [e2] at hn
  rw [e3] at hm
  clear e1 e2 e3
  have BA := Box.new h #[.int .i64 al, .slice aN n cN, .slice aA m cA] 31
  have BA := BA.ext (Ext.alloc _ (.cells #[.int .i64 0, .slice none 0 0, .slice none 0 0] 31))
  have BR : Box D g q w (w.heap.size + 1) 0 #[.int .i64 0, .slice none 0 0, .slice none 0 0] 31 _ D := ⟨BA.inc, BA.st, BA.tr, Ext.blk1 (Ext.refl _), h.out (by omega)⟩
  go_enter Tryz.func137, Tryz.ntmps137
  go_wp2_with fail
  generalize (w.alloc (.cells #[.int .i64 al, .slice aN n cN, .slice aA m cA] 31)).alloc (.cells #[.int .i64 0, .slice none 0 0, .slice none 0 0] 31) = w1 at BA BR ⊢
  have D0 := fun d os => cell_regrown (BA.blk.cell 0 rfl) d os
  have D2 := fun d os => cell_regrown (BA.blk.cell 2 rfl) d os
  have hsz1 := BR.blk.lt
  obtain ⟨Kc, HKc⟩ : ∃ Kc : FuncId → Array Value → World → Value → World → Prop, Hid (Kc = fun _ _ _ _ _ => True) := ⟨_, rfl⟩
  refine wp_region_ext (Kc := Kc) 8 (by kernel_rfl) (by kernel_rfl) ?_
  simp only [List.take_succ_cons, List.take_zero]
  repeat (refine WalkE.pure rfl (fun K hK => ?_); simp only [PureDo]; go_simp; refine hK _ ?_; clear hK K)
  refine WalkE.step (fun K hK wd hwd hdd => ?_)
  simp only [OpDo, OpSafe, OpOut]
  go_simp
  refine ⟨Ext.alloc _ _, hK _ _ ?_⟩
  clear hK K hdd
  repeat (refine WalkE.pure rfl (fun K hK => ?_); simp only [PureDo]; go_simp; refine hK _ ?_; clear hK K)
  refine WalkE.step (fun K hK we hwe hde => ?_)
  have j4 : Ext (wd.alloc (.cells #[] 4)) we := hde _ (Array.mem_of_getElem? (i := 0) rfl) rfl
  have hx1 : Ext w1 we := (Ext.drew _).trans hwe
  have hbv : BoolsV we (.slice aA m cA) x.accept := by have := HX.out we (BR.tr.trans BR.inc (Tr.ext BR.st hx1)); rwa [hML.out] at this
  have hbv' := hbv
  obtain ⟨aa', ca', e5, hac, -, h5⟩ := hbv'
  rw [hML.out] at e5
  cases e5
  refine copy_x (news := x.accept.map Value.bool) rfl rfl Tryz.underlying29 infoBool rfl (by decide) per_bool zk_bool BR.st hx1 (Nat.le_trans (Ext.drew w1).size hwd.size) ((Blk.new wd _ _).ext j4) rfl rfl (by rw [hML.out] at hac; exact hac) (by simp [hML.out]) (fun h0 => by
    obtain ⟨b, off, rfl, -⟩ := h5 (by rw [hML.out]; exact h0)
    exact ⟨_, rfl, (show BoolsV we (.slice (some ⟨b, off, none⟩) x.accept.length cA) x.accept from by rw [hML.out]; exact hbv).cells⟩) (kin_bools _) (by omega) (by decide) ?_
  intro v5 w5 D5 he5 hi5 hs5 hE5 hD5
  refine hK _ _ ?_
  clear hK K hde hbv h5
  obtain ⟨a5, c5, rfl⟩ := hE5.shape
  repeat (refine WalkE.pure rfl (fun K hK => ?_); simp only [PureDo]; go_simp; refine hK _ ?_; clear hK K)
  refine WalkE.step (fun K hK wf hwf hdf => ?_)
  simp only [OpDo, OpSafe, OpOut]
  go_simp
  refine ⟨Ext.alloc _ _, hK _ _ ?_⟩
  clear hK K hdf
  refine WalkE.nil (fun wn hwn hmn => ?_)
  simp only [List.drop_succ_cons, List.drop_zero, List.drop_nil]
  have e5 : Ext w5 wn := hmn 5 (by omega)
  have e9 := hmn 7 (by omega)
  have hxn : Ext w1 wn := (Ext.drew _).trans hwn
  have hGw : w1.heap.size ≤ wf.heap.size := Nat.le_trans (Ext.drew w1).size hwf.size
  have BG := BR.beside (c' := 0) hxn hi5 (hs5.ext e5) ((Blk.new wf _ _).ext e9) hGw e5 hD5 (by decide)
  have BR := BR.grow (c' := 0) hxn hi5 (hs5.ext e5)
  have BA := BA.grow (c' := 0) hxn hi5 (hs5.ext e5)
  have hA5 := hE5.tr' (Inc.refl _ _) (Tr.ext hs5 e5)
  clear D0 D2 hmn HKc hwe hwf hwn e5 e9 hxn j4 hx1 he5 hi5 hs5 hE5 hD5
  generalize wf.heap.size = G at BG hGw ⊢
  clear wf we w5
  have gc0 := BG.blk.cell 0 rfl; have gf0 := BG.blk.fr 0; have gc1 := BG.blk.cell 1 rfl; have gf1 := BG.blk.fr 1; have gc2 := BG.blk.cell 2 rfl; have gf2 := BG.blk.fr 2
  go_wp2_with fail
  have oG := BG.out
  have BR := ((BR.other (b' := G) (by omega) hd (by omega) (by omega) oG 0 (.int .i64 al)).other (b' := G) (by omega) hd (by omega) (by omega) oG 1 (.slice none 0 0)).other (b' := G) (by omega) hd (by omega) (by omega) oG 2 (.slice a5 m c5)
  have BA := ((BA.other (b' := G) (by omega) hd (by omega) (by omega) oG 0 (.int .i64 al)).other (b' := G) (by omega) hd (by omega) (by omega) oG 1 (.slice none 0 0)).other (b' := G) (by omega) hd (by omega) (by omega) oG 2 (.slice a5 m c5)
  have BG := ((BG.set (by omega) hd (by omega) 0 (.int .i64 al)).set (by omega) hd (by omega) 1 (.slice none 0 0)).set (by omega) hd (by omega) 2 (.slice a5 m c5)
  have hA5 : SlOk D5 (((wn.setCell ⟨G, 0, none⟩ (.int .i64 al)).setCell ⟨G, 1, none⟩ (.slice none 0 0)).setCell ⟨G, 2, none⟩ (.slice a5 m c5)) 4 1 (.slice a5 m c5) m := (((hA5.tr (fun _ h => h) (Shp.box oG)).tr (fun _ h => h) (Shp.box oG)).tr (fun _ h => h) (Shp.box oG))
  generalize ((wn.setCell ⟨G, 0, none⟩ (.int .i64 al)).setCell ⟨G, 1, none⟩ (.slice none 0 0)).setCell ⟨G, 2, none⟩ (.slice a5 m c5) = w2 at BR BA BG hA5 ⊢
  clear gc0 gc1 gc2 gf0 gf1 gf2 oG
  have hne1 : w.heap.size + 1 ≠ G := by omega
  have hne2 : G ≠ w.heap.size + 1 := by omega
  go_loopw [4] (fun i wr => ∃ (k : Nat) (D' : Nat → Prop) (vN : Value), k ≤ n ∧ i = .int .i64 k ∧ Box D g q w w.heap.size 0 #[.int .i64 al, .slice aN n cN, .slice aA m cA] 31 wr D' ∧ Box D g q w (w.heap.size + 1) 0 #[.int .i64 0, .slice none 0 0, .slice none 0 0] 31 wr D' ∧ Box D g q w G 0 #[.int .i64 al, vN, .slice a5 m c5] 31 wr D' ∧ SlOk D' wr 4 1 (.slice a5 m c5) m ∧ SlOk D' wr 96 1 vN k) (fun i _ => n - (intOf i).toNat)
  case atStart => exact ⟨0, D5, _, by omega, rfl, BA, BR, BG, hA5, SlOk.nil⟩
  case round =>
    clear BA BR BG hA5
    obtain ⟨k, D6, vN, hk, rfl, BA, BR, BG, hA, hV⟩ := hrel
    obtain ⟨aV, cV, rfl⟩ := hV.shape
    have ac1 := BA.blk.cell 1 rfl
    by_cases hlt : k < n
    · have hkx : k < x.next.length := by rw [hNL.out]; exact hlt
      obtain ⟨row, hr⟩ : ∃ row, x.next[k]? = some row := ⟨_, List.getElem?_eq_getElem hkx⟩
      have hnv := HN.out wr BR.tr
      have hrw := HRW.out wr BR.tr
      obtain ⟨vr, hvk⟩ : ∃ vr, vs[k]? = some vr := ⟨_, List.getElem?_eq_getElem (by rw [hrw.len]; exact hkx)⟩
      obtain ⟨b, rfl⟩ : ∃ b, aN = some ⟨b, 0, none⟩ := by
        rcases own_shape hnv with ⟨e, h0⟩ | ⟨b, cap, e, -⟩
        · omega
        · cases e; exact ⟨b, rfl⟩
      have g1 := own_cell hnv hvk
      obtain ⟨r, rc, rfl⟩ := (hrw.row k vr row hvk hr).shape
      obtain ⟨rm, hRM⟩ : ∃ rm, Hid (row.length = rm) := ⟨_, rfl⟩
      have hrm : rm ≤ q := by rw [← hRM.out]; exact hrl row (List.mem_of_getElem? hr)
      have HROW : Hid (∀ w', Tr D g w w' → IntsV w' (.slice r row.length rc) row) := Lib.hid fun w' ht => ((HRW.out w' ht).row k _ row hvk hr).ints
      rw [hRM.out] at g1 HROW
      have hk1 : (0 : Int) ≤ (k : Int) := by omega
      have hk2 : (k : Int) < (n : Int) := by omega
      clear hrw hnv hr hvk
      go_wp2_with fail
      have D0 := fun d os => cell_regrown (BG.blk.cell 1 rfl) d os
      have D1 := fun d os => cell_regrown ac1 d os
      have D2 := fun d os => cell_regrown g1 d os
      obtain ⟨Kc, HKc⟩ : ∃ Kc : FuncId → Array Value → World → Value → World → Prop, Hid (Kc = fun _ _ _ _ _ => True) := ⟨_, rfl⟩
      refine wp_region_ext (Kc := Kc) 10 (by kernel_rfl) (by kernel_rfl) ?_
      simp only [List.take_succ_cons, List.take_zero]
      repeat (refine WalkE.pure rfl (fun K hK => ?_); simp only [PureDo]; go_simp; refine hK _ ?_; clear hK K)
      refine WalkE.step (fun K hK we hwe hde => ?_)
      simp only [OpDo, OpSafe, OpOut]
      go_simp
      refine ⟨Ext.alloc _ _, hK _ _ ?_⟩
      clear hK K hde
      repeat (refine WalkE.pure rfl (fun K hK => ?_); simp only [PureDo]; go_simp; refine hK _ ?_; clear hK K)
      refine WalkE.step (fun K hK wf hwf hdf => ?_)
      have j4 : Ext (we.alloc (.cells #[] 3)) wf := hdf _ (Array.mem_of_getElem? (i := 0) rfl) rfl
      have hx1 : Ext wr wf := (Ext.drew _).trans hwf
      have hrv := HROW.out wf (BR.tr.trans BR.inc (Tr.ext BR.st hx1))
      have hrv' := hrv
      obtain ⟨ar', cr', e5, hrc, -, h5⟩ := hrv'
      rw [hRM.out] at e5
      cases e5
      refine copy_x (news := row.map (Value.int .i64)) rfl rfl Tryz.underlying96 infoInt rfl (by decide) per_int zk_int BR.st hx1 (Nat.le_trans (Ext.drew wr).size hwe.size) ((Blk.new we _ _).ext j4) rfl rfl (by rw [hRM.out] at hrc; exact hrc) (by simp [hRM.out]) (fun h0 => by
        obtain ⟨b, off, rfl, -⟩ := h5 (by rw [hRM.out]; exact h0)
        exact ⟨_, rfl, (show IntsV wf (.slice (some ⟨b, off, none⟩) row.length rc) row from by rw [hRM.out]; exact hrv).cells⟩) (kin_intl _) (by omega) (by decide) ?_
      intro v5 w5 D7 he5 hi5 hs5 hE5 hD5
      refine hK _ _ ?_
      clear hK K hdf hrv h5
      obtain ⟨a7, c7, rfl⟩ := hE5.shape
      repeat (refine WalkE.pure rfl (fun K hK => ?_); simp only [PureDo]; go_simp; refine hK _ ?_; clear hK K)
      refine WalkE.step (fun K hK wg hwg hdg => ?_)
      simp only [OpDo, OpSafe, OpOut]
      go_simp
      refine ⟨Ext.alloc _ _, hK _ _ ?_⟩
      clear hK K hdg
      refine WalkE.nil (fun wm hwm hmm => ?_)
      simp only [List.drop_succ_cons, List.drop_zero, List.drop_nil]
      have e5 : Ext w5 wm := hmm 8 (by omega)
      have e9 := hmm 9 (by omega)
      have hxn : Ext wr wm := (Ext.drew _).trans hwm
      have l0 := e9.new 0 rfl
      have hcell : ∀ (j' : Nat) (u : Value), [Value.slice a7 rm c7][j']? = some u → wm.cell? ((⟨wg.heap.size, 0, none⟩ : Addr).add j') = some u := fun j' u hu => by
        rw [add_none, Nat.zero_add]
        match j', hu with
        | 0, hu => simp at hu; subst hu; exact l0
        | j' + 1, hu => simp at hu
      have htn := Tr.ext BR.st hxn
      have hA := hA.tr' hi5 htn
      have hV := hV.tr' hi5 htn
      have hrow := hE5.tr' (Inc.refl _ _) (Tr.ext hs5 e5)
      have BA := BA.grow (c' := 0) hxn hi5 (hs5.ext e5)
      have BG := BG.grow (c' := 0) hxn hi5 (hs5.ext e5)
      have BR := BR.grow (c' := 0) hxn hi5 (hs5.ext e5)
      clear l0 e9 e5 hmm HKc D0 D1 D2 hwm hwe hwf hwg hxn htn g1 ac1 hE5 hs5 hi5 he5 hD5 j4 hx1 HROW
      generalize wg.heap.size = r5 at hcell ⊢
      go_wp2_with (at_builtin; refine app_t (news := [Value.slice a7 rm c7]) (q' := q) rfl _ _ _ rfl Tryz.underlying28 infoInts rfl (by decide) per_ints zk_ints BG.st hV rfl rfl (by simp) hcell (by simp [Value.oneCell']) (kin_ints hrow hrm) (by omega) (by decide) (by omega) ?_; intro v1 w7 D8 hi7 hs7 ht7 hV7; obtain ⟨a8, c8, rfl⟩ := hV7.shape; have BG7 := BG.drawn (by omega) hi7 ht7 (c' := 0) hs7; have gc1 := BG7.blk.cell 1 rfl; have gf1 := BG7.blk.fr 1)
      have BA7 := BA.drawn (by omega) hi7 ht7 (c' := 0) hs7
      have BR7 := BR.drawn (by omega) hi7 ht7 (c' := 0) hs7
      have oG := BG7.out
      exact ⟨⟨k + 1, D8, _, by omega, by go_num, BA7.other (b' := G) (by omega) hd (by omega) (by omega) oG 1 _, BR7.other (b' := G) (by omega) hd (by omega) (by omega) oG 1 _, BG7.set (by omega) hd (by omega) 1 _, (hA.tr' hi7 ht7).tr (fun _ h => h) (Shp.box oG), hV7.tr (fun _ h => h) (Shp.box oG)⟩, by simp [intOf]; omega⟩
    · obtain rfl : k = n := by omega
      have gc0 := BG.blk.cell 0 rfl; have gf0 := BG.blk.fr 0; have gc1 := BG.blk.cell 1 rfl; have gf1 := BG.blk.fr 1; have gc2 := BG.blk.cell 2 rfl; have gf2 := BG.blk.fr 2
      have zc0 := BR.blk.cell 0 rfl; have zf0 := BR.blk.fr 0; have zc1 := BR.blk.cell 1 rfl; have zf1 := BR.blk.fr 1; have zc2 := BR.blk.cell 2 rfl; have zf2 := BR.blk.fr 2
      go_wp2_with fail
      refine bodyPost_ret (v := .agg #[.int .i64 al, .slice aV k cV, .slice a5 m c5]) (by simp [results, Tryz.results137, go_sem, zc0, zc1, zc2, zf0, zf1, zf2]) rfl ?_
      have BZ := ((BR.set (by omega) hd (by omega) 0 (.int .i64 al)).set (by omega) hd (by omega) 1 (.slice aV k cV)).set (by omega) hd (by omega) 2 (.slice a5 m c5)
      have oZ := BR.out
      exact ⟨_, D6, rfl, BZ.inc, BZ.st, BZ.tr, _, _, rfl, (((hV.tr (fun _ h => h) (Shp.box oZ)).tr (fun _ h => h) (Shp.box oZ)).tr (fun _ h => h) (Shp.box oZ)), (((hA.tr (fun _ h => h) (Shp.box oZ)).tr (fun _ h => h) (Shp.box oZ)).tr (fun _ h => h) (Shp.box oZ))⟩
end Go.Proofs.YtadplnbadfnlfaaGreatDoor

namespace Go.Proofs.YtadplnbadfnlfaaGreatDoor
set_option linter.unusedSimpArgs false
set_option linter.unusedVariables false
open Go.RowKit
set_option maxHeartbeats 1000000
set_option maxRecDepth 100000
attribute [local go_sem ↓] Go.wp_at_zero Go.wp_at_succ

variable {D D' D'' : Nat → Prop} {g q q' : Nat} {w w' : World}

theorem kin_edges (es : List Edge) : Kin D q w 103 (edgeCells es) := by
  induction es with
  | nil => intro i u h; simp [edgeCells] at h
  | cons e es ih =>
    have : edgeCells (e :: es) = [.int .i64 e.src, .int .i64 e.letter, .int .i64 e.dst] ++ edgeCells es := rfl
    rw [this]
    exact Kin.append (n := 1) per_edge (kin_edge _ _ _) rfl ih

theorem l2Wrong_x (v : Value) (al ns : Int) (es : List Edge) (n : Nat) (hnn : es.length = n) (hv : SysV w v ⟨al, ns, es⟩) (hn : n ≤ q) (h : St D g q w) (hq : q + 10 ≤ 1000000) :
    Calls Tryz.prog 56 #[.pointer (some ⟨g, 0, none⟩), v] w (Drawn D g q 10 w SysT) := by
  have hg := h.g_lt
  have hd := fun x hx => (h.dom x hx).2
  obtain ⟨ve, hvv, hE⟩ := hv
  have hvv : v = .agg #[.int .i64 al, .int .i64 ns, ve] := hvv
  subst hvv
  have hE : EdgesV w ve es := hE
  have hE' := hE
  obtain ⟨aE, cE, rfl, hmc, -, hcell⟩ := hE'
  have hcl := Lib.hid (show (edgeCells es).length = n * 3 by rw [edgeCells_len, hnn])
  rw [hnn] at hE hmc hcell ⊢
  have hEE := Lib.hid (show EdgesV w (.slice aE es.length cE) es by rw [hnn]; exact hE)
  have hle := Lib.hid hnn
  clear hnn hE
  have BA := Box.new h #[.int .i64 al, .int .i64 ns, .slice aE n cE] 25
  have BA := BA.ext (Ext.alloc _ (.cells #[.int .i64 0, .int .i64 0, .slice none 0 0] 25))
  have BR : Box D g q w (w.heap.size + 1) 0 #[.int .i64 0, .int .i64 0, .slice none 0 0] 25 _ D := ⟨BA.inc, BA.st, BA.tr, Ext.blk1 (Ext.refl _), h.out (by omega)⟩
  have HE1 := Lib.hid (show EdgesV _ (.slice aE es.length cE) es from hEE.out.mono ((Ext.alloc w (.cells #[.int .i64 al, .int .i64 ns, .slice aE n cE] 25)).trans (Ext.alloc _ (.cells #[.int .i64 0, .int .i64 0, .slice none 0 0] 25))))
  go_enter Tryz.func56, Tryz.ntmps56
  go_wp2_with fail
  generalize (w.alloc (.cells #[.int .i64 al, .int .i64 ns, .slice aE n cE] 25)).alloc (.cells #[.int .i64 0, .int .i64 0, .slice none 0 0] 25) = w1 at BA BR HE1 ⊢
  have D0 := fun d os => cell_regrown (BA.blk.cell 0 rfl) d os
  have D1 := fun d os => cell_regrown (BA.blk.cell 1 rfl) d os
  have D2 := fun d os => cell_regrown (BA.blk.cell 2 rfl) d os
  have hsz1 := BR.blk.lt
  obtain ⟨Kc, HKc⟩ : ∃ Kc : FuncId → Array Value → World → Value → World → Prop, Hid (Kc = fun _ _ _ _ _ => True) := ⟨_, rfl⟩
  refine wp_region_ext (Kc := Kc) 10 (by kernel_rfl) (by kernel_rfl) ?_
  simp only [List.take_succ_cons, List.take_zero]
  repeat (refine WalkE.pure rfl (fun K hK => ?_); simp only [PureDo]; go_simp; refine hK _ ?_; clear hK K)
  refine WalkE.step (fun K hK wd hwd hdd => ?_)
  simp only [OpDo, OpSafe, OpOut]
  go_simp
  refine ⟨Ext.alloc _ _, hK _ _ ?_⟩
  clear hK K hdd
  repeat (refine WalkE.pure rfl (fun K hK => ?_); simp only [PureDo]; go_simp; refine hK _ ?_; clear hK K)
  refine WalkE.step (fun K hK we hwe hde => ?_)
  have j4 : Ext (wd.alloc (.cells #[] 103)) we := hde _ (Array.mem_of_getElem? (i := 0) rfl) rfl
  have hx1 : Ext w1 we := (Ext.drew _).trans hwe
  refine copy_x (news := edgeCells es) rfl rfl Tryz.underlying23 infoEdge rfl (by decide) per_edge zk_edge BR.st hx1 (Nat.le_trans (Ext.drew w1).size hwd.size) ((Blk.new wd _ _).ext j4) rfl rfl hmc hcl.out (fun h0 => by obtain ⟨b, off, e, -, -⟩ := hcell h0; subst e; exact ⟨_, rfl, (HE1.out.mono hx1).cells⟩) (kin_edges es) (by omega) (by decide) ?_
  intro v5 w5 D5 he5 hi5 hs5 hE5 hD5
  refine hK _ _ ?_
  clear hK K hde
  obtain ⟨a5, c5, rfl⟩ := hE5.shape
  repeat (refine WalkE.pure rfl (fun K hK => ?_); simp only [PureDo]; go_simp; refine hK _ ?_; clear hK K)
  refine WalkE.step (fun K hK wf hwf hdf => ?_)
  simp only [OpDo, OpSafe, OpOut]
  go_simp
  refine ⟨Ext.alloc _ _, hK _ _ ?_⟩
  clear hK K hdf
  refine WalkE.nil (fun wn hwn hmn => ?_)
  simp only [List.drop_succ_cons, List.drop_zero, List.drop_nil]
  have e5 : Ext w5 wn := hmn 7 (by omega)
  have e9 := hmn 9 (by omega)
  have hxn : Ext w1 wn := (Ext.drew _).trans hwn
  have hGw : w1.heap.size ≤ wf.heap.size := Nat.le_trans (Ext.drew w1).size hwf.size
  have BG := BR.beside (c' := 0) hxn hi5 (hs5.ext e5) ((Blk.new wf _ _).ext e9) hGw e5 hD5 (by decide)
  have BR := BR.grow (c' := 0) hxn hi5 (hs5.ext e5)
  have hE := hE5.tr' (Inc.refl _ _) (Tr.ext hs5 e5)
  clear D0 D1 D2 hmn HKc hwd hwe hwf hwn e5 e9 hxn j4 hx1 he5 hi5 hs5 hE5 hD5 BA
  generalize wf.heap.size = G at BG hGw ⊢
  clear wf we w5
  have gc0 := BG.blk.cell 0 rfl; have gf0 := BG.blk.fr 0; have gc1 := BG.blk.cell 1 rfl; have gf1 := BG.blk.fr 1; have gc2 := BG.blk.cell 2 rfl; have gf2 := BG.blk.fr 2
  go_wp2_with fail
  have oR := BR.out
  have oG := BG.out
  have BR := ((BR.other (b' := G) (by omega) hd (by omega) (by omega) oG 0 (.int .i64 al)).other (b' := G) (by omega) hd (by omega) (by omega) oG 1 (.int .i64 ns)).other (b' := G) (by omega) hd (by omega) (by omega) oG 2 (.slice a5 n c5)
  have BG := ((BG.set (by omega) hd (by omega) 0 (.int .i64 al)).set (by omega) hd (by omega) 1 (.int .i64 ns)).set (by omega) hd (by omega) 2 (.slice a5 n c5)
  have hE : SlOk D5 (((wn.setCell ⟨G, 0, none⟩ (.int .i64 al)).setCell ⟨G, 1, none⟩ (.int .i64 ns)).setCell ⟨G, 2, none⟩ (.slice a5 n c5)) 103 3 (.slice a5 n c5) n := (((hE.tr (fun _ h => h) (Shp.box oG)).tr (fun _ h => h) (Shp.box oG)).tr (fun _ h => h) (Shp.box oG))
  generalize ((wn.setCell ⟨G, 0, none⟩ (.int .i64 al)).setCell ⟨G, 1, none⟩ (.int .i64 ns)).setCell ⟨G, 2, none⟩ (.slice a5 n c5) = w2 at BR BG hE ⊢
  clear gc0 gc1 gc2 gf0 gf1 gf2
  refine (pick_t n BG.st (by omega) (by omega)).mono ?_
  rintro e w3 ⟨k, rfl, hkn', -, hs3, hk3⟩
  have hkn : 0 < n → k < n := fun h0 => by have := hkn' (by omega); omega
  have hE := hE.tr' (Inc.refl _ _) (Tr.kept BG.st hk3)
  have BR := BR.kept (by omega) hk3 (c' := 1) hs3
  have BG := BG.kept (by omega) hk3 (c' := 1) hs3
  clear hs3 hk3 hkn'
  go_wp2_with fail
  refine (pick_t 30 BG.st (by omega) (by omega)).mono ?_
  rintro e w3 ⟨x, rfl, -, -, hs3, hk3⟩
  have hE := hE.tr' (Inc.refl _ _) (Tr.kept BG.st hk3)
  have BR := BR.kept (by omega) hk3 (c' := 2) hs3
  have BG := BG.kept (by omega) hk3 (c' := 2) hs3
  clear hs3 hk3
  have hx : x = 0 ∨ x = 1 ∨ x = 2 ∨ x = 3 ∨ x = 4 ∨ x = 5 ∨ x = 6 ∨ 6 < x := by omega
  have hne1 : w.heap.size + 1 ≠ G := by omega
  have hne2 : G ≠ w.heap.size + 1 := by omega
  rcases hx with rfl | rfl | rfl | rfl | rfl | rfl | rfl | hx
  · go_wp2_with fail
    refine (num_t [64, -1, 1, 63] rfl BG.st (by omega) (by decide) (by decide)).mono ?_
    rintro e w4 ⟨y, hy, rfl, hs4, hk4⟩
    have hE := hE.tr' (Inc.refl _ _) (Tr.kept BG.st hk4)
    have BR := BR.kept (by omega) hk4 (c' := 3) hs4
    have BG := BG.kept (by omega) hk4 (c' := 3) hs4
    clear hs4 hk4
    have gc0 := BG.blk.cell 0 rfl; have gf0 := BG.blk.fr 0; have gc1 := BG.blk.cell 1 rfl; have gf1 := BG.blk.fr 1; have gc2 := BG.blk.cell 2 rfl; have gf2 := BG.blk.fr 2
    have rc0 := BR.blk.cell 0 rfl; have rf0 := BR.blk.fr 0; have rc1 := BR.blk.cell 1 rfl; have rf1 := BR.blk.fr 1; have rc2 := BR.blk.cell 2 rfl; have rf2 := BR.blk.fr 2
    go_wp2_with fail
    clear gc0 gc1 gc2 gf0 gf1 gf2 rc0 rc1 rc2 rf0 rf1 rf2
    have BR := BR.other (b' := G) (by omega) hd (by omega) (by omega) BG.out 0 (.int .i64 y)
    have hE : SlOk D5 (w4.setCell ⟨G, 0, none⟩ (.int .i64 y)) 103 3 (.slice a5 n c5) n := hE.tr (fun _ h => h) (Shp.box BG.out)
    have zc0 := BR.blk.cell 0 rfl; have zf0 := BR.blk.fr 0; have zc1 := BR.blk.cell 1 rfl; have zf1 := BR.blk.fr 1; have zc2 := BR.blk.cell 2 rfl; have zf2 := BR.blk.fr 2
    refine bodyPost_ret (v := .agg #[.int .i64 y, .int .i64 ns, .slice a5 n c5]) (by simp [results, Tryz.results56, go_sem, zc0, zc1, zc2, zf0, zf1, zf2]) rfl ?_
    have BZ := ((BR.set (by omega) hd (by omega) 0 (.int .i64 y)).set (by omega) hd (by omega) 1 (.int .i64 ns)).set (by omega) hd (by omega) 2 (.slice a5 n c5)
    have oZ := BR.out
    exact ⟨_, _, rfl, BZ.inc, BZ.st.up (by omega), BZ.tr, _, _, _, _, rfl, by omega, (((hE.tr (fun _ h => h) (Shp.box oZ)).tr (fun _ h => h) (Shp.box oZ)).tr (fun _ h => h) (Shp.box oZ))⟩
  · go_wp2_with fail
    refine (num_t [0, 17, -1, 16, 1] rfl BG.st (by omega) (by decide) (by decide)).mono ?_
    rintro e w4 ⟨y, hy, rfl, hs4, hk4⟩
    have hE := hE.tr' (Inc.refl _ _) (Tr.kept BG.st hk4)
    have BR := BR.kept (by omega) hk4 (c' := 3) hs4
    have BG := BG.kept (by omega) hk4 (c' := 3) hs4
    clear hs4 hk4
    have gc0 := BG.blk.cell 0 rfl; have gf0 := BG.blk.fr 0; have gc1 := BG.blk.cell 1 rfl; have gf1 := BG.blk.fr 1; have gc2 := BG.blk.cell 2 rfl; have gf2 := BG.blk.fr 2
    have rc0 := BR.blk.cell 0 rfl; have rf0 := BR.blk.fr 0; have rc1 := BR.blk.cell 1 rfl; have rf1 := BR.blk.fr 1; have rc2 := BR.blk.cell 2 rfl; have rf2 := BR.blk.fr 2
    go_wp2_with fail
    clear gc0 gc1 gc2 gf0 gf1 gf2 rc0 rc1 rc2 rf0 rf1 rf2
    have BR := BR.other (b' := G) (by omega) hd (by omega) (by omega) BG.out 1 (.int .i64 y)
    have hE : SlOk D5 (w4.setCell ⟨G, 1, none⟩ (.int .i64 y)) 103 3 (.slice a5 n c5) n := hE.tr (fun _ h => h) (Shp.box BG.out)
    have zc0 := BR.blk.cell 0 rfl; have zf0 := BR.blk.fr 0; have zc1 := BR.blk.cell 1 rfl; have zf1 := BR.blk.fr 1; have zc2 := BR.blk.cell 2 rfl; have zf2 := BR.blk.fr 2
    refine bodyPost_ret (v := .agg #[.int .i64 al, .int .i64 y, .slice a5 n c5]) (by simp [results, Tryz.results56, go_sem, zc0, zc1, zc2, zf0, zf1, zf2]) rfl ?_
    have BZ := ((BR.set (by omega) hd (by omega) 0 (.int .i64 al)).set (by omega) hd (by omega) 1 (.int .i64 y)).set (by omega) hd (by omega) 2 (.slice a5 n c5)
    have oZ := BR.out
    exact ⟨_, _, rfl, BZ.inc, BZ.st.up (by omega), BZ.tr, _, _, _, _, rfl, by omega, (((hE.tr (fun _ h => h) (Shp.box oZ)).tr (fun _ h => h) (Shp.box oZ)).tr (fun _ h => h) (Shp.box oZ))⟩
  · by_cases hn0 : 0 < n
    · have hk0 : k < n := hkn hn0
      have hk1 : (0 : Int) ≤ (k : Int) := by omega
      have hk2 : (k : Int) < (n : Int) := by omega
      obtain ⟨b, cap, -, hv5, -⟩ := hE.store_edge BG.st hk0 (j := 0) (by omega)
      cases hv5
      have gc2 := BG.blk.cell 2 rfl
      go_wp2_with fail
      have BG' := BG.ext (Ext.drew _)
      have BR' := BR.ext (Ext.drew _)
      have hE' := hE.tr' (Inc.refl _ _) (Tr.ext BG.st (Ext.drew _))
      have gl := fun o => (Ext.alloc w3 o).cell gc2
      go_region_law (go_simp; go_wp2_with (go_at_call 128; refine (num_t [-1, 16, 0, 2] rfl BG'.st (by omega) (by decide) (by decide)).mono ?_; rintro e w6 ⟨y, hy, rfl, hs6, hk6⟩; have BG6 := BG'.kept (by omega) hk6 (c' := 4) (hs6.up (by omega)); have gc6 := BG6.blk.cell 2 rfl; have hE6 := hE'.tr' (Inc.refl _ _) (Tr.kept BG'.st hk6); obtain ⟨b2, cap2, u2, hv2, gs6, gf6, hst6⟩ := hE6.store_edge BG6.st hk0 (j := 0) (by omega); cases hv2; simp only [Nat.add_zero] at gs6 gf6 hst6))
      all_goals
        obtain ⟨s7, t7⟩ := hst6 y
        have BR7 := (BR'.kept (by omega) hk6 (c' := 4) (hs6.up (by omega))).drawn (by omega) (Inc.refl _ _) t7 s7
        have BG7 := BG6.drawn (by omega) (Inc.refl _ _) t7 s7
        have hE7 := hE6.tr' (Inc.refl _ _) t7
        clear gs6 gf6 hst6 s7 t7 gc6 gl gc2
        generalize w6.setCell ⟨b, k * 3, none⟩ (.int .i64 y) = w7 at BR7 BG7 hE7 ⊢
        have gc0 := BG7.blk.cell 0 rfl; have gf0 := BG7.blk.fr 0; have gc1 := BG7.blk.cell 1 rfl; have gf1 := BG7.blk.fr 1; have gc2 := BG7.blk.cell 2 rfl; have gf2 := BG7.blk.fr 2
        have rc0 := BR7.blk.cell 0 rfl; have rf0 := BR7.blk.fr 0; have rc1 := BR7.blk.cell 1 rfl; have rf1 := BR7.blk.fr 1; have rc2 := BR7.blk.cell 2 rfl; have rf2 := BR7.blk.fr 2
        go_wp2_with fail
        clear gc0 gc1 gc2 gf0 gf1 gf2 rc0 rc1 rc2 rf0 rf1 rf2
        have zc0 := BR7.blk.cell 0 rfl; have zf0 := BR7.blk.fr 0; have zc1 := BR7.blk.cell 1 rfl; have zf1 := BR7.blk.fr 1; have zc2 := BR7.blk.cell 2 rfl; have zf2 := BR7.blk.fr 2
        refine bodyPost_ret (v := .agg #[.int .i64 al, .int .i64 ns, .slice (some ⟨b, 0, none⟩) n c5]) (by simp [results, Tryz.results56, go_sem, zc0, zc1, zc2, zf0, zf1, zf2]) rfl ?_
        have BZ := ((BR7.set (by omega) hd (by omega) 0 (.int .i64 al)).set (by omega) hd (by omega) 1 (.int .i64 ns)).set (by omega) hd (by omega) 2 (.slice (some ⟨b, 0, none⟩) n c5)
        have oZ := BR7.out
        exact ⟨_, _, rfl, BZ.inc, BZ.st.up (by omega), BZ.tr, _, _, _, _, rfl, by omega, (((hE7.tr (fun _ h => h) (Shp.box oZ)).tr (fun _ h => h) (Shp.box oZ)).tr (fun _ h => h) (Shp.box oZ))⟩
    · have hn0' : n = 0 := by omega
      subst hn0'
      have gc0 := BG.blk.cell 0 rfl; have gf0 := BG.blk.fr 0; have gc1 := BG.blk.cell 1 rfl; have gf1 := BG.blk.fr 1; have gc2 := BG.blk.cell 2 rfl; have gf2 := BG.blk.fr 2
      have rc0 := BR.blk.cell 0 rfl; have rf0 := BR.blk.fr 0; have rc1 := BR.blk.cell 1 rfl; have rf1 := BR.blk.fr 1; have rc2 := BR.blk.cell 2 rfl; have rf2 := BR.blk.fr 2
      go_wp2_with fail
      clear gc0 gc1 gc2 gf0 gf1 gf2 rc0 rc1 rc2 rf0 rf1 rf2
      have zc0 := BR.blk.cell 0 rfl; have zf0 := BR.blk.fr 0; have zc1 := BR.blk.cell 1 rfl; have zf1 := BR.blk.fr 1; have zc2 := BR.blk.cell 2 rfl; have zf2 := BR.blk.fr 2
      refine bodyPost_ret (v := .agg #[.int .i64 al, .int .i64 ns, .slice a5 0 c5]) (by simp [results, Tryz.results56, go_sem, zc0, zc1, zc2, zf0, zf1, zf2]) rfl ?_
      have BZ := ((BR.set (by omega) hd (by omega) 0 (.int .i64 al)).set (by omega) hd (by omega) 1 (.int .i64 ns)).set (by omega) hd (by omega) 2 (.slice a5 0 c5)
      have oZ := BR.out
      exact ⟨_, _, rfl, BZ.inc, BZ.st.up (by omega), BZ.tr, _, _, _, _, rfl, by omega, (((hE.tr (fun _ h => h) (Shp.box oZ)).tr (fun _ h => h) (Shp.box oZ)).tr (fun _ h => h) (Shp.box oZ))⟩
  · by_cases hn0 : 0 < n
    · have hk0 : k < n := hkn hn0
      have hk1 : (0 : Int) ≤ (k : Int) := by omega
      have hk2 : (k : Int) < (n : Int) := by omega
      obtain ⟨b, cap, -, hv5, -⟩ := hE.store_edge BG.st hk0 (j := 2) (by omega)
      cases hv5
      have gc2 := BG.blk.cell 2 rfl
      go_wp2_with fail
      have BG' := BG.ext (Ext.drew _)
      have BR' := BR.ext (Ext.drew _)
      have hE' := hE.tr' (Inc.refl _ _) (Tr.ext BG.st (Ext.drew _))
      have gl := fun o => (Ext.alloc w3 o).cell gc2
      go_region_law (go_simp; go_wp2_with (go_at_call 128; refine (num_t [-1, 16, 0, 3] rfl BG'.st (by omega) (by decide) (by decide)).mono ?_; rintro e w6 ⟨y, hy, rfl, hs6, hk6⟩; have BG6 := BG'.kept (by omega) hk6 (c' := 4) (hs6.up (by omega)); have gc6 := BG6.blk.cell 2 rfl; have hE6 := hE'.tr' (Inc.refl _ _) (Tr.kept BG'.st hk6); obtain ⟨b2, cap2, u2, hv2, gs6, gf6, hst6⟩ := hE6.store_edge BG6.st hk0 (j := 2) (by omega); cases hv2))
      all_goals
        obtain ⟨s7, t7⟩ := hst6 y
        have BR7 := (BR'.kept (by omega) hk6 (c' := 4) (hs6.up (by omega))).drawn (by omega) (Inc.refl _ _) t7 s7
        have BG7 := BG6.drawn (by omega) (Inc.refl _ _) t7 s7
        have hE7 := hE6.tr' (Inc.refl _ _) t7
        clear gs6 gf6 hst6 s7 t7 gc6 gl gc2
        generalize w6.setCell ⟨b, k * 3 + 2, none⟩ (.int .i64 y) = w7 at BR7 BG7 hE7 ⊢
        have gc0 := BG7.blk.cell 0 rfl; have gf0 := BG7.blk.fr 0; have gc1 := BG7.blk.cell 1 rfl; have gf1 := BG7.blk.fr 1; have gc2 := BG7.blk.cell 2 rfl; have gf2 := BG7.blk.fr 2
        have rc0 := BR7.blk.cell 0 rfl; have rf0 := BR7.blk.fr 0; have rc1 := BR7.blk.cell 1 rfl; have rf1 := BR7.blk.fr 1; have rc2 := BR7.blk.cell 2 rfl; have rf2 := BR7.blk.fr 2
        go_wp2_with fail
        clear gc0 gc1 gc2 gf0 gf1 gf2 rc0 rc1 rc2 rf0 rf1 rf2
        have zc0 := BR7.blk.cell 0 rfl; have zf0 := BR7.blk.fr 0; have zc1 := BR7.blk.cell 1 rfl; have zf1 := BR7.blk.fr 1; have zc2 := BR7.blk.cell 2 rfl; have zf2 := BR7.blk.fr 2
        refine bodyPost_ret (v := .agg #[.int .i64 al, .int .i64 ns, .slice (some ⟨b, 0, none⟩) n c5]) (by simp [results, Tryz.results56, go_sem, zc0, zc1, zc2, zf0, zf1, zf2]) rfl ?_
        have BZ := ((BR7.set (by omega) hd (by omega) 0 (.int .i64 al)).set (by omega) hd (by omega) 1 (.int .i64 ns)).set (by omega) hd (by omega) 2 (.slice (some ⟨b, 0, none⟩) n c5)
        have oZ := BR7.out
        exact ⟨_, _, rfl, BZ.inc, BZ.st.up (by omega), BZ.tr, _, _, _, _, rfl, by omega, (((hE7.tr (fun _ h => h) (Shp.box oZ)).tr (fun _ h => h) (Shp.box oZ)).tr (fun _ h => h) (Shp.box oZ))⟩
    · have hn0' : n = 0 := by omega
      subst hn0'
      have gc0 := BG.blk.cell 0 rfl; have gf0 := BG.blk.fr 0; have gc1 := BG.blk.cell 1 rfl; have gf1 := BG.blk.fr 1; have gc2 := BG.blk.cell 2 rfl; have gf2 := BG.blk.fr 2
      have rc0 := BR.blk.cell 0 rfl; have rf0 := BR.blk.fr 0; have rc1 := BR.blk.cell 1 rfl; have rf1 := BR.blk.fr 1; have rc2 := BR.blk.cell 2 rfl; have rf2 := BR.blk.fr 2
      go_wp2_with fail
      clear gc0 gc1 gc2 gf0 gf1 gf2 rc0 rc1 rc2 rf0 rf1 rf2
      have zc0 := BR.blk.cell 0 rfl; have zf0 := BR.blk.fr 0; have zc1 := BR.blk.cell 1 rfl; have zf1 := BR.blk.fr 1; have zc2 := BR.blk.cell 2 rfl; have zf2 := BR.blk.fr 2
      refine bodyPost_ret (v := .agg #[.int .i64 al, .int .i64 ns, .slice a5 0 c5]) (by simp [results, Tryz.results56, go_sem, zc0, zc1, zc2, zf0, zf1, zf2]) rfl ?_
      have BZ := ((BR.set (by omega) hd (by omega) 0 (.int .i64 al)).set (by omega) hd (by omega) 1 (.int .i64 ns)).set (by omega) hd (by omega) 2 (.slice a5 0 c5)
      have oZ := BR.out
      exact ⟨_, _, rfl, BZ.inc, BZ.st.up (by omega), BZ.tr, _, _, _, _, rfl, by omega, (((hE.tr (fun _ h => h) (Shp.box oZ)).tr (fun _ h => h) (Shp.box oZ)).tr (fun _ h => h) (Shp.box oZ))⟩
  · by_cases hn0 : 0 < n
    · have hk0 : k < n := hkn hn0
      have hk1 : (0 : Int) ≤ (k : Int) := by omega
      have hk2 : (k : Int) < (n : Int) := by omega
      obtain ⟨b, cap, -, hv5, -⟩ := hE.store_edge BG.st hk0 (j := 1) (by omega)
      cases hv5
      have gc2 := BG.blk.cell 2 rfl
      go_wp2_with fail
      have BG' := BG.ext (Ext.drew _)
      have BR' := BR.ext (Ext.drew _)
      have hE' := hE.tr' (Inc.refl _ _) (Tr.ext BG.st (Ext.drew _))
      have gl := fun o => (Ext.alloc w3 o).cell gc2
      go_region_law (go_simp; go_wp2_with (go_at_call 128; refine (num_t [-1, 6, 70, 5, 0] rfl BG'.st (by omega) (by decide) (by decide)).mono ?_; rintro e w6 ⟨y, hy, rfl, hs6, hk6⟩; have BG6 := BG'.kept (by omega) hk6 (c' := 4) (hs6.up (by omega)); have gc6 := BG6.blk.cell 2 rfl; have hE6 := hE'.tr' (Inc.refl _ _) (Tr.kept BG'.st hk6); obtain ⟨b2, cap2, u2, hv2, gs6, gf6, hst6⟩ := hE6.store_edge BG6.st hk0 (j := 1) (by omega); cases hv2))
      all_goals
        obtain ⟨s7, t7⟩ := hst6 y
        have BR7 := (BR'.kept (by omega) hk6 (c' := 4) (hs6.up (by omega))).drawn (by omega) (Inc.refl _ _) t7 s7
        have BG7 := BG6.drawn (by omega) (Inc.refl _ _) t7 s7
        have hE7 := hE6.tr' (Inc.refl _ _) t7
        clear gs6 gf6 hst6 s7 t7 gc6 gl gc2
        generalize w6.setCell ⟨b, k * 3 + 1, none⟩ (.int .i64 y) = w7 at BR7 BG7 hE7 ⊢
        have gc0 := BG7.blk.cell 0 rfl; have gf0 := BG7.blk.fr 0; have gc1 := BG7.blk.cell 1 rfl; have gf1 := BG7.blk.fr 1; have gc2 := BG7.blk.cell 2 rfl; have gf2 := BG7.blk.fr 2
        have rc0 := BR7.blk.cell 0 rfl; have rf0 := BR7.blk.fr 0; have rc1 := BR7.blk.cell 1 rfl; have rf1 := BR7.blk.fr 1; have rc2 := BR7.blk.cell 2 rfl; have rf2 := BR7.blk.fr 2
        go_wp2_with fail
        clear gc0 gc1 gc2 gf0 gf1 gf2 rc0 rc1 rc2 rf0 rf1 rf2
        have zc0 := BR7.blk.cell 0 rfl; have zf0 := BR7.blk.fr 0; have zc1 := BR7.blk.cell 1 rfl; have zf1 := BR7.blk.fr 1; have zc2 := BR7.blk.cell 2 rfl; have zf2 := BR7.blk.fr 2
        refine bodyPost_ret (v := .agg #[.int .i64 al, .int .i64 ns, .slice (some ⟨b, 0, none⟩) n c5]) (by simp [results, Tryz.results56, go_sem, zc0, zc1, zc2, zf0, zf1, zf2]) rfl ?_
        have BZ := ((BR7.set (by omega) hd (by omega) 0 (.int .i64 al)).set (by omega) hd (by omega) 1 (.int .i64 ns)).set (by omega) hd (by omega) 2 (.slice (some ⟨b, 0, none⟩) n c5)
        have oZ := BR7.out
        exact ⟨_, _, rfl, BZ.inc, BZ.st.up (by omega), BZ.tr, _, _, _, _, rfl, by omega, (((hE7.tr (fun _ h => h) (Shp.box oZ)).tr (fun _ h => h) (Shp.box oZ)).tr (fun _ h => h) (Shp.box oZ))⟩
    · have hn0' : n = 0 := by omega
      subst hn0'
      have gc0 := BG.blk.cell 0 rfl; have gf0 := BG.blk.fr 0; have gc1 := BG.blk.cell 1 rfl; have gf1 := BG.blk.fr 1; have gc2 := BG.blk.cell 2 rfl; have gf2 := BG.blk.fr 2
      have rc0 := BR.blk.cell 0 rfl; have rf0 := BR.blk.fr 0; have rc1 := BR.blk.cell 1 rfl; have rf1 := BR.blk.fr 1; have rc2 := BR.blk.cell 2 rfl; have rf2 := BR.blk.fr 2
      go_wp2_with fail
      clear gc0 gc1 gc2 gf0 gf1 gf2 rc0 rc1 rc2 rf0 rf1 rf2
      have zc0 := BR.blk.cell 0 rfl; have zf0 := BR.blk.fr 0; have zc1 := BR.blk.cell 1 rfl; have zf1 := BR.blk.fr 1; have zc2 := BR.blk.cell 2 rfl; have zf2 := BR.blk.fr 2
      refine bodyPost_ret (v := .agg #[.int .i64 al, .int .i64 ns, .slice a5 0 c5]) (by simp [results, Tryz.results56, go_sem, zc0, zc1, zc2, zf0, zf1, zf2]) rfl ?_
      have BZ := ((BR.set (by omega) hd (by omega) 0 (.int .i64 al)).set (by omega) hd (by omega) 1 (.int .i64 ns)).set (by omega) hd (by omega) 2 (.slice a5 0 c5)
      have oZ := BR.out
      exact ⟨_, _, rfl, BZ.inc, BZ.st.up (by omega), BZ.tr, _, _, _, _, rfl, by omega, (((hE.tr (fun _ h => h) (Shp.box oZ)).tr (fun _ h => h) (Shp.box oZ)).tr (fun _ h => h) (Shp.box oZ))⟩
  · by_cases hn0 : 0 < n
    · have hk0 : k < n := hkn hn0
      have hk1 : (0 : Int) ≤ (k : Int) := by omega
      have hk2 : (k : Int) < (n : Int) := by omega
      obtain ⟨b, cap, u0, hv5, k0, -, -⟩ := hE.store_edge BG.st hk0 (j := 0) (by omega)
      cases hv5
      obtain ⟨b1, cap1, u1, hv6, k1, -, -⟩ := hE.store_edge BG.st hk0 (j := 1) (by omega)
      cases hv6
      obtain ⟨b2, cap2, u2, hv7, k2, -, -⟩ := hE.store_edge BG.st hk0 (j := 2) (by omega)
      cases hv7
      simp only [Nat.add_zero] at k0
      go_wp2_with fail
      have D0 := fun d os => cell_regrown (BG.blk.cell 2 rfl) d os
      have D1 := fun d os => cell_regrown k0 d os
      have D2 := fun d os => cell_regrown k1 d os
      have D3 := fun d os => cell_regrown k2 d os
      obtain ⟨Kc, HKc⟩ : ∃ Kc : FuncId → Array Value → World → Value → World → Prop, Hid (Kc = fun _ _ _ _ _ => True) := ⟨_, rfl⟩
      refine wp_region_ext (Kc := Kc) 8 (by kernel_rfl) (by kernel_rfl) ?_
      simp only [List.take_succ_cons, List.take_zero]
      repeat (refine WalkE.pure rfl (fun K hK => ?_); simp only [PureDo]; go_simp; refine hK _ ?_; clear hK K)
      refine WalkE.step (fun K hK we hwe hde => ?_)
      simp only [OpDo, OpSafe, OpOut]
      go_simp
      refine ⟨Ext.alloc _ _, hK _ _ ?_⟩
      clear hK K hde
      refine WalkE.nil (fun wm hwm hmm => ?_)
      simp only [List.drop_succ_cons, List.drop_zero, List.drop_nil]
      have hl := (hmm 7 (by omega))
      have l0 := hl.new 0 rfl
      have l1 := hl.new 1 rfl
      have l2 := hl.new 2 rfl
      have hx := (Ext.drew w3).trans hwm
      have hcell : ∀ (j' : Nat) (u : Value), [Value.int .i64 u0, Value.int .i64 u1, Value.int .i64 u2][j']? = some u → wm.cell? ((⟨we.heap.size, 0, none⟩ : Addr).add j') = some u := fun j' u hu => by
        rw [add_none, Nat.zero_add]
        match j', hu with
        | 0, hu => simp at hu; subst hu; exact l0
        | 1, hu => simp at hu; subst hu; exact l1
        | 2, hu => simp at hu; subst hu; exact l2
        | j' + 3, hu => simp at hu
      have hE := hE.tr' (Inc.refl _ _) (Tr.ext BG.st hx)
      have BR := BR.ext hx
      have BG := BG.ext hx
      clear l0 l1 l2 hl hmm HKc D0 D1 D2 D3 hwm hwe hx k0 k1 k2
      generalize we.heap.size = r at hcell ⊢
      clear we
      have rc0 := BR.blk.cell 0 rfl; have rf0 := BR.blk.fr 0; have rc1 := BR.blk.cell 1 rfl; have rf1 := BR.blk.fr 1; have rc2 := BR.blk.cell 2 rfl; have rf2 := BR.blk.fr 2
      have gc0 := BG.blk.cell 0 rfl; have gf0 := BG.blk.fr 0; have gc1 := BG.blk.cell 1 rfl; have gf1 := BG.blk.fr 1; have gc2 := BG.blk.cell 2 rfl; have gf2 := BG.blk.fr 2
      go_wp2_with (at_builtin; refine app_t (news := [Value.int .i64 u0, Value.int .i64 u1, Value.int .i64 u2]) (q' := q + 4) rfl _ _ _ rfl Tryz.underlying23 infoEdge rfl (by decide) per_edge zk_edge BG.st hE rfl rfl (by simp) hcell (by simp [Value.oneCell']) (kin_edge _ _ _) (by omega) (by decide) (by omega) ?_; intro v1 w7 D7 hi7 hs7 ht7 hE7; obtain ⟨a7, c7, rfl⟩ := hE7.shape; have BR7 := BR.drawn (by omega) hi7 ht7 (c' := 4) hs7; have BG7 := BG.drawn (by omega) hi7 ht7 (c' := 4) hs7; clear gc0 gc1 gc2 gf0 gf1 gf2 rc0 rc1 rc2 rf0 rf1 rf2; have gc0 := BG7.blk.cell 0 rfl; have gf0 := BG7.blk.fr 0; have gc1 := BG7.blk.cell 1 rfl; have gf1 := BG7.blk.fr 1; have gc2 := BG7.blk.cell 2 rfl; have gf2 := BG7.blk.fr 2; have rc0 := BR7.blk.cell 0 rfl; have rf0 := BR7.blk.fr 0; have rc1 := BR7.blk.cell 1 rfl; have rf1 := BR7.blk.fr 1; have rc2 := BR7.blk.cell 2 rfl; have rf2 := BR7.blk.fr 2)
      clear gc0 gc1 gc2 gf0 gf1 gf2 rc0 rc1 rc2 rf0 rf1 rf2
      have BR8 := BR7.other (b' := G) (by omega) hd (by omega) (by omega) BG7.out 2 (.slice a7 (n + 1) c7)
      have hE8 : SlOk D7 (w7.setCell ⟨G, 2, none⟩ (.slice a7 (n + 1) c7)) 103 3 (.slice a7 (n + 1) c7) (n + 1) := hE7.tr (fun _ h => h) (Shp.box BG7.out)
      have zc0 := BR8.blk.cell 0 rfl; have zf0 := BR8.blk.fr 0; have zc1 := BR8.blk.cell 1 rfl; have zf1 := BR8.blk.fr 1; have zc2 := BR8.blk.cell 2 rfl; have zf2 := BR8.blk.fr 2
      refine bodyPost_ret (v := .agg #[.int .i64 al, .int .i64 ns, .slice a7 (n + 1) c7]) (by simp [results, Tryz.results56, go_sem, zc0, zc1, zc2, zf0, zf1, zf2]) rfl ?_
      have BZ := ((BR8.set (by omega) hd (by omega) 0 (.int .i64 al)).set (by omega) hd (by omega) 1 (.int .i64 ns)).set (by omega) hd (by omega) 2 (.slice a7 (n + 1) c7)
      have oZ := BR8.out
      exact ⟨_, _, rfl, BZ.inc, BZ.st.up (by omega), BZ.tr, _, _, _, _, rfl, by omega, (((hE8.tr (fun _ h => h) (Shp.box oZ)).tr (fun _ h => h) (Shp.box oZ)).tr (fun _ h => h) (Shp.box oZ))⟩
    · have hn0' : n = 0 := by omega
      subst hn0'
      have gc0 := BG.blk.cell 0 rfl; have gf0 := BG.blk.fr 0; have gc1 := BG.blk.cell 1 rfl; have gf1 := BG.blk.fr 1; have gc2 := BG.blk.cell 2 rfl; have gf2 := BG.blk.fr 2
      have rc0 := BR.blk.cell 0 rfl; have rf0 := BR.blk.fr 0; have rc1 := BR.blk.cell 1 rfl; have rf1 := BR.blk.fr 1; have rc2 := BR.blk.cell 2 rfl; have rf2 := BR.blk.fr 2
      go_wp2_with fail
      clear gc0 gc1 gc2 gf0 gf1 gf2 rc0 rc1 rc2 rf0 rf1 rf2
      have zc0 := BR.blk.cell 0 rfl; have zf0 := BR.blk.fr 0; have zc1 := BR.blk.cell 1 rfl; have zf1 := BR.blk.fr 1; have zc2 := BR.blk.cell 2 rfl; have zf2 := BR.blk.fr 2
      refine bodyPost_ret (v := .agg #[.int .i64 al, .int .i64 ns, .slice a5 0 c5]) (by simp [results, Tryz.results56, go_sem, zc0, zc1, zc2, zf0, zf1, zf2]) rfl ?_
      have BZ := ((BR.set (by omega) hd (by omega) 0 (.int .i64 al)).set (by omega) hd (by omega) 1 (.int .i64 ns)).set (by omega) hd (by omega) 2 (.slice a5 0 c5)
      have oZ := BR.out
      exact ⟨_, _, rfl, BZ.inc, BZ.st.up (by omega), BZ.tr, _, _, _, _, rfl, by omega, (((hE.tr (fun _ h => h) (Shp.box oZ)).tr (fun _ h => h) (Shp.box oZ)).tr (fun _ h => h) (Shp.box oZ))⟩
  · have gc2 := BG.blk.cell 2 rfl
    go_wp2_with fail
    have BG' := BG.ext (Ext.drew _)
    have BR' := BR.ext (Ext.drew _)
    have hE' := hE.tr' (Inc.refl _ _) (Tr.ext BG.st (Ext.drew _))
    have hs6 := BG'.st
    have hkk : Kept g w3.drew w3.drew := Tnd.refl _ _
    have hsum : 0 ≤ q := by omega
    go_region_law (first
      | (refine step_app1_t (q + 6) (by rfl) (by rfl) Tryz.underlying23 infoEdge (by rfl) (by decide) per_edge zk_edge hs6 (hE'.tr' (Inc.refl _ _) (Tr.kept BG'.st hkk)) (by rfl) (by rfl) (by rfl) (by simp [Value.oneCell']) (kin_edge _ _ _) (by omega) (by decide) (by omega) ?_; intro v1 w7 D7 hi7 hs7 ht7 hE7; obtain ⟨a7, c7, rfl⟩ := hE7.shape; have BG7 := (BG'.kept (by omega) hkk (c' := 5) (hs6.up (by omega))).drawn (by omega) hi7 ht7 (c' := 6) hs7; have gc7 := BG7.blk.cell 2 rfl; have gf7 := BG7.blk.fr 2)
      | (go_simp; go_wp2_with (go_at_call 52; refine (pick_t _ hs6 (by omega) (by omega)).mono ?_; rintro e w6 ⟨x6, rfl, -, -, hs6, hk6⟩; replace hkk := hkk.trans hk6; have gc6 : w6.cell? ⟨G, 2, none⟩ = some (.slice a5 n c5) := (BG'.blk.kept hkk (by omega)).cell 2 rfl; have gc8 := fun o => (Ext.alloc w6 o).cell gc6)))
    all_goals
      have BR7 := (BR'.kept (by omega) hkk (c' := 5) (hs6.up (by omega))).drawn (by omega) hi7 ht7 (c' := 6) hs7
      have BR8 := BR7.other (b' := G) (by omega) hd (by omega) (by omega) BG7.out 2 (.slice a7 (n + 1) c7)
      have hE8 : SlOk D7 (w7.setCell ⟨G, 2, none⟩ (.slice a7 (n + 1) c7)) 103 3 (.slice a7 (n + 1) c7) (n + 1) := hE7.tr (fun _ h => h) (Shp.box BG7.out)
      have BG8 := BG7.set (by omega) hd (by omega) 2 (.slice a7 (n + 1) c7)
      generalize w7.setCell ⟨G, 2, none⟩ (.slice a7 (n + 1) c7) = w8 at BR8 BG8 hE8 ⊢
      have gc0 := BG8.blk.cell 0 rfl; have gf0 := BG8.blk.fr 0; have gc1 := BG8.blk.cell 1 rfl; have gf1 := BG8.blk.fr 1; have gc2 := BG8.blk.cell 2 rfl; have gf2 := BG8.blk.fr 2
      have rc0 := BR8.blk.cell 0 rfl; have rf0 := BR8.blk.fr 0; have rc1 := BR8.blk.cell 1 rfl; have rf1 := BR8.blk.fr 1; have rc2 := BR8.blk.cell 2 rfl; have rf2 := BR8.blk.fr 2
      go_wp2_with fail
      clear gc0 gc1 gc2 gf0 gf1 gf2 rc0 rc1 rc2 rf0 rf1 rf2
      have zc0 := BR8.blk.cell 0 rfl; have zf0 := BR8.blk.fr 0; have zc1 := BR8.blk.cell 1 rfl; have zf1 := BR8.blk.fr 1; have zc2 := BR8.blk.cell 2 rfl; have zf2 := BR8.blk.fr 2
      refine bodyPost_ret (v := .agg #[.int .i64 al, .int .i64 ns, .slice a7 (n + 1) c7]) (by simp [results, Tryz.results56, go_sem, zc0, zc1, zc2, zf0, zf1, zf2]) rfl ?_
      have BZ := ((BR8.set (by omega) hd (by omega) 0 (.int .i64 al)).set (by omega) hd (by omega) 1 (.int .i64 ns)).set (by omega) hd (by omega) 2 (.slice a7 (n + 1) c7)
      have oZ := BR8.out
      exact ⟨_, _, rfl, BZ.inc, BZ.st.up (by omega), BZ.tr, _, _, _, _, rfl, by omega, (((hE8.tr (fun _ h => h) (Shp.box oZ)).tr (fun _ h => h) (Shp.box oZ)).tr (fun _ h => h) (Shp.box oZ))⟩
  · have g0 : ((x : Int) == 0) = false := beq_eq_false_iff_ne.2 (by omega)
    have g1 : ((x : Int) == 1) = false := beq_eq_false_iff_ne.2 (by omega)
    have g2 : ((x : Int) == 2) = false := beq_eq_false_iff_ne.2 (by omega)
    have g3 : ((x : Int) == 3) = false := beq_eq_false_iff_ne.2 (by omega)
    have g4 : ((x : Int) == 4) = false := beq_eq_false_iff_ne.2 (by omega)
    have g5 : ((x : Int) == 5) = false := beq_eq_false_iff_ne.2 (by omega)
    have g6 : ((x : Int) == 6) = false := beq_eq_false_iff_ne.2 (by omega)
    have gc0 := BG.blk.cell 0 rfl; have gf0 := BG.blk.fr 0; have gc1 := BG.blk.cell 1 rfl; have gf1 := BG.blk.fr 1; have gc2 := BG.blk.cell 2 rfl; have gf2 := BG.blk.fr 2
    have rc0 := BR.blk.cell 0 rfl; have rf0 := BR.blk.fr 0; have rc1 := BR.blk.cell 1 rfl; have rf1 := BR.blk.fr 1; have rc2 := BR.blk.cell 2 rfl; have rf2 := BR.blk.fr 2
    go_wp2_with fail
    clear gc0 gc1 gc2 gf0 gf1 gf2 rc0 rc1 rc2 rf0 rf1 rf2
    have zc0 := BR.blk.cell 0 rfl; have zf0 := BR.blk.fr 0; have zc1 := BR.blk.cell 1 rfl; have zf1 := BR.blk.fr 1; have zc2 := BR.blk.cell 2 rfl; have zf2 := BR.blk.fr 2
    refine bodyPost_ret (v := .agg #[.int .i64 al, .int .i64 ns, .slice a5 n c5]) (by simp [results, Tryz.results56, go_sem, zc0, zc1, zc2, zf0, zf1, zf2]) rfl ?_
    have BZ := ((BR.set (by omega) hd (by omega) 0 (.int .i64 al)).set (by omega) hd (by omega) 1 (.int .i64 ns)).set (by omega) hd (by omega) 2 (.slice a5 n c5)
    have oZ := BR.out
    exact ⟨_, _, rfl, BZ.inc, BZ.st.up (by omega), BZ.tr, _, _, _, _, rfl, by omega, (((hE.tr (fun _ h => h) (Shp.box oZ)).tr (fun _ h => h) (Shp.box oZ)).tr (fun _ h => h) (Shp.box oZ))⟩

theorem l3Wrong_x (v : Value) (x : Auto) (base : Nat) (hO : AutoOwn base w v x) (hD : ∀ b, D b → b < base) (hgb : g < base) (hn : x.next.length ≤ q) (hm : x.accept.length ≤ q) (hrl : ∀ r ∈ x.next, r.length ≤ q) (h : St D g q w) (hq : q + 50 ≤ 1000000) :
    Calls Tryz.prog 134 #[.pointer (some ⟨g, 0, none⟩), v] w (Drawn D g q 50 w AutoT) := by
  have hg := h.g_lt
  have hd := fun x hx => (h.dom x hx).2
  obtain ⟨vn, va, rfl, ⟨vs, h1, h2, h4⟩, h3⟩ := hO
  obtain ⟨aN0, cN0, rfl⟩ := own_any' h1
  obtain ⟨aA0, cA0, rfl⟩ := h3.shape
  have HC := fun w' (he : Ext w w') => l3Copy_x x base vs aN0 aA0 cN0 cA0 (own_ext h1 he) (h2.ext he) (h3.ext he) hD hgb hn hm hrl (h.ext he) (by omega)
  obtain ⟨al, hal⟩ : ∃ al, x.alphabet = al := ⟨_, rfl⟩
  obtain ⟨n, hnn⟩ : ∃ n, x.next.length = n := ⟨_, rfl⟩
  obtain ⟨m, hmm⟩ : ∃ m, x.accept.length = m := ⟨_, rfl⟩
  rw [hal, hnn, hmm] at HC
  rw [hnn] at hn
  rw [hmm] at hm
  rw [hal, hnn, hmm]
  have HCC := Lib.hid HC
  clear HC h1 h2 h3 h4 hrl hal hnn hmm
  have BA := Box.new h #[.int .i64 al, .slice aN0 n cN0, .slice aA0 m cA0] 31
  have BA := BA.ext (Ext.alloc _ (.cells #[.int .i64 0, .slice none 0 0, .slice none 0 0] 31))
  have BR : Box D g q w (w.heap.size + 1) 0 #[.int .i64 0, .slice none 0 0, .slice none 0 0] 31 _ D := ⟨BA.inc, BA.st, BA.tr, Ext.blk1 (Ext.refl _), h.out (by omega)⟩
  clear BA
  go_enter Tryz.func134, Tryz.ntmps134
  go_wp2_with fail
  refine (HCC.out _ ((Ext.alloc _ _).trans (Ext.alloc _ _))).mono ?_
  rintro e w1 ⟨v1, D1, rfl, hi1, hs1, ht1, vN, vA, rfl, hN, hA⟩
  have BR := BR.drawn (by omega) hi1 ht1 (c' := 0) hs1
  obtain ⟨aN, cN, rfl⟩ := hN.shape
  obtain ⟨aA, cA, rfl⟩ := hA.shape
  go_wp2_with fail
  have he := Ext.alloc w1 (.cells #[.int .i64 al, .slice aN n cN, .slice aA m cA] 31)
  have BG : Box D g q w w1.heap.size 0 #[.int .i64 al, .slice aN n cN, .slice aA m cA] 31 _ D1 := ⟨BR.inc, (BR.ext he).st, (BR.ext he).tr, Blk.new _ _ _, BR.st.out (Nat.le_refl _)⟩
  have hN := hN.tr' (Inc.refl _ _) (Tr.ext BR.st he)
  have hA := hA.tr' (Inc.refl _ _) (Tr.ext BR.st he)
  have BR := BR.ext he
  have hGs : w.heap.size + 1 < w1.heap.size := Nat.lt_of_lt_of_le (by simp) ht1.size
  clear ht1 hi1 hs1 he
  generalize w1.alloc (.cells #[.int .i64 al, .slice aN n cN, .slice aA m cA] 31) = w2 at BR BG hN hA ⊢
  generalize w1.heap.size = G at BG hGs ⊢

  refine (pick_t n BG.st (by omega) (by omega)).mono ?_
  rintro e w3 ⟨k, rfl, hkn', -, hs3, hk3⟩
  have hkn : 0 < n → k < n := fun h0 => by have := hkn' (by omega); omega
  have hN := hN.tr' (Inc.refl _ _) (Tr.kept BG.st hk3)
  have hA := hA.tr' (Inc.refl _ _) (Tr.kept BG.st hk3)
  have BR := BR.kept (by omega) hk3 (c' := 1) hs3
  have BG := BG.kept (by omega) hk3 (c' := 1) hs3
  clear hs3 hk3 hkn'
  go_wp2_with fail
  refine (pick_t 30 BG.st (by omega) (by omega)).mono ?_
  rintro e w3 ⟨x, rfl, -, -, hs3, hk3⟩
  have hN := hN.tr' (Inc.refl _ _) (Tr.kept BG.st hk3)
  have hA := hA.tr' (Inc.refl _ _) (Tr.kept BG.st hk3)
  have BR := BR.kept (by omega) hk3 (c' := 2) hs3
  have BG := BG.kept (by omega) hk3 (c' := 2) hs3
  clear hs3 hk3
  have hx : x = 0 ∨ x = 1 ∨ x = 2 ∨ x = 3 ∨ x = 4 ∨ x = 5 ∨ 5 < x := by omega
  have hne1 : w.heap.size + 1 ≠ G := by omega
  have hne2 : G ≠ w.heap.size + 1 := by omega
  rcases hx with rfl | rfl | rfl | rfl | rfl | rfl | hx
  · go_wp2_with fail
    refine (num_t [64, -1, 1, 63, 0] rfl BG.st (by omega) (by decide) (by decide)).mono ?_
    rintro e w4 ⟨y, hy, rfl, hs4, hk4⟩
    have hN := hN.tr' (Inc.refl _ _) (Tr.kept BG.st hk4)
    have hA := hA.tr' (Inc.refl _ _) (Tr.kept BG.st hk4)
    have BR := BR.kept (by omega) hk4 (c' := 3) hs4
    have BG := BG.kept (by omega) hk4 (c' := 3) hs4
    clear hs4 hk4
    have gc0 := BG.blk.cell 0 rfl; have gf0 := BG.blk.fr 0; have gc1 := BG.blk.cell 1 rfl; have gf1 := BG.blk.fr 1; have gc2 := BG.blk.cell 2 rfl; have gf2 := BG.blk.fr 2; have rc0 := BR.blk.cell 0 rfl; have rf0 := BR.blk.fr 0; have rc1 := BR.blk.cell 1 rfl; have rf1 := BR.blk.fr 1; have rc2 := BR.blk.cell 2 rfl; have rf2 := BR.blk.fr 2
    go_wp2_with fail
    clear gc0 gc1 gc2 gf0 gf1 gf2 rc0 rc1 rc2 rf0 rf1 rf2
    have BR := BR.other (b' := G) (by omega) hd (by omega) (by omega) BG.out 0 (.int .i64 y)
    have hN : SlOk D1 (w4.setCell ⟨G, 0, none⟩ (.int .i64 y)) 96 1 (.slice aN n cN) n := hN.tr (fun _ h => h) (Shp.box BG.out)
    have hA : SlOk D1 (w4.setCell ⟨G, 0, none⟩ (.int .i64 y)) 4 1 (.slice aA m cA) m := hA.tr (fun _ h => h) (Shp.box BG.out)
    have zc0 := BR.blk.cell 0 rfl; have zf0 := BR.blk.fr 0; have zc1 := BR.blk.cell 1 rfl; have zf1 := BR.blk.fr 1; have zc2 := BR.blk.cell 2 rfl; have zf2 := BR.blk.fr 2
    refine bodyPost_ret (v := .agg #[.int .i64 y, .slice aN n cN, .slice aA m cA]) (by simp [results, Tryz.results134, go_sem, zc0, zc1, zc2, zf0, zf1, zf2]) rfl ?_
    have BZ := ((BR.set (by omega) hd (by omega) 0 (.int .i64 y)).set (by omega) hd (by omega) 1 (.slice aN n cN)).set (by omega) hd (by omega) 2 (.slice aA m cA)
    have oZ := BR.out
    exact ⟨_, _, rfl, BZ.inc, BZ.st.up (by omega), BZ.tr, _, _, _, _, _, rfl, by omega, by omega, (((hN.tr (fun _ h => h) (Shp.box oZ)).tr (fun _ h => h) (Shp.box oZ)).tr (fun _ h => h) (Shp.box oZ)), (((hA.tr (fun _ h => h) (Shp.box oZ)).tr (fun _ h => h) (Shp.box oZ)).tr (fun _ h => h) (Shp.box oZ))⟩
  · have gc0 := BG.blk.cell 0 rfl; have gf0 := BG.blk.fr 0; have gc1 := BG.blk.cell 1 rfl; have gf1 := BG.blk.fr 1; have gc2 := BG.blk.cell 2 rfl; have gf2 := BG.blk.fr 2; have rc0 := BR.blk.cell 0 rfl; have rf0 := BR.blk.fr 0; have rc1 := BR.blk.cell 1 rfl; have rf1 := BR.blk.fr 1; have rc2 := BR.blk.cell 2 rfl; have rf2 := BR.blk.fr 2
    go_wp2_with (at_builtin; refine app1_t (q + 3) rfl rfl Tryz.underlying29 infoBool rfl (by decide) per_bool zk_bool BG.st hA rfl rfl rfl (by simp [Value.oneCell']) (kin_bool _) (by omega) (by decide) (by omega) ?_; intro v1 w4 D4 hi4 hs4 ht4 hA4; obtain ⟨a4, c4, rfl⟩ := hA4.shape; have BR4 := BR.drawn (by omega) hi4 ht4 (c' := 3) hs4; have BG4 := BG.drawn (by omega) hi4 ht4 (c' := 3) hs4; clear gc0 gc1 gc2 gf0 gf1 gf2 rc0 rc1 rc2 rf0 rf1 rf2; have gc0 := BG4.blk.cell 0 rfl; have gf0 := BG4.blk.fr 0; have gc1 := BG4.blk.cell 1 rfl; have gf1 := BG4.blk.fr 1; have gc2 := BG4.blk.cell 2 rfl; have gf2 := BG4.blk.fr 2; have rc0 := BR4.blk.cell 0 rfl; have rf0 := BR4.blk.fr 0; have rc1 := BR4.blk.cell 1 rfl; have rf1 := BR4.blk.fr 1; have rc2 := BR4.blk.cell 2 rfl; have rf2 := BR4.blk.fr 2)
    clear gc0 gc1 gc2 gf0 gf1 gf2 rc0 rc1 rc2 rf0 rf1 rf2
    have BR5 := BR4.other (b' := G) (by omega) hd (by omega) (by omega) BG4.out 2 (.slice a4 (m + 1) c4)
    have hA5 : SlOk D4 (w4.setCell ⟨G, 2, none⟩ (.slice a4 (m + 1) c4)) 4 1 (.slice a4 (m + 1) c4) (m + 1) := hA4.tr (fun _ h => h) (Shp.box BG4.out)
    have hN5 : SlOk D4 (w4.setCell ⟨G, 2, none⟩ (.slice a4 (m + 1) c4)) 96 1 (.slice aN n cN) n := (hN.tr' hi4 ht4).tr (fun _ h => h) (Shp.box BG4.out)
    have zc0 := BR5.blk.cell 0 rfl; have zf0 := BR5.blk.fr 0; have zc1 := BR5.blk.cell 1 rfl; have zf1 := BR5.blk.fr 1; have zc2 := BR5.blk.cell 2 rfl; have zf2 := BR5.blk.fr 2
    refine bodyPost_ret (v := .agg #[.int .i64 al, .slice aN n cN, .slice a4 (m + 1) c4]) (by simp [results, Tryz.results134, go_sem, zc0, zc1, zc2, zf0, zf1, zf2]) rfl ?_
    have BZ := ((BR5.set (by omega) hd (by omega) 0 (.int .i64 al)).set (by omega) hd (by omega) 1 (.slice aN n cN)).set (by omega) hd (by omega) 2 (.slice a4 (m + 1) c4)
    have oZ := BR5.out
    exact ⟨_, _, rfl, BZ.inc, BZ.st.up (by omega), BZ.tr, _, _, _, _, _, rfl, by omega, by omega, (((hN5.tr (fun _ h => h) (Shp.box oZ)).tr (fun _ h => h) (Shp.box oZ)).tr (fun _ h => h) (Shp.box oZ)), (((hA5.tr (fun _ h => h) (Shp.box oZ)).tr (fun _ h => h) (Shp.box oZ)).tr (fun _ h => h) (Shp.box oZ))⟩
  · by_cases hn0 : 0 < n
    · have hk0 : k < n := hkn hn0
      have hk1 : (0 : Int) ≤ (k : Int) := by omega
      have hk2 : (k : Int) < (n : Int) := by omega
      obtain ⟨b, cap, r, rc, rm, hv5, hb, hc, -, hrm, hrow, -⟩ := hN.store_row BG.st hk0
      cases hv5
      have gc1 := BG.blk.cell 1 rfl
      go_wp2_with fail
      have BG' := BG.ext (Ext.drew _)
      have BR' := BR.ext (Ext.drew _)
      have hN' := hN.tr' (Inc.refl _ _) (Tr.ext BG.st (Ext.drew _))
      have hA' := hA.tr' (Inc.refl _ _) (Tr.ext BG.st (Ext.drew _))
      have hrow' := hrow.tr' (Inc.refl _ _) (Tr.ext BG.st (Ext.drew _))
      have gl1 := fun o => (Ext.alloc w3 o).cell gc1
      have gl2 := fun o => (Ext.alloc w3 o).cell hc
      go_region_law (refine step_app1_t (q + 3) (by rfl) (by rfl) Tryz.underlying96 infoInt (by rfl) (by decide) per_int zk_int BG'.st hrow' (by rfl) (by rfl) (by rfl) (by simp [Value.oneCell']) (kin_int _) (by omega) (by decide) (by omega) ?_; intro v1 w7 D7 hi7 hs7 ht7 hE7; obtain ⟨a7, c7, rfl⟩ := hE7.shape; have hN7 := hN'.tr' hi7 ht7; obtain ⟨b2, cap2, r2, rc2, rm2, hv7, hb2, hc2, hf2, hrm2, hrow2, hst2⟩ := hN7.store_row hs7 hk0; cases hv7; have BG7 := BG'.drawn (by omega) hi7 ht7 (c' := 3) hs7; have BR7 := BR'.drawn (by omega) hi7 ht7 (c' := 3) hs7; have gc7 := BG7.blk.cell 1 rfl)
      all_goals
        obtain ⟨s8, t8⟩ := hst2 (.slice a7 (rm + 1) c7) (rm + 1) (by omega) hE7
        have BR8 := BR7.drawn (by omega) (Inc.refl _ _) t8 s8
        have BG8 := BG7.drawn (by omega) (Inc.refl _ _) t8 s8
        have hN8 := hN7.tr' (Inc.refl _ _) t8
        have hA8 := (hA'.tr' hi7 ht7).tr' (Inc.refl _ _) t8
        clear hc2 hf2 gc7 gl1 gl2 gc1 hc hst2 s8 t8
        generalize w7.setCell ⟨b, k, none⟩ (.slice a7 (rm + 1) c7) = w8 at BR8 BG8 hN8 hA8 ⊢
        have gc0 := BG8.blk.cell 0 rfl; have gf0 := BG8.blk.fr 0; have gc1 := BG8.blk.cell 1 rfl; have gf1 := BG8.blk.fr 1; have gc2 := BG8.blk.cell 2 rfl; have gf2 := BG8.blk.fr 2; have rc0 := BR8.blk.cell 0 rfl; have rf0 := BR8.blk.fr 0; have rc1 := BR8.blk.cell 1 rfl; have rf1 := BR8.blk.fr 1; have rc2 := BR8.blk.cell 2 rfl; have rf2 := BR8.blk.fr 2
        go_wp2_with fail
        clear gc0 gc1 gc2 gf0 gf1 gf2 rc0 rc1 rc2 rf0 rf1 rf2
        have zc0 := BR8.blk.cell 0 rfl; have zf0 := BR8.blk.fr 0; have zc1 := BR8.blk.cell 1 rfl; have zf1 := BR8.blk.fr 1; have zc2 := BR8.blk.cell 2 rfl; have zf2 := BR8.blk.fr 2
        refine bodyPost_ret (v := .agg #[.int .i64 al, .slice (some ⟨b, 0, none⟩) n cN, .slice aA m cA]) (by simp [results, Tryz.results134, go_sem, zc0, zc1, zc2, zf0, zf1, zf2]) rfl ?_
        have BZ := ((BR8.set (by omega) hd (by omega) 0 (.int .i64 al)).set (by omega) hd (by omega) 1 (.slice (some ⟨b, 0, none⟩) n cN)).set (by omega) hd (by omega) 2 (.slice aA m cA)
        have oZ := BR8.out
        exact ⟨_, _, rfl, BZ.inc, BZ.st.up (by omega), BZ.tr, _, _, _, _, _, rfl, by omega, by omega, (((hN8.tr (fun _ h => h) (Shp.box oZ)).tr (fun _ h => h) (Shp.box oZ)).tr (fun _ h => h) (Shp.box oZ)), (((hA8.tr (fun _ h => h) (Shp.box oZ)).tr (fun _ h => h) (Shp.box oZ)).tr (fun _ h => h) (Shp.box oZ))⟩
    · have hz : n < 1 := by omega
      clear hn0
      have gc0 := BG.blk.cell 0 rfl; have gf0 := BG.blk.fr 0; have gc1 := BG.blk.cell 1 rfl; have gf1 := BG.blk.fr 1; have gc2 := BG.blk.cell 2 rfl; have gf2 := BG.blk.fr 2; have rc0 := BR.blk.cell 0 rfl; have rf0 := BR.blk.fr 0; have rc1 := BR.blk.cell 1 rfl; have rf1 := BR.blk.fr 1; have rc2 := BR.blk.cell 2 rfl; have rf2 := BR.blk.fr 2
      go_wp2_with fail
      clear gc0 gc1 gc2 gf0 gf1 gf2 rc0 rc1 rc2 rf0 rf1 rf2
      have zc0 := BR.blk.cell 0 rfl; have zf0 := BR.blk.fr 0; have zc1 := BR.blk.cell 1 rfl; have zf1 := BR.blk.fr 1; have zc2 := BR.blk.cell 2 rfl; have zf2 := BR.blk.fr 2
      refine bodyPost_ret (v := .agg #[.int .i64 al, .slice aN n cN, .slice aA m cA]) (by simp [results, Tryz.results134, go_sem, zc0, zc1, zc2, zf0, zf1, zf2]) rfl ?_
      have BZ := ((BR.set (by omega) hd (by omega) 0 (.int .i64 al)).set (by omega) hd (by omega) 1 (.slice aN n cN)).set (by omega) hd (by omega) 2 (.slice aA m cA)
      have oZ := BR.out
      exact ⟨_, _, rfl, BZ.inc, BZ.st.up (by omega), BZ.tr, _, _, _, _, _, rfl, by omega, by omega, (((hN.tr (fun _ h => h) (Shp.box oZ)).tr (fun _ h => h) (Shp.box oZ)).tr (fun _ h => h) (Shp.box oZ)), (((hA.tr (fun _ h => h) (Shp.box oZ)).tr (fun _ h => h) (Shp.box oZ)).tr (fun _ h => h) (Shp.box oZ))⟩
  · by_cases hn0 : 0 < n
    · have hk0 : k < n := hkn hn0
      have hk1 : (0 : Int) ≤ (k : Int) := by omega
      have hk2 : (k : Int) < (n : Int) := by omega
      obtain ⟨b, cap, r, rc, rm, hv5, hb, hc, -, hrm, hrow, -⟩ := hN.store_row BG.st hk0
      cases hv5
      have gc1 := BG.blk.cell 1 rfl
      by_cases hr0 : 0 < rm
      · obtain ⟨b1, cap1, u1, hv6, hb1, -, -, -⟩ := hrow.store_int BG.st hr0
        cases hv6
        go_wp2_with fail
        refine (pick_t rm BG.st (by omega) (by omega)).mono ?_
        rintro e w4 ⟨j, rfl, hj', -, hs4, hk4⟩
        have hj : j < rm := by have := hj' (by omega); omega
        have hj1 : (0 : Int) ≤ (j : Int) := by omega
        have hj2 : (j : Int) < (rm : Int) := by omega
        have hN4 := hN.tr' (Inc.refl _ _) (Tr.kept BG.st hk4)
        have hA4 := hA.tr' (Inc.refl _ _) (Tr.kept BG.st hk4)
        have hrow4 := hrow.tr' (Inc.refl _ _) (Tr.kept BG.st hk4)
        have hbg : b ≠ g := by have := (BG.st.dom b hb).1; omega
        have hc4 := hk4.cell (p := ⟨b, k, none⟩) hbg hc
        have BR4 := BR.kept (by omega) hk4 (c' := 3) hs4
        have BG4 := BG.kept (by omega) hk4 (c' := 3) hs4
        clear hs4 hk4 hj' hc gc1
        have gc4 := BG4.blk.cell 1 rfl
        go_wp2_with fail
        have BG' := BG4.ext (Ext.drew _)
        have BR' := BR4.ext (Ext.drew _)
        have hN' := hN4.tr' (Inc.refl _ _) (Tr.ext BG4.st (Ext.drew _))
        have hA' := hA4.tr' (Inc.refl _ _) (Tr.ext BG4.st (Ext.drew _))
        have hrow' := hrow4.tr' (Inc.refl _ _) (Tr.ext BG4.st (Ext.drew _))
        have gl1 := fun o => (Ext.alloc w4 o).cell gc4
        have gl2 := fun o => (Ext.alloc w4 o).cell hc4
        have hw1 : IntKind.i64.wrap ((n : Int) - 1) = (n : Int) - 1 := IntWalk.i64_in _ (by omega)
        go_region_law (go_simp; go_wp2_with (go_at_call 128; refine (num_t [-1, (n : Int), (n : Int) - 1, 0] rfl BG'.st (by omega) (by simp) (by simp)).mono ?_; rintro e w6 ⟨y, hy, rfl, hs6, hk6⟩; have BG6 := BG'.kept (by omega) hk6 (c' := 4) (hs6.up (by omega)); have gc6 := BG6.blk.cell 1 rfl; have gd6 := hk6.cell (p := ⟨b, k, none⟩) hbg ((Ext.drew w4).cell hc4); have hrow6 := hrow'.tr' (Inc.refl _ _) (Tr.kept BG'.st hk6); obtain ⟨b2, cap2, u2, hv2, hb2, gs6, gf6, hst6⟩ := hrow6.store_int BG6.st hj; cases hv2))
        all_goals
          obtain ⟨s7, t7⟩ := hst6 y
          have BR7 := (BR'.kept (by omega) hk6 (c' := 4) (hs6.up (by omega))).drawn (by omega) (Inc.refl _ _) t7 s7
          have BG7 := BG6.drawn (by omega) (Inc.refl _ _) t7 s7
          have hN7 := (hN'.tr' (Inc.refl _ _) (Tr.kept BG'.st hk6)).tr' (Inc.refl _ _) t7
          have hA7 := (hA'.tr' (Inc.refl _ _) (Tr.kept BG'.st hk6)).tr' (Inc.refl _ _) t7
          clear gs6 gf6 hst6 s7 t7 gc6 gd6 gl1 gl2 gc4 hc4
          generalize w6.setCell ⟨b1, j, none⟩ (.int .i64 y) = w7 at BR7 BG7 hN7 hA7 ⊢
          have gc0 := BG7.blk.cell 0 rfl; have gf0 := BG7.blk.fr 0; have gc1 := BG7.blk.cell 1 rfl; have gf1 := BG7.blk.fr 1; have gc2 := BG7.blk.cell 2 rfl; have gf2 := BG7.blk.fr 2; have rc0 := BR7.blk.cell 0 rfl; have rf0 := BR7.blk.fr 0; have rc1 := BR7.blk.cell 1 rfl; have rf1 := BR7.blk.fr 1; have rc2 := BR7.blk.cell 2 rfl; have rf2 := BR7.blk.fr 2
          go_wp2_with fail
          clear gc0 gc1 gc2 gf0 gf1 gf2 rc0 rc1 rc2 rf0 rf1 rf2
          have zc0 := BR7.blk.cell 0 rfl; have zf0 := BR7.blk.fr 0; have zc1 := BR7.blk.cell 1 rfl; have zf1 := BR7.blk.fr 1; have zc2 := BR7.blk.cell 2 rfl; have zf2 := BR7.blk.fr 2
          refine bodyPost_ret (v := .agg #[.int .i64 al, .slice (some ⟨b, 0, none⟩) n cN, .slice aA m cA]) (by simp [results, Tryz.results134, go_sem, zc0, zc1, zc2, zf0, zf1, zf2]) rfl ?_
          have BZ := ((BR7.set (by omega) hd (by omega) 0 (.int .i64 al)).set (by omega) hd (by omega) 1 (.slice (some ⟨b, 0, none⟩) n cN)).set (by omega) hd (by omega) 2 (.slice aA m cA)
          have oZ := BR7.out
          exact ⟨_, _, rfl, BZ.inc, BZ.st.up (by omega), BZ.tr, _, _, _, _, _, rfl, by omega, by omega, (((hN7.tr (fun _ h => h) (Shp.box oZ)).tr (fun _ h => h) (Shp.box oZ)).tr (fun _ h => h) (Shp.box oZ)), (((hA7.tr (fun _ h => h) (Shp.box oZ)).tr (fun _ h => h) (Shp.box oZ)).tr (fun _ h => h) (Shp.box oZ))⟩
      · have hz : rm < 1 := by omega
        clear hr0
        have gc0 := BG.blk.cell 0 rfl; have gf0 := BG.blk.fr 0; have gc1 := BG.blk.cell 1 rfl; have gf1 := BG.blk.fr 1; have gc2 := BG.blk.cell 2 rfl; have gf2 := BG.blk.fr 2; have rc0 := BR.blk.cell 0 rfl; have rf0 := BR.blk.fr 0; have rc1 := BR.blk.cell 1 rfl; have rf1 := BR.blk.fr 1; have rc2 := BR.blk.cell 2 rfl; have rf2 := BR.blk.fr 2
        go_wp2_with fail
        clear gc0 gc1 gc2 gf0 gf1 gf2 rc0 rc1 rc2 rf0 rf1 rf2
        have zc0 := BR.blk.cell 0 rfl; have zf0 := BR.blk.fr 0; have zc1 := BR.blk.cell 1 rfl; have zf1 := BR.blk.fr 1; have zc2 := BR.blk.cell 2 rfl; have zf2 := BR.blk.fr 2
        refine bodyPost_ret (v := .agg #[.int .i64 al, .slice (some ⟨b, 0, none⟩) n cN, .slice aA m cA]) (by simp [results, Tryz.results134, go_sem, zc0, zc1, zc2, zf0, zf1, zf2]) rfl ?_
        have BZ := ((BR.set (by omega) hd (by omega) 0 (.int .i64 al)).set (by omega) hd (by omega) 1 (.slice (some ⟨b, 0, none⟩) n cN)).set (by omega) hd (by omega) 2 (.slice aA m cA)
        have oZ := BR.out
        exact ⟨_, _, rfl, BZ.inc, BZ.st.up (by omega), BZ.tr, _, _, _, _, _, rfl, by omega, by omega, (((hN.tr (fun _ h => h) (Shp.box oZ)).tr (fun _ h => h) (Shp.box oZ)).tr (fun _ h => h) (Shp.box oZ)), (((hA.tr (fun _ h => h) (Shp.box oZ)).tr (fun _ h => h) (Shp.box oZ)).tr (fun _ h => h) (Shp.box oZ))⟩
    · have hz : n < 1 := by omega
      clear hn0
      have gc0 := BG.blk.cell 0 rfl; have gf0 := BG.blk.fr 0; have gc1 := BG.blk.cell 1 rfl; have gf1 := BG.blk.fr 1; have gc2 := BG.blk.cell 2 rfl; have gf2 := BG.blk.fr 2; have rc0 := BR.blk.cell 0 rfl; have rf0 := BR.blk.fr 0; have rc1 := BR.blk.cell 1 rfl; have rf1 := BR.blk.fr 1; have rc2 := BR.blk.cell 2 rfl; have rf2 := BR.blk.fr 2
      go_wp2_with fail
      clear gc0 gc1 gc2 gf0 gf1 gf2 rc0 rc1 rc2 rf0 rf1 rf2
      have zc0 := BR.blk.cell 0 rfl; have zf0 := BR.blk.fr 0; have zc1 := BR.blk.cell 1 rfl; have zf1 := BR.blk.fr 1; have zc2 := BR.blk.cell 2 rfl; have zf2 := BR.blk.fr 2
      refine bodyPost_ret (v := .agg #[.int .i64 al, .slice aN n cN, .slice aA m cA]) (by simp [results, Tryz.results134, go_sem, zc0, zc1, zc2, zf0, zf1, zf2]) rfl ?_
      have BZ := ((BR.set (by omega) hd (by omega) 0 (.int .i64 al)).set (by omega) hd (by omega) 1 (.slice aN n cN)).set (by omega) hd (by omega) 2 (.slice aA m cA)
      have oZ := BR.out
      exact ⟨_, _, rfl, BZ.inc, BZ.st.up (by omega), BZ.tr, _, _, _, _, _, rfl, by omega, by omega, (((hN.tr (fun _ h => h) (Shp.box oZ)).tr (fun _ h => h) (Shp.box oZ)).tr (fun _ h => h) (Shp.box oZ)), (((hA.tr (fun _ h => h) (Shp.box oZ)).tr (fun _ h => h) (Shp.box oZ)).tr (fun _ h => h) (Shp.box oZ))⟩
  · obtain ⟨i4, s4, t4, l4⟩ := SlOk.lit BG.st 96 1
    have BR4 := BR.drawn (by omega) i4 t4 s4
    have BG4 := BG.drawn (by omega) i4 t4 s4
    have oG4 := BG4.out
    have BR5 := BR4.other (b' := G) (by omega) hd (by omega) (by omega) oG4 1 (.slice (some ⟨w3.heap.size, 0, none⟩) 0 0)
    have BG5 := BG4.set (by omega) hd (by omega) 1 (.slice (some ⟨w3.heap.size, 0, none⟩) 0 0)
    have l5 := l4.tr (fun _ h => h) (Shp.box (j := 1) (u := .slice (some ⟨w3.heap.size, 0, none⟩) 0 0) oG4)
    obtain ⟨w5, hw5⟩ : ∃ w5, w5 = (w3.alloc (.cells #[] 96)).setCell ⟨G, 1, none⟩ (.slice (some ⟨w3.heap.size, 0, none⟩) 0 0) := ⟨_, rfl⟩
    have hsz5 : w5.heap.size = w3.heap.size + 1 := by rw [hw5]; simp
    rw [← hw5] at BR5 BG5 l5
    obtain ⟨i6, s6, t6, l6⟩ := SlOk.lit BG5.st 4 1
    have l7 := l5.tr' i6 t6
    have BR6 := BR5.drawn (by omega) i6 t6 s6
    have BG6 := BG5.drawn (by omega) i6 t6 s6
    have BR7 := BR6.other (b' := G) (by omega) hd (by omega) (by omega) BG6.out 2 (.slice (some ⟨w5.heap.size, 0, none⟩) 0 0)
    have BG7 := BG6.set (by omega) hd (by omega) 2 (.slice (some ⟨w5.heap.size, 0, none⟩) 0 0)
    have l8 := l7.tr (fun _ h => h) (Shp.box (j := 2) (u := .slice (some ⟨w5.heap.size, 0, none⟩) 0 0) BG6.out)
    have l9 := l6.tr (fun _ h => h) (Shp.box (j := 2) (u := .slice (some ⟨w5.heap.size, 0, none⟩) 0 0) BG6.out)
    rw [hsz5] at BR7 BG7 l8 l9
    have gc1 := fun o => (Ext.alloc w3 o).cell (BG.blk.cell 1 rfl)
    have gf1 : ∀ cs t, (w3.alloc (.cells cs t)).frozen? ⟨G, 1, none⟩ = false := fun cs t => (BG.blk.ext (Ext.alloc _ _)).fr 1
    have gc0 := BG.blk.cell 0 rfl
    have gc2 := BG.blk.cell 2 rfl
    have rc0 := BR.blk.cell 0 rfl
    have gz0 := BG7.blk.cell 0 rfl
    have gz1 := BG7.blk.cell 1 rfl
    have gz2 := BG7.blk.cell 2 rfl
    have gz3 := BG6.blk.cell 2 rfl
    have gz4 := BG6.blk.fr 2
    have rz := BR7.blk
    rw [hw5] at gz0 gz1 gz2 gz3 gz4
    have zc0 := rz.cell 0 rfl; have zf0 := rz.fr 0; have zc1 := rz.cell 1 rfl; have zf1 := rz.fr 1; have zc2 := rz.cell 2 rfl; have zf2 := rz.fr 2
    rw [hw5] at zc0 zc1 zc2 zf0 zf1 zf2
    go_wp2_with fail
    clear gc0 gc1 gc2 gf1 rc0 gz0 gz1 gz2 gz3 gz4 zc0 zc1 zc2 zf0 zf1 zf2 rz
    subst hw5
    have zc0 := BR7.blk.cell 0 rfl; have zf0 := BR7.blk.fr 0; have zc1 := BR7.blk.cell 1 rfl; have zf1 := BR7.blk.fr 1; have zc2 := BR7.blk.cell 2 rfl; have zf2 := BR7.blk.fr 2
    refine bodyPost_ret (v := .agg #[.int .i64 al, .slice (some ⟨w3.heap.size, 0, none⟩) 0 0, .slice (some ⟨w3.heap.size + 1, 0, none⟩) 0 0]) (by simp [results, Tryz.results134, go_sem, zc0, zc1, zc2, zf0, zf1, zf2]) rfl ?_
    have BZ := ((BR7.set (by omega) hd (by omega) 0 (.int .i64 al)).set (by omega) hd (by omega) 1 (.slice (some ⟨w3.heap.size, 0, none⟩) 0 0)).set (by omega) hd (by omega) 2 (.slice (some ⟨w3.heap.size + 1, 0, none⟩) 0 0)
    have oZ := BR7.out
    exact ⟨_, _, rfl, BZ.inc, BZ.st.up (by omega), BZ.tr, _, _, _, _, _, rfl, by omega, by omega, (((l8.tr (fun _ h => h) (Shp.box oZ)).tr (fun _ h => h) (Shp.box oZ)).tr (fun _ h => h) (Shp.box oZ)), (((l9.tr (fun _ h => h) (Shp.box oZ)).tr (fun _ h => h) (Shp.box oZ)).tr (fun _ h => h) (Shp.box oZ))⟩
  · go_wp2_with fail
    go_loopw [92, 93, 94, 95] (fun _ _ _ _ wr => ∃ (t : Nat) (D' : Nat → Prop) (vN vA : Value), (t = 0 ∨ n + t ≤ 13) ∧ Box D g q w (w.heap.size + 1) (2 + t) #[.int .i64 0, .slice none 0 0, .slice none 0 0] 31 wr D' ∧ Box D g q w G (2 + t) #[.int .i64 al, vN, vA] 31 wr D' ∧ SlOk D' wr 96 1 vN (n + t) ∧ SlOk D' wr 4 1 vA (m + t)) (fun _ _ _ _ wr => 13 - lenOf (wr.cell? ⟨G, 1, none⟩))
    case atStart => exact ⟨0, D1, _, _, .inl rfl, BR, BG, hN, hA⟩
    case round =>
      clear BR BG hN hA
      obtain ⟨t, D2, vN, vA, ht, BR, BG, hN, hA⟩ := hrel
      obtain ⟨aN, cN, rfl⟩ := hN.shape
      obtain ⟨aA, cA, rfl⟩ := hA.shape
      have gc1 := BG.blk.cell 1 rfl
      have hlen : lenOf (wr.cell? ⟨G, 1, none⟩) = n + t := by rw [gc1]; rfl
      rw [hlen]
      clear hlen
      by_cases hn0 : 0 < n
      · by_cases hnt : n + t ≤ 12
        · have hnt1 : ((n : Int) + (t : Int)) ≤ 12 := by omega
          obtain ⟨b, cap, r, rc, rm, hv5, hb, hc, -, hrm, hrow, -⟩ := hN.store_row BG.st (i := 0) (by omega)
          cases hv5
          have hk1 : (0 : Int) < (n : Int) + (t : Int) := by omega
          have hk2 : 0 < n + t := by omega
          go_wp2_with fail
          have D0 := fun d os => cell_regrown gc1 d os
          have D3 := fun d os => cell_regrown hc d os
          obtain ⟨Kc, HKc⟩ : ∃ Kc : FuncId → Array Value → World → Value → World → Prop, Hid (Kc = fun _ _ _ _ _ => True) := ⟨_, rfl⟩
          refine wp_region_ext (Kc := Kc) 9 (by kernel_rfl) (by kernel_rfl) ?_
          simp only [List.take_succ_cons, List.take_zero]
          repeat (refine WalkE.pure rfl (fun K hK => ?_); simp only [PureDo]; go_simp; refine hK _ ?_; clear hK K)
          refine WalkE.step (fun K hK we hwe hde => ?_)
          simp only [OpDo, OpSafe, OpOut]
          go_simp
          refine ⟨Ext.alloc _ _, hK _ _ ?_⟩
          clear hK K hde
          repeat (refine WalkE.pure rfl (fun K hK => ?_); simp only [PureDo]; go_simp; refine hK _ ?_; clear hK K)
          refine WalkE.step (fun K hK wf hwf hdf => ?_)
          have j4 : Ext (we.alloc (.cells #[] 3)) wf := hdf _ (Array.mem_of_getElem? (i := 0) rfl) rfl
          have hx1 : Ext wr wf := (Ext.drew _).trans hwf
          refine copy_do rfl rfl Tryz.underlying96 infoInt rfl (by decide) per_int zk_int BR.st hx1 (Nat.le_trans (Ext.drew wr).size hwe.size) ((Blk.new we _ _).ext j4) (hrow.tr' (Inc.refl _ _) (Tr.ext BR.st hx1)) rfl rfl (by omega) (by decide) ?_
          intro v5 w5 D7 he5 hi5 hs5 hE5 hD5
          refine hK _ _ ?_
          clear hK K hdf
          obtain ⟨a7, c7, rfl⟩ := hE5.shape
          repeat (refine WalkE.pure rfl (fun K hK => ?_); simp only [PureDo]; go_simp; refine hK _ ?_; clear hK K)
          refine WalkE.step (fun K hK wg hwg hdg => ?_)
          simp only [OpDo, OpSafe, OpOut]
          go_simp
          refine ⟨Ext.alloc _ _, hK _ _ ?_⟩
          clear hK K hdg
          refine WalkE.nil (fun wm hwm hmm => ?_)
          simp only [List.drop_succ_cons, List.drop_zero, List.drop_nil]
          have e5 : Ext w5 wm := hmm 7 (by omega)
          have e9 := hmm 8 (by omega)
          have hxn : Ext wr wm := (Ext.drew _).trans hwm
          have l0 := e9.new 0 rfl
          have hcell : ∀ (j' : Nat) (u : Value), [Value.slice a7 rm c7][j']? = some u → wm.cell? ((⟨wg.heap.size, 0, none⟩ : Addr).add j') = some u := fun j' u hu => by
            rw [add_none, Nat.zero_add]
            match j', hu with
            | 0, hu => simp at hu; subst hu; exact l0
            | j' + 1, hu => simp at hu
          have htn := Tr.ext BR.st hxn
          have hN := hN.tr' hi5 htn
          have hA := hA.tr' hi5 htn
          have hrow := hE5.tr' (Inc.refl _ _) (Tr.ext hs5 e5)
          have BG := BG.grow (c' := 2 + t) hxn hi5 (hs5.ext e5)
          have BR := BR.grow (c' := 2 + t) hxn hi5 (hs5.ext e5)
          clear l0 e9 e5 hmm HKc D0 D3 hwm hwe hwf hwg hxn htn hc gc1 hE5 hs5 hi5 he5 hD5 j4 hx1
          generalize wg.heap.size = r5 at hcell ⊢
          go_wp2_with (first
            | (at_builtin; (refine app_t (news := [Value.slice a7 rm c7]) (q' := q + (2 + (t + 1))) rfl _ _ _ rfl Tryz.underlying28 infoInts rfl (by decide) per_ints zk_ints BG.st hN rfl rfl (by simp) hcell (by simp [Value.oneCell']) (kin_ints hrow hrm) (by omega) (by decide) (by omega) ?_; intro v1 w7 D8 hi7 hs7 ht7 hV7; obtain ⟨a8, c8, rfl⟩ := hV7.shape; have BG7 := BG.drawn (by omega) hi7 ht7 (c' := 2 + (t + 1)) hs7; have BR7 := BR.drawn (by omega) hi7 ht7 (c' := 2 + (t + 1)) hs7; have gc1 := BG7.blk.cell 1 rfl; have gf1 := BG7.blk.fr 1; have gc2 := BG7.blk.cell 2 rfl; have BG8 := BG7.set (by omega) hd (by omega) 1 (.slice a8 (n + t + 1) c8); have BR8 := BR7.other (b' := G) (by omega) hd (by omega) (by omega) BG7.out 1 (.slice a8 (n + t + 1) c8); have hA8 := (hA.tr' hi7 ht7).tr (fun _ h => h) (Shp.box (j := 1) (u := .slice a8 (n + t + 1) c8) BG7.out); have hN8 := hV7.tr (fun _ h => h) (Shp.box (j := 1) (u := .slice a8 (n + t + 1) c8) BG7.out)))
            | (at_builtin; (refine app1_t (q + (2 + (t + 1))) rfl rfl Tryz.underlying29 infoBool rfl (by decide) per_bool zk_bool BG8.st hA8 rfl (by rw [show (w7.setCell ⟨G, 1, none⟩ (.slice a8 (n + t + 1) c8)).heap.size = w7.heap.size from by simp]; rfl) rfl (by simp [Value.oneCell']) (kin_bool _) (by omega) (by decide) (by omega) ?_; intro v2 w9 D9 hi9 hs9 ht9 hA9; obtain ⟨a9, c9, rfl⟩ := hA9.shape; have BG9 := BG8.drawn (by omega) hi9 ht9 (c' := 2 + (t + 1)) hs9; have BR9 := BR8.drawn (by omega) hi9 ht9 (c' := 2 + (t + 1)) hs9; have gd2 := BG9.blk.cell 2 rfl; have ge2 := BG9.blk.fr 2)))
          have o9 := BG9.out
          have BGf := BG9.set (by omega) hd (by omega) 2 (.slice a9 (m + t + 1) c9)
          have hlen2 := BGf.blk.cell 1 rfl
          refine ⟨⟨t + 1, D9, _, _, .inr (by omega), BR9.other (b' := G) (by omega) hd (by omega) (by omega) o9 2 _, BGf, (hN8.tr' hi9 ht9).tr (fun _ h => h) (Shp.box o9), hA9.tr (fun _ h => h) (Shp.box o9)⟩, ?_⟩
          rw [hlen2]
          show 13 - (n + t + 1) < 13 - (n + t)
          omega
        · have hz : 12 < n + t := by omega
          clear hnt
          have gc0 := BG.blk.cell 0 rfl; have gf0 := BG.blk.fr 0; have gc1 := BG.blk.cell 1 rfl; have gf1 := BG.blk.fr 1; have gc2 := BG.blk.cell 2 rfl; have gf2 := BG.blk.fr 2; have rc0 := BR.blk.cell 0 rfl; have rf0 := BR.blk.fr 0; have rc1 := BR.blk.cell 1 rfl; have rf1 := BR.blk.fr 1; have rc2 := BR.blk.cell 2 rfl; have rf2 := BR.blk.fr 2
          go_wp2_with fail
          clear gc0 gc1 gc2 gf0 gf1 gf2 rc0 rc1 rc2 rf0 rf1 rf2
          have zc0 := BR.blk.cell 0 rfl; have zf0 := BR.blk.fr 0; have zc1 := BR.blk.cell 1 rfl; have zf1 := BR.blk.fr 1; have zc2 := BR.blk.cell 2 rfl; have zf2 := BR.blk.fr 2
          refine bodyPost_ret (v := .agg #[.int .i64 al, .slice aN (n + t) cN, .slice aA (m + t) cA]) (by simp [results, Tryz.results134, go_sem, zc0, zc1, zc2, zf0, zf1, zf2]) rfl ?_
          have BZ := ((BR.set (by omega) hd (by omega) 0 (.int .i64 al)).set (by omega) hd (by omega) 1 (.slice aN (n + t) cN)).set (by omega) hd (by omega) 2 (.slice aA (m + t) cA)
          have oZ := BR.out
          exact ⟨_, _, rfl, BZ.inc, BZ.st.up (by omega), BZ.tr, _, _, _, _, _, rfl, by omega, by omega, (((hN.tr (fun _ h => h) (Shp.box oZ)).tr (fun _ h => h) (Shp.box oZ)).tr (fun _ h => h) (Shp.box oZ)), (((hA.tr (fun _ h => h) (Shp.box oZ)).tr (fun _ h => h) (Shp.box oZ)).tr (fun _ h => h) (Shp.box oZ))⟩
      · have hz : n < 1 := by omega
        clear hn0
        have gc0 := BG.blk.cell 0 rfl; have gf0 := BG.blk.fr 0; have gc1 := BG.blk.cell 1 rfl; have gf1 := BG.blk.fr 1; have gc2 := BG.blk.cell 2 rfl; have gf2 := BG.blk.fr 2; have rc0 := BR.blk.cell 0 rfl; have rf0 := BR.blk.fr 0; have rc1 := BR.blk.cell 1 rfl; have rf1 := BR.blk.fr 1; have rc2 := BR.blk.cell 2 rfl; have rf2 := BR.blk.fr 2
        go_wp2_with fail
        clear gc0 gc1 gc2 gf0 gf1 gf2 rc0 rc1 rc2 rf0 rf1 rf2
        have zc0 := BR.blk.cell 0 rfl; have zf0 := BR.blk.fr 0; have zc1 := BR.blk.cell 1 rfl; have zf1 := BR.blk.fr 1; have zc2 := BR.blk.cell 2 rfl; have zf2 := BR.blk.fr 2
        refine bodyPost_ret (v := .agg #[.int .i64 al, .slice aN (n + t) cN, .slice aA (m + t) cA]) (by simp [results, Tryz.results134, go_sem, zc0, zc1, zc2, zf0, zf1, zf2]) rfl ?_
        have BZ := ((BR.set (by omega) hd (by omega) 0 (.int .i64 al)).set (by omega) hd (by omega) 1 (.slice aN (n + t) cN)).set (by omega) hd (by omega) 2 (.slice aA (m + t) cA)
        have oZ := BR.out
        exact ⟨_, _, rfl, BZ.inc, BZ.st.up (by omega), BZ.tr, _, _, _, _, _, rfl, by omega, by omega, (((hN.tr (fun _ h => h) (Shp.box oZ)).tr (fun _ h => h) (Shp.box oZ)).tr (fun _ h => h) (Shp.box oZ)), (((hA.tr (fun _ h => h) (Shp.box oZ)).tr (fun _ h => h) (Shp.box oZ)).tr (fun _ h => h) (Shp.box oZ))⟩
  · have g0 : ((x : Int) == 0) = false := beq_eq_false_iff_ne.2 (by omega)
    have g1 : ((x : Int) == 1) = false := beq_eq_false_iff_ne.2 (by omega)
    have g2 : ((x : Int) == 2) = false := beq_eq_false_iff_ne.2 (by omega)
    have g3 : ((x : Int) == 3) = false := beq_eq_false_iff_ne.2 (by omega)
    have g4 : ((x : Int) == 4) = false := beq_eq_false_iff_ne.2 (by omega)
    have g5 : ((x : Int) == 5) = false := beq_eq_false_iff_ne.2 (by omega)
    have gc0 := BG.blk.cell 0 rfl; have gf0 := BG.blk.fr 0; have gc1 := BG.blk.cell 1 rfl; have gf1 := BG.blk.fr 1; have gc2 := BG.blk.cell 2 rfl; have gf2 := BG.blk.fr 2; have rc0 := BR.blk.cell 0 rfl; have rf0 := BR.blk.fr 0; have rc1 := BR.blk.cell 1 rfl; have rf1 := BR.blk.fr 1; have rc2 := BR.blk.cell 2 rfl; have rf2 := BR.blk.fr 2
    go_wp2_with fail
    clear gc0 gc1 gc2 gf0 gf1 gf2 rc0 rc1 rc2 rf0 rf1 rf2
    have zc0 := BR.blk.cell 0 rfl; have zf0 := BR.blk.fr 0; have zc1 := BR.blk.cell 1 rfl; have zf1 := BR.blk.fr 1; have zc2 := BR.blk.cell 2 rfl; have zf2 := BR.blk.fr 2
    refine bodyPost_ret (v := .agg #[.int .i64 al, .slice aN n cN, .slice aA m cA]) (by simp [results, Tryz.results134, go_sem, zc0, zc1, zc2, zf0, zf1, zf2]) rfl ?_
    have BZ := ((BR.set (by omega) hd (by omega) 0 (.int .i64 al)).set (by omega) hd (by omega) 1 (.slice aN n cN)).set (by omega) hd (by omega) 2 (.slice aA m cA)
    have oZ := BR.out
    exact ⟨_, _, rfl, BZ.inc, BZ.st.up (by omega), BZ.tr, _, _, _, _, _, rfl, by omega, by omega, (((hN.tr (fun _ h => h) (Shp.box oZ)).tr (fun _ h => h) (Shp.box oZ)).tr (fun _ h => h) (Shp.box oZ)), (((hA.tr (fun _ h => h) (Shp.box oZ)).tr (fun _ h => h) (Shp.box oZ)).tr (fun _ h => h) (Shp.box oZ))⟩

theorem l1Wrong_t (al : Int) (h : St D g q w) (hq : q + 2 ≤ 1000000) :
    Calls Tryz.prog 264 #[.pointer (some ⟨g, 0, none⟩), .int .i64 al] w (Drawn D g q 2 w fun _ _ _ v => ∃ x : Int, v = .int .i64 x) := by
  go_enter Tryz.func264, Tryz.ntmps264
  go_wp2_with fail
  refine (pick_t 12 h (by omega) (by omega)).mono ?_
  rintro e w1 ⟨x, rfl, -, -, hs1, hk1⟩
  have N := (Bare.new h).kept hk1 (c' := 1) hs1
  clear hs1 hk1
  by_cases hx : x = 0
  · subst hx
    go_wp2_with fail
    refine (num_t [64, -1, 63, 0] rfl N.st (by omega) (by decide) (by decide)).mono ?_
    rintro e w2 ⟨y, hm, rfl, hs2, hk2⟩
    have N := N.kept hk2 (c' := 2) (hs2.up (by omega))
    go_wp2_with fail
    go_ret
    exact ⟨_, D, rfl, N.inc, N.st.up (by omega), N.tr, y, rfl⟩
  · have z0 : ((x : Int) == 0) = false := beq_eq_false_iff_ne.2 (by omega)
    go_wp2_with fail
    go_ret
    exact ⟨_, D, rfl, N.inc, N.st.up (by omega), N.tr, al, rfl⟩
end Go.Proofs.YtadplnbadfnlfaaGreatDoor

namespace Go.Proofs.YtadplnbadfnlfaaGreatDoor
set_option linter.unusedSimpArgs false
set_option linter.unusedVariables false
open Go.RowKit
set_option maxHeartbeats 1000000
set_option maxRecDepth 100000
attribute [local go_sem ↓] Go.wp_at_zero Go.wp_at_succ

variable {D D' D'' : Nat → Prop} {g q q' : Nat} {w w' : World}


def Agr (lo hi : Nat) (wx w : World) : Prop := ∀ b, lo ≤ b → b < hi → w.heap[b]? = wx.heap[b]?
theorem Agr.refl (lo hi : Nat) (w : World) : Agr lo hi w w := fun _ _ _ => rfl
theorem Agr.trans {lo hi : Nat} {a b c : World} (h : Agr lo hi a b) (k : Agr lo hi b c) : Agr lo hi a c := fun x h1 h2 => (k x h1 h2).trans (h x h1 h2)
theorem Agr.ext {lo hi : Nat} (he : Ext w w') (hh : hi ≤ w.heap.size) : Agr lo hi w w' := fun b _ h2 => he.block b (by omega)
theorem Agr.tr {lo hi : Nat} (ht : Tr D g w w') (hh : hi ≤ w.heap.size) (hD : ∀ b, lo ≤ b → b < hi → ¬ D b) (hg : g < lo) : Agr lo hi w w' := fun b h1 h2 => ht.tnd.block b (by omega) (fun h => by
  rcases h with h | h
  · exact hD b h1 h2 h
  · omega)
theorem Agr.set {lo hi b : Nat} (hb : b < lo ∨ hi ≤ b) (j : Nat) (u : Value) : Agr lo hi w (w.setCell ⟨b, j, none⟩ u) := fun c h1 h2 => Below.heap_setCell w ⟨b, j, none⟩ u c (fun e => by simp only [] at e; omega)
theorem own_agr {lo hi : Nat} {e : TypeId} {sz n : Nat} {v : Value} {xs : List Value} (h : w.ownsRow lo e sz v n xs) (hh : hi = w.heap.size) (ha : Agr lo hi w w') : w'.ownsRow lo e sz v n xs := by
  refine ⟨h.1, ?_⟩
  rcases h.2 with h1 | ⟨g, cap, cur, rfl, hb, hg, r⟩
  · exact .inl h1
  · exact .inr ⟨g, cap, cur, rfl, hb, by rw [ha g hb (by rw [hh]; exact (Array.getElem?_eq_some_iff.1 hg).1)]; exact hg, r⟩
def ExS (lo hi : Nat) (ve : Value) (es : List Edge) (w : World) : Prop := ∃ wx, Agr lo hi wx w ∧ hi ≤ w.heap.size ∧ ∀ w', Agr lo hi wx w' → EdgesV w' ve es
def ExA (lo hi : Nat) (vn va : Value) (x : Auto) (w : World) : Prop := ∃ wx, Agr lo hi wx w ∧ hi ≤ w.heap.size ∧ ∀ w', Agr lo hi wx w' → AutoOwn lo w' (.agg #[.int .i64 x.alphabet, vn, va]) x
theorem ExS.go {lo hi : Nat} {ve : Value} {es : List Edge} (h : ExS lo hi ve es w) (ha : Agr lo hi w w') (hs : w.heap.size ≤ w'.heap.size) : ExS lo hi ve es w' :=
  let ⟨wx, h1, h2, h3⟩ := h; ⟨wx, h1.trans ha, by omega, h3⟩
theorem ExA.go {lo hi : Nat} {vn va : Value} {x : Auto} (h : ExA lo hi vn va x w) (ha : Agr lo hi w w') (hs : w.heap.size ≤ w'.heap.size) : ExA lo hi vn va x w' :=
  let ⟨wx, h1, h2, h3⟩ := h; ⟨wx, h1.trans ha, by omega, h3⟩
theorem ExS.of {lo : Nat} {ve : Value} {es : List Edge} (h : EdgesOwn 103 lo w ve es) : ExS lo w.heap.size ve es w :=
  ⟨w, Agr.refl _ _ _, Nat.le_refl _, fun w' ha => EdgesOwn.edges (own_agr h rfl ha)⟩
theorem ExA.of {lo : Nat} {vn va : Value} {x : Auto} (h : IntssOwn 96 3 lo w vn x.next) (h' : BoolsOwn 4 lo w va x.accept) : ExA lo w.heap.size vn va x w := by
  refine ⟨w, Agr.refl _ _ _, Nat.le_refl _, fun w' ha => ⟨vn, va, rfl, ?_, own_agr h' rfl ha⟩⟩
  obtain ⟨vs, h1, h2, h3⟩ := h
  exact ⟨vs, own_agr h1 rfl ha, ⟨h2.len, fun j x l hx hl => own_agr (h2.row j x l hx hl) rfl ha, h2.apart⟩, h3⟩
def SysE (lo hi : Nat) (D : Nat → Prop) (q : Nat) (w : World) (ve : Value) : Prop := (∃ n, n ≤ q ∧ SlOk D w 103 3 ve n) ∨ ∃ es, es.length ≤ q ∧ ExS lo hi ve es w
def AutoE (lo hi : Nat) (D : Nat → Prop) (q : Nat) (w : World) (pal : Int) (vn va : Value) : Prop := (∃ n m, n ≤ q ∧ m ≤ q ∧ SlOk D w 96 1 vn n ∧ SlOk D w 4 1 va m) ∨ ∃ x : Auto, x.alphabet = pal ∧ ExA lo hi vn va x w
theorem SysE.go {lo hi : Nat} {ve : Value} (h : SysE lo hi D q w ve) (hi' : ∀ b, D b → D' b) (hs : Shp D w w') (hq : q ≤ q') (ha : Agr lo hi w w') (hz : w.heap.size ≤ w'.heap.size) : SysE lo hi D' q' w' ve := by
  rcases h with ⟨n, h1, h2⟩ | ⟨es, h1, h2⟩
  · exact .inl ⟨n, by omega, h2.tr hi' hs⟩
  · exact .inr ⟨es, by omega, h2.go ha hz⟩
theorem AutoE.go {lo hi : Nat} {pal : Int} {vn va : Value} (h : AutoE lo hi D q w pal vn va) (hi' : ∀ b, D b → D' b) (hs : Shp D w w') (hq : q ≤ q') (ha : Agr lo hi w w') (hz : w.heap.size ≤ w'.heap.size) : AutoE lo hi D' q' w' pal vn va := by
  rcases h with ⟨n, m, h1, h2, h3, h4⟩ | ⟨x, h1, h2⟩
  · exact .inl ⟨n, m, by omega, by omega, h3.tr hi' hs, h4.tr hi' hs⟩
  · exact .inr ⟨x, h1, h2.go ha hz⟩
theorem SysE.set {lo hi b : Nat} {ve : Value} (h : SysE lo hi D q w ve) (hb : ¬ D b) (hl : b < lo ∨ hi ≤ b) (j : Nat) (u : Value) : SysE lo hi D q (w.setCell ⟨b, j, none⟩ u) ve := h.go (fun _ h => h) (Shp.box hb) (Nat.le_refl _) (Agr.set hl j u) (by simp)
theorem AutoE.set {lo hi b : Nat} {pal : Int} {vn va : Value} (h : AutoE lo hi D q w pal vn va) (hb : ¬ D b) (hl : b < lo ∨ hi ≤ b) (j : Nat) (u : Value) : AutoE lo hi D q (w.setCell ⟨b, j, none⟩ u) pal vn va := h.go (fun _ h => h) (Shp.box hb) (Nat.le_refl _) (Agr.set hl j u) (by simp)
theorem SysE.shape {lo hi : Nat} {ve : Value} (h : SysE lo hi D q w ve) : ∃ a n c, ve = .slice a n c := by
  rcases h with ⟨n, -, h2⟩ | ⟨es, -, wx, h3, -, h4⟩
  · obtain ⟨a, c, e⟩ := h2.shape; exact ⟨a, n, c, e⟩
  · obtain ⟨a, c, e, -⟩ := (h4 w h3).open; exact ⟨a, _, c, e⟩
theorem AutoE.shape {lo hi : Nat} {pal : Int} {vn va : Value} (h : AutoE lo hi D q w pal vn va) : (∃ a n c, vn = .slice a n c) ∧ ∃ a n c, va = .slice a n c := by
  rcases h with ⟨n, m, -, -, h2, h3⟩ | ⟨x, -, wx, h3, -, h4⟩
  · obtain ⟨a, c, e⟩ := h2.shape
    obtain ⟨a', c', e'⟩ := h3.shape
    exact ⟨⟨a, n, c, e⟩, a', m, c', e'⟩
  · obtain ⟨vn', va', e, h5, h6⟩ := h4 w h3
    simp at e
    obtain ⟨rfl, rfl⟩ := e
    obtain ⟨a, c, e⟩ := h5.shape
    obtain ⟨a', c', e'⟩ := h6.shape
    exact ⟨⟨a, _, c, e⟩, a', _, c', e'⟩
def TaskE (D : Nat → Prop) (g q : Nat) (w : World) (v : Value) : Prop := ∃ (lo hi : Nat) (al st pal tal : Int) (ve vn va : Value), v = .agg #[.int .i64 al, .int .i64 st, ve, .int .i64 pal, vn, va, .int .i64 tal] ∧
  SysE lo hi D q w ve ∧ AutoE lo hi D q w pal vn va ∧ (∀ b, lo ≤ b → b < hi → ¬ D b) ∧ g < lo ∧ hi ≤ w.heap.size
theorem TaskE.task {v : Value} (h : TaskE D g q w v) (hT : Typed D q w) : ∃ t : Task, t.sys.edges.length ≤ q ∧ TaskV w v t := by
  obtain ⟨lo, hi, al, st, pal, tal, ve, vn, va, rfl, h1, h2, -⟩ := h
  obtain ⟨es, he, hE⟩ : ∃ es : List Edge, es.length ≤ q ∧ EdgesV w ve es := by
    rcases h1 with ⟨n, h1, h3⟩ | ⟨es, h1, wx, h3, -, h4⟩
    · obtain ⟨es, h5, h6⟩ := h3.edges hT; exact ⟨es, by omega, h6⟩
    · exact ⟨es, h1, h4 w h3⟩
  obtain ⟨x, hxa, hN, hA⟩ : ∃ x : Auto, x.alphabet = pal ∧ IntssV w vn x.next ∧ BoolsV w va x.accept := by
    rcases h2 with ⟨n, m, -, -, h3, h4⟩ | ⟨x, h1, wx, h3, -, h4⟩
    · obtain ⟨xs, -, h5⟩ := h3.intss hT
      obtain ⟨ys, -, h6⟩ := h4.bools hT
      exact ⟨⟨pal, xs, ys⟩, rfl, h5, h6⟩
    · obtain ⟨vn', va', e, h5, h6⟩ := h4 w h3
      simp at e
      obtain ⟨rfl, rfl⟩ := e
      exact ⟨x, h1, h5.intss, h6.bools⟩
  subst hxa
  exact ⟨⟨⟨al, st, es⟩, x, tal⟩, he, ve, vn, va, rfl, hE, hN, hA⟩

def L9D (D : Nat → Prop) (g q : Nat) (w : World) (lo hi G6 c : Nat) (wc : World) : Prop :=
  ∃ (D' : Nat → Prop) (al st pal tal : Int) (ve vn va : Value),
    Box D g q w w.heap.size c #[.int .i64 0, .int .i64 0, .slice none 0 0, .int .i64 0, .slice none 0 0, .slice none 0 0, .int .i64 0] 57 wc D' ∧ Box D g q w G6 c #[.int .i64 al, .int .i64 st, ve, .int .i64 pal, vn, va, .int .i64 tal] 57 wc D' ∧
    SysE lo hi D' (q + c) wc ve ∧ AutoE lo hi D' (q + c) wc pal vn va ∧ (∀ b, lo ≤ b → b < hi → ¬ D' b)
theorem taskOf_small (S : Sys) (A : Auto) (O : Sys) : (taskOf S A O).sys.edges.length ≤ S.edges.length ∧ (taskOf S A O).prop.next.length ≤ 12 ∧ (taskOf S A O).prop.accept.length ≤ 12 ∧ ∀ r ∈ (taskOf S A O).prop.next, r.length ≤ 12 := by
  unfold taskOf
  split
  · exact ⟨Nat.zero_le _, Nat.zero_le _, Nat.zero_le _, fun r hr => by cases hr⟩
  · next hneg =>
    obtain ⟨vS, vA, -⟩ := interface_valid hneg
    have h := autoValid_facts vA
    refine ⟨Nat.le_refl _, h.2.2.2.1, (by have := h.2.2.2.1; have := h.2.2.2.2; show A.accept.length ≤ 12; omega), fun r hr => ?_⟩
    obtain ⟨q, hq⟩ := List.getElem?_of_mem hr
    obtain ⟨row, h5, h6, -⟩ := autoValid_row vA (List.getElem?_eq_some_iff.1 hq).1
    rw [hq] at h5; cases h5
    rw [h6]; have := lettersTo_len A.alphabet 6; unfold nletters letters; omega

def TaskF (base : Nat) (D : Nat → Prop) (g q : Nat) (w : World) (v : Value) : Prop := ∃ (lo hi : Nat) (al st pal tal : Int) (ve vn va : Value), v = .agg #[.int .i64 al, .int .i64 st, ve, .int .i64 pal, vn, va, .int .i64 tal] ∧
  SysE lo hi D q w ve ∧ AutoE lo hi D q w pal vn va ∧ (∀ b, lo ≤ b → b < hi → ¬ D b) ∧ g < lo ∧ hi ≤ w.heap.size ∧ base < lo
theorem l9Draw_f (h : St D g q w) (hq : q + 18060 ≤ 1000000) :
    Calls Tryz.prog 186 #[.pointer (some ⟨g, 0, none⟩)] w (Drawn D g q 18060 w fun D' q' w' v => TaskF w.heap.size D' g q' w' v) := by
  have hg := h.g_lt
  have hd := fun x hx => (h.dom x hx).2
  have B0 := Box.new h #[.int .i64 0, .int .i64 0, .slice none 0 0, .int .i64 0, .slice none 0 0, .slice none 0 0, .int .i64 0] 57
  have hs1 : w.heap.size < (w.alloc (.cells #[.int .i64 0, .int .i64 0, .slice none 0 0, .int .i64 0, .slice none 0 0, .slice none 0 0, .int .i64 0] 57)).heap.size := by simp
  go_enter Tryz.func186, Tryz.ntmps186
  go_wp2_with fail
  generalize w.alloc (.cells #[.int .i64 0, .int .i64 0, .slice none 0 0, .int .i64 0, .slice none 0 0, .slice none 0 0, .int .i64 0] 57) = w1 at B0 hs1 ⊢
  refine (l9Three_t B0.st (by omega)).mono ?_
  rintro e w2 ⟨r, D2, rfl, hi2, hs2, ht2, s, p, t, rfl, hS, hP, hT⟩
  have B0 := B0.drawn hg hi2 ht2 (c' := 18000) (hs2.up (by omega))
  have hsz2 := ht2.size
  clear hi2 ht2
  obtain ⟨S, hSe, hSV⟩ := hS.sys hs2.typ
  obtain ⟨P, hPn, hPa, hPV⟩ := hP.auto hs2.typ
  obtain ⟨O, hOe, hOV⟩ := hT.sys hs2.typ
  obtain ⟨vE, rfl, hE⟩ := hSV
  obtain ⟨aE, cE, rfl, -, -⟩ := hE.open
  obtain ⟨vN, vA, rfl, hN, hA⟩ := hPV
  obtain ⟨aN, cN, rfl, -, -⟩ := hN.open
  obtain ⟨aA, cA, rfl, -, -⟩ := hA.open
  obtain ⟨vO, rfl, hO⟩ := hOV
  obtain ⟨aO, cO, rfl, -, -⟩ := hO.open
  go_wp2_with fail
  have hx3 : Ext w2 (((w2.alloc (.cells #[.int .i64 S.alphabet, .int .i64 S.states, .slice aE S.edges.length cE] 25)).alloc (.cells #[.int .i64 P.alphabet, .slice aN P.next.length cN, .slice aA P.accept.length cA] 31)).alloc (.cells #[.int .i64 O.alphabet, .int .i64 O.states, .slice aO O.edges.length cO] 25)) := ((Ext.alloc _ _).trans (Ext.alloc _ _)).trans (Ext.alloc _ _)
  generalize ((w2.alloc (.cells #[.int .i64 S.alphabet, .int .i64 S.states, .slice aE S.edges.length cE] 25)).alloc (.cells #[.int .i64 P.alphabet, .slice aN P.next.length cN, .slice aA P.accept.length cA] 31)).alloc (.cells #[.int .i64 O.alphabet, .int .i64 O.states, .slice aO O.edges.length cO] 25) = w3 at hx3 ⊢
  have B0 := B0.ext hx3
  have hsz3 := hx3.size
  refine (TaskOf_s _ _ _ S P O w3 ⟨_, rfl, hE.mono hx3⟩ ⟨_, _, rfl, hN.mono hx3, hA.mono hx3⟩ ⟨_, rfl, hO.mono hx3⟩ (by omega)).mono ?_
  have hDb : ∀ b, D2 b → b < w3.heap.size := fun b hb => by have := (hs2.dom b hb).2; omega
  rintro e w4 ⟨vt, rfl, he4, hO4⟩
  obtain ⟨t1, t2, t3, t4⟩ := taskOf_small S P O
  obtain ⟨T, hTe⟩ : ∃ T, taskOf S P O = T := ⟨_, rfl⟩
  rw [hTe] at hO4 t1 t2 t3 t4
  have B0 := B0.ext he4
  obtain ⟨ve, vn, va, rfl, o1, o2, o3⟩ := hO4
  have hES := ExS.of o1
  have hEA := ExA.of o2 o3
  have hsz4 := he4.size
  obtain ⟨a1, c1', e1⟩ := o1.shape
  obtain ⟨a2, c2', e2⟩ := o2.shape
  obtain ⟨a3, c3', e3⟩ := o3.shape
  have hDlo : ∀ b, D2 b → b < w3.heap.size := hDb
  have hTl : T.sys.edges.length ≤ q + 18000 := by omega
  have hWin : ∀ b, w3.heap.size ≤ b → b < w4.heap.size → ¬ D2 b := fun b h1 _ hb => by have := hDb b hb; omega
  clear hS hP hT hSe hPn hPa hOe hE hN hA hO hx3 o1 o2 o3 hs2 hDb hTe he4
  subst e1 e2 e3
  go_wp2_with fail
  have hx5 := Ext.alloc w4 (.cells #[.int .i64 T.sys.alphabet, .int .i64 T.sys.states, .slice a1 T.sys.edges.length c1', .int .i64 T.prop.alphabet, .slice a2 T.prop.next.length c2', .slice a3 T.prop.accept.length c3', .int .i64 T.alphabet] 57)
  have B6 : Box D g q w w4.heap.size 18000 #[.int .i64 T.sys.alphabet, .int .i64 T.sys.states, .slice a1 T.sys.edges.length c1', .int .i64 T.prop.alphabet, .slice a2 T.prop.next.length c2', .slice a3 T.prop.accept.length c3', .int .i64 T.alphabet] 57 _ D2 := ⟨B0.inc, (B0.ext hx5).st, (B0.ext hx5).tr, Blk.new _ _ _, B0.st.out (Nat.le_refl _)⟩
  have B0 := B0.ext hx5
  have hES := hES.go (Agr.ext hx5 (Nat.le_refl _)) hx5.size
  have hEA := hEA.go (Agr.ext hx5 (Nat.le_refl _)) hx5.size
  have hlh : w3.heap.size ≤ w4.heap.size := hsz4
  generalize w4.alloc (.cells #[.int .i64 T.sys.alphabet, .int .i64 T.sys.states, .slice a1 T.sys.edges.length c1', .int .i64 T.prop.alphabet, .slice a2 T.prop.next.length c2', .slice a3 T.prop.accept.length c3', .int .i64 T.alphabet] 57) = w5 at B0 B6 hES hEA ⊢
  obtain ⟨lo, hlo⟩ : ∃ lo, w3.heap.size = lo := ⟨_, rfl⟩
  obtain ⟨hi, hhi⟩ : ∃ hi, w4.heap.size = hi := ⟨_, rfl⟩
  rw [hlo, hhi] at hES hEA hWin hlh
  rw [hlo] at hDlo
  rw [hhi] at B6 ⊢
  have hglo : g < lo := by omega
  have hwlo : w.heap.size < lo := by omega
  clear hsz4 hsz3 hsz2 hs1 hx5
  refine (pick_t 16 B0.st (by omega) (by omega)).mono ?_
  rintro e w6 ⟨x, rfl, -, -, hs6, hk6⟩
  have hA6 : Agr lo hi w5 w6 := Agr.tr (Tr.kept B0.st hk6) (Nat.le_of_lt B6.blk.lt) hWin hglo
  have hES := hES.go hA6 hk6.size
  have hEA := hEA.go hA6 hk6.size
  have B0 := B0.kept hg hk6 (c' := 18001) (hs6.up (by omega))
  have B6 := B6.kept (by omega) hk6 (c' := 18001) (hs6.up (by omega))
  clear hs6 hk6 hA6
  have hh6 : hi ≤ w6.heap.size := Nat.le_of_lt B6.blk.lt
  go_upto_block 0 with fail
  go_cut [] (fun wc => L9D D g q w lo hi hi 18060 wc)
  case first =>
    by_cases hx0 : x = 0
    · subst hx0
      go_wp2_with fail
      refine (l1Some_t B0.st (by omega)).mono ?_
      rintro e w7 ⟨v7, D7, rfl, hi7, hs7, ht7, y, hy, rfl⟩
      have hA7 : Agr lo hi w6 w7 := Agr.tr ht7 hh6 hWin hglo
      have hES := hES.go hA7 ht7.size
      have hEA := hEA.go hA7 ht7.size
      have hWin7 : ∀ b, lo ≤ b → b < hi → ¬ D7 b := fun b h1 h2 => hi7.out (hWin b h1 h2) (by omega)
      have hh7 : hi ≤ w7.heap.size := Nat.le_trans hh6 ht7.size
      have B0 := B0.drawn hg hi7 ht7 (c' := 18002) (hs7.up (by omega))
      have B6 := B6.drawn (by omega) hi7 ht7 (c' := 18002) (hs7.up (by omega))
      clear hi7 hs7 ht7 hA7
      go_wp2_with fail
      refine (l1Wrong_t (y : Int) B0.st (by omega)).mono ?_
      rintro e w8 ⟨v8, D8, rfl, hi8, hs8, ht8, z, rfl⟩
      have hA8 : Agr lo hi w7 w8 := Agr.tr ht8 hh7 hWin7 hglo
      have hES := hES.go hA8 ht8.size
      have hEA := hEA.go hA8 ht8.size
      have hWin8 : ∀ b, lo ≤ b → b < hi → ¬ D8 b := fun b h1 h2 => hi8.out (hWin7 b h1 h2) (by omega)
      have B0 := B0.drawn hg hi8 ht8 (c' := 18060) (hs8.up (by omega))
      have B6 := B6.drawn (by omega) hi8 ht8 (c' := 18060) (hs8.up (by omega))
      clear hi8 hs8 ht8 hA8
      have g6 := B6.blk.cell 6 rfl
      have f6 := B6.blk.fr 6
      have o6 := B6.out
      go_wp2_with fail
      go_meet
      case rel => exact ⟨D8, _, _, _, _, _, _, _, (B0.other (b' := hi) (by omega) hd (by omega) (by omega) o6 6 (.int .i64 z)), (B6.set (by omega) hd (by omega) 6 (.int .i64 z)), .inr ⟨_, by omega, hES.go (Agr.set (.inr (Nat.le_refl _)) 6 _) (by simp)⟩, .inr ⟨T.prop, rfl, hEA.go (Agr.set (.inr (Nat.le_refl _)) 6 _) (by simp)⟩, hWin8⟩
    have hx0' : ((x : Int) == 0) = false := beq_eq_false_iff_ne.2 (by omega)
    by_cases hx1 : x = 1
    · subst hx1
      have c0 := B6.blk.cell 0 rfl
      have c1 := B6.blk.cell 1 rfl
      have c2 := B6.blk.cell 2 rfl
      have hEE : EdgesV w6 (.slice a1 T.sys.edges.length c1') T.sys.edges := let ⟨wx, h1, h2, h3⟩ := hES; h3 w6 h1
      go_wp2_with fail
      refine (l2Wrong_x _ T.sys.alphabet T.sys.states T.sys.edges T.sys.edges.length rfl ⟨_, rfl, hEE⟩ (by omega) B0.st (by omega)).mono ?_
      rintro e w7 ⟨v7, D7, rfl, hi7, hs7, ht7, hS7⟩
      have hA7 : Agr lo hi w6 w7 := Agr.tr ht7 hh6 hWin hglo
      have hEA := hEA.go hA7 ht7.size
      have hWin7 : ∀ b, lo ≤ b → b < hi → ¬ D7 b := fun b h1 h2 => hi7.out (hWin b h1 h2) (by omega)
      have B0 := B0.drawn hg hi7 ht7 (c' := 18060) (hs7.up (by omega))
      have B6 := B6.drawn (by omega) hi7 ht7 (c' := 18060) (hs7.up (by omega))
      obtain ⟨al7, st7, n7, a7, c7, rfl, hn7, hE7⟩ := hS7.boxed
      clear c0 c1 c2 hi7 hs7 ht7 hA7 hES hEE hS7
      have g0 := B6.blk.cell 0 rfl; have f0 := B6.blk.fr 0; have g1 := B6.blk.cell 1 rfl; have f1 := B6.blk.fr 1; have g2 := B6.blk.cell 2 rfl; have f2 := B6.blk.fr 2
      have o6 := B6.out
      go_wp2_with fail
      go_meet
      case rel => exact ⟨D7, _, _, _, _, _, _, _, (((B0.other (b' := hi) (by omega) hd (by omega) (by omega) o6 0 (.int .i64 al7)).other (b' := hi) (by omega) hd (by omega) (by omega) o6 1 (.int .i64 st7)).other (b' := hi) (by omega) hd (by omega) (by omega) o6 2 (.slice a7 n7 c7)), (((B6.set (by omega) hd (by omega) 0 (.int .i64 al7)).set (by omega) hd (by omega) 1 (.int .i64 st7)).set (by omega) hd (by omega) 2 (.slice a7 n7 c7)), .inl ⟨n7, by omega, hE7.box3 o6 _ _ _⟩, .inr ⟨T.prop, rfl, ((hEA.go (Agr.set (.inr (Nat.le_refl _)) 0 _) (by simp)).go (Agr.set (.inr (Nat.le_refl _)) 1 _) (by simp)).go (Agr.set (.inr (Nat.le_refl _)) 2 _) (by simp)⟩, hWin7⟩
    have hx1' : ((x : Int) == 1) = false := beq_eq_false_iff_ne.2 (by omega)
    by_cases hx2 : x = 2
    · subst hx2
      have c3 := B6.blk.cell 3 rfl
      have c4 := B6.blk.cell 4 rfl
      have c5 := B6.blk.cell 5 rfl
      have hAO : AutoOwn lo w6 (.agg #[.int .i64 T.prop.alphabet, .slice a2 T.prop.next.length c2', .slice a3 T.prop.accept.length c3']) T.prop := let ⟨wx, h1, h2, h3⟩ := hEA; h3 w6 h1
      go_wp2_with fail
      refine (l3Wrong_x _ T.prop lo hAO hDlo hglo (by omega) (by omega) (fun r hr => by have := t4 r hr; omega) B0.st (by omega)).mono ?_
      rintro e w7 ⟨v7, D7, rfl, hi7, hs7, ht7, hS7⟩
      have hA7 : Agr lo hi w6 w7 := Agr.tr ht7 hh6 hWin hglo
      have hES := hES.go hA7 ht7.size
      have hWin7 : ∀ b, lo ≤ b → b < hi → ¬ D7 b := fun b h1 h2 => hi7.out (hWin b h1 h2) (by omega)
      have B0 := B0.drawn hg hi7 ht7 (c' := 18060) (hs7.up (by omega))
      have B6 := B6.drawn (by omega) hi7 ht7 (c' := 18060) (hs7.up (by omega))
      obtain ⟨al7, n7, m7, aN7, cN7, aA7, cA7, rfl, hn7, hm7, hN7, hA7'⟩ := hS7.boxed
      clear c3 c4 c5 hi7 hs7 ht7 hA7 hEA hAO hS7
      have g3 := B6.blk.cell 3 rfl; have f3 := B6.blk.fr 3; have g4 := B6.blk.cell 4 rfl; have f4 := B6.blk.fr 4; have g5 := B6.blk.cell 5 rfl; have f5 := B6.blk.fr 5
      have o6 := B6.out
      go_wp2_with fail
      go_meet
      case rel => exact ⟨D7, _, _, _, _, _, _, _, (((B0.other (b' := hi) (by omega) hd (by omega) (by omega) o6 3 (.int .i64 al7)).other (b' := hi) (by omega) hd (by omega) (by omega) o6 4 (.slice aN7 n7 cN7)).other (b' := hi) (by omega) hd (by omega) (by omega) o6 5 (.slice aA7 m7 cA7)), (((B6.set (by omega) hd (by omega) 3 (.int .i64 al7)).set (by omega) hd (by omega) 4 (.slice aN7 n7 cN7)).set (by omega) hd (by omega) 5 (.slice aA7 m7 cA7)), .inr ⟨_, by omega, ((hES.go (Agr.set (.inr (Nat.le_refl _)) 3 _) (by simp)).go (Agr.set (.inr (Nat.le_refl _)) 4 _) (by simp)).go (Agr.set (.inr (Nat.le_refl _)) 5 _) (by simp)⟩, .inl ⟨n7, m7, by omega, by omega, hN7.tr (fun _ h => h) (((Shp.box o6).trans (fun _ h => h) (Shp.box o6)).trans (fun _ h => h) (Shp.box o6)), hA7'.tr (fun _ h => h) (((Shp.box o6).trans (fun _ h => h) (Shp.box o6)).trans (fun _ h => h) (Shp.box o6))⟩, hWin7⟩
    have hx2' : ((x : Int) == 2) = false := beq_eq_false_iff_ne.2 (by omega)
    by_cases hx3 : x = 3
    · subst hx3
      have g6 := B6.blk.cell 6 rfl
      have f6 := B6.blk.fr 6
      have o6 := B6.out
      go_wp2_with fail
      go_meet
      case rel => exact ⟨D2, _, _, _, _, _, _, _, ((B0.up (c' := 18060) (by omega)).other (b' := hi) (by omega) hd (by omega) (by omega) o6 6 _), ((B6.up (c' := 18060) (by omega)).set (by omega) hd (by omega) 6 _), .inr ⟨_, by omega, hES.go (Agr.set (.inr (Nat.le_refl _)) 6 _) (by simp)⟩, .inr ⟨T.prop, rfl, hEA.go (Agr.set (.inr (Nat.le_refl _)) 6 _) (by simp)⟩, hWin⟩
    have hx3' : ((x : Int) == 3) = false := beq_eq_false_iff_ne.2 (by omega)
    go_wp2_with fail
    go_meet
    case rel => exact ⟨D2, _, _, _, _, _, _, _, B0.up (by omega), B6.up (by omega), .inr ⟨_, by omega, hES⟩, .inr ⟨T.prop, rfl, hEA⟩, hWin⟩
  case rest =>
    clear B0 B6 hES hEA hWin hh6
    obtain ⟨D', al, st, pal, tal, ve, vn, va, B0, B6, hES, hEA, hWin⟩ := hcut
    obtain ⟨s1, s2, s3, rfl⟩ := hES.shape
    obtain ⟨⟨s4, s5, s6, rfl⟩, s7, s8, s9, rfl⟩ := hEA.shape
    have o0 := B0.out
    have hh6 : hi ≤ wc.heap.size := Nat.le_of_lt B6.blk.lt
    have g0 := B6.blk.cell 0 rfl; have g1 := B6.blk.cell 1 rfl; have g2 := B6.blk.cell 2 rfl; have g3 := B6.blk.cell 3 rfl; have g4 := B6.blk.cell 4 rfl; have g5 := B6.blk.cell 5 rfl; have g6 := B6.blk.cell 6 rfl
    have r0 := B0.blk.cell 0 rfl; have f0 := B0.blk.fr 0; have r1 := B0.blk.cell 1 rfl; have f1 := B0.blk.fr 1; have r2 := B0.blk.cell 2 rfl; have f2 := B0.blk.fr 2; have r3 := B0.blk.cell 3 rfl; have f3 := B0.blk.fr 3; have r4 := B0.blk.cell 4 rfl; have f4 := B0.blk.fr 4; have r5 := B0.blk.cell 5 rfl; have f5 := B0.blk.fr 5; have r6 := B0.blk.cell 6 rfl; have f6 := B0.blk.fr 6
    go_wp2_with fail
    have B9 := (((((((B0.set (by omega) hd (by omega) 0 (.int .i64 al)).set (by omega) hd (by omega) 1 (.int .i64 st)).set (by omega) hd (by omega) 2 (.slice s1 s2 s3)).set (by omega) hd (by omega) 3 (.int .i64 pal)).set (by omega) hd (by omega) 4 (.slice s4 s5 s6)).set (by omega) hd (by omega) 5 (.slice s7 s8 s9)).set (by omega) hd (by omega) 6 (.int .i64 tal))
    have hS9 := hES |>.set o0 (.inl hwlo) 0 (.int .i64 al) |>.set o0 (.inl hwlo) 1 (.int .i64 st) |>.set o0 (.inl hwlo) 2 (.slice s1 s2 s3) |>.set o0 (.inl hwlo) 3 (.int .i64 pal) |>.set o0 (.inl hwlo) 4 (.slice s4 s5 s6) |>.set o0 (.inl hwlo) 5 (.slice s7 s8 s9) |>.set o0 (.inl hwlo) 6 (.int .i64 tal)
    have hA9 := hEA |>.set o0 (.inl hwlo) 0 (.int .i64 al) |>.set o0 (.inl hwlo) 1 (.int .i64 st) |>.set o0 (.inl hwlo) 2 (.slice s1 s2 s3) |>.set o0 (.inl hwlo) 3 (.int .i64 pal) |>.set o0 (.inl hwlo) 4 (.slice s4 s5 s6) |>.set o0 (.inl hwlo) 5 (.slice s7 s8 s9) |>.set o0 (.inl hwlo) 6 (.int .i64 tal)
    clear g0 r0 f0 g1 r1 f1 g2 r2 f2 g3 r3 f3 g4 r4 f4 g5 r5 f5 g6 r6 f6 hES hEA B0 B6
    have hz9 : hi ≤ ((((((((wc.setCell ⟨w.heap.size, 0, none⟩ (.int .i64 al)).setCell ⟨w.heap.size, 1, none⟩ (.int .i64 st)).setCell ⟨w.heap.size, 2, none⟩ (.slice s1 s2 s3)).setCell ⟨w.heap.size, 3, none⟩ (.int .i64 pal)).setCell ⟨w.heap.size, 4, none⟩ (.slice s4 s5 s6)).setCell ⟨w.heap.size, 5, none⟩ (.slice s7 s8 s9)).setCell ⟨w.heap.size, 6, none⟩ (.int .i64 tal))).heap.size := by simp; exact hh6
    generalize (((((((wc.setCell ⟨w.heap.size, 0, none⟩ (.int .i64 al)).setCell ⟨w.heap.size, 1, none⟩ (.int .i64 st)).setCell ⟨w.heap.size, 2, none⟩ (.slice s1 s2 s3)).setCell ⟨w.heap.size, 3, none⟩ (.int .i64 pal)).setCell ⟨w.heap.size, 4, none⟩ (.slice s4 s5 s6)).setCell ⟨w.heap.size, 5, none⟩ (.slice s7 s8 s9)).setCell ⟨w.heap.size, 6, none⟩ (.int .i64 tal)) = w9 at B9 hS9 hA9 hz9 ⊢
    have B9' : Blk w9 w.heap.size #[.int .i64 al, .int .i64 st, (.slice s1 s2 s3), .int .i64 pal, (.slice s4 s5 s6), (.slice s7 s8 s9), .int .i64 tal] 57 := B9.blk
    have g0 := B9'.cell 0 rfl; have g1 := B9'.cell 1 rfl; have g2 := B9'.cell 2 rfl; have g3 := B9'.cell 3 rfl; have g4 := B9'.cell 4 rfl; have g5 := B9'.cell 5 rfl; have g6 := B9'.cell 6 rfl
    refine bodyPost_ret (v := .agg #[.int .i64 al, .int .i64 st, (.slice s1 s2 s3), .int .i64 pal, (.slice s4 s5 s6), (.slice s7 s8 s9), .int .i64 tal]) (by simp [results, Tryz.results186, go_sem, g0, g1, g2, g3, g4, g5, g6]) rfl ?_
    exact ⟨_, D', rfl, B9.inc, B9.st, B9.tr, lo, hi, al, st, pal, tal, (.slice s1 s2 s3), (.slice s4 s5 s6), (.slice s7 s8 s9), rfl, hS9, hA9, hWin, hglo, hz9, hwlo⟩
theorem of_three (x y z : ByteArray) (hx : x.size ≤ 200) (hy : y.size ≤ 200) (hz : z.size ≤ 200) (h : St D g q w) (hq : q + 1 ≤ 1000000) :
    Calls Tryz.prog 130 #[.pointer (some ⟨g, 0, none⟩), .slice (some ⟨w.heap.size, 0, none⟩) 3 3] (w.alloc (.cells #[.string x, .string y, .string z] 9)) (fun e w' => ∃ x, x.size ≤ 200 ∧ e = .returned (.string x) ∧ St D g (q + 1) w' ∧ Kept g w w') := by
  have hv : SlV StrAt 1 (w.alloc (.cells #[.string x, .string y, .string z] 9)) (.slice (some ⟨w.heap.size, 0, none⟩) 3 3) [x, y, z] := by
    refine ⟨_, 3, rfl, Nat.le_refl _, by unfold maxLen; omega, fun _ => ⟨w.heap.size, 0, rfl, by simp, fun i u hu => ?_⟩⟩
    unfold StrAt
    refine (Blk.new w _ _).cell _ ?_
    match i, hu with
    | 0, hu => simp at hu; subst hu; rfl
    | 1, hu => simp at hu; subst hu; rfl
    | 2, hu => simp at hu; subst hu; rfl
    | n + 3, hu => simp at hu
  have := of_t (.slice (some ⟨w.heap.size, 0, none⟩) 3 3) [x, y, z] 3 w.heap.size rfl (h.ext (Ext.alloc w (.cells #[.string x, .string y, .string z] 9))) hq hv h.g_lt (by simp) (by simp)
  refine this.mono fun e w' ⟨u, hu, h1, h2, h3⟩ => ⟨u, ?_, h1, h2, (Tnd.ext (Ext.alloc _ _)).trans h3⟩
  have hu' : u = x ∨ u = y ∨ u = z := by simpa using hu
  rcases hu' with rfl | rfl | rfl <;> assumption

theorem TaskE.set {v : Value} {b : Nat} (h : TaskE D g q w v) (hb : b < g) (hD : ¬ D b) (j : Nat) (u : Value) : TaskE D g q (w.setCell ⟨b, j, none⟩ u) v := by
  obtain ⟨lo, hi, al, st, pal, tal, ve, vn, va, rfl, h1, h2, h3, h4, h5⟩ := h
  exact ⟨lo, hi, al, st, pal, tal, ve, vn, va, rfl, h1.set hD (.inl (by omega)) j u, h2.set hD (.inl (by omega)) j u, h3, h4, by simp; exact h5⟩
theorem TaskE.shape {v : Value} (h : TaskE D g q w v) : ∃ (al st pal tal : Int) (s1 : Option Addr) (s2 s3 : Nat) (s4 : Option Addr) (s5 s6 : Nat) (s7 : Option Addr) (s8 s9 : Nat), v = .agg #[.int .i64 al, .int .i64 st, .slice s1 s2 s3, .int .i64 pal, .slice s4 s5 s6, .slice s7 s8 s9, .int .i64 tal] := by
  obtain ⟨lo, hi, al, st, pal, tal, ve, vn, va, rfl, h1, h2, h3, h4, h5⟩ := h
  obtain ⟨s1, s2, s3, rfl⟩ := h1.shape
  obtain ⟨⟨s4, s5, s6, rfl⟩, s7, s8, s9, rfl⟩ := h2.shape
  exact ⟨_, _, _, _, _, _, _, _, _, _, _, _, _, rfl⟩
end Go.Proofs.YtadplnbadfnlfaaGreatDoor
