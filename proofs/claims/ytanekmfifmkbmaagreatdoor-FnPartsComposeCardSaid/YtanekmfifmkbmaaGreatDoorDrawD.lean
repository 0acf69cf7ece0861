/- Part of this seat's proofs, cut to what its law needs. -/

import Derived.Test.YtanekmfifmkbmaaGreatDoorDrawX

namespace Go.Proofs.YtanekmfifmkbmaaGreatDoor
set_option linter.unusedSimpArgs false
set_option linter.unusedVariables false
open Go.RowKit
set_option maxHeartbeats 1000000
set_option maxRecDepth 100000

section
variable {D D' : Nat → Prop} {g q q' : Nat} {w w0 w' : World} {e : TypeId} {n m : Nat} {P : Program}

theorem OpDo.of_run {ops : Array Oper} {Kc : FuncId → Array Value → World → Value → World → Prop} {R : World → World → Prop} {o : Oper} {a : Act} {K : Value → World → Prop} {v : Value} (hgd : o.guard = none)
    (hr : (execOp a.eval o).run P w = .ok (.value v) w') (hR : R w w') (hK : K v w') : OpDo P ops Kc R o a w K := by
  have hw : Region.wanted o (yielded ops a.tmps) = true := by simp [Region.wanted, hgd]
  refine ⟨fun _ => by rw [hr]; trivial, fun v' w'' ho => ?_⟩
  unfold OpOut at ho
  rw [if_pos hw, hr] at ho
  obtain ⟨rfl, rfl⟩ := ho
  exact ⟨hR, hK⟩

theorem copy_do {ops : Array Oper} {Kc : FuncId → Array Value → World → Value → World → Prop} {o : Oper} {a : Act} {K : Value → World → Prop} {s x : Operand} {t : TypeId} {size bytes b : Nat} {z u : Value} (hgd : o.guard = none)
    (ho : o.op = .call { callee := .builtin .append, args := #[s, x], argTypes := #[t, t] }) (ht : P.underlying t = some (.slice e)) (hinfo : (P.info? e).map (fun i => (i.zero, i.size, i.bytes)) = some (some z, size, bytes)) (hzs : z.cells.size = size) (hsz : 0 < size) (hp : Per e size)
    (hzk : ∀ D q w, Kin D q w e z.cells.toList) (h0 : St D g q w0) (hw0 : Ext w0 w) (hb : w0.heap.size ≤ b) (hlit : Blk w b #[] e) (hu : SlOk D w e size u m) (hev : a.eval s = .slice (some ⟨b, 0, none⟩) 0 0) (hx : a.eval x = u)
    (hnm : m ≤ 4294967296) (hby : bytes ≤ 1024)
    (hQ : ∀ v' w' D', Ext w w' → Inc D D' w0 → St D' g q w' → SlOk D' w' e size v' m → (∀ x, D' x → D x ∨ ∃ cs, w'.heap[x]? = some (.cells cs e (0, 0))) → K v' w') : OpDo P ops Kc Ext o a w K := by
  obtain ⟨i, hi, hz, rfl, rfl⟩ := info_parts hinfo
  have h := h0.ext hw0
  obtain ⟨l, hl, hk, hc⟩ := hu.kin h.typ
  -- nothing to copy: the literal itself
  have none_ : m = 0 → (Builtin.append_ #[t, t] o.type #[.slice (some ⟨b, 0, none⟩) 0 0, u]).run P w = .ok (.slice (some ⟨b, 0, none⟩) 0 0) w → OpDo P ops Kc Ext o a w K := fun hm hr => by
    subst hm
    obtain ⟨h2, h3⟩ := h0.new hw0 hb hlit (fun i u hu => by simp at hu)
    refine OpDo.of_run (v := .slice (some ⟨b, 0, none⟩) 0 0) (w' := w) hgd ?_ (Ext.refl _) (hQ _ _ _ (Ext.refl _) h2 h3 (.inr ⟨b, 0, #[], rfl, .inr rfl, hlit, by omega, by unfold maxLen; omega, by simp⟩) (fun x hx => by rcases hx with hx | rfl; exact .inl hx; exact .inr ⟨_, hlit⟩))
    unfold execOp
    simp only [ho, resolve, invoke, builtin, Sem.run_bind, Sem.run_pure, Result.andThen_ok, List.map_toArray, List.map_cons, List.map_nil, hev, hx, hr]
  by_cases hm : m = 0
  · refine none_ hm ?_
    subst hm
    rcases hu with ⟨rfl, _⟩ | ⟨b', cap, cs, rfl, hb', hh, hnc, hcm, hcs⟩
    · simp [Builtin.append_, run_underlying ht, sizeOf, typeInfo, hi, Builtin.lenOf, Builtin.firstCells, loadCells, loadCellsFrom, storeCells]
    · simp [Builtin.append_, run_underlying ht, sizeOf, typeInfo, hi, Builtin.lenOf, Builtin.firstCells, loadCells, loadCellsFrom, storeCells]
  · rcases hu with ⟨rfl, h3⟩ | ⟨b', cap, cs, rfl, hb', hh, hnc, hcm, hcs⟩
    · omega
    · obtain ⟨-, hc'⟩ := hc b' 0 cap rfl
      have hr := run_append_grow (P := P) w t o.type e i z ht hi hz ⟨b, 0, none⟩ 0 0 [] (by simp) (fun j v h => by simp at h) ⟨b', 0, none⟩ m cap l hl hc' (by omega) (by omega) (growslice_fits (by omega) (by rw [Nat.zero_add]; have := Nat.mul_le_mul hnm hby; omega))
      simp only [Nat.zero_add, List.nil_append, Array.empty_append] at hr
      have he : Ext w (w.drew.alloc (.cells (l.toArray ++ Builtin.zeroCells z.cells (grownCap w m 0 e - m)) e)) := (Ext.drew w).trans (Ext.alloc _ _)
      have hsh := (Tr.ext h he).shp
      have hkk : Kin D q (w.drew.alloc (.cells (l.toArray ++ Builtin.zeroCells z.cells (grownCap w m 0 e - m)) e)) e (l.toArray ++ Builtin.zeroCells z.cells (grownCap w m 0 e - m)).toList := by
        simp only [Array.toList_append]
        exact Kin.append (n := m) hp (hk.tr (fun _ h => h) hsh (Nat.le_refl _)) hl (Kin.zeros hp hzs hsz (hzk _ _ _) _)
      obtain ⟨h2, h3⟩ := h.new (e := e) he (Nat.le_refl _) (heap_alloc_new w.drew _) hkk
      have hge := grownCap_ge w m 0 e
      have hcm' : grownCap w m 0 e ≤ maxLen := grownCap_le_maxLen w m 0 e (by unfold maxLen; omega)
      refine OpDo.of_run hgd ?_ he (hQ _ _ _ he (h2.low hw0.size) h3 (.inr ⟨w.heap.size, grownCap w m 0 e, _, rfl, .inr rfl, heap_alloc_new w.drew _, hge, hcm', ?_⟩) (fun x hx => by rcases hx with hx | rfl; exact .inl hx; exact .inr ⟨_, heap_alloc_new w.drew _⟩))
      · unfold execOp
        simp only [ho, resolve, invoke, builtin, Sem.run_bind, Sem.run_pure, Result.andThen_ok, List.map_toArray, List.map_cons, List.map_nil, hev, hx]
        rw [hr]
        rfl
      · simp only [Array.size_append, List.size_toArray, size_zeroCells, hzs, hl, ← Nat.add_mul]
        congr 1; omega

theorem Box.grow {b c c' : Nat} {cs : Array Value} {t : TypeId} {w0 wn : World} {D'' : Nat → Prop} (h : Box D g q w0 b c cs t w D') (he : Ext w wn) (hi : Inc D' D'' w) (hs : St D'' g (q + c') wn) : Box D g q w0 b c' cs t wn D'' :=
  ⟨h.inc.trans h.tr.size hi, hs, h.tr.trans h.inc (Tr.ext h.st he), h.blk.ext he, hi.out h.out h.blk.lt⟩
theorem Box.beside {b c c' G : Nat} {cs csG : Array Value} {t tG : TypeId} {w0 wn w5 : World} {D'' : Nat → Prop} (h : Box D g q w0 b c cs t w D') (he : Ext w wn) (hi : Inc D' D'' w) (hs : St D'' g (q + c') wn) (hG : Blk wn G csG tG) (hGw : w.heap.size ≤ G)
    (h5 : Ext w5 wn) (hd : ∀ x, D'' x → D' x ∨ ∃ cs, w5.heap[x]? = some (.cells cs e (0, 0))) (hne : tG ≠ e) : Box D g q w0 G c' csG tG wn D'' :=
  ⟨h.inc.trans h.tr.size hi, hs, h.tr.trans h.inc (Tr.ext h.st he), hG, fun hx => by
    rcases hd G hx with h1 | ⟨cs, h1⟩
    · have := (h.st.dom G h1).2; omega
    · have h2 := (h5.block G (Array.getElem?_eq_some_iff.1 h1).1).trans h1
      rw [show wn.heap[G]? = some (.cells csG tG (0, 0)) from hG] at h2
      cases h2
      exact hne rfl⟩
end
end Go.Proofs.YtanekmfifmkbmaaGreatDoor

namespace Go.Proofs.YtanekmfifmkbmaaGreatDoor
set_option linter.unusedSimpArgs false
set_option linter.unusedVariables false
open Go.RowKit
set_option maxHeartbeats 1000000
set_option maxRecDepth 100000
attribute [local go_sem ↓] Go.wp_at_zero Go.wp_at_succ

variable {D D' : Nat → Prop} {g q q' : Nat} {w w' : World}

theorem SlOk.store_edge {n i j : Nat} {v : Value} (hs : SlOk D w 87 3 v n) (h : St D g q w) (hi : i < n) (hj : j < 3) : ∃ b cap u, v = .slice (some ⟨b, 0, none⟩) n cap ∧ w.cell? ⟨b, i * 3 + j, none⟩ = some (.int .i64 u) ∧ w.frozen? ⟨b, i * 3 + j, none⟩ = false ∧ ∀ x, St D g q (w.setCell ⟨b, i * 3 + j, none⟩ (.int .i64 x)) ∧ Tr D g w (w.setCell ⟨b, i * 3 + j, none⟩ (.int .i64 x)) := by
  obtain ⟨b, cap, cs, u, k, rfl, hb, hh, h1, hf, h2, h3⟩ := hs.at h.typ hi hj
  have h2' : CK.int = k := Option.some.inj h2
  subst h2'
  obtain ⟨x, rfl⟩ := h3
  exact ⟨b, cap, x, rfl, h1, hf, fun y => h.set hb hh h2 ⟨y, rfl⟩⟩

theorem l2Wrong_t (v : Value) (hv : SysT D q w v) (h : St D g q w) (hq : q + 10 ≤ 1000000) :
    Calls Tryz.prog 27 #[.pointer (some ⟨g, 0, none⟩), v] w (Drawn D g q 10 w SysT) := by
  have hg := h.g_lt
  have hd := fun x hx => (h.dom x hx).2
  obtain ⟨al, ns, n, aE, cE, rfl, hn, hE⟩ := hv.boxed
  have BA := Box.new h #[.int .i64 al, .int .i64 ns, .slice aE n cE] 25
  have BA := BA.ext (Ext.alloc _ (.cells #[.int .i64 0, .int .i64 0, .slice none 0 0] 25))
  have BR : Box D g q w (w.heap.size + 1) 0 #[.int .i64 0, .int .i64 0, .slice none 0 0] 25 _ D := ⟨BA.inc, BA.st, BA.tr, Ext.blk1 (Ext.refl _), h.out (by omega)⟩
  have hE := hE.tr' (Inc.refl _ _) BR.tr
  go_enter Tryz.func27, Tryz.ntmps27
  go_wp2_with fail
  generalize (w.alloc (.cells #[.int .i64 al, .int .i64 ns, .slice aE n cE] 25)).alloc (.cells #[.int .i64 0, .int .i64 0, .slice none 0 0] 25) = w1 at BA BR hE ⊢
  have D0 := fun d os => cell_regrown (BA.blk.cell 0 rfl) d os
  have D1 := fun d os => cell_regrown (BA.blk.cell 1 rfl) d os
  have D2 := fun d os => cell_regrown (BA.blk.cell 2 rfl) d os
  have hsz1 := BR.blk.lt
  obtain ⟨Kc, HKc⟩ : ∃ Kc : FuncId → Array Value → World → Value → World → Prop, Hid (Kc = fun _ _ _ _ _ => True) := ⟨_, rfl⟩
  refine wp_region_ext (Kc := Kc) 10 (by kernel_rfl) (by kernel_rfl) ?_
  simp only [List.take_succ_cons, List.take_zero]
  repeat (refine WalkE.pure rfl (fun K hK => ?_); simp only [PureDo]; go_simp; refine hK _ ?_; clear hK K)
  refine WalkE.step (fun K hK wd hwd hdd => ?_)
  simp only [OpDo, OpSafe, OpOut]
  go_simp
  refine ⟨Ext.alloc _ _, hK _ _ ?_⟩
  clear hK K hdd
  repeat (refine WalkE.pure rfl (fun K hK => ?_); simp only [PureDo]; go_simp; refine hK _ ?_; clear hK K)
  refine WalkE.step (fun K hK we hwe hde => ?_)
  have j4 : Ext (wd.alloc (.cells #[] 87)) we := hde _ (Array.mem_of_getElem? (i := 0) rfl) rfl
  have hx1 : Ext w1 we := (Ext.drew _).trans hwe
  refine copy_do rfl rfl Tryz.underlying23 infoEdge rfl (by decide) per_edge zk_edge BR.st hx1 (Nat.le_trans (Ext.drew w1).size hwd.size) ((Blk.new wd _ _).ext j4) (hE.tr' (Inc.refl _ _) (Tr.ext BR.st hx1)) rfl rfl (by omega) (by decide) ?_
  intro v5 w5 D5 he5 hi5 hs5 hE5 hD5
  refine hK _ _ ?_
  clear hK K hde
  obtain ⟨a5, c5, rfl⟩ := hE5.shape
  repeat (refine WalkE.pure rfl (fun K hK => ?_); simp only [PureDo]; go_simp; refine hK _ ?_; clear hK K)
  refine WalkE.step (fun K hK wf hwf hdf => ?_)
  simp only [OpDo, OpSafe, OpOut]
  go_simp
  refine ⟨Ext.alloc _ _, hK _ _ ?_⟩
  clear hK K hdf
  refine WalkE.nil (fun wn hwn hmn => ?_)
  simp only [List.drop_succ_cons, List.drop_zero, List.drop_nil]
  have e5 : Ext w5 wn := hmn 7 (by omega)
  have e9 := hmn 9 (by omega)
  have hxn : Ext w1 wn := (Ext.drew _).trans hwn
  have hGw : w1.heap.size ≤ wf.heap.size := Nat.le_trans (Ext.drew w1).size hwf.size
  have BG := BR.beside (c' := 0) hxn hi5 (hs5.ext e5) ((Blk.new wf _ _).ext e9) hGw e5 hD5 (by decide)
  have BR := BR.grow (c' := 0) hxn hi5 (hs5.ext e5)
  have hE := hE5.tr' (Inc.refl _ _) (Tr.ext hs5 e5)
  clear D0 D1 D2 hmn HKc hwd hwe hwf hwn e5 e9 hxn j4 hx1 he5 hi5 hs5 hE5 hD5 BA
  generalize wf.heap.size = G at BG hGw ⊢
  clear wf we w5
  have gc0 := BG.blk.cell 0 rfl; have gf0 := BG.blk.fr 0; have gc1 := BG.blk.cell 1 rfl; have gf1 := BG.blk.fr 1; have gc2 := BG.blk.cell 2 rfl; have gf2 := BG.blk.fr 2
  go_wp2_with fail
  have oR := BR.out
  have oG := BG.out
  have BR := ((BR.other (b' := G) (by omega) hd (by omega) (by omega) oG 0 (.int .i64 al)).other (b' := G) (by omega) hd (by omega) (by omega) oG 1 (.int .i64 ns)).other (b' := G) (by omega) hd (by omega) (by omega) oG 2 (.slice a5 n c5)
  have BG := ((BG.set (by omega) hd (by omega) 0 (.int .i64 al)).set (by omega) hd (by omega) 1 (.int .i64 ns)).set (by omega) hd (by omega) 2 (.slice a5 n c5)
  have hE : SlOk D5 (((wn.setCell ⟨G, 0, none⟩ (.int .i64 al)).setCell ⟨G, 1, none⟩ (.int .i64 ns)).setCell ⟨G, 2, none⟩ (.slice a5 n c5)) 87 3 (.slice a5 n c5) n := (((hE.tr (fun _ h => h) (Shp.box oG)).tr (fun _ h => h) (Shp.box oG)).tr (fun _ h => h) (Shp.box oG))
  generalize ((wn.setCell ⟨G, 0, none⟩ (.int .i64 al)).setCell ⟨G, 1, none⟩ (.int .i64 ns)).setCell ⟨G, 2, none⟩ (.slice a5 n c5) = w2 at BR BG hE ⊢
  clear gc0 gc1 gc2 gf0 gf1 gf2
  refine (pick_t n BG.st (by omega) (by omega)).mono ?_
  rintro e w3 ⟨k, rfl, hkn', -, hs3, hk3⟩
  have hkn : 0 < n → k < n := fun h0 => by have := hkn' (by omega); omega
  have hE := hE.tr' (Inc.refl _ _) (Tr.kept BG.st hk3)
  have BR := BR.kept (by omega) hk3 (c' := 1) hs3
  have BG := BG.kept (by omega) hk3 (c' := 1) hs3
  clear hs3 hk3 hkn'
  go_wp2_with fail
  refine (pick_t 30 BG.st (by omega) (by omega)).mono ?_
  rintro e w3 ⟨x, rfl, -, -, hs3, hk3⟩
  have hE := hE.tr' (Inc.refl _ _) (Tr.kept BG.st hk3)
  have BR := BR.kept (by omega) hk3 (c' := 2) hs3
  have BG := BG.kept (by omega) hk3 (c' := 2) hs3
  clear hs3 hk3
  have hx : x = 0 ∨ x = 1 ∨ x = 2 ∨ x = 3 ∨ x = 4 ∨ x = 5 ∨ x = 6 ∨ 6 < x := by omega
  have hne1 : w.heap.size + 1 ≠ G := by omega
  have hne2 : G ≠ w.heap.size + 1 := by omega
  rcases hx with rfl | rfl | rfl | rfl | rfl | rfl | rfl | hx
  · go_wp2_with fail
    refine (num_t [64, -1, 1, 63] rfl BG.st (by omega) (by decide) (by decide)).mono ?_
    rintro e w4 ⟨y, hy, rfl, hs4, hk4⟩
    have hE := hE.tr' (Inc.refl _ _) (Tr.kept BG.st hk4)
    have BR := BR.kept (by omega) hk4 (c' := 3) hs4
    have BG := BG.kept (by omega) hk4 (c' := 3) hs4
    clear hs4 hk4
    have gc0 := BG.blk.cell 0 rfl; have gf0 := BG.blk.fr 0; have gc1 := BG.blk.cell 1 rfl; have gf1 := BG.blk.fr 1; have gc2 := BG.blk.cell 2 rfl; have gf2 := BG.blk.fr 2
    have rc0 := BR.blk.cell 0 rfl; have rf0 := BR.blk.fr 0; have rc1 := BR.blk.cell 1 rfl; have rf1 := BR.blk.fr 1; have rc2 := BR.blk.cell 2 rfl; have rf2 := BR.blk.fr 2
    go_wp2_with fail
    clear gc0 gc1 gc2 gf0 gf1 gf2 rc0 rc1 rc2 rf0 rf1 rf2
    have BR := BR.other (b' := G) (by omega) hd (by omega) (by omega) BG.out 0 (.int .i64 y)
    have hE : SlOk D5 (w4.setCell ⟨G, 0, none⟩ (.int .i64 y)) 87 3 (.slice a5 n c5) n := hE.tr (fun _ h => h) (Shp.box BG.out)
    have zc0 := BR.blk.cell 0 rfl; have zf0 := BR.blk.fr 0; have zc1 := BR.blk.cell 1 rfl; have zf1 := BR.blk.fr 1; have zc2 := BR.blk.cell 2 rfl; have zf2 := BR.blk.fr 2
    refine bodyPost_ret (v := .agg #[.int .i64 y, .int .i64 ns, .slice a5 n c5]) (by simp [results, Tryz.results27, go_sem, zc0, zc1, zc2, zf0, zf1, zf2]) rfl ?_
    have BZ := ((BR.set (by omega) hd (by omega) 0 (.int .i64 y)).set (by omega) hd (by omega) 1 (.int .i64 ns)).set (by omega) hd (by omega) 2 (.slice a5 n c5)
    have oZ := BR.out
    exact ⟨_, _, rfl, BZ.inc, BZ.st.up (by omega), BZ.tr, _, _, _, _, rfl, by omega, (((hE.tr (fun _ h => h) (Shp.box oZ)).tr (fun _ h => h) (Shp.box oZ)).tr (fun _ h => h) (Shp.box oZ))⟩
  · go_wp2_with fail
    refine (num_t [0, 17, -1, 16, 1] rfl BG.st (by omega) (by decide) (by decide)).mono ?_
    rintro e w4 ⟨y, hy, rfl, hs4, hk4⟩
    have hE := hE.tr' (Inc.refl _ _) (Tr.kept BG.st hk4)
    have BR := BR.kept (by omega) hk4 (c' := 3) hs4
    have BG := BG.kept (by omega) hk4 (c' := 3) hs4
    clear hs4 hk4
    have gc0 := BG.blk.cell 0 rfl; have gf0 := BG.blk.fr 0; have gc1 := BG.blk.cell 1 rfl; have gf1 := BG.blk.fr 1; have gc2 := BG.blk.cell 2 rfl; have gf2 := BG.blk.fr 2
    have rc0 := BR.blk.cell 0 rfl; have rf0 := BR.blk.fr 0; have rc1 := BR.blk.cell 1 rfl; have rf1 := BR.blk.fr 1; have rc2 := BR.blk.cell 2 rfl; have rf2 := BR.blk.fr 2
    go_wp2_with fail
    clear gc0 gc1 gc2 gf0 gf1 gf2 rc0 rc1 rc2 rf0 rf1 rf2
    have BR := BR.other (b' := G) (by omega) hd (by omega) (by omega) BG.out 1 (.int .i64 y)
    have hE : SlOk D5 (w4.setCell ⟨G, 1, none⟩ (.int .i64 y)) 87 3 (.slice a5 n c5) n := hE.tr (fun _ h => h) (Shp.box BG.out)
    have zc0 := BR.blk.cell 0 rfl; have zf0 := BR.blk.fr 0; have zc1 := BR.blk.cell 1 rfl; have zf1 := BR.blk.fr 1; have zc2 := BR.blk.cell 2 rfl; have zf2 := BR.blk.fr 2
    refine bodyPost_ret (v := .agg #[.int .i64 al, .int .i64 y, .slice a5 n c5]) (by simp [results, Tryz.results27, go_sem, zc0, zc1, zc2, zf0, zf1, zf2]) rfl ?_
    have BZ := ((BR.set (by omega) hd (by omega) 0 (.int .i64 al)).set (by omega) hd (by omega) 1 (.int .i64 y)).set (by omega) hd (by omega) 2 (.slice a5 n c5)
    have oZ := BR.out
    exact ⟨_, _, rfl, BZ.inc, BZ.st.up (by omega), BZ.tr, _, _, _, _, rfl, by omega, (((hE.tr (fun _ h => h) (Shp.box oZ)).tr (fun _ h => h) (Shp.box oZ)).tr (fun _ h => h) (Shp.box oZ))⟩
  · by_cases hn0 : 0 < n
    · have hk0 : k < n := hkn hn0
      have hk1 : (0 : Int) ≤ (k : Int) := by omega
      have hk2 : (k : Int) < (n : Int) := by omega
      obtain ⟨b, cap, -, hv5, -⟩ := hE.store_edge BG.st hk0 (j := 0) (by omega)
      cases hv5
      have gc2 := BG.blk.cell 2 rfl
      go_wp2_with fail
      have BG' := BG.ext (Ext.drew _)
      have BR' := BR.ext (Ext.drew _)
      have hE' := hE.tr' (Inc.refl _ _) (Tr.ext BG.st (Ext.drew _))
      have gl := fun o => (Ext.alloc w3 o).cell gc2
      go_region_law (go_simp; go_wp2_with (go_at_call 63; refine (num_t [-1, 16, 0, 2] rfl BG'.st (by omega) (by decide) (by decide)).mono ?_; rintro e w6 ⟨y, hy, rfl, hs6, hk6⟩; have BG6 := BG'.kept (by omega) hk6 (c' := 4) (hs6.up (by omega)); have gc6 := BG6.blk.cell 2 rfl; have hE6 := hE'.tr' (Inc.refl _ _) (Tr.kept BG'.st hk6); obtain ⟨b2, cap2, u2, hv2, gs6, gf6, hst6⟩ := hE6.store_edge BG6.st hk0 (j := 0) (by omega); cases hv2; simp only [Nat.add_zero] at gs6 gf6 hst6))
      all_goals
        obtain ⟨s7, t7⟩ := hst6 y
        have BR7 := (BR'.kept (by omega) hk6 (c' := 4) (hs6.up (by omega))).drawn (by omega) (Inc.refl _ _) t7 s7
        have BG7 := BG6.drawn (by omega) (Inc.refl _ _) t7 s7
        have hE7 := hE6.tr' (Inc.refl _ _) t7
        clear gs6 gf6 hst6 s7 t7 gc6 gl gc2
        generalize w6.setCell ⟨b, k * 3, none⟩ (.int .i64 y) = w7 at BR7 BG7 hE7 ⊢
        have gc0 := BG7.blk.cell 0 rfl; have gf0 := BG7.blk.fr 0; have gc1 := BG7.blk.cell 1 rfl; have gf1 := BG7.blk.fr 1; have gc2 := BG7.blk.cell 2 rfl; have gf2 := BG7.blk.fr 2
        have rc0 := BR7.blk.cell 0 rfl; have rf0 := BR7.blk.fr 0; have rc1 := BR7.blk.cell 1 rfl; have rf1 := BR7.blk.fr 1; have rc2 := BR7.blk.cell 2 rfl; have rf2 := BR7.blk.fr 2
        go_wp2_with fail
        clear gc0 gc1 gc2 gf0 gf1 gf2 rc0 rc1 rc2 rf0 rf1 rf2
        have zc0 := BR7.blk.cell 0 rfl; have zf0 := BR7.blk.fr 0; have zc1 := BR7.blk.cell 1 rfl; have zf1 := BR7.blk.fr 1; have zc2 := BR7.blk.cell 2 rfl; have zf2 := BR7.blk.fr 2
        refine bodyPost_ret (v := .agg #[.int .i64 al, .int .i64 ns, .slice (some ⟨b, 0, none⟩) n c5]) (by simp [results, Tryz.results27, go_sem, zc0, zc1, zc2, zf0, zf1, zf2]) rfl ?_
        have BZ := ((BR7.set (by omega) hd (by omega) 0 (.int .i64 al)).set (by omega) hd (by omega) 1 (.int .i64 ns)).set (by omega) hd (by omega) 2 (.slice (some ⟨b, 0, none⟩) n c5)
        have oZ := BR7.out
        exact ⟨_, _, rfl, BZ.inc, BZ.st.up (by omega), BZ.tr, _, _, _, _, rfl, by omega, (((hE7.tr (fun _ h => h) (Shp.box oZ)).tr (fun _ h => h) (Shp.box oZ)).tr (fun _ h => h) (Shp.box oZ))⟩
    · have hn0' : n = 0 := by omega
      subst hn0'
      have gc0 := BG.blk.cell 0 rfl; have gf0 := BG.blk.fr 0; have gc1 := BG.blk.cell 1 rfl; have gf1 := BG.blk.fr 1; have gc2 := BG.blk.cell 2 rfl; have gf2 := BG.blk.fr 2
      have rc0 := BR.blk.cell 0 rfl; have rf0 := BR.blk.fr 0; have rc1 := BR.blk.cell 1 rfl; have rf1 := BR.blk.fr 1; have rc2 := BR.blk.cell 2 rfl; have rf2 := BR.blk.fr 2
      go_wp2_with fail
      clear gc0 gc1 gc2 gf0 gf1 gf2 rc0 rc1 rc2 rf0 rf1 rf2
      have zc0 := BR.blk.cell 0 rfl; have zf0 := BR.blk.fr 0; have zc1 := BR.blk.cell 1 rfl; have zf1 := BR.blk.fr 1; have zc2 := BR.blk.cell 2 rfl; have zf2 := BR.blk.fr 2
      refine bodyPost_ret (v := .agg #[.int .i64 al, .int .i64 ns, .slice a5 0 c5]) (by simp [results, Tryz.results27, go_sem, zc0, zc1, zc2, zf0, zf1, zf2]) rfl ?_
      have BZ := ((BR.set (by omega) hd (by omega) 0 (.int .i64 al)).set (by omega) hd (by omega) 1 (.int .i64 ns)).set (by omega) hd (by omega) 2 (.slice a5 0 c5)
      have oZ := BR.out
      exact ⟨_, _, rfl, BZ.inc, BZ.st.up (by omega), BZ.tr, _, _, _, _, rfl, by omega, (((hE.tr (fun _ h => h) (Shp.box oZ)).tr (fun _ h => h) (Shp.box oZ)).tr (fun _ h => h) (Shp.box oZ))⟩
  · by_cases hn0 : 0 < n
    · have hk0 : k < n := hkn hn0
      have hk1 : (0 : Int) ≤ (k : Int) := by omega
      have hk2 : (k : Int) < (n : Int) := by omega
      obtain ⟨b, cap, -, hv5, -⟩ := hE.store_edge BG.st hk0 (j := 2) (by omega)
      cases hv5
      have gc2 := BG.blk.cell 2 rfl
      go_wp2_with fail
      have BG' := BG.ext (Ext.drew _)
      have BR' := BR.ext (Ext.drew _)
      have hE' := hE.tr' (Inc.refl _ _) (Tr.ext BG.st (Ext.drew _))
      have gl := fun o => (Ext.alloc w3 o).cell gc2
      go_region_law (go_simp; go_wp2_with (go_at_call 63; refine (num_t [-1, 16, 0, 3] rfl BG'.st (by omega) (by decide) (by decide)).mono ?_; rintro e w6 ⟨y, hy, rfl, hs6, hk6⟩; have BG6 := BG'.kept (by omega) hk6 (c' := 4) (hs6.up (by omega)); have gc6 := BG6.blk.cell 2 rfl; have hE6 := hE'.tr' (Inc.refl _ _) (Tr.kept BG'.st hk6); obtain ⟨b2, cap2, u2, hv2, gs6, gf6, hst6⟩ := hE6.store_edge BG6.st hk0 (j := 2) (by omega); cases hv2))
      all_goals
        obtain ⟨s7, t7⟩ := hst6 y
        have BR7 := (BR'.kept (by omega) hk6 (c' := 4) (hs6.up (by omega))).drawn (by omega) (Inc.refl _ _) t7 s7
        have BG7 := BG6.drawn (by omega) (Inc.refl _ _) t7 s7
        have hE7 := hE6.tr' (Inc.refl _ _) t7
        clear gs6 gf6 hst6 s7 t7 gc6 gl gc2
        generalize w6.setCell ⟨b, k * 3 + 2, none⟩ (.int .i64 y) = w7 at BR7 BG7 hE7 ⊢
        have gc0 := BG7.blk.cell 0 rfl; have gf0 := BG7.blk.fr 0; have gc1 := BG7.blk.cell 1 rfl; have gf1 := BG7.blk.fr 1; have gc2 := BG7.blk.cell 2 rfl; have gf2 := BG7.blk.fr 2
        have rc0 := BR7.blk.cell 0 rfl; have rf0 := BR7.blk.fr 0; have rc1 := BR7.blk.cell 1 rfl; have rf1 := BR7.blk.fr 1; have rc2 := BR7.blk.cell 2 rfl; have rf2 := BR7.blk.fr 2
        go_wp2_with fail
        clear gc0 gc1 gc2 gf0 gf1 gf2 rc0 rc1 rc2 rf0 rf1 rf2
        have zc0 := BR7.blk.cell 0 rfl; have zf0 := BR7.blk.fr 0; have zc1 := BR7.blk.cell 1 rfl; have zf1 := BR7.blk.fr 1; have zc2 := BR7.blk.cell 2 rfl; have zf2 := BR7.blk.fr 2
        refine bodyPost_ret (v := .agg #[.int .i64 al, .int .i64 ns, .slice (some ⟨b, 0, none⟩) n c5]) (by simp [results, Tryz.results27, go_sem, zc0, zc1, zc2, zf0, zf1, zf2]) rfl ?_
        have BZ := ((BR7.set (by omega) hd (by omega) 0 (.int .i64 al)).set (by omega) hd (by omega) 1 (.int .i64 ns)).set (by omega) hd (by omega) 2 (.slice (some ⟨b, 0, none⟩) n c5)
        have oZ := BR7.out
        exact ⟨_, _, rfl, BZ.inc, BZ.st.up (by omega), BZ.tr, _, _, _, _, rfl, by omega, (((hE7.tr (fun _ h => h) (Shp.box oZ)).tr (fun _ h => h) (Shp.box oZ)).tr (fun _ h => h) (Shp.box oZ))⟩
    · have hn0' : n = 0 := by omega
      subst hn0'
      have gc0 := BG.blk.cell 0 rfl; have gf0 := BG.blk.fr 0; have gc1 := BG.blk.cell 1 rfl; have gf1 := BG.blk.fr 1; have gc2 := BG.blk.cell 2 rfl; have gf2 := BG.blk.fr 2
      have rc0 := BR.blk.cell 0 rfl; have rf0 := BR.blk.fr 0; have rc1 := BR.blk.cell 1 rfl; have rf1 := BR.blk.fr 1; have rc2 := BR.blk.cell 2 rfl; have rf2 := BR.blk.fr 2
      go_wp2_with fail
      clear gc0 gc1 gc2 gf0 gf1 gf2 rc0 rc1 rc2 rf0 rf1 rf2
      have zc0 := BR.blk.cell 0 rfl; have zf0 := BR.blk.fr 0; have zc1 := BR.blk.cell 1 rfl; have zf1 := BR.blk.fr 1; have zc2 := BR.blk.cell 2 rfl; have zf2 := BR.blk.fr 2
      refine bodyPost_ret (v := .agg #[.int .i64 al, .int .i64 ns, .slice a5 0 c5]) (by simp [results, Tryz.results27, go_sem, zc0, zc1, zc2, zf0, zf1, zf2]) rfl ?_
      have BZ := ((BR.set (by omega) hd (by omega) 0 (.int .i64 al)).set (by omega) hd (by omega) 1 (.int .i64 ns)).set (by omega) hd (by omega) 2 (.slice a5 0 c5)
      have oZ := BR.out
      exact ⟨_, _, rfl, BZ.inc, BZ.st.up (by omega), BZ.tr, _, _, _, _, rfl, by omega, (((hE.tr (fun _ h => h) (Shp.box oZ)).tr (fun _ h => h) (Shp.box oZ)).tr (fun _ h => h) (Shp.box oZ))⟩
  · by_cases hn0 : 0 < n
    · have hk0 : k < n := hkn hn0
      have hk1 : (0 : Int) ≤ (k : Int) := by omega
      have hk2 : (k : Int) < (n : Int) := by omega
      obtain ⟨b, cap, -, hv5, -⟩ := hE.store_edge BG.st hk0 (j := 1) (by omega)
      cases hv5
      have gc2 := BG.blk.cell 2 rfl
      go_wp2_with fail
      have BG' := BG.ext (Ext.drew _)
      have BR' := BR.ext (Ext.drew _)
      have hE' := hE.tr' (Inc.refl _ _) (Tr.ext BG.st (Ext.drew _))
      have gl := fun o => (Ext.alloc w3 o).cell gc2
      go_region_law (go_simp; go_wp2_with (go_at_call 63; refine (num_t [-1, 6, 70, 5, 0] rfl BG'.st (by omega) (by decide) (by decide)).mono ?_; rintro e w6 ⟨y, hy, rfl, hs6, hk6⟩; have BG6 := BG'.kept (by omega) hk6 (c' := 4) (hs6.up (by omega)); have gc6 := BG6.blk.cell 2 rfl; have hE6 := hE'.tr' (Inc.refl _ _) (Tr.kept BG'.st hk6); obtain ⟨b2, cap2, u2, hv2, gs6, gf6, hst6⟩ := hE6.store_edge BG6.st hk0 (j := 1) (by omega); cases hv2))
      all_goals
        obtain ⟨s7, t7⟩ := hst6 y
        have BR7 := (BR'.kept (by omega) hk6 (c' := 4) (hs6.up (by omega))).drawn (by omega) (Inc.refl _ _) t7 s7
        have BG7 := BG6.drawn (by omega) (Inc.refl _ _) t7 s7
        have hE7 := hE6.tr' (Inc.refl _ _) t7
        clear gs6 gf6 hst6 s7 t7 gc6 gl gc2
        generalize w6.setCell ⟨b, k * 3 + 1, none⟩ (.int .i64 y) = w7 at BR7 BG7 hE7 ⊢
        have gc0 := BG7.blk.cell 0 rfl; have gf0 := BG7.blk.fr 0; have gc1 := BG7.blk.cell 1 rfl; have gf1 := BG7.blk.fr 1; have gc2 := BG7.blk.cell 2 rfl; have gf2 := BG7.blk.fr 2
        have rc0 := BR7.blk.cell 0 rfl; have rf0 := BR7.blk.fr 0; have rc1 := BR7.blk.cell 1 rfl; have rf1 := BR7.blk.fr 1; have rc2 := BR7.blk.cell 2 rfl; have rf2 := BR7.blk.fr 2
        go_wp2_with fail
        clear gc0 gc1 gc2 gf0 gf1 gf2 rc0 rc1 rc2 rf0 rf1 rf2
        have zc0 := BR7.blk.cell 0 rfl; have zf0 := BR7.blk.fr 0; have zc1 := BR7.blk.cell 1 rfl; have zf1 := BR7.blk.fr 1; have zc2 := BR7.blk.cell 2 rfl; have zf2 := BR7.blk.fr 2
        refine bodyPost_ret (v := .agg #[.int .i64 al, .int .i64 ns, .slice (some ⟨b, 0, none⟩) n c5]) (by simp [results, Tryz.results27, go_sem, zc0, zc1, zc2, zf0, zf1, zf2]) rfl ?_
        have BZ := ((BR7.set (by omega) hd (by omega) 0 (.int .i64 al)).set (by omega) hd (by omega) 1 (.int .i64 ns)).set (by omega) hd (by omega) 2 (.slice (some ⟨b, 0, none⟩) n c5)
        have oZ := BR7.out
        exact ⟨_, _, rfl, BZ.inc, BZ.st.up (by omega), BZ.tr, _, _, _, _, rfl, by omega, (((hE7.tr (fun _ h => h) (Shp.box oZ)).tr (fun _ h => h) (Shp.box oZ)).tr (fun _ h => h) (Shp.box oZ))⟩
    · have hn0' : n = 0 := by omega
      subst hn0'
      have gc0 := BG.blk.cell 0 rfl; have gf0 := BG.blk.fr 0; have gc1 := BG.blk.cell 1 rfl; have gf1 := BG.blk.fr 1; have gc2 := BG.blk.cell 2 rfl; have gf2 := BG.blk.fr 2
      have rc0 := BR.blk.cell 0 rfl; have rf0 := BR.blk.fr 0; have rc1 := BR.blk.cell 1 rfl; have rf1 := BR.blk.fr 1; have rc2 := BR.blk.cell 2 rfl; have rf2 := BR.blk.fr 2
      go_wp2_with fail
      clear gc0 gc1 gc2 gf0 gf1 gf2 rc0 rc1 rc2 rf0 rf1 rf2
      have zc0 := BR.blk.cell 0 rfl; have zf0 := BR.blk.fr 0; have zc1 := BR.blk.cell 1 rfl; have zf1 := BR.blk.fr 1; have zc2 := BR.blk.cell 2 rfl; have zf2 := BR.blk.fr 2
      refine bodyPost_ret (v := .agg #[.int .i64 al, .int .i64 ns, .slice a5 0 c5]) (by simp [results, Tryz.results27, go_sem, zc0, zc1, zc2, zf0, zf1, zf2]) rfl ?_
      have BZ := ((BR.set (by omega) hd (by omega) 0 (.int .i64 al)).set (by omega) hd (by omega) 1 (.int .i64 ns)).set (by omega) hd (by omega) 2 (.slice a5 0 c5)
      have oZ := BR.out
      exact ⟨_, _, rfl, BZ.inc, BZ.st.up (by omega), BZ.tr, _, _, _, _, rfl, by omega, (((hE.tr (fun _ h => h) (Shp.box oZ)).tr (fun _ h => h) (Shp.box oZ)).tr (fun _ h => h) (Shp.box oZ))⟩
  · by_cases hn0 : 0 < n
    · have hk0 : k < n := hkn hn0
      have hk1 : (0 : Int) ≤ (k : Int) := by omega
      have hk2 : (k : Int) < (n : Int) := by omega
      obtain ⟨b, cap, u0, hv5, k0, -, -⟩ := hE.store_edge BG.st hk0 (j := 0) (by omega)
      cases hv5
      obtain ⟨b1, cap1, u1, hv6, k1, -, -⟩ := hE.store_edge BG.st hk0 (j := 1) (by omega)
      cases hv6
      obtain ⟨b2, cap2, u2, hv7, k2, -, -⟩ := hE.store_edge BG.st hk0 (j := 2) (by omega)
      cases hv7
      simp only [Nat.add_zero] at k0
      go_wp2_with fail
      have D0 := fun d os => cell_regrown (BG.blk.cell 2 rfl) d os
      have D1 := fun d os => cell_regrown k0 d os
      have D2 := fun d os => cell_regrown k1 d os
      have D3 := fun d os => cell_regrown k2 d os
      obtain ⟨Kc, HKc⟩ : ∃ Kc : FuncId → Array Value → World → Value → World → Prop, Hid (Kc = fun _ _ _ _ _ => True) := ⟨_, rfl⟩
      refine wp_region_ext (Kc := Kc) 8 (by kernel_rfl) (by kernel_rfl) ?_
      simp only [List.take_succ_cons, List.take_zero]
      repeat (refine WalkE.pure rfl (fun K hK => ?_); simp only [PureDo]; go_simp; refine hK _ ?_; clear hK K)
      refine WalkE.step (fun K hK we hwe hde => ?_)
      simp only [OpDo, OpSafe, OpOut]
      go_simp
      refine ⟨Ext.alloc _ _, hK _ _ ?_⟩
      clear hK K hde
      refine WalkE.nil (fun wm hwm hmm => ?_)
      simp only [List.drop_succ_cons, List.drop_zero, List.drop_nil]
      have hl := (hmm 7 (by omega))
      have l0 := hl.new 0 rfl
      have l1 := hl.new 1 rfl
      have l2 := hl.new 2 rfl
      have hx := (Ext.drew w3).trans hwm
      have hcell : ∀ (j' : Nat) (u : Value), [Value.int .i64 u0, Value.int .i64 u1, Value.int .i64 u2][j']? = some u → wm.cell? ((⟨we.heap.size, 0, none⟩ : Addr).add j') = some u := fun j' u hu => by
        rw [add_none, Nat.zero_add]
        match j', hu with
        | 0, hu => simp at hu; subst hu; exact l0
        | 1, hu => simp at hu; subst hu; exact l1
        | 2, hu => simp at hu; subst hu; exact l2
        | j' + 3, hu => simp at hu
      have hE := hE.tr' (Inc.refl _ _) (Tr.ext BG.st hx)
      have BR := BR.ext hx
      have BG := BG.ext hx
      clear l0 l1 l2 hl hmm HKc D0 D1 D2 D3 hwm hwe hx k0 k1 k2
      generalize we.heap.size = r at hcell ⊢
      clear we
      have rc0 := BR.blk.cell 0 rfl; have rf0 := BR.blk.fr 0; have rc1 := BR.blk.cell 1 rfl; have rf1 := BR.blk.fr 1; have rc2 := BR.blk.cell 2 rfl; have rf2 := BR.blk.fr 2
      have gc0 := BG.blk.cell 0 rfl; have gf0 := BG.blk.fr 0; have gc1 := BG.blk.cell 1 rfl; have gf1 := BG.blk.fr 1; have gc2 := BG.blk.cell 2 rfl; have gf2 := BG.blk.fr 2
      go_wp2_with (at_builtin; refine app_t (news := [Value.int .i64 u0, Value.int .i64 u1, Value.int .i64 u2]) (q' := q + 4) rfl _ _ _ rfl Tryz.underlying23 infoEdge rfl (by decide) per_edge zk_edge BG.st hE rfl rfl (by simp) hcell (by simp [Value.oneCell']) (kin_edge _ _ _) (by omega) (by decide) (by omega) ?_; intro v1 w7 D7 hi7 hs7 ht7 hE7; obtain ⟨a7, c7, rfl⟩ := hE7.shape; have BR7 := BR.drawn (by omega) hi7 ht7 (c' := 4) hs7; have BG7 := BG.drawn (by omega) hi7 ht7 (c' := 4) hs7; clear gc0 gc1 gc2 gf0 gf1 gf2 rc0 rc1 rc2 rf0 rf1 rf2; have gc0 := BG7.blk.cell 0 rfl; have gf0 := BG7.blk.fr 0; have gc1 := BG7.blk.cell 1 rfl; have gf1 := BG7.blk.fr 1; have gc2 := BG7.blk.cell 2 rfl; have gf2 := BG7.blk.fr 2; have rc0 := BR7.blk.cell 0 rfl; have rf0 := BR7.blk.fr 0; have rc1 := BR7.blk.cell 1 rfl; have rf1 := BR7.blk.fr 1; have rc2 := BR7.blk.cell 2 rfl; have rf2 := BR7.blk.fr 2)
      clear gc0 gc1 gc2 gf0 gf1 gf2 rc0 rc1 rc2 rf0 rf1 rf2
      have BR8 := BR7.other (b' := G) (by omega) hd (by omega) (by omega) BG7.out 2 (.slice a7 (n + 1) c7)
      have hE8 : SlOk D7 (w7.setCell ⟨G, 2, none⟩ (.slice a7 (n + 1) c7)) 87 3 (.slice a7 (n + 1) c7) (n + 1) := hE7.tr (fun _ h => h) (Shp.box BG7.out)
      have zc0 := BR8.blk.cell 0 rfl; have zf0 := BR8.blk.fr 0; have zc1 := BR8.blk.cell 1 rfl; have zf1 := BR8.blk.fr 1; have zc2 := BR8.blk.cell 2 rfl; have zf2 := BR8.blk.fr 2
      refine bodyPost_ret (v := .agg #[.int .i64 al, .int .i64 ns, .slice a7 (n + 1) c7]) (by simp [results, Tryz.results27, go_sem, zc0, zc1, zc2, zf0, zf1, zf2]) rfl ?_
      have BZ := ((BR8.set (by omega) hd (by omega) 0 (.int .i64 al)).set (by omega) hd (by omega) 1 (.int .i64 ns)).set (by omega) hd (by omega) 2 (.slice a7 (n + 1) c7)
      have oZ := BR8.out
      exact ⟨_, _, rfl, BZ.inc, BZ.st.up (by omega), BZ.tr, _, _, _, _, rfl, by omega, (((hE8.tr (fun _ h => h) (Shp.box oZ)).tr (fun _ h => h) (Shp.box oZ)).tr (fun _ h => h) (Shp.box oZ))⟩
    · have hn0' : n = 0 := by omega
      subst hn0'
      have gc0 := BG.blk.cell 0 rfl; have gf0 := BG.blk.fr 0; have gc1 := BG.blk.cell 1 rfl; have gf1 := BG.blk.fr 1; have gc2 := BG.blk.cell 2 rfl; have gf2 := BG.blk.fr 2
      have rc0 := BR.blk.cell 0 rfl; have rf0 := BR.blk.fr 0; have rc1 := BR.blk.cell 1 rfl; have rf1 := BR.blk.fr 1; have rc2 := BR.blk.cell 2 rfl; have rf2 := BR.blk.fr 2
      go_wp2_with fail
      clear gc0 gc1 gc2 gf0 gf1 gf2 rc0 rc1 rc2 rf0 rf1 rf2
      have zc0 := BR.blk.cell 0 rfl; have zf0 := BR.blk.fr 0; have zc1 := BR.blk.cell 1 rfl; have zf1 := BR.blk.fr 1; have zc2 := BR.blk.cell 2 rfl; have zf2 := BR.blk.fr 2
      refine bodyPost_ret (v := .agg #[.int .i64 al, .int .i64 ns, .slice a5 0 c5]) (by simp [results, Tryz.results27, go_sem, zc0, zc1, zc2, zf0, zf1, zf2]) rfl ?_
      have BZ := ((BR.set (by omega) hd (by omega) 0 (.int .i64 al)).set (by omega) hd (by omega) 1 (.int .i64 ns)).set (by omega) hd (by omega) 2 (.slice a5 0 c5)
      have oZ := BR.out
      exact ⟨_, _, rfl, BZ.inc, BZ.st.up (by omega), BZ.tr, _, _, _, _, rfl, by omega, (((hE.tr (fun _ h => h) (Shp.box oZ)).tr (fun _ h => h) (Shp.box oZ)).tr (fun _ h => h) (Shp.box oZ))⟩
  · have gc2 := BG.blk.cell 2 rfl
    go_wp2_with fail
    have BG' := BG.ext (Ext.drew _)
    have BR' := BR.ext (Ext.drew _)
    have hE' := hE.tr' (Inc.refl _ _) (Tr.ext BG.st (Ext.drew _))
    have hs6 := BG'.st
    have hkk : Kept g w3.drew w3.drew := Tnd.refl _ _
    have hsum : 0 ≤ q := by omega
    go_region_law (first
      | (refine step_app1_t (q + 6) (by rfl) (by rfl) Tryz.underlying23 infoEdge (by rfl) (by decide) per_edge zk_edge hs6 (hE'.tr' (Inc.refl _ _) (Tr.kept BG'.st hkk)) (by rfl) (by rfl) (by rfl) (by simp [Value.oneCell']) (kin_edge _ _ _) (by omega) (by decide) (by omega) ?_; intro v1 w7 D7 hi7 hs7 ht7 hE7; obtain ⟨a7, c7, rfl⟩ := hE7.shape; have BG7 := (BG'.kept (by omega) hkk (c' := 5) (hs6.up (by omega))).drawn (by omega) hi7 ht7 (c' := 6) hs7; have gc7 := BG7.blk.cell 2 rfl; have gf7 := BG7.blk.fr 2)
      | (go_simp; go_wp2_with (go_at_call 23; refine (pick_t _ hs6 (by omega) (by omega)).mono ?_; rintro e w6 ⟨x6, rfl, -, -, hs6, hk6⟩; replace hkk := hkk.trans hk6; have gc6 : w6.cell? ⟨G, 2, none⟩ = some (.slice a5 n c5) := (BG'.blk.kept hkk (by omega)).cell 2 rfl; have gc8 := fun o => (Ext.alloc w6 o).cell gc6)))
    all_goals
      have BR7 := (BR'.kept (by omega) hkk (c' := 5) (hs6.up (by omega))).drawn (by omega) hi7 ht7 (c' := 6) hs7
      have BR8 := BR7.other (b' := G) (by omega) hd (by omega) (by omega) BG7.out 2 (.slice a7 (n + 1) c7)
      have hE8 : SlOk D7 (w7.setCell ⟨G, 2, none⟩ (.slice a7 (n + 1) c7)) 87 3 (.slice a7 (n + 1) c7) (n + 1) := hE7.tr (fun _ h => h) (Shp.box BG7.out)
      have BG8 := BG7.set (by omega) hd (by omega) 2 (.slice a7 (n + 1) c7)
      generalize w7.setCell ⟨G, 2, none⟩ (.slice a7 (n + 1) c7) = w8 at BR8 BG8 hE8 ⊢
      have gc0 := BG8.blk.cell 0 rfl; have gf0 := BG8.blk.fr 0; have gc1 := BG8.blk.cell 1 rfl; have gf1 := BG8.blk.fr 1; have gc2 := BG8.blk.cell 2 rfl; have gf2 := BG8.blk.fr 2
      have rc0 := BR8.blk.cell 0 rfl; have rf0 := BR8.blk.fr 0; have rc1 := BR8.blk.cell 1 rfl; have rf1 := BR8.blk.fr 1; have rc2 := BR8.blk.cell 2 rfl; have rf2 := BR8.blk.fr 2
      go_wp2_with fail
      clear gc0 gc1 gc2 gf0 gf1 gf2 rc0 rc1 rc2 rf0 rf1 rf2
      have zc0 := BR8.blk.cell 0 rfl; have zf0 := BR8.blk.fr 0; have zc1 := BR8.blk.cell 1 rfl; have zf1 := BR8.blk.fr 1; have zc2 := BR8.blk.cell 2 rfl; have zf2 := BR8.blk.fr 2
      refine bodyPost_ret (v := .agg #[.int .i64 al, .int .i64 ns, .slice a7 (n + 1) c7]) (by simp [results, Tryz.results27, go_sem, zc0, zc1, zc2, zf0, zf1, zf2]) rfl ?_
      have BZ := ((BR8.set (by omega) hd (by omega) 0 (.int .i64 al)).set (by omega) hd (by omega) 1 (.int .i64 ns)).set (by omega) hd (by omega) 2 (.slice a7 (n + 1) c7)
      have oZ := BR8.out
      exact ⟨_, _, rfl, BZ.inc, BZ.st.up (by omega), BZ.tr, _, _, _, _, rfl, by omega, (((hE8.tr (fun _ h => h) (Shp.box oZ)).tr (fun _ h => h) (Shp.box oZ)).tr (fun _ h => h) (Shp.box oZ))⟩
  · have g0 : ((x : Int) == 0) = false := beq_eq_false_iff_ne.2 (by omega)
    have g1 : ((x : Int) == 1) = false := beq_eq_false_iff_ne.2 (by omega)
    have g2 : ((x : Int) == 2) = false := beq_eq_false_iff_ne.2 (by omega)
    have g3 : ((x : Int) == 3) = false := beq_eq_false_iff_ne.2 (by omega)
    have g4 : ((x : Int) == 4) = false := beq_eq_false_iff_ne.2 (by omega)
    have g5 : ((x : Int) == 5) = false := beq_eq_false_iff_ne.2 (by omega)
    have g6 : ((x : Int) == 6) = false := beq_eq_false_iff_ne.2 (by omega)
    have gc0 := BG.blk.cell 0 rfl; have gf0 := BG.blk.fr 0; have gc1 := BG.blk.cell 1 rfl; have gf1 := BG.blk.fr 1; have gc2 := BG.blk.cell 2 rfl; have gf2 := BG.blk.fr 2
    have rc0 := BR.blk.cell 0 rfl; have rf0 := BR.blk.fr 0; have rc1 := BR.blk.cell 1 rfl; have rf1 := BR.blk.fr 1; have rc2 := BR.blk.cell 2 rfl; have rf2 := BR.blk.fr 2
    go_wp2_with fail
    clear gc0 gc1 gc2 gf0 gf1 gf2 rc0 rc1 rc2 rf0 rf1 rf2
    have zc0 := BR.blk.cell 0 rfl; have zf0 := BR.blk.fr 0; have zc1 := BR.blk.cell 1 rfl; have zf1 := BR.blk.fr 1; have zc2 := BR.blk.cell 2 rfl; have zf2 := BR.blk.fr 2
    refine bodyPost_ret (v := .agg #[.int .i64 al, .int .i64 ns, .slice a5 n c5]) (by simp [results, Tryz.results27, go_sem, zc0, zc1, zc2, zf0, zf1, zf2]) rfl ?_
    have BZ := ((BR.set (by omega) hd (by omega) 0 (.int .i64 al)).set (by omega) hd (by omega) 1 (.int .i64 ns)).set (by omega) hd (by omega) 2 (.slice a5 n c5)
    have oZ := BR.out
    exact ⟨_, _, rfl, BZ.inc, BZ.st.up (by omega), BZ.tr, _, _, _, _, rfl, by omega, (((hE.tr (fun _ h => h) (Shp.box oZ)).tr (fun _ h => h) (Shp.box oZ)).tr (fun _ h => h) (Shp.box oZ))⟩
end Go.Proofs.YtanekmfifmkbmaaGreatDoor
