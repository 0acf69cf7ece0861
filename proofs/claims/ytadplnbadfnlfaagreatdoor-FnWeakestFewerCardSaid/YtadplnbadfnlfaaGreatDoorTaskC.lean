/- Part of this seat's proofs, cut to what its law needs. -/

import Derived.Test.YtadplnbadfnlfaaGreatDoorDrawD
import Derived.Test.YtadplnbadfnlfaaGreatDoorWalkR
import Derived.Test.YtadplnbadfnlfaaGreatDoorRegion

namespace Go.Proofs.YtadplnbadfnlfaaGreatDoor
set_option linter.unusedSimpArgs false
set_option linter.unusedVariables false
open Go.RowKit
set_option maxHeartbeats 1000000
set_option maxRecDepth 100000

section
variable {P : Program}
theorem copy_own {ops : Array Oper} {Kc : FuncId → Array Value → World → Value → World → Prop} {o : Oper} {a : Act} {K : Value → World → Prop} {s x : Operand} {t e : TypeId} {size bytes b base m c : Nat} {z : Value} {ao : Option Addr} {news : List Value} {w : World} (hgd : o.guard = none)
    (ho : o.op = .call { callee := .builtin .append, args := #[s, x], argTypes := #[t, t] }) (ht : P.underlying t = some (.slice e)) (hinfo : (P.info? e).map (fun i => (i.zero, i.size, i.bytes)) = some (some z, size, bytes)) (hzs : z.cells.size = size) (hsz : 0 < size)
    (hb : base ≤ b) (hlit : Blk w b #[] e) (hbase : base ≤ w.heap.size) (hev : a.eval s = .slice (some ⟨b, 0, none⟩) 0 0) (hx : a.eval x = .slice ao m c) (hmc : m ≤ c) (hl : news.length = m * size) (hnews : 0 < m → ∃ ad, ao = some ad ∧ ∀ j u, news[j]? = some u → w.cell? (ad.add j) = some u)
    (hnm : m ≤ 4294967296) (hby : bytes ≤ 1024)
    (hQ : ∀ v' w', Ext w w' → w'.ownsRow base e size v' m news → K v' w') : OpDo P ops Kc Ext o a w K := by
  obtain ⟨i, hi, hz, rfl, rfl⟩ := info_parts hinfo
  by_cases hm : m = 0
  · subst hm
    obtain rfl : news = [] := List.eq_nil_of_length_eq_zero (by simpa using hl)
    refine OpDo.of_run (v := .slice (some ⟨b, 0, none⟩) 0 0) (w' := w) hgd ?_ (Ext.refl _) (hQ _ _ (Ext.refl _) ⟨by simp, .inr ⟨b, 0, #[], rfl, hb, hlit, by omega, by unfold maxLen; omega, by simp, by simp⟩⟩)
    have hr : (Builtin.append_ #[t, t] o.type #[.slice (some ⟨b, 0, none⟩) 0 0, .slice ao 0 c]).run P w = .ok (.slice (some ⟨b, 0, none⟩) 0 0) w := by
      cases ao with
      | none => simp [Builtin.append_, run_underlying ht, sizeOf, typeInfo, hi, Builtin.lenOf, Builtin.firstCells, loadCells, loadCellsFrom, storeCells]
      | some ad => simp [Builtin.append_, run_underlying ht, sizeOf, typeInfo, hi, Builtin.lenOf, Builtin.firstCells, loadCells, loadCellsFrom, storeCells]
    unfold execOp
    simp only [ho, resolve, invoke, builtin, Sem.run_bind, Sem.run_pure, Result.andThen_ok, List.map_toArray, List.map_cons, List.map_nil, hev, hx, hr]
  · obtain ⟨ad, rfl, hc'⟩ := hnews (by omega)
    have hr := run_append_grow (P := P) w t o.type e i z ht hi hz ⟨b, 0, none⟩ 0 0 [] (by simp) (fun j v h => by simp at h) ad m c news hl hc' (by omega) (by omega) (growslice_fits (by omega) (by rw [Nat.zero_add]; have := Nat.mul_le_mul hnm hby; omega))
    simp only [Nat.zero_add, List.nil_append, Array.empty_append] at hr
    have he : Ext w (w.drew.alloc (.cells (news.toArray ++ Builtin.zeroCells z.cells (grownCap w m 0 e - m)) e)) := (Ext.drew w).trans (Ext.alloc _ _)
    have hge := grownCap_ge w m 0 e
    have hcm' : grownCap w m 0 e ≤ maxLen := grownCap_le_maxLen w m 0 e (by unfold maxLen; omega)
    refine OpDo.of_run hgd ?_ he (hQ _ _ he ⟨hl, .inr ⟨w.heap.size, grownCap w m 0 e, _, rfl, hbase, heap_alloc_new w.drew _, hge, hcm', ?_, ?_⟩⟩)
    · unfold execOp
      simp only [ho, resolve, invoke, builtin, Sem.run_bind, Sem.run_pure, Result.andThen_ok, List.map_toArray, List.map_cons, List.map_nil, hev, hx]
      rw [hr]
      rfl
    · simp only [Array.size_append, List.size_toArray, size_zeroCells, hzs, hl, ← Nat.add_mul]
      congr 1; omega
    · rw [Array.toList_append, List.take_append_of_le_length (by simp [hl]), List.take_of_length_le (by simp [hl])]
end

theorem l3Copy_s (v : Value) (x : Auto) (w : World) (hv : AutoV w v x) (hnl : x.next.length ≤ 1048576) (hal : x.accept.length ≤ 1048576) (hrl : ∀ r ∈ x.next, r.length ≤ 1048576) :
    Calls Tryz.prog 137 #[v] w (Gives (fun v w' => AutoOwn w.heap.size w' v x) w) := by
  obtain ⟨vn, va, rfl, h1, h2⟩ := hv
  obtain ⟨an, cn, rfl, -, hn⟩ := h1.open
  have h2' := h2
  obtain ⟨aa, ca, e2, hac, hcm, h3⟩ := h2'
  subst e2
  obtain ⟨wo, hwo⟩ : ∃ wo, wo = (w.alloc (.cells #[.int .i64 x.alphabet, .slice an x.next.length cn, .slice aa x.accept.length ca] 31)).alloc (.cells #[.int .i64 0, .slice none 0 0, .slice none 0 0] 31) := ⟨_, rfl⟩
  have he : Ext w wo := by rw [hwo]; exact (Ext.alloc _ _).trans (Ext.alloc _ _)
  have hB : Blk wo w.heap.size #[.int .i64 x.alphabet, .slice an x.next.length cn, .slice aa x.accept.length ca] 31 := by rw [hwo]; exact (Blk.new _ _ _).ext (Ext.alloc _ _)
  have hR : Blk wo (w.heap.size + 1) #[.int .i64 0, .slice none 0 0, .slice none 0 0] 31 := by rw [hwo]; have := Blk.new (w.alloc (.cells #[.int .i64 x.alphabet, .slice an x.next.length cn, .slice aa x.accept.length ca] 31)) #[.int .i64 0, .slice none 0 0, .slice none 0 0] 31; rwa [World.size_alloc] at this
  have hwos : w.heap.size + 2 ≤ wo.heap.size := by rw [hwo]; simp
  go_enter Tryz.func137, Tryz.ntmps137
  go_wp2_with fail
  rw [← hwo]
  clear hwo
  have D0 := fun d os => cell_regrown (hB.cell 0 rfl) d os
  have D2 := fun d os => cell_regrown (hB.cell 2 rfl) d os
  obtain ⟨Kc, HKc⟩ : ∃ Kc : FuncId → Array Value → World → Value → World → Prop, Hid (Kc = fun _ _ _ _ _ => True) := ⟨_, rfl⟩
  refine wp_region_ext (Kc := Kc) 8 (by kernel_rfl) (by kernel_rfl) ?_
  simp only [List.take_succ_cons, List.take_zero]
  repeat (refine WalkE.pure rfl (fun K hK => ?_); simp only [PureDo]; go_simp; refine hK _ ?_; clear hK K)
  refine WalkE.step (fun K hK wd hwd hdd => ?_)
  simp only [OpDo, OpSafe, OpOut]
  go_simp
  refine ⟨Ext.alloc _ _, hK _ _ ?_⟩
  clear hK K hdd
  repeat (refine WalkE.pure rfl (fun K hK => ?_); simp only [PureDo]; go_simp; refine hK _ ?_; clear hK K)
  refine WalkE.step (fun K hK we hwe hde => ?_)
  have j4 : Ext (wd.alloc (.cells #[] 4)) we := hde _ (Array.mem_of_getElem? (i := 0) rfl) rfl
  have hbd : w.heap.size ≤ wd.heap.size := Nat.le_trans (by omega) (Nat.le_trans hwos hwd.size)
  have hbe : w.heap.size ≤ we.heap.size := Nat.le_trans (by omega) (Nat.le_trans hwos hwe.size)
  have hx1 : Ext w we := he.trans ((Ext.drew _).trans hwe)
  refine copy_own (base := w.heap.size) (news := x.accept.map Value.bool) rfl rfl Tryz.underlying29 infoBool rfl (by decide) hbd ((Blk.new wd _ _).ext j4) hbe rfl rfl hac (by simp) (fun h0 => by
    obtain ⟨b, off, rfl, -⟩ := h3 h0
    exact ⟨_, rfl, (h2.mono hx1).cells⟩) (by omega) (by decide) ?_
  intro v5 w5 he5 hown5
  refine hK _ _ ?_
  clear hK K hde
  obtain ⟨aa', ca', rfl⟩ := own_any' hown5
  repeat (refine WalkE.pure rfl (fun K hK => ?_); simp only [PureDo]; go_simp; refine hK _ ?_; clear hK K)
  refine WalkE.step (fun K hK wf hwf hdf => ?_)
  simp only [OpDo, OpSafe, OpOut]
  go_simp
  refine ⟨Ext.alloc _ _, hK _ _ ?_⟩
  clear hK K hdf
  refine WalkE.nil (fun wn hwn hmn => ?_)
  simp only [List.drop_succ_cons, List.drop_zero, List.drop_nil]
  have hwos' : w.heap.size + 2 ≤ wf.heap.size := Nat.le_trans hwos hwf.size
  have hb : BoolsOwn 4 w.heap.size wn (.slice aa' x.accept.length ca') x.accept := own_ext hown5 (hmn 5 (by omega))
  have hG := (Blk.new wf _ _).ext (hmn 7 (by omega))
  have hBn := hB.ext ((Ext.drew _).trans hwn)
  have hRn := hR.ext ((Ext.drew _).trans hwn)
  have hwn' := he.trans ((Ext.drew _).trans hwn)
  clear hmn hwd hwe hwf he5 hown5 hbd hbe hx1 j4 HKc D0 D2 hB hR hwn
  generalize wf.heap.size = g at hG hwos' ⊢
  clear we wf w5
  have gc0 := hG.cell 0 rfl; have gf0 := hG.fr 0; have gc1 := hG.cell 1 rfl; have gf1 := hG.fr 1; have gc2 := hG.cell 2 rfl; have gf2 := hG.fr 2
  go_wp2_with fail
  have hG1 := ((hG.set 0 (.int .i64 x.alphabet)).set 1 (.slice none 0 0)).set 2 (.slice aa' x.accept.length ca')
  have hb1 : BoolsOwn 4 w.heap.size (((wn.setCell ⟨g, 0, none⟩ (.int .i64 x.alphabet)).setCell ⟨g, 1, none⟩ (.slice none 0 0)).setCell ⟨g, 2, none⟩ (.slice aa' x.accept.length ca')) (.slice aa' x.accept.length ca') x.accept := own_store (own_store (own_store hb hG (by decide) _ _) (hG.set 0 _) (by decide) _ _) ((hG.set 0 _).set 1 _) (by decide) _ _
  generalize hW1 : ((wn.setCell ⟨g, 0, none⟩ (.int .i64 x.alphabet)).setCell ⟨g, 1, none⟩ (.slice none 0 0)).setCell ⟨g, 2, none⟩ (.slice aa' x.accept.length ca') = w1 at hG1 hb1 ⊢
  have hR1 : Blk w1 (w.heap.size + 1) #[.int .i64 0, .slice none 0 0, .slice none 0 0] 31 := by rw [← hW1]; exact (((hRn.other (p := ⟨g, 0, none⟩) (by simp only []; omega) _).other (p := ⟨g, 1, none⟩) (by simp only []; omega) _).other (p := ⟨g, 2, none⟩) (by simp only []; omega) _)
  have hB1 : Blk w1 w.heap.size #[.int .i64 x.alphabet, .slice an x.next.length cn, .slice aa x.accept.length ca] 31 := by rw [← hW1]; exact (((hBn.other (p := ⟨g, 0, none⟩) (by simp only []; omega) _).other (p := ⟨g, 1, none⟩) (by simp only []; omega) _).other (p := ⟨g, 2, none⟩) (by simp only []; omega) _)
  have hw1 : Ext w w1 := by rw [← hW1]; exact (((hwn'.setCell (p := ⟨g, 0, none⟩) (by simp only []; omega) _).setCell (p := ⟨g, 1, none⟩) (by simp only []; omega) _).setCell (p := ⟨g, 2, none⟩) (by simp only []; omega) _)
  clear hW1 hb hG hBn hRn gc0 gc1 gc2 gf0 gf1 gf2
  go_loopw [4] (fun i wr => ∃ (k : Nat) (vN : Value) (vs : List Value), k ≤ x.next.length ∧ i = .int .i64 k ∧ Blk wr g #[.int .i64 x.alphabet, vN, .slice aa' x.accept.length ca'] 31 ∧ wr.ownsRow w.heap.size 96 1 vN k vs ∧ RowsAre 3 w.heap.size wr vs (x.next.take k) ∧ BoolsOwn 4 w.heap.size wr (.slice aa' x.accept.length ca') x.accept ∧ Blk wr (w.heap.size + 1) #[.int .i64 0, .slice none 0 0, .slice none 0 0] 31 ∧ Blk wr w.heap.size #[.int .i64 x.alphabet, .slice an x.next.length cn, .slice aa x.accept.length ca] 31 ∧ Ext w wr) (fun i _ => x.next.length - (intOf i).toNat)
  case atStart => exact ⟨0, .slice none 0 0, [], by omega, rfl, hG1, World.ownsRow_nil _ _ _ _, RowsAre.nil _ _ _, hb1, hR1, hB1, hw1⟩
  case round =>
    clear hG1 hb1 hw1 hR1 hB1
    obtain ⟨k, vN, vs, hk, rfl, hG, hN, hrows, hb, hR, hB, hext⟩ := hrel
    have n1 := hB.cell 1 rfl
    by_cases hlt : k < x.next.length
    · obtain ⟨row, hr⟩ : ∃ row, x.next[k]? = some row := ⟨_, List.getElem?_eq_getElem hlt⟩
      obtain ⟨b, off, rfl, -, hc⟩ := hn k row hr
      obtain ⟨vr, g1, hvr⟩ := (hc k row hr).mono hext
      rw [Nat.mul_one] at g1
      have hrl2 : row.length ≤ 1048576 := hrl row (List.mem_of_getElem? hr)
      have HR := Lib.hid hr
      obtain ⟨aN, cN, rfl⟩ := own_any' hN
      have hvr' := hvr
      obtain ⟨ar, cr, e3, hrc, hrm, h5⟩ := hvr'
      subst e3
      clear hc hn hr
      go_wp2_with fail
      have D0 := fun d os => cell_regrown (hG.cell 1 rfl) d os
      have D1 := fun d os => cell_regrown n1 d os
      have D3 := fun d os => cell_regrown g1 d os
      obtain ⟨Kc, HKc⟩ : ∃ Kc : FuncId → Array Value → World → Value → World → Prop, Hid (Kc = fun _ _ _ _ _ => True) := ⟨_, rfl⟩
      refine wp_region_ext (Kc := Kc) 10 (by kernel_rfl) (by kernel_rfl) ?_
      simp only [List.take_succ_cons, List.take_zero]
      repeat (refine WalkE.pure rfl (fun K hK => ?_); simp only [PureDo]; go_simp; refine hK _ ?_; clear hK K)
      refine WalkE.step (fun K hK wd hwd hdd => ?_)
      simp only [OpDo, OpSafe, OpOut]
      go_simp
      refine ⟨Ext.alloc _ _, hK _ _ ?_⟩
      clear hK K hdd
      repeat (refine WalkE.pure rfl (fun K hK => ?_); simp only [PureDo]; go_simp; refine hK _ ?_; clear hK K)
      refine WalkE.step (fun K hK we hwe hde => ?_)
      have j4 : Ext (wd.alloc (.cells #[] 3)) we := hde _ (Array.mem_of_getElem? (i := 0) rfl) rfl
      have hx1 : Ext wr we := (Ext.drew _).trans hwe
      refine copy_own (base := wr.heap.size) (news := row.map (Value.int .i64)) rfl rfl Tryz.underlying96 infoInt rfl (by decide) (Nat.le_trans (Ext.drew wr).size hwd.size) ((Blk.new wd _ _).ext j4) hx1.size rfl rfl hrc (by simp) (fun h0 => by
        obtain ⟨b, off, rfl, -⟩ := h5 h0
        exact ⟨_, rfl, (hvr.mono hx1).cells⟩) (by omega) (by decide) ?_
      intro v5 w5 he5 hown5
      refine hK _ _ ?_
      clear hK K hde
      obtain ⟨ar', cr', rfl⟩ := own_any' hown5
      repeat (refine WalkE.pure rfl (fun K hK => ?_); simp only [PureDo]; go_simp; refine hK _ ?_; clear hK K)
      refine WalkE.step (fun K hK wf hwf hdf => ?_)
      simp only [OpDo, OpSafe, OpOut]
      go_simp
      refine ⟨Ext.alloc _ _, hK _ _ ?_⟩
      clear hK K hdf
      refine WalkE.nil (fun wn hwn hmn => ?_)
      simp only [List.drop_succ_cons, List.drop_zero, List.drop_nil]
      have hx : Ext wr wn := (Ext.drew _).trans hwn
      have hrow : IntsOwn 3 wr.heap.size wn (.slice ar' row.length cr') row := own_ext hown5 (hmn 8 (by omega))
      have hq : wn.cell? ⟨wf.heap.size, 0, none⟩ = some (.slice ar' row.length cr') := (hmn 9 (by omega)).new 0 rfl
      have hN2 := own_ext hN hx
      have hrows2 := hrows.push (ll' := x.next.take (k + 1)) hx hrow hext.size (by rw [List.take_add_one, HR.out]; rfl)
      have hG2 := hG.ext hx
      have hR2 := hR.ext hx
      have hB2 := hB.ext hx
      have hb2 := own_ext hb.own hx
      have hext2 := hext.trans hx
      have hsz := hext2.size
      have hcell : ∀ (j : Nat) (u : Value), [Value.slice ar' row.length cr'][j]? = some u → wn.cell? ((⟨wf.heap.size, 0, none⟩ : Addr).add j) = some u := fun j u hu => by
        rw [add_none]
        cases j with
        | zero => simp at hu; subst hu; exact hq
        | succ j => simp at hu
      clear hmn hown5 hrow HKc D0 D1 D3 hN hrows hG hb hext hwn hwe hwd hwf hq n1 j4 hx1 he5
      generalize wf.heap.size = q at hcell ⊢
      clear we wf w5 hvr g1
      go_wp2_with (at_builtin; refine appN (news := [Value.slice ar' row.length cr']) rfl rfl Tryz.underlying28 infoInts rfl (by decide) hN2 rfl rfl (by simp) hcell (by simp [Value.oneCell']) (by omega) (by decide) hsz ?_; intro v1 w1 hown1 hgr1 hbl1; obtain ⟨a1, c1, rfl⟩ := own_any' hown1; have hG3 := hG2.grown hN2 hgr1 (by decide); have gc1 := hG3.cell 1 rfl; have gf1 := hG3.fr 1)
      exact ⟨⟨k + 1, _, _, by omega, by go_num, hG3.set 1 _, own_store hown1 hG3 (by decide) 1 _, (hrows2.grown hN2 hgr1 (by decide)).setOther hG3 (by decide) 1 _, own_store (own_grown hb2 hN2 hgr1 (by decide)) hG3 (by decide) 1 _, (hR2.grown hN2 hgr1 (by decide)).other (p := ⟨g, 1, none⟩) (by simp only []; omega) _, (hB2.grown hN2 hgr1 (by decide)).other (p := ⟨g, 1, none⟩) (by simp only []; omega) _, (Below.trans hext2 hbl1).setCell (p := ⟨g, 1, none⟩) (by simp only []; omega) _⟩, by simp [intOf]; omega⟩
    · obtain rfl : k = x.next.length := by omega
      obtain ⟨aN, cN, rfl⟩ := own_any' hN
      have c0 := hG.cell 0 rfl
      have c1 := hG.cell 1 rfl
      have c2 := hG.cell 2 rfl
      have rc0 := hR.cell 0 rfl; have rf0 := hR.fr 0; have rc1 := hR.cell 1 rfl; have rf1 := hR.fr 1; have rc2 := hR.cell 2 rfl; have rf2 := hR.fr 2
      go_wp2_with fail
      refine bodyPost_ret (v := .agg #[.int .i64 x.alphabet, .slice aN x.next.length cN, .slice aa' x.accept.length ca']) (by simp [results, Tryz.results137, go_sem, rc0, rc1, rc2, rf0, rf1, rf2]) rfl ?_
      rw [List.take_length] at hrows
      have hR1 := hR.set 0 (.int .i64 x.alphabet)
      have hR2 := hR1.set 1 (.slice aN x.next.length cN)
      refine ⟨_, rfl, (((hext.setCell (p := ⟨(w.heap.size + 1), 0, none⟩) (by simp only []; omega) _).setCell (p := ⟨(w.heap.size + 1), 1, none⟩) (by simp only []; omega) _).setCell (p := ⟨(w.heap.size + 1), 2, none⟩) (by simp only []; omega) _), _, _, rfl, ⟨vs, own_store (own_store (own_store hN hR (by decide) 0 _) hR1 (by decide) 1 _) hR2 (by decide) 2 _, ((hrows.setOther hR (by decide) 0 _).setOther hR1 (by decide) 1 _).setOther hR2 (by decide) 2 _, fun j y hy => ?_⟩, own_store (own_store (own_store hb.own hR (by decide) 0 _) hR1 (by decide) 1 _) hR2 (by decide) 2 _⟩
      obtain ⟨l, hl⟩ : ∃ l, x.next[j]? = some l := ⟨_, List.getElem?_eq_getElem (by rw [← hrows.len]; exact (List.getElem?_eq_some_iff.1 hy).1)⟩
      have h3 := hrows.row j y l hy hl
      cases hbk : y.ownBlock with
      | none => exact .inl rfl
      | some q => exact .inr fun he => own_apart' h3 hN (by decide) q hbk he.symm

theorem edges_bound {s : Sys} (h : sysValid s = true) : ∀ e ∈ s.edges, 0 ≤ e.src ∧ e.src < s.states ∧ 0 ≤ e.dst ∧ e.dst < s.states := by
  intro e he
  simp only [sysValid, Bool.and_eq_true, decide_eq_true_eq, List.all_eq_true] at h
  obtain ⟨i, hi, rfl⟩ := List.getElem_of_mem he
  have h4 := h.2 i (List.mem_range.2 hi)
  unfold edgeAt at h4
  rw [List.getElem?_eq_getElem hi] at h4
  simp only [Bool.and_eq_true, edgeOk, decide_eq_true_eq] at h4
  omega
theorem valid_alpha' {s : Sys} (h : sysValid s = true) : 0 ≤ s.alphabet ∧ s.alphabet ≤ 63 ∧ 1 ≤ s.states ∧ s.states ≤ 16 := by
  simp only [sysValid, isAlpha, Bool.and_eq_true, decide_eq_true_eq] at h; omega
theorem interface_valid {S : Sys} {A : Auto} {O : Sys} (h : ¬ interfaceOf S A O < 0) : sysValid S = true ∧ autoValid A = true ∧ sysValid O = true := by
  unfold interfaceOf at h
  by_cases hc : (sysValid S && autoValid A && sysValid O) = true
  · simp only [Bool.and_eq_true] at hc; exact ⟨hc.1.1, hc.1.2, hc.2⟩
  · rw [if_neg hc] at h; omega

theorem TaskOf_s (v u z : Value) (S : Sys) (A : Auto) (O : Sys) (w : World) (hv : SysV w v S) (hu : AutoV w u A) (hz : SysV w z O) (hes : S.edges.length ≤ 1048576) :
    Calls Tryz.prog 263 #[v, u, z] w (TaskOfEnd S A O w) := by
  obtain ⟨ve, rfl, h1⟩ := hv
  obtain ⟨vn, va, rfl, h2, h3⟩ := hu
  obtain ⟨ze, rfl, h4⟩ := hz
  obtain ⟨ae, ce, rfl, -, -⟩ := h1.open
  obtain ⟨an, cn, rfl, -, -⟩ := h2.open
  obtain ⟨aa, ca, rfl, -, -⟩ := h3.open
  have hE : ∀ a b c d, Ext w ((((w.alloc a).alloc b).alloc c).alloc d) := fun _ _ _ _ => (((Ext.alloc _ _).trans (Ext.alloc _ _)).trans (Ext.alloc _ _)).trans (Ext.alloc _ _)
  go_enter Tryz.func263, Tryz.ntmps263
  go_wp2_with fail
  refine (InterfaceOf_s _ _ _ S A O _ ⟨_, rfl, h1.mono (hE _ _ _ _)⟩ ⟨_, _, rfl, h2.mono (hE _ _ _ _), h3.mono (hE _ _ _ _)⟩ ⟨_, rfl, h4.mono (hE _ _ _ _)⟩).mono ?_
  rintro e w1 ⟨rfl, he1⟩
  have b0 := he1.peel.peel.peel.blk
  have b1 := he1.peel.peel.blk1
  have b3 := he1.blk3
  have hw := he1.peel.peel.peel.peel
  clear hE he1
  by_cases hneg : interfaceOf S A O < 0
  · have rc0 := b3.cell 0 rfl; have rf0 := b3.fr 0; have rc1 := b3.cell 1 rfl; have rf1 := b3.fr 1; have rc2 := b3.cell 2 rfl; have rf2 := b3.fr 2; have rc3 := b3.cell 3 rfl; have rf3 := b3.fr 3; have rc4 := b3.cell 4 rfl; have rf4 := b3.fr 4; have rc5 := b3.cell 5 rfl; have rf5 := b3.fr 5; have rc6 := b3.cell 6 rfl; have rf6 := b3.fr 6
    go_wp2_with fail
    refine bodyPost_ret (v := .tuple #[.agg #[.int .i64 0, .int .i64 0, .slice none 0 0, .int .i64 0, .slice none 0 0, .slice none 0 0, .int .i64 0], .bool false]) (by simp [results, Tryz.results263, go_sem, rc0, rc1, rc2, rc3, rc4, rc5, rc6, rf0, rf1, rf2, rf3, rf4, rf5, rf6]) rfl ?_
    have e1 : decide (0 ≤ interfaceOf S A O) = false := by simp; omega
    have e2 : taskOf S A O = zeroTask := by unfold taskOf; rw [if_pos hneg]
    unfold TaskOfEnd
    rw [e1, e2]
    exact ⟨_, rfl, (((((((hw.setCell (p := ⟨(w.heap.size + 1 + 1 + 1), 0, none⟩) (by simp only []; omega) _).setCell (p := ⟨(w.heap.size + 1 + 1 + 1), 1, none⟩) (by simp only []; omega) _).setCell (p := ⟨(w.heap.size + 1 + 1 + 1), 2, none⟩) (by simp only []; omega) _).setCell (p := ⟨(w.heap.size + 1 + 1 + 1), 3, none⟩) (by simp only []; omega) _).setCell (p := ⟨(w.heap.size + 1 + 1 + 1), 4, none⟩) (by simp only []; omega) _).setCell (p := ⟨(w.heap.size + 1 + 1 + 1), 5, none⟩) (by simp only []; omega) _).setCell (p := ⟨(w.heap.size + 1 + 1 + 1), 6, none⟩) (by simp only []; omega) _), _, _, _, rfl, EdgesOwn.nil _ _ _, ⟨[], World.ownsRow_nil _ _ _ _, RowsAre.nil _ _ _, fun j x hx => by simp at hx⟩, BoolsOwn.nil _ _ _⟩
  · have e1 : decide (0 ≤ interfaceOf S A O) = true := by simp; omega
    have e2 : taskOf S A O = ⟨S, A, interfaceOf S A O⟩ := by unfold taskOf; rw [if_neg hneg]
    obtain ⟨vS, vA, -⟩ := interface_valid hneg
    have hal := valid_alpha' vS
    have fA : A.next.length ≤ 12 ∧ A.accept.length ≤ 12 := by have := autoValid_facts vA; omega
    have hin := edges_bound vS
    have hrl : ∀ r ∈ A.next, r.length ≤ 1048576 := fun r hr => by
      obtain ⟨q, hq⟩ := List.getElem?_of_mem hr
      obtain ⟨row, h5, h6, -⟩ := autoValid_row vA (List.getElem?_eq_some_iff.1 hq).1
      rw [hq] at h5; cases h5
      rw [h6]; have := lettersTo_len A.alphabet 6; unfold nletters letters; omega
    obtain ⟨al, st, es⟩ := S
    simp only at hal hin h1 hes b0 ⊢
    obtain ⟨ns, hns⟩ := Int.eq_ofNat_of_zero_le (show 0 ≤ st by omega)
    subst hns
    have hns16 : ns ≤ 16 := by omega
    obtain ⟨B, hB⟩ : ∃ B : Int, B = ((2 ^ ns : Nat) : Int) := ⟨_, rfl⟩
    obtain ⟨fs, hfs⟩ : ∃ fs : Int, fs = fullSet ns := ⟨_, rfl⟩
    have hB1 : 1 ≤ B ∧ B ≤ 65536 := by
      have g1 : 2 ^ ns ≤ 2 ^ 16 := Nat.pow_le_pow_right (by omega) hns16
      have g2 : 0 < 2 ^ ns := Nat.two_pow_pos ns
      omega
    have hBf : B - 1 = fs := by rw [hB, hfs]; rfl
    have HB := Lib.hid hB
    have HFS := Lib.hid hfs
    have HE1 := Lib.hid h1
    obtain ⟨hB1, hB2⟩ := hB1
    have hwf : IntKind.i64.wrap fs = fs := IntWalk.i64_in _ (by omega)
    clear hB hfs
    have D0 := fun d os => cell_regrown (b0.cell 0 rfl) d os
    have D1 := fun d os => cell_regrown (b0.cell 1 rfl) d os
    have D2 := fun d os => cell_regrown (b0.cell 2 rfl) d os
    have E0 := fun d os => cell_regrown (b1.cell 0 rfl) d os
    have E1 := fun d os => cell_regrown (b1.cell 1 rfl) d os
    have E2 := fun d os => cell_regrown (b1.cell 2 rfl) d os
    go_wp2_with fail
    obtain ⟨Kc, HKc⟩ : ∃ Kc : FuncId → Array Value → World → Value → World → Prop, Hid (Kc = fun (f : FuncId) (_ : Array Value) (w0 : World) (v : Value) (w' : World) => Ext w0 w' ∧ (f = 267 → v = .int .i64 B) ∧ (f = 304 → SysOwn w0.heap.size w' v ⟨al, ns, es⟩) ∧ (f = 137 → AutoOwn w0.heap.size w' v A)) := ⟨_, rfl⟩
    refine wp_region_ext (Kc := Kc) 10 (by kernel_rfl) (by kernel_rfl) ?_
    simp only [List.take_succ_cons, List.take_zero]
    repeat (refine WalkE.pure rfl (fun K hK => ?_); simp only [PureDo]; go_simp; refine hK _ ?_; clear hK K)
    refine WalkE.step (fun K hK wc hwc hdc => ?_)
    simp only [OpDo, OpSafe, OpOut]
    go_simp
    refine ⟨(l1Bit_c ns _ hns16).mono ?_, ?_⟩
    · rintro e w' ⟨rfl, rfl⟩
      exact ⟨_, rfl, by rw [HKc.out]; exact ⟨Ext.refl _, fun _ => by rw [HB.out], fun h => absurd h (by decide), fun h => absurd h (by decide)⟩⟩
    intro u4 w4 hk
    rw [HKc.out] at hk
    obtain ⟨hk1, hk2, -, -⟩ := hk
    obtain rfl := hk2 rfl
    refine ⟨hk1, hK _ _ ?_⟩
    clear hK K hdc hk1
    repeat (refine WalkE.pure rfl (fun K hK => ?_); simp only [PureDo]; go_simp; refine hK _ ?_; clear hK K)
    refine WalkE.step (fun K hK we hwe hde => ?_)
    simp only [OpDo, OpSafe, OpOut]
    go_simp
    have hC := l2Keep_c (.agg #[.int .i64 al, .int .i64 ns, .slice ae es.length ce]) al ns es we ⟨_, rfl, HE1.out.mono (hw.trans ((Ext.drew _).trans hwe))⟩ hns16 hes hin
    rw [← HFS.out] at hC
    refine ⟨hC.mono ?_, ?_⟩
    · rintro e w' ⟨v, rfl, he, hv⟩
      exact ⟨v, rfl, by rw [HKc.out]; exact ⟨he, fun h => absurd h (by decide), fun _ => hv, fun h => absurd h (by decide)⟩⟩
    intro u5 w5 hk
    rw [HKc.out] at hk
    clear hC
    obtain ⟨hk5, -, hk6, -⟩ := hk
    obtain ⟨vE5, rfl, oE⟩ := hk6 rfl
    obtain ⟨a5, c5, rfl⟩ := oE.shape
    refine ⟨hk5, hK _ _ ?_⟩
    clear hK K hde
    repeat (refine WalkE.pure rfl (fun K hK => ?_); simp only [PureDo]; go_simp; refine hK _ ?_; clear hK K)
    refine WalkE.step (fun K hK wg hwg hdg => ?_)
    simp only [OpDo, OpSafe, OpOut]
    go_simp
    have hC := l3Copy_s (.agg #[.int .i64 A.alphabet, .slice an A.next.length cn, .slice aa A.accept.length ca]) A wg ⟨_, _, rfl, h2.mono (hw.trans ((Ext.drew _).trans hwg)), h3.mono (hw.trans ((Ext.drew _).trans hwg))⟩ (by omega) (by omega) hrl
    refine ⟨hC.mono ?_, ?_⟩
    · rintro e w' ⟨v, rfl, he, hv⟩
      exact ⟨v, rfl, by rw [HKc.out]; exact ⟨he, fun h => absurd h (by decide), fun h => absurd h (by decide), fun _ => hv⟩⟩
    intro u7 w7 hk
    rw [HKc.out] at hk
    clear hC
    obtain ⟨hk7, -, -, hk8⟩ := hk
    obtain ⟨vn', va', rfl, o1, o2⟩ := hk8 rfl
    obtain ⟨an', cn', rfl⟩ := o1.shape
    obtain ⟨aa', ca', rfl⟩ := o2.shape
    refine ⟨hk7, hK _ _ ?_⟩
    clear hK K hdg
    repeat (refine WalkE.pure rfl (fun K hK => ?_); simp only [PureDo]; go_simp; refine hK _ ?_; clear hK K)
    refine WalkE.nil (fun wn hwn hmn => ?_)
    simp only [List.drop_succ_cons, List.drop_zero, List.drop_nil]
    have hx : Ext w1 wn := (Ext.drew _).trans hwn
    have hbe : w.heap.size ≤ we.heap.size := Nat.le_trans hw.size (Nat.le_trans (Ext.drew w1).size hwe.size)
    have hbg : w.heap.size ≤ wg.heap.size := Nat.le_trans hw.size (Nat.le_trans (Ext.drew w1).size hwg.size)
    have q0 := (own_ext oE.own (hmn 5 (by omega)))
    have q4 := own_base q0 hbe
    have q1 := (o1.ext (hmn 7 (by omega)))
    have q2 := (o2.ext (hmn 7 (by omega))).low hbg
    have q3 := b3.ext hx
    have q5 := hw.trans hx
    have q6 : IntssOwn 96 3 w.heap.size wn (.slice an' A.next.length cn') A.next := let ⟨vs, r1, r2, r3⟩ := q1; ⟨vs, own_base r1 hbg, ⟨r2.len, fun j x l hx hl => (r2.row j x l hx hl).low hbg, r2.apart⟩, r3⟩
    clear hmn hwn hwc hwe hwg o1 o2 oE hk5 hk7 HKc D0 D1 D2 E0 E1 E2 q1 q0
    have rc0 := q3.cell 0 rfl; have rf0 := q3.fr 0; have rc1 := q3.cell 1 rfl; have rf1 := q3.fr 1; have rc2 := q3.cell 2 rfl; have rf2 := q3.fr 2; have rc3 := q3.cell 3 rfl; have rf3 := q3.fr 3; have rc4 := q3.cell 4 rfl; have rf4 := q3.fr 4; have rc5 := q3.cell 5 rfl; have rf5 := q3.fr 5; have rc6 := q3.cell 6 rfl; have rf6 := q3.fr 6
    go_wp2_with fail
    refine bodyPost_ret (v := .tuple #[.agg #[.int .i64 al, .int .i64 ns, .slice a5 es.length c5, .int .i64 A.alphabet, .slice an' A.next.length cn', .slice aa' A.accept.length ca', .int .i64 (interfaceOf ⟨al, ns, es⟩ A O)], .bool true]) (by simp [results, Tryz.results263, go_sem, rc0, rc1, rc2, rc3, rc4, rc5, rc6, rf0, rf1, rf2, rf3, rf4, rf5, rf6]) rfl ?_
    unfold TaskOfEnd
    rw [e1, e2]
    exact ⟨_, rfl, (((((((q5.setCell (p := ⟨(w.heap.size + 1 + 1 + 1), 0, none⟩) (by simp only []; omega) _).setCell (p := ⟨(w.heap.size + 1 + 1 + 1), 1, none⟩) (by simp only []; omega) _).setCell (p := ⟨(w.heap.size + 1 + 1 + 1), 2, none⟩) (by simp only []; omega) _).setCell (p := ⟨(w.heap.size + 1 + 1 + 1), 3, none⟩) (by simp only []; omega) _).setCell (p := ⟨(w.heap.size + 1 + 1 + 1), 4, none⟩) (by simp only []; omega) _).setCell (p := ⟨(w.heap.size + 1 + 1 + 1), 5, none⟩) (by simp only []; omega) _).setCell (p := ⟨(w.heap.size + 1 + 1 + 1), 6, none⟩) (by simp only []; omega) _), _, _, _, rfl, (own_store (own_store (own_store (own_store (own_store (own_store (own_store q4 q3 (by decide) 0 _) (q3.set 0 _) (by decide) 1 _) ((q3.set 0 _).set 1 _) (by decide) 2 _) (((q3.set 0 _).set 1 _).set 2 _) (by decide) 3 _) ((((q3.set 0 _).set 1 _).set 2 _).set 3 _) (by decide) 4 _) (((((q3.set 0 _).set 1 _).set 2 _).set 3 _).set 4 _) (by decide) 5 _) ((((((q3.set 0 _).set 1 _).set 2 _).set 3 _).set 4 _).set 5 _) (by decide) 6 _), (intss_store (intss_store (intss_store (intss_store (intss_store (intss_store (intss_store q6 q3 (by decide) (by decide) 0 _) (q3.set 0 _) (by decide) (by decide) 1 _) ((q3.set 0 _).set 1 _) (by decide) (by decide) 2 _) (((q3.set 0 _).set 1 _).set 2 _) (by decide) (by decide) 3 _) ((((q3.set 0 _).set 1 _).set 2 _).set 3 _) (by decide) (by decide) 4 _) (((((q3.set 0 _).set 1 _).set 2 _).set 3 _).set 4 _) (by decide) (by decide) 5 _) ((((((q3.set 0 _).set 1 _).set 2 _).set 3 _).set 4 _).set 5 _) (by decide) (by decide) 6 _), (own_store (own_store (own_store (own_store (own_store (own_store (own_store q2.own q3 (by decide) 0 _) (q3.set 0 _) (by decide) 1 _) ((q3.set 0 _).set 1 _) (by decide) 2 _) (((q3.set 0 _).set 1 _).set 2 _) (by decide) 3 _) ((((q3.set 0 _).set 1 _).set 2 _).set 3 _) (by decide) 4 _) (((((q3.set 0 _).set 1 _).set 2 _).set 3 _).set 4 _) (by decide) 5 _) ((((((q3.set 0 _).set 1 _).set 2 _).set 3 _).set 4 _).set 5 _) (by decide) 6 _)⟩
end Go.Proofs.YtadplnbadfnlfaaGreatDoor

namespace Go.Proofs.YtadplnbadfnlfaaGreatDoor
set_option linter.unusedSimpArgs false
set_option linter.unusedVariables false
open Go.RowKit
set_option maxHeartbeats 1000000
set_option maxRecDepth 100000

end Go.Proofs.YtadplnbadfnlfaaGreatDoor
