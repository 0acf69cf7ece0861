/- Part of this seat's proofs, cut to what its law needs. -/

import Derived.Test.YtanekmfifmkbmaaGreatDoorOpq
import Derived.Test.YtanekmfifmkbmaaGreatDoorTabL
import Derived.Test.YtanekmfifmkbmaaGreatDoorWalkR
import Derived.Test.YtanekmfifmkbmaaGreatDoorRegion
namespace Go.Proofs.YtanekmfifmkbmaaGreatDoor
set_option linter.unusedSimpArgs false
set_option linter.unusedVariables false
open Go Go.RowKit
set_option maxHeartbeats 4000000
set_option maxRecDepth 100000

section
variable {P : Program}
theorem opDo_run {ops : Array Oper} {Kc : FuncId → Array Value → World → Value → World → Prop} {R : World → World → Prop} {o : Oper} {a : Act} {K : Value → World → Prop} {v : Value} {w w' : World} (hgd : o.guard = none)
    (hr : (execOp a.eval o).run P w = .ok (.value v) w') (hR : R w w') (hK : K v w') : OpDo P ops Kc R o a w K := by
  have hw : Region.wanted o (yielded ops a.tmps) = true := by simp [Region.wanted, hgd]
  refine ⟨fun _ => by rw [hr]; trivial, fun v' w'' ho => ?_⟩
  unfold OpOut at ho
  rw [if_pos hw, hr] at ho
  obtain ⟨rfl, rfl⟩ := ho
  exact ⟨hR, hK⟩
theorem copy_new {ops : Array Oper} {Kc : FuncId → Array Value → World → Value → World → Prop} {o : Oper} {a : Act} {K : Value → World → Prop} {s x : Operand} {t e : TypeId} {size bytes b m c : Nat} {z : Value} {ao : Option Addr} {news : List Value} {w : World} (hgd : o.guard = none)
    (ho : o.op = .call { callee := .builtin .append, args := #[s, x], argTypes := #[t, t] }) (ht : P.underlying t = some (.slice e)) (hinfo : (P.info? e).map (fun i => (i.zero, i.size, i.bytes)) = some (some z, size, bytes)) (hzs : z.cells.size = size) (hsz : 0 < size)
    (hlit : Blk w b #[] e) (hev : a.eval s = .slice (some ⟨b, 0, none⟩) 0 0) (hx : a.eval x = .slice ao m c) (hmc : m ≤ c) (hl : news.length = m * size) (hnews : 0 < m → ∃ ad, ao = some ad ∧ ∀ j u, news[j]? = some u → w.cell? (ad.add j) = some u)
    (hm : 0 < m) (hnm : m ≤ 4294967296) (hby : bytes ≤ 1024)
    (hQ : ∀ v' w', Ext w w' → w'.ownsRow w.heap.size e size v' m news → K v' w') : OpDo P ops Kc Ext o a w K := by
  obtain ⟨i, hi, hz, rfl, rfl⟩ := info_parts hinfo
  obtain ⟨ad, rfl, hc'⟩ := hnews (by omega)
  have hr := run_append_grow (P := P) w t o.type e i z ht hi hz ⟨b, 0, none⟩ 0 0 [] (by simp) (fun j v h => by simp at h) ad m c news hl hc' (by omega) (by omega) (growslice_fits (by omega) (by rw [Nat.zero_add]; have := Nat.mul_le_mul hnm hby; omega))
  simp only [Nat.zero_add, List.nil_append, Array.empty_append] at hr
  have he : Ext w (w.drew.alloc (.cells (news.toArray ++ Builtin.zeroCells z.cells (grownCap w m 0 e - m)) e)) := (Ext.drew w).trans (Ext.alloc _ _)
  have hge := grownCap_ge w m 0 e
  have hcm' : grownCap w m 0 e ≤ maxLen := grownCap_le_maxLen w m 0 e (by unfold maxLen; omega)
  refine opDo_run hgd ?_ he (hQ _ _ he ⟨hl, .inr ⟨w.heap.size, grownCap w m 0 e, _, rfl, Nat.le_refl _, heap_alloc_new w.drew _, hge, hcm', ?_, ?_⟩⟩)
  · unfold execOp
    simp only [ho, resolve, invoke, builtin, Sem.run_bind, Sem.run_pure, Result.andThen_ok, List.map_toArray, List.map_cons, List.map_nil, hev, hx]
    rw [hr]
    rfl
  · simp only [Array.size_append, List.size_toArray, size_zeroCells, hzs, hl, ← Nat.add_mul]
    congr 1; omega
  · rw [Array.toList_append, List.take_append_of_le_length (by simp [hl]), List.take_of_length_le (by simp [hl])]
end
theorem StrsV.cells {w : World} {ad : Addr} {n c : Nat} {l : List ByteArray} (h : StrsV w (.slice (some ad) n c) l) : ∀ j u, (l.map Value.string)[j]? = some u → w.cell? (ad.add j) = some u := fun j u hu => by
  obtain ⟨a, c', he, -, h2⟩ := SlV.open h
  cases he
  rw [List.getElem?_map] at hu
  obtain ⟨x, hx, rfl⟩ := Option.map_eq_some_iff.1 hu
  obtain ⟨b, off, he, -, hc⟩ := h2 _ x hx
  cases he
  have := hc _ x hx
  unfold StrAt' at this
  rw [Nat.mul_one] at this
  rw [add_none]
  exact this
theorem StrsV.some {w : World} {a : Option Addr} {n c : Nat} {l : List ByteArray} (h : StrsV w (.slice a n c) l) (hn : 0 < l.length) : ∃ ad, a = some ad := by
  obtain ⟨a', c', he, -, h2⟩ := SlV.open h
  cases he
  obtain ⟨x, hx⟩ : ∃ x, l[0]? = .some x := ⟨_, List.getElem?_eq_getElem hn⟩
  obtain ⟨b, off, he, -⟩ := h2 _ x hx
  exact ⟨_, he⟩

abbrev slT (v : Value) (l : List ByteArray) : Slc := ⟨9, 1, v, l.length, l.map Value.string⟩
def TabO (base : Nat) (w : World) (v : Value) (t : Table) : Prop := ∃ vr vc, v = .agg #[vr, vc] ∧ Pool base w [slT vr t.rows, slT vc t.cols]
theorem TabO.tab {base : Nat} {w : World} {v : Value} {t : Table} (h : TabO base w v t) : TableV w v t :=
  let ⟨a, b, e, h⟩ := h
  ⟨a, b, e, StrsOwn.strs (base := base) (h.own (slT a t.rows) (by simp)), StrsOwn.strs (base := base) (h.own (slT b t.cols) (by simp))⟩
def TabEnd (o : Option Table) (w : World) (e : Ending) (w' : World) : Prop := Ext w w' ∧ ((o = none ∧ e = .returned (.tuple #[.agg #[.slice none 0 0, .slice none 0 0], .bool false])) ∨ ∃ T v', o = some T ∧ e = .returned (.tuple #[v', .bool true]) ∧ TabO w.heap.size w' v' T)
noncomputable def closeO (t : Teacher) (tab : Table) : Option Table := if validT (askTeacher t) (teacherAlphabet t) tab = true then closedT (askTeacher t) (teacherAlphabet t) tab else none
def roomT (w : World) (g : Nat) : Nat := match w.cell? ⟨g, 0, none⟩ with | some (.slice _ n _) => 13 - n | _ => 0

theorem CloseTable_s (v : Value) (t : Teacher) (vb : Value) (tab : Table) (w : World) (hT : TeacherV w v t) (hv : TableV w vb tab) (hf : TabFit tab) (hel : t.task.sys.edges.length ≤ 1048576) :
    Calls Tryz.prog 50 #[v, vb] w (TabEnd (closeO t tab) w) := by
  obtain ⟨va, hva⟩ : ∃ va, validT (askTeacher t) (teacherAlphabet t) tab = va := ⟨_, rfl⟩
  have HVA := Lib.hid hva
  obtain ⟨o, ho⟩ : ∃ o, closeO t tab = o := ⟨_, rfl⟩
  have HR : Hid (o = if va = true then closedT (askTeacher t) (teacherAlphabet t) tab else none) := Lib.hid (by rw [← ho]; unfold closeO; rw [hva])
  rw [ho]
  clear ho
  obtain ⟨ax1, ax2, ax3, ax4, ax5, rfl, ah1, ah2, ah3, ah4, ah5⟩ := hT
  obtain ⟨aa1, ac1, rfl, -, -⟩ := ah1.open
  obtain ⟨aa2, ac2, rfl, -, -⟩ := ah2.open
  obtain ⟨aa3, ac3, rfl, -, -⟩ := ah3.open
  obtain ⟨aa4, ac4, rfl, -, -⟩ := ah4.open
  obtain ⟨aa5, ac5, rfl, -, -⟩ := ah5.open
  have HT := Lib.hid (show ∀ w', Ext w w' → TeacherV w' (.agg #[.bool t.known, .int .i64 t.target.alphabet, .slice aa1 t.target.next.length ac1, .slice aa2 t.target.accept.length ac2, .int .i64 t.task.sys.alphabet, .int .i64 t.task.sys.states, .slice aa3 t.task.sys.edges.length ac3, .int .i64 t.task.prop.alphabet, .slice aa4 t.task.prop.next.length ac4, .slice aa5 t.task.prop.accept.length ac5, .int .i64 t.task.alphabet]) t from fun w' h => ⟨_, _, _, _, _, rfl, ah1.mono h, ah2.mono h, ah3.mono h, ah4.mono h, ah5.mono h⟩)
  clear ah1 ah2 ah3 ah4 ah5
  obtain ⟨vr, vc, rfl, hR, hC⟩ := hv
  obtain ⟨aR, cR, rfl, -, -⟩ := SlV.open hR
  obtain ⟨aC, cC, rfl, -, -⟩ := SlV.open hC
  have hcapR := hR.cap
  have hcapC := hC.cap
  have HTB := Lib.hid (show ∀ w', Ext w w' → TableV w' (.agg #[.slice aR tab.rows.length cR, .slice aC tab.cols.length cC]) tab from fun w' h => ⟨_, _, rfl, hR.mono h, hC.mono h⟩)
  have HRV := Lib.hid (show ∀ w', Ext w w' → StrsV w' (.slice aR tab.rows.length cR) tab.rows from fun w' h => hR.mono h)
  have HCV := Lib.hid (show ∀ w', Ext w w' → StrsV w' (.slice aC tab.cols.length cC) tab.cols from fun w' h => hC.mono h)
  clear hR hC
  obtain ⟨w0, hw0⟩ : ∃ w0, w0 = ((w.alloc (.cells #[.bool t.known, .int .i64 t.target.alphabet, .slice aa1 t.target.next.length ac1, .slice aa2 t.target.accept.length ac2, .int .i64 t.task.sys.alphabet, .int .i64 t.task.sys.states, .slice aa3 t.task.sys.edges.length ac3, .int .i64 t.task.prop.alphabet, .slice aa4 t.task.prop.next.length ac4, .slice aa5 t.task.prop.accept.length ac5, .int .i64 t.task.alphabet] 59)).alloc (.cells #[.slice aR tab.rows.length cR, .slice aC tab.cols.length cC] 53)).alloc (.cells #[.slice none 0 0, .slice none 0 0] 53) := ⟨_, rfl⟩
  have he : Ext w w0 := by rw [hw0]; exact ((Ext.alloc _ _).trans (Ext.alloc _ _)).trans (Ext.alloc _ _)
  have b2 : Blk w0 w.heap.size #[.bool t.known, .int .i64 t.target.alphabet, .slice aa1 t.target.next.length ac1, .slice aa2 t.target.accept.length ac2, .int .i64 t.task.sys.alphabet, .int .i64 t.task.sys.states, .slice aa3 t.task.sys.edges.length ac3, .int .i64 t.task.prop.alphabet, .slice aa4 t.task.prop.next.length ac4, .slice aa5 t.task.prop.accept.length ac5, .int .i64 t.task.alphabet] 59 := by rw [hw0]; exact Ext.blk ((Ext.alloc _ _).trans (Ext.alloc _ _))
  have b3 : Blk w0 (w.heap.size + 1) #[.slice aR tab.rows.length cR, .slice aC tab.cols.length cC] 53 := by rw [hw0]; exact Ext.blk1 (Ext.alloc _ _)
  have b4 : Blk w0 (w.heap.size + 1 + 1) #[.slice none 0 0, .slice none 0 0] 53 := by rw [hw0]; exact Ext.blk2 (Ext.refl _)
  have CV := Lib.hid (show ∀ w', Ext w w' → Calls Tryz.prog 98 #[.agg #[.bool t.known, .int .i64 t.target.alphabet, .slice aa1 t.target.next.length ac1, .slice aa2 t.target.accept.length ac2, .int .i64 t.task.sys.alphabet, .int .i64 t.task.sys.states, .slice aa3 t.task.sys.edges.length ac3, .int .i64 t.task.prop.alphabet, .slice aa4 t.task.prop.next.length ac4, .slice aa5 t.task.prop.accept.length ac5, .int .i64 t.task.alphabet], .agg #[.slice aR tab.rows.length cR, .slice aC tab.cols.length cC]] w' (Grows (.bool va) w') from fun w' h => by have := TableValid_s _ t _ tab w' (HT.out _ h) (HTB.out _ h) hf hel; rwa [hva] at this)
  clear hva
  go_enter Tryz.func50, Tryz.ntmps50
  go_upto_region 1 with fail
  rw [← hw0]
  clear hw0
  have b2_0 := b2.cell 0 rfl; have b2_1 := b2.cell 1 rfl; have b2_2 := b2.cell 2 rfl; have b2_3 := b2.cell 3 rfl; have b2_4 := b2.cell 4 rfl; have b2_5 := b2.cell 5 rfl; have b2_6 := b2.cell 6 rfl; have b2_7 := b2.cell 7 rfl; have b2_8 := b2.cell 8 rfl; have b2_9 := b2.cell 9 rfl; have b2_10 := b2.cell 10 rfl; have b3_0 := b3.cell 0 rfl; have b3_1 := b3.cell 1 rfl
  go_wp2_with fail
  refine (CV.out _ he).mono ?_
  rintro e w1 ⟨rfl, he1⟩
  clear b2_0 b2_1 b2_2 b2_3 b2_4 b2_5 b2_6 b2_7 b2_8 b2_9 b2_10 b3_0 b3_1
  replace he := he.trans he1
  replace b2 := b2.ext he1
  replace b3 := b3.ext he1
  replace b4 := b4.ext he1
  clear he1
  cases va with
  | false =>
    obtain rfl : o = none := by rw [HR.out]; rfl
    have rc0 := b4.cell 0 rfl; have rf0 := b4.fr 0; have rc1 := b4.cell 1 rfl; have rf1 := b4.fr 1
    go_wp2_with fail
    refine bodyPost_ret (v := .tuple #[.agg #[.slice none 0 0, .slice none 0 0], .bool false]) (by simp [results, Tryz.results50, go_sem, rc0, rc1, rf0, rf1]) rfl ?_
    exact ⟨((he.setCell (p := ⟨(w.heap.size + 1 + 1), 0, none⟩) (by simp only []; omega) _).setCell (p := ⟨(w.heap.size + 1 + 1), 1, none⟩) (by simp only []; omega) _), .inl ⟨rfl, rfl⟩⟩
  | true =>
    obtain ⟨hsh, hal⟩ := validT_facts HVA.out
    have HO : Hid (o = closedT (askTeacher t) (teacherAlphabet t) tab) := Lib.hid (by rw [HR.out]; rfl)
    have HG0 := Lib.hid (hsh.grown hal)
    have hr1 := hsh.r1
    have hc1 := hsh.c1
    have hr12 := hsh.r12
    have hc20 := hsh.c20
    obtain ⟨ar, rfl⟩ := (HRV.out w (Ext.refl _)).some (by omega)
    obtain ⟨ac, rfl⟩ := (HCV.out w (Ext.refl _)).some (by omega)
    clear hsh hal
    have E0 := fun d os => cell_regrown (b3.cell 0 rfl) d os; have E1 := fun d os => cell_regrown (b3.cell 1 rfl) d os
    go_upto_region 3 with fail
    obtain ⟨Kc, HKc⟩ : ∃ Kc : FuncId → Array Value → World → Value → World → Prop, Hid (Kc = fun _ _ _ _ _ => True) := ⟨_, rfl⟩
    refine wp_region_ext2 (Kc := Kc) 10 (fun i => i == 3 || i == 7) (by kernel_rfl) (by kernel_rfl) ?_
    simp only [List.take_succ_cons, List.take_zero]
    refine WalkE2.step (fun wd hwd hdd K hK => ?_)
    simp only [OpDo, OpSafe, OpOut]
    go_simp
    refine ⟨Ext.alloc _ _, hK _ _ ?_⟩
    clear hK K hdd
    repeat (refine WalkE2.pure rfl rfl (fun K hK => ?_); simp only [PureDo]; go_simp; refine hK _ ?_; clear hK K)
    refine WalkE2.step (fun we hwe hde K hK => ?_)
    have j4 : Ext (wd.alloc (.cells #[] 9)) we := hde _ (Array.mem_of_getElem? (i := 0) rfl) rfl
    have hx1 : Ext w we := he.trans ((Ext.drew _).trans hwe)
    refine copy_new (news := tab.rows.map Value.string) rfl rfl Tryz.underlying51 infoStrT rfl (by decide) ((Blk.new wd _ _).ext j4) rfl rfl hcapR (by simp) (fun h0 => ⟨_, rfl, (HRV.out _ hx1).cells⟩) (by omega) (by omega) (by decide) ?_
    intro v5 w5 he5 hown5
    refine hK _ _ ?_
    clear hK K hde
    obtain ⟨aR', cR', rfl⟩ := own_any' hown5
    refine WalkE2.step (fun wf hwf hdf K hK => ?_)
    simp only [OpDo, OpSafe, OpOut]
    go_simp
    refine ⟨Ext.alloc _ _, hK _ _ ?_⟩
    clear hK K hdf
    repeat (refine WalkE2.pure rfl rfl (fun K hK => ?_); simp only [PureDo]; go_simp; refine hK _ ?_; clear hK K)
    refine WalkE2.step (fun wg hwg hdg K hK => ?_)
    have j8 : Ext (wf.alloc (.cells #[] 9)) wg := hdg _ (Array.mem_of_getElem? (i := 0) rfl) rfl
    have hx2 : Ext w wg := he.trans ((Ext.drew _).trans hwg)
    refine copy_new (news := tab.cols.map Value.string) rfl rfl Tryz.underlying51 infoStrT rfl (by decide) ((Blk.new wf _ _).ext j8) rfl rfl hcapC (by simp) (fun h0 => ⟨_, rfl, (HCV.out _ hx2).cells⟩) (by omega) (by omega) (by decide) ?_
    intro v9 w9 he9 hown9
    refine hK _ _ ?_
    have j9 : Ext w5 wg := hdg _ (Array.mem_of_getElem? (i := 2) rfl) rfl
    clear hK K hdg
    obtain ⟨aC', cC', rfl⟩ := own_any' hown9
    repeat (refine WalkE2.pure rfl rfl (fun K hK => ?_); simp only [PureDo]; go_simp; refine hK _ ?_; clear hK K)
    refine WalkE2.step (fun wh hwh hdh K hK => ?_)
    simp only [OpDo, OpSafe, OpOut]
    go_simp
    refine ⟨Ext.alloc _ _, hK _ _ ?_⟩
    clear hK K hdh
    refine WalkE2.nil (fun wn hwn hmn htot => ?_)
    simp only [List.drop_succ_cons, List.drop_zero, List.drop_nil]
    have hszh : w.heap.size ≤ wh.heap.size := Nat.le_trans (Nat.le_trans he.size (Ext.drew _).size) hwh.size
    have hse : w.heap.size ≤ we.heap.size := hx1.size
    have hsg : w.heap.size ≤ wg.heap.size := hx2.size
    have hP : Pool w.heap.size wn [slT (.slice aR' tab.rows.length cR') tab.rows, slT (.slice aC' tab.cols.length cC') tab.cols] := by
      refine ⟨fun s hs => ?_, List.pairwise_cons.2 ⟨fun s hs k hk hk2 => ?_, List.pairwise_cons.2 ⟨fun s hs => (by cases hs), List.Pairwise.nil⟩⟩⟩
      · simp only [List.mem_cons, List.mem_nil_iff, or_false] at hs
        rcases hs with rfl | rfl
        · exact own_base (own_ext hown5 (hmn 3 (by omega))) hse
        · exact own_base (own_ext hown9 (hmn 7 (by omega))) hsg
      · simp only [List.mem_cons, List.mem_nil_iff, or_false] at hs
        subst hs
        have h1 := (own_lt hown5 hk).2
        have h2 := (own_lt hown9 hk2).1
        have h3 := j9.size
        omega
    have b6 := (Blk.new wh _ _).ext (hmn 9 (by omega))
    have hxn : Ext w1 wn := (Ext.drew _).trans hwn
    have hb4l := b4.lt
    have hwhs : w1.heap.size ≤ wh.heap.size := Nat.le_trans (Ext.drew _).size hwh.size
    replace he := he.trans hxn
    replace b2 := b2.ext hxn
    replace b4 := b4.ext hxn
    clear hmn htot HKc hwd hwe hwf hwg hwh hwn j4 j8 j9 hx1 hx2 he5 he9 hown5 hown9 hxn b3 hse hsg E0 E1
    generalize wh.heap.size = g at b6 hszh hwhs ⊢
    have gc0 := b6.cell 0 rfl; have gf0 := b6.fr 0; have gc1 := b6.cell 1 rfl; have gf1 := b6.fr 1
    go_upto_region 4 with fail
    have hnT : ∀ s ∈ [slT (.slice aR' tab.rows.length cR') tab.rows, slT (.slice aC' tab.cols.length cC') tab.cols], 53 ≠ s.e := by
      intro s hs
      simp only [List.mem_cons, List.mem_nil_iff, or_false] at hs
      rcases hs with rfl | rfl <;> exact (by decide : 53 ≠ 9)
    obtain ⟨w7, hw7⟩ : ∃ w7, w7 = (wn.setCell ⟨g, 0, none⟩ (.slice aR' tab.rows.length cR')).setCell ⟨g, 1, none⟩ (.slice aC' tab.cols.length cC') := ⟨_, rfl⟩
    have b67 : Blk w7 g #[.slice aR' tab.rows.length cR', .slice aC' tab.cols.length cC'] 53 := by rw [hw7]; exact (b6.set 0 _).set 1 _
    have hP7 : Pool w.heap.size w7 [slT (.slice aR' tab.rows.length cR') tab.rows, slT (.slice aC' tab.cols.length cC') tab.cols] := by rw [hw7]; exact (hP.set b6 hnT 0 _).set (b6.set 0 _) hnT 1 _
    have b27 : Blk w7 w.heap.size #[.bool t.known, .int .i64 t.target.alphabet, .slice aa1 t.target.next.length ac1, .slice aa2 t.target.accept.length ac2, .int .i64 t.task.sys.alphabet, .int .i64 t.task.sys.states, .slice aa3 t.task.sys.edges.length ac3, .int .i64 t.task.prop.alphabet, .slice aa4 t.task.prop.next.length ac4, .slice aa5 t.task.prop.accept.length ac5, .int .i64 t.task.alphabet] 59 := by rw [hw7]; exact (b2.other (p := ⟨g, 0, none⟩) (by simp only []; omega) _).other (p := ⟨g, 1, none⟩) (by simp only []; omega) _
    have b47 : Blk w7 (w.heap.size + 1 + 1) #[.slice none 0 0, .slice none 0 0] 53 := by rw [hw7]; exact (b4.other (p := ⟨g, 0, none⟩) (by simp only []; omega) _).other (p := ⟨g, 1, none⟩) (by simp only []; omega) _
    have he7 : Ext w w7 := by rw [hw7]; exact (he.setCell (p := ⟨g, 0, none⟩) (by simp only []; omega) _).setCell (p := ⟨g, 1, none⟩) (by simp only []; omega) _
    rw [← hw7]
    have hg4 : w.heap.size + 1 + 1 < g := by omega
    clear hw7 hP b2 b4 b6 he gc0 gc1 gf0 gf1 hnT hb4l hwhs
    clear wn
    have CO := Lib.hid (fun (T : Table) (hG : Grown (teacherAlphabet t) T) w' vT (h : Ext w w') (hV : TableV w' vT T) => l10Open_s (.agg #[.bool t.known, .int .i64 t.target.alphabet, .slice aa1 t.target.next.length ac1, .slice aa2 t.target.accept.length ac2, .int .i64 t.task.sys.alphabet, .int .i64 t.task.sys.states, .slice aa3 t.task.sys.edges.length ac3, .int .i64 t.task.prop.alphabet, .slice aa4 t.task.prop.next.length ac4, .slice aa5 t.task.prop.accept.length ac5, .int .i64 t.task.alphabet]) t vT T w' (HT.out _ h) hV (teacherAlphabet t) rfl hG hel)
    have b27_0 := b27.cell 0 rfl; have b27_1 := b27.cell 1 rfl; have b27_2 := b27.cell 2 rfl; have b27_3 := b27.cell 3 rfl; have b27_4 := b27.cell 4 rfl; have b27_5 := b27.cell 5 rfl; have b27_6 := b27.cell 6 rfl; have b27_7 := b27.cell 7 rfl; have b27_8 := b27.cell 8 rfl; have b27_9 := b27.cell 9 rfl; have b27_10 := b27.cell 10 rfl; have b67_0 := b67.cell 0 rfl; have b67_1 := b67.cell 1 rfl
    go_wp2_with fail
    refine (CO.out tab HG0.out w7 _ he7 (TabO.tab ⟨_, _, rfl, hP7⟩)).mono ?_
    rintro e w8 ⟨rfl, he8⟩
    clear b27_0 b27_1 b27_2 b27_3 b27_4 b27_5 b27_6 b27_7 b27_8 b27_9 b27_10 b67_0 b67_1
    have b28 := b27.ext he8
    have b48 := b47.ext he8
    have b68 := b67.ext he8
    have hP8 := hP7.ext he8
    have hx8 := he7.trans he8
    clear b27 b47 b67 hP7 he7 he8
    clear w7
    go_wp2_with fail
    go_loopw [7, 8] (fun v7 v8 wr => ∃ (rows : List ByteArray) (vR : Value) (oo : Option ByteArray) (q : ByteArray), v7 = .string q ∧ v8 = .bool oo.isSome ∧ rows.length ≤ 12 ∧ Hid (q = otext oo) ∧ Hid (Grown (teacherAlphabet t) ⟨rows, tab.cols⟩) ∧ Hid (openW (askTeacher t) (teacherAlphabet t) ⟨rows, tab.cols⟩ = oo) ∧ Hid (o = closedT (askTeacher t) (teacherAlphabet t) ⟨rows, tab.cols⟩) ∧ Blk wr g #[vR, .slice aC' tab.cols.length cC'] 53 ∧ Pool w.heap.size wr [slT vR rows, slT (.slice aC' tab.cols.length cC') tab.cols] ∧ Blk wr w.heap.size #[.bool t.known, .int .i64 t.target.alphabet, .slice aa1 t.target.next.length ac1, .slice aa2 t.target.accept.length ac2, .int .i64 t.task.sys.alphabet, .int .i64 t.task.sys.states, .slice aa3 t.task.sys.edges.length ac3, .int .i64 t.task.prop.alphabet, .slice aa4 t.task.prop.next.length ac4, .slice aa5 t.task.prop.accept.length ac5, .int .i64 t.task.alphabet] 59 ∧ Blk wr (w.heap.size + 1 + 1) #[.slice none 0 0, .slice none 0 0] 53 ∧ Ext w wr) (fun _ _ wr => roomT wr g)
    case atStart => exact ⟨tab.rows, _, _, _, rfl, rfl, hr12, Lib.hid rfl, HG0, Lib.hid rfl, HO, b68, hP8, b28, b48, hx8⟩
    case round =>
      clear b68 hP8 b28 b48 hx8
      obtain ⟨rows, vR, oo, q, rfl, rfl, hrl, HQ, HG, HOO, HOC, b6, hP, b2, b4, he⟩ := hrel
      obtain ⟨aR, cR, rfl⟩ := own_any' (Pool.hd hP)
      have hnT : ∀ s ∈ [slT (.slice aR rows.length cR) rows, slT (.slice aC' tab.cols.length cC') tab.cols], 53 ≠ s.e := by
        intro s hs
        simp only [List.mem_cons, List.mem_nil_iff, or_false] at hs
        rcases hs with rfl | rfl <;> exact (by decide : 53 ≠ 9)
      have c60 := b6.cell 0 rfl
      have c61 := b6.cell 1 rfl
      have hroom : roomT wr g = 13 - rows.length := by unfold roomT; rw [c60]; rfl
      cases oo with
      | none =>
        obtain rfl : o = some ⟨rows, tab.cols⟩ := by rw [HOC.out]; exact closedT_none hrl HOO.out
        have rc0 := b4.cell 0 rfl; have rf0 := b4.fr 0; have rc1 := b4.cell 1 rfl; have rf1 := b4.fr 1
        go_wp2_with fail
        refine bodyPost_ret (v := .tuple #[.agg #[.slice aR rows.length cR, .slice aC' tab.cols.length cC'], .bool true]) (by simp [results, Tryz.results50, go_sem, rc0, rc1, rf0, rf1]) rfl ?_
        exact ⟨((he.setCell (p := ⟨(w.heap.size + 1 + 1), 0, none⟩) (by simp only []; omega) _).setCell (p := ⟨(w.heap.size + 1 + 1), 1, none⟩) (by simp only []; omega) _), .inr ⟨_, _, rfl, rfl, _, _, rfl, (hP.set b4 hnT 0 _).set (b4.set 0 _) hnT 1 _⟩⟩
      | some s =>
        obtain rfl : q = s := HQ.out
        by_cases h12 : rows.length = 12
        · obtain rfl : o = none := by rw [HOC.out]; exact closedT_full h12 HOO.out
          have hi : ((rows.length : Int) == 12) = true := by rw [h12]; rfl
          have rc0 := b4.cell 0 rfl; have rf0 := b4.fr 0; have rc1 := b4.cell 1 rfl; have rf1 := b4.fr 1
          clear h12 hroom
          go_wp2_with fail
          refine bodyPost_ret (v := .tuple #[.agg #[.slice none 0 0, .slice none 0 0], .bool false]) (by simp [results, Tryz.results50, go_sem, rc0, rc1, rf0, rf1]) rfl ?_
          exact ⟨((he.setCell (p := ⟨(w.heap.size + 1 + 1), 0, none⟩) (by simp only []; omega) _).setCell (p := ⟨(w.heap.size + 1 + 1), 1, none⟩) (by simp only []; omega) _), .inl ⟨rfl, rfl⟩⟩
        · have h12' : rows.length < 12 := by omega
          have hi : ((rows.length : Int) == 12) = false := beq_eq_false_iff_ne.2 (by omega)
          have HG2 := Lib.hid (HG.out.push (f := askTeacher t) h12' HOO.out)
          have HOC2 := Lib.hid (HOC.out.trans (closedT_push h12' HOO.out))
          have hszr := he.size
          go_upto_region 9 with (at_builtin; refine appP (news := [.string q]) rfl rfl Tryz.underlying51 infoStrT rfl (by decide) hP rfl rfl rfl (by simp [Value.oneCell']) (by omega) (by decide) hszr ?_; intro v1 w9 hP1 hg1 hb1; obtain ⟨a1, c1, rfl⟩ := own_any' (Pool.hd hP1); have b61 := b6.grown (Pool.hd hP) hg1 (by decide); have k60 := b61.cell 0 rfl; have k6f := b61.fr 0)
          have hd := Pool.hd hP
          have hea0 := Below.trans he (hb1.mono (Nat.le_refl _))
          obtain ⟨wa, hwa⟩ : ∃ wa, wa = w9.setCell ⟨g, 0, none⟩ (.slice a1 (rows.length + 1) c1) := ⟨_, rfl⟩
          have e1 : (⟨9, 1, .slice a1 (rows.length + 1) c1, rows.length + 1, rows.map Value.string ++ [Value.string q]⟩ : Slc) = slT (.slice a1 (rows.length + 1) c1) (rows ++ [q]) := by simp [slT]
          have hPa : Pool w.heap.size wa [slT (.slice a1 (rows.length + 1) c1) (rows ++ [q]), slT (.slice aC' tab.cols.length cC') tab.cols] := by
            rw [hwa, ← e1]
            exact hP1.set b61 (fun s hs => by
              simp only [List.mem_cons, List.mem_nil_iff, or_false] at hs
              rcases hs with rfl | rfl <;> exact (by decide : 53 ≠ 9)) 0 _
          have b2a : Blk wa w.heap.size #[.bool t.known, .int .i64 t.target.alphabet, .slice aa1 t.target.next.length ac1, .slice aa2 t.target.accept.length ac2, .int .i64 t.task.sys.alphabet, .int .i64 t.task.sys.states, .slice aa3 t.task.sys.edges.length ac3, .int .i64 t.task.prop.alphabet, .slice aa4 t.task.prop.next.length ac4, .slice aa5 t.task.prop.accept.length ac5, .int .i64 t.task.alphabet] 59 := by rw [hwa]; exact (b2.grown hd hg1 (by decide)).other (p := ⟨g, 0, none⟩) (by simp only []; omega) _
          have b4a : Blk wa (w.heap.size + 1 + 1) #[.slice none 0 0, .slice none 0 0] 53 := by rw [hwa]; exact (b4.grown hd hg1 (by decide)).other (p := ⟨g, 0, none⟩) (by simp only []; omega) _
          have b6a : Blk wa g #[.slice a1 (rows.length + 1) c1, .slice aC' tab.cols.length cC'] 53 := by rw [hwa]; exact b61.set 0 _
          have hea : Ext w wa := by rw [hwa]; exact hea0.setCell (p := ⟨g, 0, none⟩) (by simp only []; omega) _
          rw [← hwa]
          clear hwa hP1 hg1 hb1 b61 k60 k6f b6 b2 b4 he hP hd e1 hea0 c60 c61 hnT
          clear w9
          have b2a_0 := b2a.cell 0 rfl; have b2a_1 := b2a.cell 1 rfl; have b2a_2 := b2a.cell 2 rfl; have b2a_3 := b2a.cell 3 rfl; have b2a_4 := b2a.cell 4 rfl; have b2a_5 := b2a.cell 5 rfl; have b2a_6 := b2a.cell 6 rfl; have b2a_7 := b2a.cell 7 rfl; have b2a_8 := b2a.cell 8 rfl; have b2a_9 := b2a.cell 9 rfl; have b2a_10 := b2a.cell 10 rfl; have b6a_0 := b6a.cell 0 rfl; have b6a_1 := b6a.cell 1 rfl
          go_wp2_with fail
          refine (CO.out ⟨rows ++ [q], tab.cols⟩ HG2.out wa _ hea (TabO.tab ⟨_, _, rfl, hPa⟩)).mono ?_
          rintro e wb ⟨rfl, heb⟩
          have hmeas : roomT wb g < 13 - rows.length := by
            unfold roomT
            rw [(b6a.ext heb).cell 0 rfl]
            show 13 - (rows.length + 1) < 13 - rows.length
            omega
          rw [← hroom] at hmeas
          clear b2a_0 b2a_1 b2a_2 b2a_3 b2a_4 b2a_5 b2a_6 b2a_7 b2a_8 b2a_9 b2a_10 b6a_0 b6a_1
          clear hroom
          go_wp2_with fail
          exact ⟨⟨rows ++ [q], _, _, _, rfl, rfl, by simp; omega, Lib.hid rfl, HG2, Lib.hid rfl, HOC2, b6a.ext heb, hPa.ext heb, b2a.ext heb, b4a.ext heb, hea.trans heb⟩, hmeas⟩
end Go.Proofs.YtanekmfifmkbmaaGreatDoor
