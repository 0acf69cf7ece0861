/- Part of this seat's proofs, cut to what its law needs. -/

import Derived.Test.YtadplnbadfnlfaaGreatDoorOrm
namespace Go.Proofs.YtadplnbadfnlfaaGreatDoor
set_option linter.unusedSimpArgs false
set_option linter.unusedVariables false
open Go Go.RowKit Go.Maps
set_option maxHeartbeats 4000000
set_option maxRecDepth 100000
attribute [local go_sem] run_store_nilFunc' run_store_func'

theorem validT_neg {f : ByteArray → Bool} {al : Int} {t : Table} (h : al < 0) : validT f al t = false := validT_shape (shapeB_not fun hs => absurd hs.alpha (by omega))
theorem ora_low {w w1 : World} {m lo : Nat} (he : Ext w w1) (hm : w.heap.size ≤ m) (hlo : w.heap.size ≤ lo) {w' : World} (h : Touch eK m lo w1 w') : Ext w w' :=
  Below.trans he (Tnd.below h he.size fun b hb => by rcases hb with rfl | ⟨hb, -⟩ <;> omega)

theorem RowOf_c (v : Value) (t : Teacher) (vb : Value) (tab : Table) (s : ByteArray) (w : World) (hT : TeacherV w v t) (hv : TableV w vb tab) (hf : TabFit tab) (hs : s.size ≤ 1048576) (hD : Deb w) :
    Calls Tryz.prog 23 #[v, vb, .string s] w (Grows (.string (rowOf t tab s)) w) := by
  have HDb := Lib.hid hD
  have HF := Lib.hid hf
  have HCW := Lib.hid (fun al vo w' => columnWord_c al vo s w' hs)
  clear hD hf
  obtain ⟨ro, hro⟩ : ∃ ro, rowOf t tab s = ro := ⟨_, rfl⟩
  have HRO := Lib.hid hro
  rw [hro]
  clear hro
  obtain ⟨ax1, ax2, ax3, ax4, ax5, rfl, ah1, ah2, ah3, ah4, ah5⟩ := hT
  obtain ⟨aa1, ac1, rfl, -, -⟩ := ah1.open
  obtain ⟨aa2, ac2, rfl, -, -⟩ := ah2.open
  obtain ⟨aa3, ac3, rfl, -, -⟩ := ah3.open
  obtain ⟨aa4, ac4, rfl, -, -⟩ := ah4.open
  obtain ⟨aa5, ac5, rfl, -, -⟩ := ah5.open
  have HT := Lib.hid (show ∀ w', Ext w w' → TeacherV w' (.agg #[.bool t.known, .int .i64 t.target.alphabet, .slice aa1 t.target.next.length ac1, .slice aa2 t.target.accept.length ac2, .int .i64 t.task.sys.alphabet, .int .i64 t.task.sys.states, .slice aa3 t.task.sys.edges.length ac3, .int .i64 t.task.prop.alphabet, .slice aa4 t.task.prop.next.length ac4, .slice aa5 t.task.prop.accept.length ac5, .int .i64 t.task.alphabet]) t from fun w' h => ⟨_, _, _, _, _, rfl, ah1.mono h, ah2.mono h, ah3.mono h, ah4.mono h, ah5.mono h⟩)
  clear ah1 ah2 ah3 ah4 ah5
  obtain ⟨vr, vc, rfl, hR, hC⟩ := hv
  obtain ⟨aR, cR, rfl, -, -⟩ := SlV.open hR
  obtain ⟨aC, cC, rfl, -, -⟩ := SlV.open hC
  have hcapR := hR.cap
  have hcapC := hC.cap
  have HTB := Lib.hid (show ∀ w', Ext w w' → TableV w' (.agg #[.slice aR tab.rows.length cR, .slice aC tab.cols.length cC]) tab from fun w' h => ⟨_, _, rfl, hR.mono h, hC.mono h⟩)
  have HRV := Lib.hid (show ∀ w', Ext w w' → StrsV w' (.slice aR tab.rows.length cR) tab.rows from fun w' h => hR.mono h)
  have HCV := Lib.hid (show ∀ w', Ext w w' → StrsV w' (.slice aC tab.cols.length cC) tab.cols from fun w' h => hC.mono h)
  clear hR hC
  obtain ⟨w0, hw0⟩ : ∃ w0, w0 = ((w.alloc (.cells #[.bool t.known, .int .i64 t.target.alphabet, .slice aa1 t.target.next.length ac1, .slice aa2 t.target.accept.length ac2, .int .i64 t.task.sys.alphabet, .int .i64 t.task.sys.states, .slice aa3 t.task.sys.edges.length ac3, .int .i64 t.task.prop.alphabet, .slice aa4 t.task.prop.next.length ac4, .slice aa5 t.task.prop.accept.length ac5, .int .i64 t.task.alphabet] 59)).alloc (.cells #[.slice aR tab.rows.length cR, .slice aC tab.cols.length cC] 61)) := ⟨_, rfl⟩
  have he : Ext w w0 := by rw [hw0]; exact (Ext.alloc _ _).trans (Ext.alloc _ _)
  have b2 : Blk w0 w.heap.size #[.bool t.known, .int .i64 t.target.alphabet, .slice aa1 t.target.next.length ac1, .slice aa2 t.target.accept.length ac2, .int .i64 t.task.sys.alphabet, .int .i64 t.task.sys.states, .slice aa3 t.task.sys.edges.length ac3, .int .i64 t.task.prop.alphabet, .slice aa4 t.task.prop.next.length ac4, .slice aa5 t.task.prop.accept.length ac5, .int .i64 t.task.alphabet] 59 := by rw [hw0]; exact Ext.blk (Ext.alloc _ _)
  have b3 : Blk w0 (w.heap.size + 1) #[.slice aR tab.rows.length cR, .slice aC tab.cols.length cC] 61 := by rw [hw0]; exact Ext.blk1 (Ext.refl _)
  go_enter Tryz.func23, Tryz.ntmps23
  go_upto_region 1 with fail
  rw [← hw0]
  clear hw0
  have CN := Lib.hid (newOracle_c _ t w0 (HT.out _ he) (HDb.out.ext he))
  have hsz0 := he.size
  have hb3l := b3.lt
  have b2_0 := b2.cell 0 rfl; have b2_1 := b2.cell 1 rfl; have b2_2 := b2.cell 2 rfl; have b2_3 := b2.cell 3 rfl; have b2_4 := b2.cell 4 rfl; have b2_5 := b2.cell 5 rfl; have b2_6 := b2.cell 6 rfl; have b2_7 := b2.cell 7 rfl; have b2_8 := b2.cell 8 rfl; have b2_9 := b2.cell 9 rfl; have b2_10 := b2.cell 10 rfl; have b3_0 := b3.cell 0 rfl; have b3_1 := b3.cell 1 rfl
  go_wp2_with fail
  refine CN.out.mono ?_
  clear b2_0 b2_1 b2_2 b2_3 b2_4 b2_5 b2_6 b2_7 b2_8 b2_9 b2_10 b3_0 b3_1
  rintro e w1 (⟨hneg, he1, rfl⟩ | ⟨hge, he1, m, lo, bs, vo, J, rfl, hO, hJ, hm, hlo, hbs⟩)
  · have hv0 : Hid (ro = ByteArray.mk #[]) := Lib.hid (by rw [← HRO.out]; unfold rowOf; rw [validT_neg hneg]; rfl)
    clear hneg
    go_wp2_with fail
    go_ret
    exact Grows.mk (by rw [hv0.out]; rfl) ((he.trans he1).trans (Ext.alloc _ _))
  · have HAL := Lib.hid (teacher_alpha hge)
    obtain ⟨al, hal⟩ : ∃ al, teacherAlphabet t = al := ⟨_, rfl⟩
    rw [hal] at hO HAL ⊢
    have hRO : ro = if (validT (askTeacher t) al tab && (wordIn s al && decide (s.size ≤ 4000))) = true then rowB (askTeacher t) tab.cols s else ByteArray.mk #[] := by rw [← HRO.out]; unfold rowOf; rw [hal]
    obtain ⟨va, hva⟩ : ∃ va, validT (askTeacher t) al tab = va := ⟨_, rfl⟩
    obtain ⟨wi, hwi⟩ : ∃ wi, (wordIn s al && decide (s.size ≤ 4000)) = wi := ⟨_, rfl⟩
    have HWI := Lib.hid hwi
    have HVA := Lib.hid hva
    rw [hva, hwi] at hRO
    have HCN := Lib.hid (HCW.out al vo)
    rw [hwi] at HCN
    have HR := Lib.hid hRO
    have HO := Lib.hid hO
    have hmlt := hO.mlt
    have hllt := hO.llt
    have b3' := b3.ext he1
    have hx1 := he.trans he1
    obtain ⟨w2, hw2⟩ : ∃ w2, w2 = w1.alloc (.cells #[.int .i64 al, vo] 126) := ⟨_, rfl⟩
    have he2 : Ext w1 w2 := by rw [hw2]; exact Ext.alloc _ _
    have b7 : Blk w2 w1.heap.size #[.int .i64 al, vo] 126 := by rw [hw2]; exact Blk.new _ _ _
    have hx2 := hx1.trans he2
    have b32 := b3'.ext he2
    have hJ2 := hO.ext hbs hJ he2
    have hbs2 : bs ≤ w2.heap.size := Nat.le_trans hbs he2.size
    have HLOW := Lib.hid (fun w' (h : Touch eK m lo w2 w') => ora_low hx2 (show w.heap.size ≤ m by omega) (show w.heap.size ≤ lo by omega) h)
    have HTV := Lib.hid (tableValid_c hO _ _ tab 0 w2 hJ2 (by omega) HAL.out HF.out (fun w' h => HRV.out w' (HLOW.out w' h)) (fun w' h => HCV.out w' (HLOW.out w' h)) hbs2)
    rw [hva] at HTV
    have HMK := Lib.hid (fun c w' (hc : c ≤ 3000000) (hJ : J c w') (hsz : bs ≤ w'.heap.size) (hA : Asks al tab.cols) (hw : wordIn s al = true) (h4 : s.size ≤ 4000) (ht : Touch eK m lo w2 w') => marks_c hO (.slice aR tab.rows.length cR) (.slice aC tab.cols.length cC) tab.cols s c w' hJ (by omega) hA hw h4 (fun w'' h => HCV.out w'' (HLOW.out w'' (ht.trans h))) hsz)
    clear hva hwi hRO hal hge hO b2 b3 b3' he he1 hJ
    rcases HO.out.fn with ⟨ff, p1, p2, rfl, -, -⟩ | ⟨ff, p1, rfl, -, -⟩
    all_goals
      go_upto_region 2 with fail
      rw [← hw2]
      clear hw2
      have b32_0 := b32.cell 0 rfl
      have b32_1 := b32.cell 1 rfl
      have b7_0 := b7.cell 0 rfl
      have b7_1 := b7.cell 1 rfl
      go_wp2_with fail
      refine HTV.out.mono ?_
      rintro e w3 ⟨rfl, ⟨c3, hc3, hJ3⟩, ht3⟩
      have b73 := ht3.blk b7 (by decide) (by omega)
      have b33 := ht3.blk b32 (by decide) (by omega)
      clear b32_0 b32_1 b7_0 b7_1 b7 b32
      have b7_0 := b73.cell 0 rfl
      have b7_1 := b73.cell 1 rfl
      cases va with
      | false =>
        go_wp2_with fail
        go_ret
        exact Grows.mk (by rw [HR.out]; rfl) (HLOW.out _ ht3)
      | true =>
        go_wp2_with fail
        refine (HCN.out w3).mono ?_
        rintro e w4 ⟨rfl, he4⟩
        have b74 := b73.ext he4
        have b34 := b33.ext he4
        clear b7_0 b7_1 b73 b33
        have b7_0 := b74.cell 0 rfl
        have b7_1 := b74.cell 1 rfl
        have b3_0 := b34.cell 0 rfl
        have b3_1 := b34.cell 1 rfl
        cases wi with
        | false =>
          go_wp2_with fail
          go_ret
          exact Grows.mk (by rw [HR.out]; rfl) (HLOW.out _ (ht3.trans (Touch.ext he4)))
        | true =>
          have hwi := HWI.out
          simp only [Bool.and_eq_true, decide_eq_true_eq] at hwi
          obtain ⟨hw1, hw2⟩ := hwi
          have hz3 := ht3.size
          have hz4 := he4.size
          have HMR := Lib.hid (HMK.out c3 w4 (by omega) (HO.out.ext (by omega) hJ3 he4) (by omega) ((validT_iff.1 HVA.out).1.asks HAL.out) hw1 hw2 (ht3.trans (Touch.ext he4)))
          clear hw1 hw2
          go_wp2_with fail
          refine HMR.out.mono ?_
          rintro e w5 ⟨rfl, -, ht5⟩
          go_wp2_with fail
          go_ret
          exact Grows.mk (by rw [HR.out]; rfl) (HLOW.out _ ((ht3.trans (Touch.ext he4)).trans ht5))
--CUT--
end Go.Proofs.YtadplnbadfnlfaaGreatDoor
