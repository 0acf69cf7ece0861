/- Part of this seat's proofs, cut to what its law needs. -/

import Derived.Test.YtadplnbadfnlfaaDoorOrr
namespace Go.Proofs.YtadplnbadfnlfaaDoor
set_option linter.unusedSimpArgs false
set_option linter.unusedVariables false
open Go Go.RowKit Go.Maps
set_option maxHeartbeats 4000000
set_option maxRecDepth 100000
attribute [local go_sem] run_store_nilFunc' run_store_func'

theorem TableValid_c (v : Value) (t : Teacher) (vb : Value) (tab : Table) (w : World) (hT : TeacherV w v t) (hv : TableV w vb tab) (hf : TabFit tab) (hD : Deb w) :
    Calls Tryd.prog 26 #[v, vb] w (Grows (.bool (validT (askTeacher t) (teacherAlphabet t) tab)) w) := by
  obtain ⟨ro, hro⟩ : ∃ ro, validT (askTeacher t) (teacherAlphabet t) tab = ro := ⟨_, rfl⟩
  have HRO := Lib.hid hro
  rw [hro]
  clear hro
  have HDb := Lib.hid hD
  have HF := Lib.hid hf
  clear hD hf
  obtain ⟨ax1, ax2, ax3, ax4, ax5, rfl, ah1, ah2, ah3, ah4, ah5⟩ := hT
  obtain ⟨aa1, ac1, rfl, -, -⟩ := ah1.open
  obtain ⟨aa2, ac2, rfl, -, -⟩ := ah2.open
  obtain ⟨aa3, ac3, rfl, -, -⟩ := ah3.open
  obtain ⟨aa4, ac4, rfl, -, -⟩ := ah4.open
  obtain ⟨aa5, ac5, rfl, -, -⟩ := ah5.open
  have HT := Lib.hid (show ∀ w', Ext w w' → TeacherV w' (.agg #[.bool t.known, .int .i64 t.target.alphabet, .slice aa1 t.target.next.length ac1, .slice aa2 t.target.accept.length ac2, .int .i64 t.task.sys.alphabet, .int .i64 t.task.sys.states, .slice aa3 t.task.sys.edges.length ac3, .int .i64 t.task.prop.alphabet, .slice aa4 t.task.prop.next.length ac4, .slice aa5 t.task.prop.accept.length ac5, .int .i64 t.task.alphabet]) t from fun w' h => ⟨_, _, _, _, _, rfl, ah1.mono h, ah2.mono h, ah3.mono h, ah4.mono h, ah5.mono h⟩)
  clear ah1 ah2 ah3 ah4 ah5
  obtain ⟨vr, vc, rfl, hR, hC⟩ := hv
  obtain ⟨aR, cR, rfl, -, -⟩ := SlV.open hR
  obtain ⟨aC, cC, rfl, -, -⟩ := SlV.open hC
  have hcapR := hR.cap
  have hcapC := hC.cap
  have HTB := Lib.hid (show ∀ w', Ext w w' → TableV w' (.agg #[.slice aR tab.rows.length cR, .slice aC tab.cols.length cC]) tab from fun w' h => ⟨_, _, rfl, hR.mono h, hC.mono h⟩)
  have HRV := Lib.hid (show ∀ w', Ext w w' → StrsV w' (.slice aR tab.rows.length cR) tab.rows from fun w' h => hR.mono h)
  have HCV := Lib.hid (show ∀ w', Ext w w' → StrsV w' (.slice aC tab.cols.length cC) tab.cols from fun w' h => hC.mono h)
  clear hR hC
  obtain ⟨w0, hw0⟩ : ∃ w0, w0 = ((w.alloc (.cells #[.bool t.known, .int .i64 t.target.alphabet, .slice aa1 t.target.next.length ac1, .slice aa2 t.target.accept.length ac2, .int .i64 t.task.sys.alphabet, .int .i64 t.task.sys.states, .slice aa3 t.task.sys.edges.length ac3, .int .i64 t.task.prop.alphabet, .slice aa4 t.task.prop.next.length ac4, .slice aa5 t.task.prop.accept.length ac5, .int .i64 t.task.alphabet] 65)).alloc (.cells #[.slice aR tab.rows.length cR, .slice aC tab.cols.length cC] 67)) := ⟨_, rfl⟩
  have he : Ext w w0 := by rw [hw0]; exact (Ext.alloc _ _).trans (Ext.alloc _ _)
  have b2 : Blk w0 w.heap.size #[.bool t.known, .int .i64 t.target.alphabet, .slice aa1 t.target.next.length ac1, .slice aa2 t.target.accept.length ac2, .int .i64 t.task.sys.alphabet, .int .i64 t.task.sys.states, .slice aa3 t.task.sys.edges.length ac3, .int .i64 t.task.prop.alphabet, .slice aa4 t.task.prop.next.length ac4, .slice aa5 t.task.prop.accept.length ac5, .int .i64 t.task.alphabet] 65 := by rw [hw0]; exact Ext.blk (Ext.alloc _ _)
  have b3 : Blk w0 (w.heap.size + 1) #[.slice aR tab.rows.length cR, .slice aC tab.cols.length cC] 67 := by rw [hw0]; exact Ext.blk1 (Ext.refl _)
  go_enter Tryd.func26, Tryd.ntmps26
  go_upto_region 1 with fail
  rw [← hw0]
  clear hw0
  have CN := Lib.hid (newOracle_c _ t w0 (HT.out _ he) (HDb.out.ext he))
  have hsz0 := he.size
  have hb3l := b3.lt
  have b2_0 := b2.cell 0 rfl; have b2_1 := b2.cell 1 rfl; have b2_2 := b2.cell 2 rfl; have b2_3 := b2.cell 3 rfl; have b2_4 := b2.cell 4 rfl; have b2_5 := b2.cell 5 rfl; have b2_6 := b2.cell 6 rfl; have b2_7 := b2.cell 7 rfl; have b2_8 := b2.cell 8 rfl; have b2_9 := b2.cell 9 rfl; have b2_10 := b2.cell 10 rfl; have b3_0 := b3.cell 0 rfl; have b3_1 := b3.cell 1 rfl
  go_wp2_with fail
  refine CN.out.mono ?_
  clear b2_0 b2_1 b2_2 b2_3 b2_4 b2_5 b2_6 b2_7 b2_8 b2_9 b2_10 b3_0 b3_1
  rintro e w1 (⟨hneg, he1, rfl⟩ | ⟨hge, he1, m, lo, bs, vo, J, rfl, hO, hJ, hm, hlo, hbs⟩)
  · have hv0 := Lib.hid (validT_neg (f := askTeacher t) (t := tab) hneg)
    clear hneg
    go_wp2_with fail
    go_ret
    exact Grows.mk (by rw [← HRO.out, hv0.out]; rfl) ((he.trans he1).trans (Ext.alloc _ _))
  · have HAL := Lib.hid (teacher_alpha hge)
    obtain ⟨al, hal⟩ : ∃ al, teacherAlphabet t = al := ⟨_, rfl⟩
    rw [hal] at hO HAL ⊢
    obtain ⟨va, hva⟩ : ∃ va, validT (askTeacher t) al tab = va := ⟨_, rfl⟩
    have HVA := Lib.hid hva
    have HRA : Hid (ro = va) := Lib.hid (by rw [← HRO.out, hal]; exact hva)
    have HO := Lib.hid hO
    have hmlt := hO.mlt
    have hllt := hO.llt
    have b3' := b3.ext he1
    have hx1 := he.trans he1
    obtain ⟨w2, hw2⟩ : ∃ w2, w2 = w1.alloc (.cells #[.int .i64 al, vo] 114) := ⟨_, rfl⟩
    have he2 : Ext w1 w2 := by rw [hw2]; exact Ext.alloc _ _
    have b7 : Blk w2 w1.heap.size #[.int .i64 al, vo] 114 := by rw [hw2]; exact Blk.new _ _ _
    have hx2 := hx1.trans he2
    have b32 := b3'.ext he2
    have hJ2 := hO.ext hbs hJ he2
    have hbs2 : bs ≤ w2.heap.size := Nat.le_trans hbs he2.size
    have HLOW := Lib.hid (fun w' (h : Touch eK m lo w2 w') => ora_low hx2 (show w.heap.size ≤ m by omega) (show w.heap.size ≤ lo by omega) h)
    have HTV := Lib.hid (tableValid_c hO _ _ tab 0 w2 hJ2 (by omega) HAL.out HF.out (fun w' h => HRV.out w' (HLOW.out w' h)) (fun w' h => HCV.out w' (HLOW.out w' h)) hbs2)
    rw [hva] at HTV
    clear hva hal hge hO b2 b3 b3' he he1 hJ 
    rcases HO.out.fn with ⟨ff, p1, p2, rfl, -, -⟩ | ⟨ff, p1, rfl, -, -⟩
    all_goals
      go_upto_region 2 with fail
      rw [← hw2]
      clear hw2
      have b32_0 := b32.cell 0 rfl
      have b32_1 := b32.cell 1 rfl
      have b7_0 := b7.cell 0 rfl
      have b7_1 := b7.cell 1 rfl
      go_wp2_with fail
      refine HTV.out.mono ?_
      rintro e w3 ⟨rfl, ⟨c3, hc3, hJ3⟩, ht3⟩
      have b73 := ht3.blk b7 (by decide) (by omega)
      have b33 := ht3.blk b32 (by decide) (by omega)
      clear b32_0 b32_1 b7_0 b7_1 b7 b32
      cases va with
      | false =>
        go_wp2_with fail
        go_ret
        exact Grows.mk (by rw [HRA.out]; rfl) (HLOW.out _ ht3)
      | true =>
        go_wp2_with fail
        go_ret
        exact Grows.mk (by rw [HRA.out]; rfl) (HLOW.out _ ht3)
end Go.Proofs.YtadplnbadfnlfaaDoor
