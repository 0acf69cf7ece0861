/- Part of this seat's proofs, cut to what its law needs. -/

import Derived.Test.YtadplnbadfnlfaaGreatDoorOpc
import Derived.Test.YtadplnbadfnlfaaGreatDoorOpq
namespace Go.Proofs.YtadplnbadfnlfaaGreatDoor
set_option linter.unusedSimpArgs false
set_option linter.unusedVariables false
open Go Go.RowKit Go.Maps
set_option maxHeartbeats 4000000
set_option maxRecDepth 100000
attribute [local go_sem] run_store_nilFunc' run_store_func'

section
variable {al : Int} {f : ByteArray → Bool} {m lo bs : Nat} {vo : Value} {J : Nat → World → Prop}
theorem closed_c (hO : Ora al f m lo bs vo J) (vr vc : Value) (t : Table) (c : Nat) (w : World) (hJ : J c w) (hc : c + 20000000 ≤ 90000000) (hG : Grown al t) (hR : ∀ w', Touch eK m lo w w' → StrsV w' vr t.rows) (hC : ∀ w', Touch eK m lo w w' → StrsV w' vc t.cols) (hbs : bs ≤ w.heap.size) :
    Calls Tryz.prog 93 #[.agg #[.int .i64 al, vo], .agg #[vr, vc]] w (fun e w' => e = .returned (.bool (!(openW f al t).isSome)) ∧ Touch eK m lo w w') := by
  obtain ⟨wo, hwo⟩ : ∃ wo, wo = (w.alloc (.cells #[.int .i64 al, vo] 126)).alloc (.cells #[vr, vc] 61) := ⟨_, rfl⟩
  have he : Ext w wo := by rw [hwo]; exact (Ext.alloc _ _).trans (Ext.alloc _ _)
  have b2 : Blk wo w.heap.size #[.int .i64 al, vo] 126 := by rw [hwo]; exact Ext.blk (Ext.alloc _ _)
  have b3 : Blk wo (w.heap.size + 1) #[vr, vc] 61 := by rw [hwo]; exact Ext.blk1 (Ext.refl _)
  have HFO := Lib.hid (firstOpen_c hO vr vc t c wo (hO.ext hbs hJ he) hc hG (fun w' h => hR w' ((Touch.ext he).trans h)) (fun w' h => hC w' ((Touch.ext he).trans h)) (Nat.le_trans hbs he.size))
  have ht0 : Touch eK m lo w wo := Touch.ext he
  obtain ⟨o, ho⟩ : ∃ o, openW f al t = o := ⟨_, rfl⟩
  rw [ho] at HFO ⊢
  clear hJ hG hR hC ho hO
  go_enter Tryz.func93, Tryz.ntmps93
  go_upto_region 1 with fail
  rw [← hwo]
  clear hwo
  have b2_0 := b2.cell 0 rfl
  have b2_1 := b2.cell 1 rfl
  have b3_0 := b3.cell 0 rfl
  have b3_1 := b3.cell 1 rfl
  go_wp2_with fail
  refine HFO.out.mono ?_
  rintro e w1 ⟨rfl, -, ht1⟩
  cases hx : o.isSome with
  | true =>
    go_wp2_with fail
    go_ret
    exact ⟨by first | rfl | simp [hx], ht0.trans ht1⟩
  | false =>
    go_wp2_with fail
    go_ret
    exact ⟨by first | rfl | simp [hx], ht0.trans ht1⟩
end

theorem FirstOpen_c (v : Value) (t : Teacher) (vb : Value) (tab : Table) (w : World) (hT : TeacherV w v t) (hv : TableV w vb tab) (hf : TabFit tab) (hD : Deb w) :
    Calls Tryz.prog 27 #[v, vb] w (Grows (.tuple #[.string (otext (openT t tab)), .bool (openT t tab).isSome]) w) := by
  obtain ⟨o, ho⟩ : ∃ o, openT t tab = o := ⟨_, rfl⟩
  have HOT := Lib.hid ho
  rw [ho]
  clear ho
  have HDb := Lib.hid hD
  have HF := Lib.hid hf
  clear hD hf
  obtain ⟨ax1, ax2, ax3, ax4, ax5, rfl, ah1, ah2, ah3, ah4, ah5⟩ := hT
  obtain ⟨aa1, ac1, rfl, -, -⟩ := ah1.open
  obtain ⟨aa2, ac2, rfl, -, -⟩ := ah2.open
  obtain ⟨aa3, ac3, rfl, -, -⟩ := ah3.open
  obtain ⟨aa4, ac4, rfl, -, -⟩ := ah4.open
  obtain ⟨aa5, ac5, rfl, -, -⟩ := ah5.open
  have HT := Lib.hid (show ∀ w', Ext w w' → TeacherV w' (.agg #[.bool t.known, .int .i64 t.target.alphabet, .slice aa1 t.target.next.length ac1, .slice aa2 t.target.accept.length ac2, .int .i64 t.task.sys.alphabet, .int .i64 t.task.sys.states, .slice aa3 t.task.sys.edges.length ac3, .int .i64 t.task.prop.alphabet, .slice aa4 t.task.prop.next.length ac4, .slice aa5 t.task.prop.accept.length ac5, .int .i64 t.task.alphabet]) t from fun w' h => ⟨_, _, _, _, _, rfl, ah1.mono h, ah2.mono h, ah3.mono h, ah4.mono h, ah5.mono h⟩)
  clear ah1 ah2 ah3 ah4 ah5
  obtain ⟨vr, vc, rfl, hR, hC⟩ := hv
  obtain ⟨aR, cR, rfl, -, -⟩ := SlV.open hR
  obtain ⟨aC, cC, rfl, -, -⟩ := SlV.open hC
  have hcapR := hR.cap
  have hcapC := hC.cap
  have HTB := Lib.hid (show ∀ w', Ext w w' → TableV w' (.agg #[.slice aR tab.rows.length cR, .slice aC tab.cols.length cC]) tab from fun w' h => ⟨_, _, rfl, hR.mono h, hC.mono h⟩)
  have HRV := Lib.hid (show ∀ w', Ext w w' → StrsV w' (.slice aR tab.rows.length cR) tab.rows from fun w' h => hR.mono h)
  have HCV := Lib.hid (show ∀ w', Ext w w' → StrsV w' (.slice aC tab.cols.length cC) tab.cols from fun w' h => hC.mono h)
  clear hR hC
  obtain ⟨w0, hw0⟩ : ∃ w0, w0 = ((w.alloc (.cells #[.bool t.known, .int .i64 t.target.alphabet, .slice aa1 t.target.next.length ac1, .slice aa2 t.target.accept.length ac2, .int .i64 t.task.sys.alphabet, .int .i64 t.task.sys.states, .slice aa3 t.task.sys.edges.length ac3, .int .i64 t.task.prop.alphabet, .slice aa4 t.task.prop.next.length ac4, .slice aa5 t.task.prop.accept.length ac5, .int .i64 t.task.alphabet] 59)).alloc (.cells #[.slice aR tab.rows.length cR, .slice aC tab.cols.length cC] 61)) := ⟨_, rfl⟩
  have he : Ext w w0 := by rw [hw0]; exact (Ext.alloc _ _).trans (Ext.alloc _ _)
  have b2 : Blk w0 w.heap.size #[.bool t.known, .int .i64 t.target.alphabet, .slice aa1 t.target.next.length ac1, .slice aa2 t.target.accept.length ac2, .int .i64 t.task.sys.alphabet, .int .i64 t.task.sys.states, .slice aa3 t.task.sys.edges.length ac3, .int .i64 t.task.prop.alphabet, .slice aa4 t.task.prop.next.length ac4, .slice aa5 t.task.prop.accept.length ac5, .int .i64 t.task.alphabet] 59 := by rw [hw0]; exact Ext.blk (Ext.alloc _ _)
  have b3 : Blk w0 (w.heap.size + 1) #[.slice aR tab.rows.length cR, .slice aC tab.cols.length cC] 61 := by rw [hw0]; exact Ext.blk1 (Ext.refl _)
  go_enter Tryz.func27, Tryz.ntmps27
  go_upto_region 1 with fail
  rw [← hw0]
  clear hw0
  have CN := Lib.hid (newOracle_c _ t w0 (HT.out _ he) (HDb.out.ext he))
  have hsz0 := he.size
  have hb3l := b3.lt
  have b2_0 := b2.cell 0 rfl; have b2_1 := b2.cell 1 rfl; have b2_2 := b2.cell 2 rfl; have b2_3 := b2.cell 3 rfl; have b2_4 := b2.cell 4 rfl; have b2_5 := b2.cell 5 rfl; have b2_6 := b2.cell 6 rfl; have b2_7 := b2.cell 7 rfl; have b2_8 := b2.cell 8 rfl; have b2_9 := b2.cell 9 rfl; have b2_10 := b2.cell 10 rfl; have b3_0 := b3.cell 0 rfl; have b3_1 := b3.cell 1 rfl
  go_wp2_with fail
  refine CN.out.mono ?_
  clear b2_0 b2_1 b2_2 b2_3 b2_4 b2_5 b2_6 b2_7 b2_8 b2_9 b2_10 b3_0 b3_1
  rintro e w1 (⟨hneg, he1, rfl⟩ | ⟨hge, he1, m, lo, bs, vo, J, rfl, hO, hJ, hm, hlo, hbs⟩)
  · have hv0 := Lib.hid (validT_neg (f := askTeacher t) (t := tab) hneg)
    clear hneg
    obtain rfl : o = none := by rw [← HOT.out]; unfold openT; rw [hv0.out]; rfl
    go_wp2_with fail
    go_ret2
    exact Grows.mk rfl ((he.trans he1).trans (Ext.alloc _ _))
  · have HAL := Lib.hid (teacher_alpha hge)
    obtain ⟨al, hal⟩ : ∃ al, teacherAlphabet t = al := ⟨_, rfl⟩
    rw [hal] at hO HAL ⊢
    obtain ⟨va, hva⟩ : ∃ va, validT (askTeacher t) al tab = va := ⟨_, rfl⟩
    have HVA := Lib.hid hva
    have HRA : Hid (o = if va = true then openW (askTeacher t) al tab else none) := Lib.hid (by rw [← HOT.out]; unfold openT; rw [hal, hva])
    have HO := Lib.hid hO
    have hmlt := hO.mlt
    have hllt := hO.llt
    have b3' := b3.ext he1
    have hx1 := he.trans he1
    obtain ⟨w2, hw2⟩ : ∃ w2, w2 = w1.alloc (.cells #[.int .i64 al, vo] 126) := ⟨_, rfl⟩
    have he2 : Ext w1 w2 := by rw [hw2]; exact Ext.alloc _ _
    have b7 : Blk w2 w1.heap.size #[.int .i64 al, vo] 126 := by rw [hw2]; exact Blk.new _ _ _
    have hx2 := hx1.trans he2
    have b32 := b3'.ext he2
    have hJ2 := hO.ext hbs hJ he2
    have hbs2 : bs ≤ w2.heap.size := Nat.le_trans hbs he2.size
    have HLOW := Lib.hid (fun w' (h : Touch eK m lo w2 w') => ora_low hx2 (show w.heap.size ≤ m by omega) (show w.heap.size ≤ lo by omega) h)
    have HTV := Lib.hid (tableValid_c hO _ _ tab 0 w2 hJ2 (by omega) HAL.out HF.out (fun w' h => HRV.out w' (HLOW.out w' h)) (fun w' h => HCV.out w' (HLOW.out w' h)) hbs2)
    rw [hva] at HTV
    have HFO := Lib.hid (fun c w' (hc : c ≤ 3000000) (hJ : J c w') (hsz : bs ≤ w'.heap.size) (hG : Grown al tab) (ht : Touch eK m lo w2 w') => firstOpen_c hO (.slice aR tab.rows.length cR) (.slice aC tab.cols.length cC) tab c w' hJ (by omega) hG (fun w'' h => HRV.out w'' (HLOW.out w'' (ht.trans h))) (fun w'' h => HCV.out w'' (HLOW.out w'' (ht.trans h))) hsz)
    clear hva hal hge hO b2 b3 b3' he he1 hJ 
    rcases HO.out.fn with ⟨ff, p1, p2, rfl, -, -⟩ | ⟨ff, p1, rfl, -, -⟩
    all_goals
      go_upto_region 2 with fail
      rw [← hw2]
      clear hw2
      have b32_0 := b32.cell 0 rfl
      have b32_1 := b32.cell 1 rfl
      have b7_0 := b7.cell 0 rfl
      have b7_1 := b7.cell 1 rfl
      go_wp2_with fail
      refine HTV.out.mono ?_
      rintro e w3 ⟨rfl, ⟨c3, hc3, hJ3⟩, ht3⟩
      have b73 := ht3.blk b7 (by decide) (by omega)
      have b33 := ht3.blk b32 (by decide) (by omega)
      clear b32_0 b32_1 b7_0 b7_1 b7 b32
      cases va with
      | false =>
        obtain rfl : o = none := by rw [HRA.out]; rfl
        go_wp2_with fail
        go_ret2
        exact Grows.mk rfl (HLOW.out _ ht3)
      | true =>
        have HOW : Hid (o = openW (askTeacher t) al tab) := Lib.hid (by rw [HRA.out]; rfl)
        have hz3 := ht3.size
        have HX := Lib.hid (HFO.out c3 w3 (by omega) hJ3 (by omega) ((validT_iff.1 HVA.out).1.grown HAL.out) ht3)
        rw [← HOW.out] at HX
        have b7_0 := b73.cell 0 rfl
        have b7_1 := b73.cell 1 rfl
        have b3_0 := b33.cell 0 rfl
        have b3_1 := b33.cell 1 rfl
        go_wp2_with fail
        refine HX.out.mono ?_
        rintro e w5 ⟨rfl, -, ht5⟩
        go_wp2_with fail
        go_ret2
        exact Grows.mk rfl (HLOW.out _ (ht3.trans ht5))

theorem TableClosed_c (v : Value) (t : Teacher) (vb : Value) (tab : Table) (w : World) (hT : TeacherV w v t) (hv : TableV w vb tab) (hf : TabFit tab) (hD : Deb w) :
    Calls Tryz.prog 29 #[v, vb] w (Grows (.bool (closedB t tab)) w) := by
  obtain ⟨ro, ho⟩ : ∃ ro, closedB t tab = ro := ⟨_, rfl⟩
  have HOT := Lib.hid ho
  rw [ho]
  clear ho
  have HDb := Lib.hid hD
  have HF := Lib.hid hf
  clear hD hf
  obtain ⟨ax1, ax2, ax3, ax4, ax5, rfl, ah1, ah2, ah3, ah4, ah5⟩ := hT
  obtain ⟨aa1, ac1, rfl, -, -⟩ := ah1.open
  obtain ⟨aa2, ac2, rfl, -, -⟩ := ah2.open
  obtain ⟨aa3, ac3, rfl, -, -⟩ := ah3.open
  obtain ⟨aa4, ac4, rfl, -, -⟩ := ah4.open
  obtain ⟨aa5, ac5, rfl, -, -⟩ := ah5.open
  have HT := Lib.hid (show ∀ w', Ext w w' → TeacherV w' (.agg #[.bool t.known, .int .i64 t.target.alphabet, .slice aa1 t.target.next.length ac1, .slice aa2 t.target.accept.length ac2, .int .i64 t.task.sys.alphabet, .int .i64 t.task.sys.states, .slice aa3 t.task.sys.edges.length ac3, .int .i64 t.task.prop.alphabet, .slice aa4 t.task.prop.next.length ac4, .slice aa5 t.task.prop.accept.length ac5, .int .i64 t.task.alphabet]) t from fun w' h => ⟨_, _, _, _, _, rfl, ah1.mono h, ah2.mono h, ah3.mono h, ah4.mono h, ah5.mono h⟩)
  clear ah1 ah2 ah3 ah4 ah5
  obtain ⟨vr, vc, rfl, hR, hC⟩ := hv
  obtain ⟨aR, cR, rfl, -, -⟩ := SlV.open hR
  obtain ⟨aC, cC, rfl, -, -⟩ := SlV.open hC
  have hcapR := hR.cap
  have hcapC := hC.cap
  have HTB := Lib.hid (show ∀ w', Ext w w' → TableV w' (.agg #[.slice aR tab.rows.length cR, .slice aC tab.cols.length cC]) tab from fun w' h => ⟨_, _, rfl, hR.mono h, hC.mono h⟩)
  have HRV := Lib.hid (show ∀ w', Ext w w' → StrsV w' (.slice aR tab.rows.length cR) tab.rows from fun w' h => hR.mono h)
  have HCV := Lib.hid (show ∀ w', Ext w w' → StrsV w' (.slice aC tab.cols.length cC) tab.cols from fun w' h => hC.mono h)
  clear hR hC
  obtain ⟨w0, hw0⟩ : ∃ w0, w0 = ((w.alloc (.cells #[.bool t.known, .int .i64 t.target.alphabet, .slice aa1 t.target.next.length ac1, .slice aa2 t.target.accept.length ac2, .int .i64 t.task.sys.alphabet, .int .i64 t.task.sys.states, .slice aa3 t.task.sys.edges.length ac3, .int .i64 t.task.prop.alphabet, .slice aa4 t.task.prop.next.length ac4, .slice aa5 t.task.prop.accept.length ac5, .int .i64 t.task.alphabet] 59)).alloc (.cells #[.slice aR tab.rows.length cR, .slice aC tab.cols.length cC] 61)) := ⟨_, rfl⟩
  have he : Ext w w0 := by rw [hw0]; exact (Ext.alloc _ _).trans (Ext.alloc _ _)
  have b2 : Blk w0 w.heap.size #[.bool t.known, .int .i64 t.target.alphabet, .slice aa1 t.target.next.length ac1, .slice aa2 t.target.accept.length ac2, .int .i64 t.task.sys.alphabet, .int .i64 t.task.sys.states, .slice aa3 t.task.sys.edges.length ac3, .int .i64 t.task.prop.alphabet, .slice aa4 t.task.prop.next.length ac4, .slice aa5 t.task.prop.accept.length ac5, .int .i64 t.task.alphabet] 59 := by rw [hw0]; exact Ext.blk (Ext.alloc _ _)
  have b3 : Blk w0 (w.heap.size + 1) #[.slice aR tab.rows.length cR, .slice aC tab.cols.length cC] 61 := by rw [hw0]; exact Ext.blk1 (Ext.refl _)
  go_enter Tryz.func29, Tryz.ntmps29
  go_upto_region 1 with fail
  rw [← hw0]
  clear hw0
  have CN := Lib.hid (newOracle_c _ t w0 (HT.out _ he) (HDb.out.ext he))
  have hsz0 := he.size
  have hb3l := b3.lt
  have b2_0 := b2.cell 0 rfl; have b2_1 := b2.cell 1 rfl; have b2_2 := b2.cell 2 rfl; have b2_3 := b2.cell 3 rfl; have b2_4 := b2.cell 4 rfl; have b2_5 := b2.cell 5 rfl; have b2_6 := b2.cell 6 rfl; have b2_7 := b2.cell 7 rfl; have b2_8 := b2.cell 8 rfl; have b2_9 := b2.cell 9 rfl; have b2_10 := b2.cell 10 rfl; have b3_0 := b3.cell 0 rfl; have b3_1 := b3.cell 1 rfl
  go_wp2_with fail
  refine CN.out.mono ?_
  clear b2_0 b2_1 b2_2 b2_3 b2_4 b2_5 b2_6 b2_7 b2_8 b2_9 b2_10 b3_0 b3_1
  rintro e w1 (⟨hneg, he1, rfl⟩ | ⟨hge, he1, m, lo, bs, vo, J, rfl, hO, hJ, hm, hlo, hbs⟩)
  · have hv0 := Lib.hid (validT_neg (f := askTeacher t) (t := tab) hneg)
    clear hneg
    obtain rfl : ro = false := by rw [← HOT.out]; unfold closedB; rw [hv0.out]; rfl
    go_wp2_with fail
    go_ret
    exact Grows.mk rfl ((he.trans he1).trans (Ext.alloc _ _))
  · have HAL := Lib.hid (teacher_alpha hge)
    obtain ⟨al, hal⟩ : ∃ al, teacherAlphabet t = al := ⟨_, rfl⟩
    rw [hal] at hO HAL ⊢
    obtain ⟨va, hva⟩ : ∃ va, validT (askTeacher t) al tab = va := ⟨_, rfl⟩
    have HVA := Lib.hid hva
    have HRA : Hid (ro = (va && !(openW (askTeacher t) al tab).isSome)) := Lib.hid (by rw [← HOT.out]; unfold closedB openT; rw [hal, hva]; cases va <;> rfl)
    have HO := Lib.hid hO
    have hmlt := hO.mlt
    have hllt := hO.llt
    have b3' := b3.ext he1
    have hx1 := he.trans he1
    obtain ⟨w2, hw2⟩ : ∃ w2, w2 = w1.alloc (.cells #[.int .i64 al, vo] 126) := ⟨_, rfl⟩
    have he2 : Ext w1 w2 := by rw [hw2]; exact Ext.alloc _ _
    have b7 : Blk w2 w1.heap.size #[.int .i64 al, vo] 126 := by rw [hw2]; exact Blk.new _ _ _
    have hx2 := hx1.trans he2
    have b32 := b3'.ext he2
    have hJ2 := hO.ext hbs hJ he2
    have hbs2 : bs ≤ w2.heap.size := Nat.le_trans hbs he2.size
    have HLOW := Lib.hid (fun w' (h : Touch eK m lo w2 w') => ora_low hx2 (show w.heap.size ≤ m by omega) (show w.heap.size ≤ lo by omega) h)
    have HTV := Lib.hid (tableValid_c hO _ _ tab 0 w2 hJ2 (by omega) HAL.out HF.out (fun w' h => HRV.out w' (HLOW.out w' h)) (fun w' h => HCV.out w' (HLOW.out w' h)) hbs2)
    rw [hva] at HTV
    have HFO := Lib.hid (fun c w' (hc : c ≤ 3000000) (hJ : J c w') (hsz : bs ≤ w'.heap.size) (hG : Grown al tab) (ht : Touch eK m lo w2 w') => closed_c hO (.slice aR tab.rows.length cR) (.slice aC tab.cols.length cC) tab c w' hJ (by omega) hG (fun w'' h => HRV.out w'' (HLOW.out w'' (ht.trans h))) (fun w'' h => HCV.out w'' (HLOW.out w'' (ht.trans h))) hsz)
    clear hva hal hge hO b2 b3 b3' he he1 hJ 
    rcases HO.out.fn with ⟨ff, p1, p2, rfl, -, -⟩ | ⟨ff, p1, rfl, -, -⟩
    all_goals
      go_upto_region 2 with fail
      rw [← hw2]
      clear hw2
      have b32_0 := b32.cell 0 rfl
      have b32_1 := b32.cell 1 rfl
      have b7_0 := b7.cell 0 rfl
      have b7_1 := b7.cell 1 rfl
      go_wp2_with fail
      refine HTV.out.mono ?_
      rintro e w3 ⟨rfl, ⟨c3, hc3, hJ3⟩, ht3⟩
      have b73 := ht3.blk b7 (by decide) (by omega)
      have b33 := ht3.blk b32 (by decide) (by omega)
      clear b32_0 b32_1 b7_0 b7_1 b7 b32
      cases va with
      | false =>
        obtain rfl : ro = false := by rw [HRA.out]; rfl
        go_wp2_with fail
        go_ret
        exact Grows.mk rfl (HLOW.out _ ht3)
      | true =>
        have HOW : Hid (ro = !(openW (askTeacher t) al tab).isSome) := Lib.hid (by rw [HRA.out]; rfl)
        have hz3 := ht3.size
        have HX := Lib.hid (HFO.out c3 w3 (by omega) hJ3 (by omega) ((validT_iff.1 HVA.out).1.grown HAL.out) ht3)
        rw [← HOW.out] at HX
        have b7_0 := b73.cell 0 rfl
        have b7_1 := b73.cell 1 rfl
        have b3_0 := b33.cell 0 rfl
        have b3_1 := b33.cell 1 rfl
        go_wp2_with fail
        refine HX.out.mono ?_
        rintro e w5 ⟨rfl, ht5⟩
        go_wp2_with fail
        go_ret
        exact Grows.mk (by cases ro <;> rfl) (HLOW.out _ (ht3.trans ht5))
--CUT--
end Go.Proofs.YtadplnbadfnlfaaGreatDoor
