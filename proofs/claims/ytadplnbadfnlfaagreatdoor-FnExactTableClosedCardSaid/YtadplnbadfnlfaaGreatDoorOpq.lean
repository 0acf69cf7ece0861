/- Part of this seat's proofs, cut to what its law needs. -/

import Derived.Test.YtadplnbadfnlfaaGreatDoorOpn
namespace Go.Proofs.YtadplnbadfnlfaaGreatDoor
set_option linter.unusedSimpArgs false
set_option linter.unusedVariables false
open Go Go.RowKit
set_option maxHeartbeats 2000000
set_option maxRecDepth 100000

theorem FirstOpen_s (v : Value) (t : Teacher) (vb : Value) (tab : Table) (w : World) (hT : TeacherV w v t) (hv : TableV w vb tab) (hf : TabFit tab) (hel : t.task.sys.edges.length ≤ 1048576) :
    Calls Tryz.prog 26 #[v, vb] w (Grows (.tuple #[.string (otext (openT t tab)), .bool (openT t tab).isSome]) w) := by
  obtain ⟨va, hva⟩ : ∃ va, validT (askTeacher t) (teacherAlphabet t) tab = va := ⟨_, rfl⟩
  have HVA := Lib.hid hva
  obtain ⟨o, ho⟩ : ∃ o, openT t tab = o := ⟨_, rfl⟩
  have HR : Hid (o = if va = true then openW (askTeacher t) (teacherAlphabet t) tab else none) := Lib.hid (by rw [← ho]; unfold openT; rw [hva])
  rw [ho]
  clear ho
  obtain ⟨ax1, ax2, ax3, ax4, ax5, rfl, ah1, ah2, ah3, ah4, ah5⟩ := hT
  obtain ⟨aa1, ac1, rfl, -, -⟩ := ah1.open
  obtain ⟨aa2, ac2, rfl, -, -⟩ := ah2.open
  obtain ⟨aa3, ac3, rfl, -, -⟩ := ah3.open
  obtain ⟨aa4, ac4, rfl, -, -⟩ := ah4.open
  obtain ⟨aa5, ac5, rfl, -, -⟩ := ah5.open
  have HT := Lib.hid (show ∀ w', Ext w w' → TeacherV w' (.agg #[.bool t.known, .int .i64 t.target.alphabet, .slice aa1 t.target.next.length ac1, .slice aa2 t.target.accept.length ac2, .int .i64 t.task.sys.alphabet, .int .i64 t.task.sys.states, .slice aa3 t.task.sys.edges.length ac3, .int .i64 t.task.prop.alphabet, .slice aa4 t.task.prop.next.length ac4, .slice aa5 t.task.prop.accept.length ac5, .int .i64 t.task.alphabet]) t from fun w' h => ⟨_, _, _, _, _, rfl, ah1.mono h, ah2.mono h, ah3.mono h, ah4.mono h, ah5.mono h⟩)
  clear ah1 ah2 ah3 ah4 ah5
  obtain ⟨vr, vc, rfl, hR, hC⟩ := hv
  obtain ⟨aR, cR, rfl, -, -⟩ := SlV.open hR
  obtain ⟨aC, cC, rfl, -, -⟩ := SlV.open hC
  have hcapR := hR.cap
  have hcapC := hC.cap
  have HTB := Lib.hid (show ∀ w', Ext w w' → TableV w' (.agg #[.slice aR tab.rows.length cR, .slice aC tab.cols.length cC]) tab from fun w' h => ⟨_, _, rfl, hR.mono h, hC.mono h⟩)
  have HRV := Lib.hid (show ∀ w', Ext w w' → StrsV w' (.slice aR tab.rows.length cR) tab.rows from fun w' h => hR.mono h)
  have HCV := Lib.hid (show ∀ w', Ext w w' → StrsV w' (.slice aC tab.cols.length cC) tab.cols from fun w' h => hC.mono h)
  clear hR hC
  obtain ⟨w0, hw0⟩ : ∃ w0, w0 = ((w.alloc (.cells #[.bool t.known, .int .i64 t.target.alphabet, .slice aa1 t.target.next.length ac1, .slice aa2 t.target.accept.length ac2, .int .i64 t.task.sys.alphabet, .int .i64 t.task.sys.states, .slice aa3 t.task.sys.edges.length ac3, .int .i64 t.task.prop.alphabet, .slice aa4 t.task.prop.next.length ac4, .slice aa5 t.task.prop.accept.length ac5, .int .i64 t.task.alphabet] 59)).alloc (.cells #[.slice aR tab.rows.length cR, .slice aC tab.cols.length cC] 61)) := ⟨_, rfl⟩
  have he : Ext w w0 := by rw [hw0]; exact (Ext.alloc _ _).trans (Ext.alloc _ _)
  have b2 : Blk w0 w.heap.size #[.bool t.known, .int .i64 t.target.alphabet, .slice aa1 t.target.next.length ac1, .slice aa2 t.target.accept.length ac2, .int .i64 t.task.sys.alphabet, .int .i64 t.task.sys.states, .slice aa3 t.task.sys.edges.length ac3, .int .i64 t.task.prop.alphabet, .slice aa4 t.task.prop.next.length ac4, .slice aa5 t.task.prop.accept.length ac5, .int .i64 t.task.alphabet] 59 := by rw [hw0]; exact Ext.blk (Ext.alloc _ _)
  have b3 : Blk w0 (w.heap.size + 1) #[.slice aR tab.rows.length cR, .slice aC tab.cols.length cC] 61 := by rw [hw0]; exact Ext.blk1 (Ext.refl _)
  go_enter Tryz.func26, Tryz.ntmps26
  have b2_0 := b2.cell 0 rfl; have b2_1 := b2.cell 1 rfl; have b2_2 := b2.cell 2 rfl; have b2_3 := b2.cell 3 rfl; have b2_4 := b2.cell 4 rfl; have b2_5 := b2.cell 5 rfl; have b2_6 := b2.cell 6 rfl; have b2_7 := b2.cell 7 rfl; have b2_8 := b2.cell 8 rfl; have b2_9 := b2.cell 9 rfl; have b2_10 := b2.cell 10 rfl; have b3_0 := b3.cell 0 rfl; have b3_1 := b3.cell 1 rfl
  go_upto_region 1 with fail
  rw [← hw0]
  clear hw0
  have CV := Lib.hid (show ∀ w', Ext w w' → Calls Tryz.prog 78 #[.agg #[.bool t.known, .int .i64 t.target.alphabet, .slice aa1 t.target.next.length ac1, .slice aa2 t.target.accept.length ac2, .int .i64 t.task.sys.alphabet, .int .i64 t.task.sys.states, .slice aa3 t.task.sys.edges.length ac3, .int .i64 t.task.prop.alphabet, .slice aa4 t.task.prop.next.length ac4, .slice aa5 t.task.prop.accept.length ac5, .int .i64 t.task.alphabet], .agg #[.slice aR tab.rows.length cR, .slice aC tab.cols.length cC]] w' (Grows (.bool va) w') from fun w' h => by have := TableValid_s _ t _ tab w' (HT.out _ h) (HTB.out _ h) hf hel; rwa [hva] at this)
  clear hva
  go_wp2_with fail
  refine (CV.out _ he).mono ?_
  rintro e w1 ⟨rfl, he1⟩
  clear b2_0 b2_1 b2_2 b2_3 b2_4 b2_5 b2_6 b2_7 b2_8 b2_9 b2_10 b3_0 b3_1
  replace he := he.trans he1
  replace b2 := b2.ext he1
  replace b3 := b3.ext he1
  clear he1
  cases va with
  | false =>
    go_wp2_with fail
    go_ret2
    exact Grows.mk (by rw [HR.out]; rfl) he
  | true =>
    obtain ⟨hsh, hal⟩ := validT_facts HVA.out
    have HO : Hid (o = openW (askTeacher t) (teacherAlphabet t) tab) := Lib.hid (by rw [HR.out]; rfl)
    have CO := Lib.hid (l10Open_s _ t _ tab _ (HT.out _ he) (HTB.out _ he) _ rfl (hsh.grown hal) hel)
    rw [← HO.out] at CO
    clear hsh hal
    have b2_0 := b2.cell 0 rfl; have b2_1 := b2.cell 1 rfl; have b2_2 := b2.cell 2 rfl; have b2_3 := b2.cell 3 rfl; have b2_4 := b2.cell 4 rfl; have b2_5 := b2.cell 5 rfl; have b2_6 := b2.cell 6 rfl; have b2_7 := b2.cell 7 rfl; have b2_8 := b2.cell 8 rfl; have b2_9 := b2.cell 9 rfl; have b2_10 := b2.cell 10 rfl; have b3_0 := b3.cell 0 rfl; have b3_1 := b3.cell 1 rfl
    go_wp2_with fail
    refine CO.out.mono ?_
    rintro e w3 ⟨rfl, he3⟩
    go_wp2_with fail
    go_ret2
    exact Grows.mk rfl (he.trans he3)

noncomputable def closedB (t : Teacher) (tab : Table) : Bool := validT (askTeacher t) (teacherAlphabet t) tab && !(openT t tab).isSome
theorem TableClosed_s (v : Value) (t : Teacher) (vb : Value) (tab : Table) (w : World) (hT : TeacherV w v t) (hv : TableV w vb tab) (hf : TabFit tab) (hel : t.task.sys.edges.length ≤ 1048576) :
    Calls Tryz.prog 28 #[v, vb] w (Grows (.bool (closedB t tab)) w) := by
  obtain ⟨va, hva⟩ : ∃ va, validT (askTeacher t) (teacherAlphabet t) tab = va := ⟨_, rfl⟩
  obtain ⟨x, hx⟩ : ∃ x, (openT t tab).isSome = x := ⟨_, rfl⟩
  obtain ⟨ro, hro⟩ : ∃ ro, closedB t tab = ro := ⟨_, rfl⟩
  have HR : Hid (ro = (va && !x)) := Lib.hid (by rw [← hro]; unfold closedB; rw [hva, hx])
  rw [hro]
  clear hro
  obtain ⟨ax1, ax2, ax3, ax4, ax5, rfl, ah1, ah2, ah3, ah4, ah5⟩ := hT
  obtain ⟨aa1, ac1, rfl, -, -⟩ := ah1.open
  obtain ⟨aa2, ac2, rfl, -, -⟩ := ah2.open
  obtain ⟨aa3, ac3, rfl, -, -⟩ := ah3.open
  obtain ⟨aa4, ac4, rfl, -, -⟩ := ah4.open
  obtain ⟨aa5, ac5, rfl, -, -⟩ := ah5.open
  have HT := Lib.hid (show ∀ w', Ext w w' → TeacherV w' (.agg #[.bool t.known, .int .i64 t.target.alphabet, .slice aa1 t.target.next.length ac1, .slice aa2 t.target.accept.length ac2, .int .i64 t.task.sys.alphabet, .int .i64 t.task.sys.states, .slice aa3 t.task.sys.edges.length ac3, .int .i64 t.task.prop.alphabet, .slice aa4 t.task.prop.next.length ac4, .slice aa5 t.task.prop.accept.length ac5, .int .i64 t.task.alphabet]) t from fun w' h => ⟨_, _, _, _, _, rfl, ah1.mono h, ah2.mono h, ah3.mono h, ah4.mono h, ah5.mono h⟩)
  clear ah1 ah2 ah3 ah4 ah5
  obtain ⟨vr, vc, rfl, hR, hC⟩ := hv
  obtain ⟨aR, cR, rfl, -, -⟩ := SlV.open hR
  obtain ⟨aC, cC, rfl, -, -⟩ := SlV.open hC
  have hcapR := hR.cap
  have hcapC := hC.cap
  have HTB := Lib.hid (show ∀ w', Ext w w' → TableV w' (.agg #[.slice aR tab.rows.length cR, .slice aC tab.cols.length cC]) tab from fun w' h => ⟨_, _, rfl, hR.mono h, hC.mono h⟩)
  have HRV := Lib.hid (show ∀ w', Ext w w' → StrsV w' (.slice aR tab.rows.length cR) tab.rows from fun w' h => hR.mono h)
  have HCV := Lib.hid (show ∀ w', Ext w w' → StrsV w' (.slice aC tab.cols.length cC) tab.cols from fun w' h => hC.mono h)
  clear hR hC
  obtain ⟨w0, hw0⟩ : ∃ w0, w0 = ((w.alloc (.cells #[.bool t.known, .int .i64 t.target.alphabet, .slice aa1 t.target.next.length ac1, .slice aa2 t.target.accept.length ac2, .int .i64 t.task.sys.alphabet, .int .i64 t.task.sys.states, .slice aa3 t.task.sys.edges.length ac3, .int .i64 t.task.prop.alphabet, .slice aa4 t.task.prop.next.length ac4, .slice aa5 t.task.prop.accept.length ac5, .int .i64 t.task.alphabet] 59)).alloc (.cells #[.slice aR tab.rows.length cR, .slice aC tab.cols.length cC] 61)) := ⟨_, rfl⟩
  have he : Ext w w0 := by rw [hw0]; exact (Ext.alloc _ _).trans (Ext.alloc _ _)
  have b2 : Blk w0 w.heap.size #[.bool t.known, .int .i64 t.target.alphabet, .slice aa1 t.target.next.length ac1, .slice aa2 t.target.accept.length ac2, .int .i64 t.task.sys.alphabet, .int .i64 t.task.sys.states, .slice aa3 t.task.sys.edges.length ac3, .int .i64 t.task.prop.alphabet, .slice aa4 t.task.prop.next.length ac4, .slice aa5 t.task.prop.accept.length ac5, .int .i64 t.task.alphabet] 59 := by rw [hw0]; exact Ext.blk (Ext.alloc _ _)
  have b3 : Blk w0 (w.heap.size + 1) #[.slice aR tab.rows.length cR, .slice aC tab.cols.length cC] 61 := by rw [hw0]; exact Ext.blk1 (Ext.refl _)
  go_enter Tryz.func28, Tryz.ntmps28
  have b2_0 := b2.cell 0 rfl; have b2_1 := b2.cell 1 rfl; have b2_2 := b2.cell 2 rfl; have b2_3 := b2.cell 3 rfl; have b2_4 := b2.cell 4 rfl; have b2_5 := b2.cell 5 rfl; have b2_6 := b2.cell 6 rfl; have b2_7 := b2.cell 7 rfl; have b2_8 := b2.cell 8 rfl; have b2_9 := b2.cell 9 rfl; have b2_10 := b2.cell 10 rfl; have b3_0 := b3.cell 0 rfl; have b3_1 := b3.cell 1 rfl
  go_upto_region 1 with fail
  rw [← hw0]
  clear hw0
  have CV := Lib.hid (show ∀ w', Ext w w' → Calls Tryz.prog 78 #[.agg #[.bool t.known, .int .i64 t.target.alphabet, .slice aa1 t.target.next.length ac1, .slice aa2 t.target.accept.length ac2, .int .i64 t.task.sys.alphabet, .int .i64 t.task.sys.states, .slice aa3 t.task.sys.edges.length ac3, .int .i64 t.task.prop.alphabet, .slice aa4 t.task.prop.next.length ac4, .slice aa5 t.task.prop.accept.length ac5, .int .i64 t.task.alphabet], .agg #[.slice aR tab.rows.length cR, .slice aC tab.cols.length cC]] w' (Grows (.bool va) w') from fun w' h => by have := TableValid_s _ t _ tab w' (HT.out _ h) (HTB.out _ h) hf hel; rwa [hva] at this)
  have CO := Lib.hid (show ∀ w', Ext w w' → Calls Tryz.prog 26 #[.agg #[.bool t.known, .int .i64 t.target.alphabet, .slice aa1 t.target.next.length ac1, .slice aa2 t.target.accept.length ac2, .int .i64 t.task.sys.alphabet, .int .i64 t.task.sys.states, .slice aa3 t.task.sys.edges.length ac3, .int .i64 t.task.prop.alphabet, .slice aa4 t.task.prop.next.length ac4, .slice aa5 t.task.prop.accept.length ac5, .int .i64 t.task.alphabet], .agg #[.slice aR tab.rows.length cR, .slice aC tab.cols.length cC]] w' (Grows (.tuple #[.string (otext (openT t tab)), .bool x]) w') from fun w' h => by have := FirstOpen_s _ t _ tab w' (HT.out _ h) (HTB.out _ h) hf hel; rwa [hx] at this)
  clear hva hx
  go_wp2_with fail
  refine (CO.out _ he).mono ?_
  rintro e w1 ⟨rfl, he1⟩
  clear b2_0 b2_1 b2_2 b2_3 b2_4 b2_5 b2_6 b2_7 b2_8 b2_9 b2_10 b3_0 b3_1
  replace he := he.trans he1
  replace b2 := b2.ext he1
  replace b3 := b3.ext he1
  clear he1
  have b2_0 := b2.cell 0 rfl; have b2_1 := b2.cell 1 rfl; have b2_2 := b2.cell 2 rfl; have b2_3 := b2.cell 3 rfl; have b2_4 := b2.cell 4 rfl; have b2_5 := b2.cell 5 rfl; have b2_6 := b2.cell 6 rfl; have b2_7 := b2.cell 7 rfl; have b2_8 := b2.cell 8 rfl; have b2_9 := b2.cell 9 rfl; have b2_10 := b2.cell 10 rfl; have b3_0 := b3.cell 0 rfl; have b3_1 := b3.cell 1 rfl
  go_wp2_with fail
  refine (CV.out _ he).mono ?_
  rintro e w2 ⟨rfl, he2⟩
  cases va with
  | false =>
    go_wp2_with fail
    go_ret
    exact Grows.mk (by rw [HR.out]; rfl) (he.trans he2)
  | true =>
    cases x with
    | false =>
      go_wp2_with fail
      go_ret
      exact Grows.mk (by rw [HR.out]; rfl) (he.trans he2)
    | true =>
      go_wp2_with fail
      go_ret
      exact Grows.mk (by rw [HR.out]; rfl) (he.trans he2)
end Go.Proofs.YtadplnbadfnlfaaGreatDoor
