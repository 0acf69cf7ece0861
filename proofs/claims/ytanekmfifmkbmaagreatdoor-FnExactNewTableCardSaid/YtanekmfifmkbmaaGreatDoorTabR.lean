/- Part of this seat's proofs, cut to what its law needs. -/

import Derived.Test.YtanekmfifmkbmaaGreatDoorTabS
namespace Go.Proofs.YtanekmfifmkbmaaGreatDoor
set_option linter.unusedSimpArgs false
set_option linter.unusedVariables false
open Go Go.RowKit
set_option maxHeartbeats 2000000
set_option maxRecDepth 100000

theorem teacher_alpha {t : Teacher} (h : 0 ≤ teacherAlphabet t) : isAlpha (teacherAlphabet t) = true := by
  unfold teacherAlphabet at h ⊢
  split at h
  · rename_i h1
    simp only [h1, if_true]
    simp only [Bool.and_eq_true] at h1
    have := autoValid_facts h1.2
    simp [isAlpha, this.1, this.2.1]
  · rename_i h1
    simp only [h1]
    split at h
    · rename_i h2
      simp only [h2]
      simp only [Bool.and_eq_true] at h2
      exact (taskValid_facts h2.2).2.2
    · exact absurd h (by omega)

theorem TableValid_s (v : Value) (t : Teacher) (vb : Value) (tab : Table) (w : World) (hT : TeacherV w v t) (hv : TableV w vb tab) (hf : TabFit tab) (hel : t.task.sys.edges.length ≤ 1048576) :
    Calls Tryz.prog 98 #[v, vb] w (Grows (.bool (validT (askTeacher t) (teacherAlphabet t) tab)) w) := by
  obtain ⟨al, hal⟩ : ∃ al, teacherAlphabet t = al := ⟨_, rfl⟩
  rw [hal]
  obtain ⟨va, hva⟩ : ∃ va, validT (askTeacher t) al tab = va := ⟨_, rfl⟩
  rw [hva]
  have HVA := Lib.hid hva
  clear hva
  obtain ⟨ax1, ax2, ax3, ax4, ax5, rfl, ah1, ah2, ah3, ah4, ah5⟩ := hT
  obtain ⟨aa1, ac1, rfl, -, -⟩ := ah1.open
  obtain ⟨aa2, ac2, rfl, -, -⟩ := ah2.open
  obtain ⟨aa3, ac3, rfl, -, -⟩ := ah3.open
  obtain ⟨aa4, ac4, rfl, -, -⟩ := ah4.open
  obtain ⟨aa5, ac5, rfl, -, -⟩ := ah5.open
  have HT := Lib.hid (show ∀ w', Ext w w' → TeacherV w' (.agg #[.bool t.known, .int .i64 t.target.alphabet, .slice aa1 t.target.next.length ac1, .slice aa2 t.target.accept.length ac2, .int .i64 t.task.sys.alphabet, .int .i64 t.task.sys.states, .slice aa3 t.task.sys.edges.length ac3, .int .i64 t.task.prop.alphabet, .slice aa4 t.task.prop.next.length ac4, .slice aa5 t.task.prop.accept.length ac5, .int .i64 t.task.alphabet]) t from fun w' h => ⟨_, _, _, _, _, rfl, ah1.mono h, ah2.mono h, ah3.mono h, ah4.mono h, ah5.mono h⟩)
  clear ah1 ah2 ah3 ah4 ah5
  obtain ⟨vr, vc, rfl, hR, hC⟩ := hv
  obtain ⟨aR, cR, rfl, -, -⟩ := SlV.open hR
  obtain ⟨aC, cC, rfl, -, -⟩ := SlV.open hC
  have hcapR := hR.cap
  have hcapC := hC.cap
  have HTB := Lib.hid (show ∀ w', Ext w w' → TableV w' (.agg #[.slice aR tab.rows.length cR, .slice aC tab.cols.length cC]) tab from fun w' h => ⟨_, _, rfl, hR.mono h, hC.mono h⟩)
  have HRV := Lib.hid (show ∀ w', Ext w w' → StrsV w' (.slice aR tab.rows.length cR) tab.rows from fun w' h => hR.mono h)
  have HCV := Lib.hid (show ∀ w', Ext w w' → StrsV w' (.slice aC tab.cols.length cC) tab.cols from fun w' h => hC.mono h)
  clear hR hC
  obtain ⟨w0, hw0⟩ : ∃ w0, w0 = ((w.alloc (.cells #[.bool t.known, .int .i64 t.target.alphabet, .slice aa1 t.target.next.length ac1, .slice aa2 t.target.accept.length ac2, .int .i64 t.task.sys.alphabet, .int .i64 t.task.sys.states, .slice aa3 t.task.sys.edges.length ac3, .int .i64 t.task.prop.alphabet, .slice aa4 t.task.prop.next.length ac4, .slice aa5 t.task.prop.accept.length ac5, .int .i64 t.task.alphabet] 59)).alloc (.cells #[.slice aR tab.rows.length cR, .slice aC tab.cols.length cC] 53)) := ⟨_, rfl⟩
  have he : Ext w w0 := by rw [hw0]; exact (Ext.alloc _ _).trans (Ext.alloc _ _)
  have b2 : Blk w0 w.heap.size #[.bool t.known, .int .i64 t.target.alphabet, .slice aa1 t.target.next.length ac1, .slice aa2 t.target.accept.length ac2, .int .i64 t.task.sys.alphabet, .int .i64 t.task.sys.states, .slice aa3 t.task.sys.edges.length ac3, .int .i64 t.task.prop.alphabet, .slice aa4 t.task.prop.next.length ac4, .slice aa5 t.task.prop.accept.length ac5, .int .i64 t.task.alphabet] 59 := by rw [hw0]; exact Ext.blk (Ext.alloc _ _)
  have b3 : Blk w0 (w.heap.size + 1) #[.slice aR tab.rows.length cR, .slice aC tab.cols.length cC] 53 := by rw [hw0]; exact Ext.blk1 (Ext.refl _)
  go_enter Tryz.func98, Tryz.ntmps98
  go_upto_region 1 with fail
  rw [← hw0]
  clear hw0
  have HAL := Lib.hid hal
  obtain ⟨sh, hsh⟩ : ∃ sh, shapeB al tab = sh := ⟨_, rfl⟩
  have HSH := Lib.hid hsh
  have CA := Lib.hid (show ∀ w', Ext w w' → Calls Tryz.prog 156 #[.agg #[.bool t.known, .int .i64 t.target.alphabet, .slice aa1 t.target.next.length ac1, .slice aa2 t.target.accept.length ac2, .int .i64 t.task.sys.alphabet, .int .i64 t.task.sys.states, .slice aa3 t.task.sys.edges.length ac3, .int .i64 t.task.prop.alphabet, .slice aa4 t.task.prop.next.length ac4, .slice aa5 t.task.prop.accept.length ac5, .int .i64 t.task.alphabet]] w' (Grows (.int .i64 al) w') from fun w' h => by have := TeacherAlphabet_s _ t w' (HT.out _ h); rwa [hal] at this)
  have CS := Lib.hid (show ∀ w', Ext w w' → Calls Tryz.prog 155 #[.int .i64 al, .agg #[.slice aR tab.rows.length cR, .slice aC tab.cols.length cC]] w' (Grows (.bool sh) w') from fun w' h => by have := l10Shape_s al _ tab w' (HTB.out _ h) hf; rwa [hsh] at this)
  clear hal hsh
  have D0 := fun d os => cell_regrown (b2.cell 0 rfl) d os; have D1 := fun d os => cell_regrown (b2.cell 1 rfl) d os; have D2 := fun d os => cell_regrown (b2.cell 2 rfl) d os; have D3 := fun d os => cell_regrown (b2.cell 3 rfl) d os; have D4 := fun d os => cell_regrown (b2.cell 4 rfl) d os; have D5 := fun d os => cell_regrown (b2.cell 5 rfl) d os; have D6 := fun d os => cell_regrown (b2.cell 6 rfl) d os; have D7 := fun d os => cell_regrown (b2.cell 7 rfl) d os; have D8 := fun d os => cell_regrown (b2.cell 8 rfl) d os; have D9 := fun d os => cell_regrown (b2.cell 9 rfl) d os; have D10 := fun d os => cell_regrown (b2.cell 10 rfl) d os
  have E0 := fun d os => cell_regrown (b3.cell 0 rfl) d os; have E1 := fun d os => cell_regrown (b3.cell 1 rfl) d os
  refine wp_region_quiet_below (by kernel_rfl) (by kernel_rfl) ?_
  repeat (go_big_quiet_step (first | (go_at_call 156; exact Grows.quiet (CA.out _ (he.trans (below_regrown _ _ _)))) | (go_at_call 155; exact Grows.quiet (CS.out _ (he.trans (below_regrown _ _ _))))))
  refine wpQuiet_nil ?_
  intro _ hw'
  obtain ⟨⟨dq, osq⟩, hw''⟩ := hw'
  subst hw''
  have hq3 : Ext w0 (Go.Sort.grow (redrawn w0 dq) osq) := below_regrown w0 dq osq
  generalize Go.Sort.grow (redrawn w0 dq) osq = wq at hq3 ⊢
  clear D0 D1 D2 D3 D4 D5 D6 D7 D8 D9 D10
  clear E0 E1
  replace he := he.trans hq3
  replace b2 := b2.ext hq3
  replace b3 := b3.ext hq3
  clear hq3
  cases sh with
  | false =>
    go_wp2_with fail
    go_ret
    exact Grows.mk (by rw [← HVA.out, validT_shape HSH.out]; rfl) he
  | true =>
  have HS := Lib.hid (shapeB_iff.1 HSH.out)
  have hal0 := HS.out.alpha
  have hisA : isAlpha al = true := by rw [← HAL.out]; exact teacher_alpha (by rw [HAL.out]; exact hal0)
  have HISA := Lib.hid hisA
  have hr12 := HS.out.r12
  have hc20 := HS.out.c20
  have b2_0 := b2.cell 0 rfl; have b2_1 := b2.cell 1 rfl; have b2_2 := b2.cell 2 rfl; have b2_3 := b2.cell 3 rfl; have b2_4 := b2.cell 4 rfl; have b2_5 := b2.cell 5 rfl; have b2_6 := b2.cell 6 rfl; have b2_7 := b2.cell 7 rfl; have b2_8 := b2.cell 8 rfl; have b2_9 := b2.cell 9 rfl; have b2_10 := b2.cell 10 rfl; have b3_0 := b3.cell 0 rfl; have b3_1 := b3.cell 1 rfl
  clear hisA
  go_wp2_with fail
  refine (l10Rows_s _ t _ tab.cols _ tab.rows _ (HT.out _ he) (HCV.out _ he) (HRV.out _ he) (fun s hs => by have := HS.out.row_size hs; omega) (fun c hc => by have := (HS.out.col HISA.out hc).1; omega) hel hc20 (by omega)).mono ?_
  rintro e w2 ⟨vo, rfl, he2, hown⟩
  have hsv := hown.strs
  obtain ⟨ao, co, rfl, -, hat⟩ := SlV.open hsv
  obtain ⟨L, hL⟩ : ∃ L, Hid (L = tab.rows.map (rowB (askTeacher t) tab.cols)) := ⟨_, Lib.hid rfl⟩
  rw [← hL.out] at hown hsv hat ⊢
  have hLl : Hid (L.length = tab.rows.length) := Lib.hid (by rw [hL.out, List.length_map])
  have hL12 : L.length ≤ 12 := by rw [hLl.out]; exact hr12
  have hcapL := hsv.cap
  have HAT := Lib.hid hat
  have HSV := Lib.hid (show ∀ w', Ext w2 w' → ∀ k, k ≤ L.length → StrsV w' (.slice ao k co) (L.take k) from fun w' h k hk => (hsv.mono h).take rfl hk)
  have hx := he.trans he2
  have HVT : Hid (validT (askTeacher t) al tab = true ↔ L.Nodup) := Lib.hid ⟨fun h => by rw [hL.out]; exact (validT_iff.1 h).2, fun h => validT_iff.2 ⟨HS.out, by rw [← hL.out]; exact h⟩⟩
  clear hat hown hsv he2 b2 b3
  clear b2_0 b2_1 b2_2 b2_3 b2_4 b2_5 b2_6 b2_7 b2_8 b2_9 b2_10 b3_0 b3_1
  clear hr12
  go_wp2_with fail
  go_loopw [6] (fun i wr => ∃ k : Nat, k ≤ L.length ∧ i = .int .i64 k ∧ Hid ((L.take k).Nodup) ∧ Ext w2 wr) (fun i _ => L.length - (intOf i).toNat)
  case atStart => exact ⟨0, by omega, rfl, Lib.hid (by simp), Ext.refl _⟩
  case round =>
    obtain ⟨k, hk, rfl, HN, hxr⟩ := hrel
    by_cases hlt : k < L.length
    · obtain ⟨r, hr⟩ : ∃ r, L[k]? = some r := ⟨_, List.getElem?_eq_getElem hlt⟩
      obtain ⟨br, or_, rfl, -, hrr⟩ := HAT.out k r hr
      have q1 : wr.cell? ⟨br, or_ + k, none⟩ = some (.string r) := by have := hrr k r hr; unfold StrAt' at this; rw [Nat.mul_one] at this; exact hxr.cell this
      have hks : (k : Int) < (L.length : Int) := by omega
      have hkc : (k : Int) ≤ (co : Int) := by omega
      obtain ⟨m, hm⟩ : ∃ m, decide (r ∈ L.take k) = m := ⟨_, rfl⟩
      have HIN := Lib.hid (fun w' (h : Ext w2 w') => l10In_s _ (L.take k) r w' (HSV.out _ h k (by omega)) (by rw [List.length_take]; omega) hm)
      have HX := Lib.hid hr
      have HM := Lib.hid hm
      have D0 := fun d os => cell_regrown q1 d os
      clear hrr hr hm q1
      cases m with
      | true =>
        go_wp2_with fail
        refine wp_region_quiet_below (by kernel_rfl) (by kernel_rfl) ?_
        repeat (go_big_quiet_step ((go_at_call 158; exact Same.quiet (HIN.out _ (hxr.trans (below_regrown _ _ _))))))
        refine wpQuiet_nil ?_
        intro _ hw'
        obtain ⟨⟨dq, osq⟩, hw''⟩ := hw'
        subst hw''
        have hq3 : Ext wr (Go.Sort.grow (redrawn wr dq) osq) := below_regrown wr dq osq
        generalize Go.Sort.grow (redrawn wr dq) osq = wq at hq3 ⊢
        go_wp2_with fail
        go_ret
        refine Grows.mk ?_ ((hx.trans hxr).trans hq3)
        have hvf : va = false := by
          rw [← HVA.out]
          refine Bool.eq_false_iff.2 fun h => ?_
          have h2 : (L.take (k + 1)).Nodup := (HVT.out.1 h).sublist (List.take_sublist _ _)
          rw [List.take_add_one, HX.out, Option.toList_some, List.nodup_append] at h2
          exact h2.2.2 r (of_decide_eq_true HM.out) r (by simp) rfl
        rw [hvf]; rfl
      | false =>
        have HN2 : Hid ((L.take (k + 1)).Nodup) := Lib.hid (by
          rw [List.take_add_one, HX.out, Option.toList_some, List.nodup_append]
          exact ⟨HN.out, by simp, fun a ha b hb e => by simp at hb; subst hb; subst e; exact of_decide_eq_false HM.out ha⟩)
        go_wp2_with fail
        refine wp_region_quiet_below (by kernel_rfl) (by kernel_rfl) ?_
        repeat (go_big_quiet_step ((go_at_call 158; exact Same.quiet (HIN.out _ (hxr.trans (below_regrown _ _ _))))))
        refine wpQuiet_nil ?_
        intro _ hw'
        obtain ⟨⟨dq, osq⟩, hw''⟩ := hw'
        subst hw''
        have hq3 : Ext wr (Go.Sort.grow (redrawn wr dq) osq) := below_regrown wr dq osq
        generalize Go.Sort.grow (redrawn wr dq) osq = wq at hq3 ⊢
        go_wp2_with fail
        exact ⟨⟨k + 1, by omega, by go_num, HN2, hxr.trans hq3⟩, by simp [intOf]; omega⟩
    · obtain rfl : k = L.length := by omega
      have hn := HN.out
      rw [List.take_length] at hn
      have HN2 := Lib.hid hn
      clear hn
      go_wp2_with fail
      go_ret
      exact Grows.mk (by rw [← HVA.out, HVT.out.2 HN2.out]; rfl) (hx.trans hxr)

theorem validT_facts {f : ByteArray → Bool} {t : Teacher} {tab : Table} (h : validT f (teacherAlphabet t) tab = true) : Shape (teacherAlphabet t) tab ∧ isAlpha (teacherAlphabet t) = true :=
  ⟨(validT_iff.1 h).1, teacher_alpha (validT_iff.1 h).1.alpha⟩

end Go.Proofs.YtanekmfifmkbmaaGreatDoor
