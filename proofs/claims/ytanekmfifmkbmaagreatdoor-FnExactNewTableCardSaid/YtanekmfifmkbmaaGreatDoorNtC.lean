/- Part of this seat's proofs, cut to what its law needs. -/

import Derived.Test.YtanekmfifmkbmaaGreatDoorCtC
namespace Go.Proofs.YtanekmfifmkbmaaGreatDoor
set_option linter.unusedSimpArgs false
set_option linter.unusedVariables false
open Go Go.RowKit Go.Maps
set_option maxHeartbeats 4000000
set_option maxRecDepth 100000
attribute [local go_sem] run_store_nilFunc' run_store_func'

section
variable {al : Int} {f : ByteArray → Bool} {m lo bs : Nat} {vo : Value} {J : Nat → World → Prop}
theorem newTable_c (hO : Ora al f m lo bs vo J) (c : Nat) (w : World) (hJ : J c w) (hc : c ≤ 1000) (hal : isAlpha al = true) (hbs : bs ≤ w.heap.size) :
    Calls Tryz.prog 54 #[.agg #[.int .i64 al, vo]] w (TabAskEnd m lo (closedT f al startT) w) := by
  have hmlt := hO.mlt
  have hllt := hO.llt
  obtain ⟨w0, hw0⟩ : ∃ w0, w0 = (w.alloc (.cells #[.int .i64 al, vo] 108)).alloc (.cells #[.slice none 0 0, .slice none 0 0] 53) := ⟨_, rfl⟩
  have he : Ext w w0 := by rw [hw0]; exact (Ext.alloc _ _).trans (Ext.alloc _ _)
  have b2 : Blk w0 w.heap.size #[.int .i64 al, vo] 108 := by rw [hw0]; exact Ext.blk (Ext.alloc _ _)
  have b4 : Blk w0 (w.heap.size + 1) #[.slice none 0 0, .slice none 0 0] 53 := by rw [hw0]; exact Ext.blk1 (Ext.refl _)
  obtain ⟨w1, hw1⟩ : ∃ w1, w1 = (w0.alloc (.cells #[.string (ByteArray.mk #[])] 9)).alloc (.cells #[.string (ByteArray.mk #[])] 9) := ⟨_, rfl⟩
  have he1 : Ext w0 w1 := by rw [hw1]; exact (Ext.alloc _ _).trans (Ext.alloc _ _)
  have s1 : Blk w1 w0.heap.size #[.string (ByteArray.mk #[])] 9 := by rw [hw1]; exact Ext.blk (Ext.alloc _ _)
  have s2 : Blk w1 (w0.heap.size + 1) #[.string (ByteArray.mk #[])] 9 := by rw [hw1]; exact Ext.blk1 (Ext.refl _)
  have b41 := b4.ext he1
  have hx1 := he.trans he1
  have hsz := hx1.size
  have ha0 : 0 ≤ al := by have h2 := hal; simp [isAlpha] at h2; exact h2.1
  obtain ⟨vr, vc, e0, hR, hC⟩ := startT_v s1 s2
  simp only [Value.agg.injEq, Array.mk.injEq, List.cons.injEq, and_true] at e0
  obtain ⟨rfl, rfl⟩ := e0
  have CC := Lib.hid (closeTable_c hO _ _ startT c w1 (hO.ext hbs hJ hx1) hc ((startT_shape ha0).grown hal) (by decide) hR hC (by omega))
  have ht1 : Touch eK m lo w w1 := Touch.ext hx1
  obtain ⟨o, ho⟩ : ∃ o, closedT f al startT = o := ⟨_, rfl⟩
  rw [ho] at CC ⊢
  clear hJ hO hR hC ho
  go_enter Tryz.func54, Tryz.ntmps54
  go_upto_region 1 with fail
  rw [← hw0]
  clear hw0
  have b2_0 := b2.cell 0 rfl
  have b2_1 := b2.cell 1 rfl
  go_wp2_with fail
  rw [← hw1]
  clear hw1 b2_0 b2_1 b2 b4 he he1 s1 s2
  have hlow : w.heap.size ≤ w.heap.size + 1 := by omega
  refine CC.out.mono ?_
  rintro e w2 ⟨ht2, (⟨rfl, rfl⟩ | ⟨T, v', rfl, rfl, vr, vc, rfl, hP⟩)⟩
  · have b42 := ht2.blk b41 (by decide) (by omega)
    have t2 := ht1.trans ht2
    have hz2 := t2.size
    have rc0 := b42.cell 0 rfl; have rf0 := b42.fr 0; have rc1 := b42.cell 1 rfl; have rf1 := b42.fr 1
    go_wp2_with fail
    refine bodyPost_ret (v := .tuple #[.agg #[.slice none 0 0, .slice none 0 0], .bool false]) (by simp [results, Tryz.results54, go_sem, rc0, rc1, rf0, rf1]) rfl ?_
    exact ⟨(t2.low (below_set hlow hz2 0 _)).low (below_set hlow (by rw [World.size_setCell]; exact hz2) 1 _), .inl ⟨rfl, rfl⟩⟩
  · have b42 := ht2.blk b41 (by decide) (by omega)
    have t2 := ht1.trans ht2
    have hz2 := t2.size
    obtain ⟨aR, cR, rfl⟩ := own_any' (Pool.hd hP)
    obtain ⟨aC, cC, rfl⟩ : ∃ a c, vc = .slice a T.cols.length c := own_any' (hP.own (slT vc T.cols) (by simp))
    have hnT : ∀ s ∈ [slT (.slice aR T.rows.length cR) T.rows, slT (.slice aC T.cols.length cC) T.cols], 53 ≠ s.e := by
      intro s hs
      simp only [List.mem_cons, List.mem_nil_iff, or_false] at hs
      rcases hs with rfl | rfl <;> exact (by decide : 53 ≠ 9)
    have rc0 := b42.cell 0 rfl; have rf0 := b42.fr 0; have rc1 := b42.cell 1 rfl; have rf1 := b42.fr 1
    go_wp2_with fail
    refine bodyPost_ret (v := .tuple #[.agg #[.slice aR T.rows.length cR, .slice aC T.cols.length cC], .bool true]) (by simp [results, Tryz.results54, go_sem, rc0, rc1, rf0, rf1]) rfl ?_
    exact ⟨(t2.low (below_set hlow hz2 0 _)).low (below_set hlow (by rw [World.size_setCell]; exact hz2) 1 _), .inr ⟨_, _, rfl, rfl, _, _, rfl, (((hP.low hsz).set b42 hnT 0 _).set (b42.set 0 _) hnT 1 _)⟩⟩
end

theorem newO_neg {t : Teacher} (h : teacherAlphabet t < 0) : newO t = none := by unfold newO closeO; rw [validT_neg h]; rfl
theorem newO_pos {t : Teacher} (h : 0 ≤ teacherAlphabet t) : newO t = closedT (askTeacher t) (teacherAlphabet t) startT := by unfold newO closeO; rw [startT_valid h]; rfl

theorem NewTable_c (v : Value) (t : Teacher) (w : World) (hT : TeacherV w v t) (hD : Deb w) :
    Calls Tryz.prog 15 #[v] w (TabEnd (newO t) w) := by
  have HDb := Lib.hid hD
  clear hD
  obtain ⟨o, ho⟩ : ∃ o, newO t = o := ⟨_, rfl⟩
  rw [ho]
  have HO := Lib.hid ho
  clear ho
  obtain ⟨ax1, ax2, ax3, ax4, ax5, rfl, ah1, ah2, ah3, ah4, ah5⟩ := hT
  obtain ⟨aa1, ac1, rfl, -, -⟩ := ah1.open
  obtain ⟨aa2, ac2, rfl, -, -⟩ := ah2.open
  obtain ⟨aa3, ac3, rfl, -, -⟩ := ah3.open
  obtain ⟨aa4, ac4, rfl, -, -⟩ := ah4.open
  obtain ⟨aa5, ac5, rfl, -, -⟩ := ah5.open
  have HT := Lib.hid (show ∀ w', Ext w w' → TeacherV w' (.agg #[.bool t.known, .int .i64 t.target.alphabet, .slice aa1 t.target.next.length ac1, .slice aa2 t.target.accept.length ac2, .int .i64 t.task.sys.alphabet, .int .i64 t.task.sys.states, .slice aa3 t.task.sys.edges.length ac3, .int .i64 t.task.prop.alphabet, .slice aa4 t.task.prop.next.length ac4, .slice aa5 t.task.prop.accept.length ac5, .int .i64 t.task.alphabet]) t from fun w' h => ⟨_, _, _, _, _, rfl, ah1.mono h, ah2.mono h, ah3.mono h, ah4.mono h, ah5.mono h⟩)
  clear ah1 ah2 ah3 ah4 ah5
  obtain ⟨w0, hw0⟩ : ∃ w0, w0 = (w.alloc (.cells #[.bool t.known, .int .i64 t.target.alphabet, .slice aa1 t.target.next.length ac1, .slice aa2 t.target.accept.length ac2, .int .i64 t.task.sys.alphabet, .int .i64 t.task.sys.states, .slice aa3 t.task.sys.edges.length ac3, .int .i64 t.task.prop.alphabet, .slice aa4 t.task.prop.next.length ac4, .slice aa5 t.task.prop.accept.length ac5, .int .i64 t.task.alphabet] 59)).alloc (.cells #[.slice none 0 0, .slice none 0 0] 53) := ⟨_, rfl⟩
  have he : Ext w w0 := by rw [hw0]; exact (Ext.alloc _ _).trans (Ext.alloc _ _)
  have b2 : Blk w0 w.heap.size #[.bool t.known, .int .i64 t.target.alphabet, .slice aa1 t.target.next.length ac1, .slice aa2 t.target.accept.length ac2, .int .i64 t.task.sys.alphabet, .int .i64 t.task.sys.states, .slice aa3 t.task.sys.edges.length ac3, .int .i64 t.task.prop.alphabet, .slice aa4 t.task.prop.next.length ac4, .slice aa5 t.task.prop.accept.length ac5, .int .i64 t.task.alphabet] 59 := by rw [hw0]; exact Ext.blk (Ext.alloc _ _)
  have b4 : Blk w0 (w.heap.size + 1) #[.slice none 0 0, .slice none 0 0] 53 := by rw [hw0]; exact Ext.blk1 (Ext.refl _)
  have CN := Lib.hid (newOracle_c _ t w0 (HT.out _ he) (HDb.out.ext he))
  have hsz0 := he.size
  have hb4l := b4.lt
  go_enter Tryz.func15, Tryz.ntmps15
  go_upto_region 1 with fail
  rw [← hw0]
  clear hw0
  have b2_0 := b2.cell 0 rfl; have b2_1 := b2.cell 1 rfl; have b2_2 := b2.cell 2 rfl; have b2_3 := b2.cell 3 rfl; have b2_4 := b2.cell 4 rfl; have b2_5 := b2.cell 5 rfl; have b2_6 := b2.cell 6 rfl; have b2_7 := b2.cell 7 rfl; have b2_8 := b2.cell 8 rfl; have b2_9 := b2.cell 9 rfl; have b2_10 := b2.cell 10 rfl
  go_wp2_with fail
  refine CN.out.mono ?_
  clear b2_0 b2_1 b2_2 b2_3 b2_4 b2_5 b2_6 b2_7 b2_8 b2_9 b2_10
  rintro e w1 (⟨hneg, he1, rfl⟩ | ⟨hge, he1, m, lo, bs, vo, J, rfl, hO, hJ, hm, hlo, hbs⟩)
  · obtain rfl : o = none := by rw [← HO.out]; exact newO_neg hneg
    have he2 : Ext w1 (w1.alloc (.cells #[.int .i64 0, .nilFunc] 108)) := Ext.alloc _ _
    have b42 := (b4.ext he1).ext he2
    have hx2 := (he.trans he1).trans he2
    clear hneg
    have rc0 := b42.cell 0 rfl; have rf0 := b42.fr 0; have rc1 := b42.cell 1 rfl; have rf1 := b42.fr 1
    go_wp2_with fail
    refine bodyPost_ret (v := .tuple #[.agg #[.slice none 0 0, .slice none 0 0], .bool false]) (by simp [results, Tryz.results15, go_sem, rc0, rc1, rf0, rf1]) rfl ?_
    exact ⟨((hx2.setCell (p := ⟨(w.heap.size + 1), 0, none⟩) (by simp only []; omega) _).setCell (p := ⟨(w.heap.size + 1), 1, none⟩) (by simp only []; omega) _), .inl ⟨rfl, rfl⟩⟩
  · have HAL := Lib.hid (teacher_alpha hge)
    have hop := newO_pos hge
    obtain ⟨al, hal⟩ : ∃ al, teacherAlphabet t = al := ⟨_, rfl⟩
    rw [hal] at hO HAL hop ⊢
    have hmlt := hO.mlt
    have hllt := hO.llt
    have HO2 := Lib.hid hO
    obtain ⟨w2, hw2⟩ : ∃ w2, w2 = w1.alloc (.cells #[.int .i64 al, vo] 108) := ⟨_, rfl⟩
    have he2 : Ext w1 w2 := by rw [hw2]; exact Ext.alloc _ _
    have b7 : Blk w2 w1.heap.size #[.int .i64 al, vo] 108 := by rw [hw2]; exact Blk.new _ _ _
    have b42 := (b4.ext he1).ext he2
    have hx2 := (he.trans he1).trans he2
    have CT := Lib.hid (newTable_c hO 0 w2 (hO.ext hbs hJ he2) (by omega) HAL.out (Nat.le_trans hbs he2.size))
    rw [← hop, HO.out] at CT
    have HLOW := Lib.hid (fun w' (h : Touch eK m lo w2 w') => ora_low hx2 (show w.heap.size ≤ m by omega) (show w.heap.size ≤ lo by omega) h)
    have hsz2 := hx2.size
    clear hal hge hO hJ b4 b2 he he1 he2 hop
    rcases HO2.out.fn with ⟨ff, p1, p2, rfl, -, -⟩ | ⟨ff, p1, rfl, -, -⟩
    all_goals
      go_upto_region 4 with fail
      rw [← hw2]
      clear hw2
      have b7_0 := b7.cell 0 rfl
      have b7_1 := b7.cell 1 rfl
      go_wp2_with fail
      refine CT.out.mono ?_
      rintro e w3 ⟨ht3, (⟨rfl, rfl⟩ | ⟨T, v', rfl, rfl, vr, vc, rfl, hP⟩)⟩
      · have b43 := ht3.blk b42 (by decide) (by omega)
        have hx3 := HLOW.out _ ht3
        clear b7_0 b7_1
        have rc0 := b43.cell 0 rfl
        have rf0 := b43.fr 0
        have rc1 := b43.cell 1 rfl
        have rf1 := b43.fr 1
        go_wp2_with fail
        refine bodyPost_ret (v := .tuple #[.agg #[.slice none 0 0, .slice none 0 0], .bool false]) (by simp [results, Tryz.results15, go_sem, rc0, rc1, rf0, rf1]) rfl ?_
        exact ⟨((hx3.setCell (p := ⟨(w.heap.size + 1), 0, none⟩) (by simp only []; omega) _).setCell (p := ⟨(w.heap.size + 1), 1, none⟩) (by simp only []; omega) _), .inl ⟨rfl, rfl⟩⟩
      · have b43 := ht3.blk b42 (by decide) (by omega)
        have hx3 := HLOW.out _ ht3
        obtain ⟨aR, cR, rfl⟩ := own_any' (Pool.hd hP)
        obtain ⟨aC, cC, rfl⟩ : ∃ a c, vc = .slice a T.cols.length c := own_any' (hP.own (slT vc T.cols) (by simp))
        have hnT : ∀ s ∈ [slT (.slice aR T.rows.length cR) T.rows, slT (.slice aC T.cols.length cC) T.cols], 53 ≠ s.e := by
          intro s hs
          simp only [List.mem_cons, List.mem_nil_iff, or_false] at hs
          rcases hs with rfl | rfl <;> exact (by decide : 53 ≠ 9)
        clear b7_0 b7_1
        have rc0 := b43.cell 0 rfl
        have rf0 := b43.fr 0
        have rc1 := b43.cell 1 rfl
        have rf1 := b43.fr 1
        go_wp2_with fail
        refine bodyPost_ret (v := .tuple #[.agg #[.slice aR T.rows.length cR, .slice aC T.cols.length cC], .bool true]) (by simp [results, Tryz.results15, go_sem, rc0, rc1, rf0, rf1]) rfl ?_
        exact ⟨((hx3.setCell (p := ⟨(w.heap.size + 1), 0, none⟩) (by simp only []; omega) _).setCell (p := ⟨(w.heap.size + 1), 1, none⟩) (by simp only []; omega) _), .inr ⟨_, _, rfl, rfl, _, _, rfl, (((hP.low hsz2).set b43 hnT 0 _).set (b43.set 0 _) hnT 1 _)⟩⟩
end Go.Proofs.YtanekmfifmkbmaaGreatDoor
