/- Part of this seat's proofs, cut to what its law needs. -/

import Derived.Test.YtanekmfifmkbmaaGreatDoorTabR
import Derived.Test.YtanekmfifmkbmaaGreatDoorWalkSI
namespace Go.Proofs.YtanekmfifmkbmaaGreatDoor
set_option linter.unusedSimpArgs false
set_option linter.unusedVariables false
open Go Go.RowKit
set_option maxHeartbeats 2000000
set_option maxRecDepth 100000

def otext (o : Option ByteArray) : ByteArray := o.getD (ByteArray.mk #[])
theorem isOpen_iff {f : ByteArray → Bool} {t : Table} {s : ByteArray} {b : Bool} (h : decide (rowB f t.cols s ∈ t.rows.map (rowB f t.cols)) = b) : isOpen f t s = !b := by unfold isOpen; rw [h]

theorem l10Open_s (v : Value) (t : Teacher) (vb : Value) (tab : Table) (w : World) (hT : TeacherV w v t) (hv : TableV w vb tab) (al : Int) (hal : teacherAlphabet t = al) (hG : Grown al tab) (hel : t.task.sys.edges.length ≤ 1048576) :
    Calls Tryz.prog 99 #[v, vb] w (Grows (.tuple #[.string (otext (openW (askTeacher t) al tab)), .bool (openW (askTeacher t) al tab).isSome]) w) := by
  have HG := Lib.hid hG
  have hr12 := hG.len
  have hc20 := hG.asks.len
  have ha : 0 ≤ al ∧ al ≤ 63 := by simpa [isAlpha] using hG.asks.alpha
  obtain ⟨ha0, ha63⟩ := ha
  have HAL := Lib.hid hal
  obtain ⟨o, ho⟩ : ∃ o, openW (askTeacher t) al tab = o := ⟨_, rfl⟩
  rw [ho]
  have HOP := Lib.hid ho
  clear hG hal ho
  obtain ⟨ax1, ax2, ax3, ax4, ax5, rfl, ah1, ah2, ah3, ah4, ah5⟩ := hT
  obtain ⟨aa1, ac1, rfl, -, -⟩ := ah1.open
  obtain ⟨aa2, ac2, rfl, -, -⟩ := ah2.open
  obtain ⟨aa3, ac3, rfl, -, -⟩ := ah3.open
  obtain ⟨aa4, ac4, rfl, -, -⟩ := ah4.open
  obtain ⟨aa5, ac5, rfl, -, -⟩ := ah5.open
  have HT := Lib.hid (show ∀ w', Ext w w' → TeacherV w' (.agg #[.bool t.known, .int .i64 t.target.alphabet, .slice aa1 t.target.next.length ac1, .slice aa2 t.target.accept.length ac2, .int .i64 t.task.sys.alphabet, .int .i64 t.task.sys.states, .slice aa3 t.task.sys.edges.length ac3, .int .i64 t.task.prop.alphabet, .slice aa4 t.task.prop.next.length ac4, .slice aa5 t.task.prop.accept.length ac5, .int .i64 t.task.alphabet]) t from fun w' h => ⟨_, _, _, _, _, rfl, ah1.mono h, ah2.mono h, ah3.mono h, ah4.mono h, ah5.mono h⟩)
  clear ah1 ah2 ah3 ah4 ah5
  obtain ⟨vr, vc, rfl, hR, hC⟩ := hv
  obtain ⟨aR, cR, rfl, -, -⟩ := SlV.open hR
  obtain ⟨aC, cC, rfl, -, -⟩ := SlV.open hC
  have hcapR := hR.cap
  have hcapC := hC.cap
  have HTB := Lib.hid (show ∀ w', Ext w w' → TableV w' (.agg #[.slice aR tab.rows.length cR, .slice aC tab.cols.length cC]) tab from fun w' h => ⟨_, _, rfl, hR.mono h, hC.mono h⟩)
  have HRV := Lib.hid (show ∀ w', Ext w w' → StrsV w' (.slice aR tab.rows.length cR) tab.rows from fun w' h => hR.mono h)
  have HCV := Lib.hid (show ∀ w', Ext w w' → StrsV w' (.slice aC tab.cols.length cC) tab.cols from fun w' h => hC.mono h)
  clear hR hC
  obtain ⟨w0, hw0⟩ : ∃ w0, w0 = ((w.alloc (.cells #[.bool t.known, .int .i64 t.target.alphabet, .slice aa1 t.target.next.length ac1, .slice aa2 t.target.accept.length ac2, .int .i64 t.task.sys.alphabet, .int .i64 t.task.sys.states, .slice aa3 t.task.sys.edges.length ac3, .int .i64 t.task.prop.alphabet, .slice aa4 t.task.prop.next.length ac4, .slice aa5 t.task.prop.accept.length ac5, .int .i64 t.task.alphabet] 59)).alloc (.cells #[.slice aR tab.rows.length cR, .slice aC tab.cols.length cC] 53)) := ⟨_, rfl⟩
  have he : Ext w w0 := by rw [hw0]; exact (Ext.alloc _ _).trans (Ext.alloc _ _)
  have b2 : Blk w0 w.heap.size #[.bool t.known, .int .i64 t.target.alphabet, .slice aa1 t.target.next.length ac1, .slice aa2 t.target.accept.length ac2, .int .i64 t.task.sys.alphabet, .int .i64 t.task.sys.states, .slice aa3 t.task.sys.edges.length ac3, .int .i64 t.task.prop.alphabet, .slice aa4 t.task.prop.next.length ac4, .slice aa5 t.task.prop.accept.length ac5, .int .i64 t.task.alphabet] 59 := by rw [hw0]; exact Ext.blk (Ext.alloc _ _)
  have b3 : Blk w0 (w.heap.size + 1) #[.slice aR tab.rows.length cR, .slice aC tab.cols.length cC] 53 := by rw [hw0]; exact Ext.blk1 (Ext.refl _)
  go_enter Tryz.func99, Tryz.ntmps99
  go_upto_region 1 with fail
  rw [← hw0]
  clear hw0
  have CA := Lib.hid (show ∀ w', Ext w w' → Calls Tryz.prog 156 #[.agg #[.bool t.known, .int .i64 t.target.alphabet, .slice aa1 t.target.next.length ac1, .slice aa2 t.target.accept.length ac2, .int .i64 t.task.sys.alphabet, .int .i64 t.task.sys.states, .slice aa3 t.task.sys.edges.length ac3, .int .i64 t.task.prop.alphabet, .slice aa4 t.task.prop.next.length ac4, .slice aa5 t.task.prop.accept.length ac5, .int .i64 t.task.alphabet]] w' (Grows (.int .i64 al) w') from fun w' h => by have := TeacherAlphabet_s _ t w' (HT.out _ h); rwa [HAL.out] at this)
  have b2_0 := b2.cell 0 rfl; have b2_1 := b2.cell 1 rfl; have b2_2 := b2.cell 2 rfl; have b2_3 := b2.cell 3 rfl; have b2_4 := b2.cell 4 rfl; have b2_5 := b2.cell 5 rfl; have b2_6 := b2.cell 6 rfl; have b2_7 := b2.cell 7 rfl; have b2_8 := b2.cell 8 rfl; have b2_9 := b2.cell 9 rfl; have b2_10 := b2.cell 10 rfl; have b3_0 := b3.cell 0 rfl; have b3_1 := b3.cell 1 rfl
  go_wp2_with fail
  refine (CA.out _ he).mono ?_
  rintro e w1 ⟨rfl, he1⟩
  clear b2_0 b2_1 b2_2 b2_3 b2_4 b2_5 b2_6 b2_7 b2_8 b2_9 b2_10 b3_0 b3_1
  replace he := he.trans he1
  replace b2 := b2.ext he1
  replace b3 := b3.ext he1
  clear he1
  go_wp2_with fail
  refine (l1Letters_c al _ ha0 ha63).mono ?_
  rintro e w2 ⟨vl, rfl, he2, hLt⟩
  obtain ⟨aL, cL, rfl, -, hlt⟩ := hLt.open
  have HLT := Lib.hid hlt
  have hl6 : (letters al).length ≤ 6 := lettersTo_len al 6
  replace he := he.trans he2
  replace b2 := b2.ext he2
  replace b3 := b3.ext he2
  clear he2 hlt hLt
  have b2_0 := b2.cell 0 rfl; have b2_1 := b2.cell 1 rfl; have b2_2 := b2.cell 2 rfl; have b2_3 := b2.cell 3 rfl; have b2_4 := b2.cell 4 rfl; have b2_5 := b2.cell 5 rfl; have b2_6 := b2.cell 6 rfl; have b2_7 := b2.cell 7 rfl; have b2_8 := b2.cell 8 rfl; have b2_9 := b2.cell 9 rfl; have b2_10 := b2.cell 10 rfl; have b3_0 := b3.cell 0 rfl; have b3_1 := b3.cell 1 rfl
  go_wp2_with fail
  refine (l10Rows_s _ t _ tab.cols _ tab.rows _ (HT.out _ he) (HCV.out _ he) (HRV.out _ he) (fun s hs => by have := (HG.out.row s hs).1; omega) (fun c hc => by have := (HG.out.asks.col c hc).1; omega) hel hc20 (by omega)).mono ?_
  rintro e w3 ⟨vo, rfl, he3, hown⟩
  have hsv := hown.strs
  obtain ⟨ao, co, rfl, -, -⟩ := SlV.open hsv
  obtain ⟨L, hL⟩ : ∃ L, Hid (L = tab.rows.map (rowB (askTeacher t) tab.cols)) := ⟨_, Lib.hid rfl⟩
  rw [← hL.out] at hsv ⊢
  have hL12 : L.length ≤ 12 := by rw [hL.out, List.length_map]; exact hr12
  have HSV := Lib.hid (show ∀ w', Ext w3 w' → StrsV w' (.slice ao L.length co) L from fun w' h => hsv.mono h)
  have HROWS := Lib.hid (show ∀ w', Ext w w' → ∀ k x, tab.rows[k]? = some x → ∃ b o, aR = some ⟨b, o, none⟩ ∧ w'.cell? ⟨b, o + k, none⟩ = some (.string x) from fun w' h k x hx => by
    obtain ⟨a, c, e, -, h2⟩ := SlV.open (HRV.out w' h)
    cases e
    obtain ⟨b, o, e, -, hc⟩ := h2 k x hx
    have := hc k x hx; unfold StrAt' at this; rw [Nat.mul_one] at this
    exact ⟨b, o, e, this⟩)
  clear hown hsv
  clear b2_0 b2_1 b2_2 b2_3 b2_4 b2_5 b2_6 b2_7 b2_8 b2_9 b2_10 b3_0 b3_1
  replace he := he.trans he3
  replace b2 := b2.ext he3
  replace b3 := b3.ext he3
  go_wp2_with fail
  go_loopw [8] (fun i wr => ∃ k : Nat, k ≤ tab.rows.length ∧ i = .int .i64 k ∧ Hid (∀ x ∈ behindTo al tab.rows k 0, isOpen (askTeacher t) tab x = false) ∧ Ext w wr ∧ Ext w3 wr ∧ Ext w2 wr ∧ Blk wr w.heap.size #[.bool t.known, .int .i64 t.target.alphabet, .slice aa1 t.target.next.length ac1, .slice aa2 t.target.accept.length ac2, .int .i64 t.task.sys.alphabet, .int .i64 t.task.sys.states, .slice aa3 t.task.sys.edges.length ac3, .int .i64 t.task.prop.alphabet, .slice aa4 t.task.prop.next.length ac4, .slice aa5 t.task.prop.accept.length ac5, .int .i64 t.task.alphabet] 59 ∧ Blk wr (w.heap.size + 1) #[.slice aR tab.rows.length cR, .slice aC tab.cols.length cC] 53) (fun i _ => tab.rows.length - (intOf i).toNat)
  case atStart => exact ⟨0, by omega, rfl, Lib.hid (by rw [behindTo_zero]; intro x hx; cases hx), he, Ext.refl _, he3, b2, b3⟩
  case round =>
    clear he b2 b3 he3
    obtain ⟨k, hk, rfl, HNO, he, hx3, hx2, b2, b3⟩ := hrel
    have b3_0 := b3.cell 0 rfl
    have b3_1 := b3.cell 1 rfl
    by_cases hlt : k < tab.rows.length
    case neg =>
      obtain rfl : k = tab.rows.length := by omega
      have hoe : o = none := by rw [← HOP.out]; exact openW_none HNO.out
      subst hoe
      go_wp2_with fail
      go_ret2
      exact Grows.mk rfl he
    obtain ⟨r, hr⟩ : ∃ r, tab.rows[k]? = some r := ⟨_, List.getElem?_eq_getElem hlt⟩
    have HR := Lib.hid hr
    have hrs := (HG.out.row r (List.mem_of_getElem? hr)).1
    obtain ⟨bR, oR, rfl, -⟩ := HROWS.out wr he k r hr
    have hks : (k : Int) < (tab.rows.length : Int) := by omega
    clear hr
    go_wp2_with fail
    go_loopw [9] (fun i wr => ∃ j : Nat, j ≤ (letters al).length ∧ i = .int .i64 j ∧ Hid (∀ x ∈ behindTo al tab.rows k j, isOpen (askTeacher t) tab x = false) ∧ Ext w wr ∧ Ext w3 wr ∧ Ext w2 wr ∧ Blk wr w.heap.size #[.bool t.known, .int .i64 t.target.alphabet, .slice aa1 t.target.next.length ac1, .slice aa2 t.target.accept.length ac2, .int .i64 t.task.sys.alphabet, .int .i64 t.task.sys.states, .slice aa3 t.task.sys.edges.length ac3, .int .i64 t.task.prop.alphabet, .slice aa4 t.task.prop.next.length ac4, .slice aa5 t.task.prop.accept.length ac5, .int .i64 t.task.alphabet] 59 ∧ Blk wr (w.heap.size + 1) #[.slice (some ⟨bR, oR, none⟩) tab.rows.length cR, .slice aC tab.cols.length cC] 53) (fun i _ => (letters al).length - (intOf i).toNat)
    case atStart => exact ⟨0, by omega, rfl, HNO, he, hx3, hx2, b2, b3⟩
    case round =>
      clear he b2 b3 hx3 hx2 HNO b3_0 b3_1
      obtain ⟨j, hj, rfl, HNO, he, hx3, hx2, b2, b3⟩ := hrel
      by_cases hlj : j < (letters al).length
      case neg =>
        obtain rfl : j = (letters al).length := by omega
        have HNO2 : Hid (∀ x ∈ behindTo al tab.rows (k + 1) 0, isOpen (askTeacher t) tab x = false) := Lib.hid (by rw [behindTo_next HR.out]; exact HNO.out)
        go_wp2_with fail
        exact ⟨⟨k + 1, by omega, by go_num, HNO2, he, hx3, hx2, b2, b3⟩, by simp [intOf]; omega⟩
      obtain ⟨l, hl⟩ : ∃ l, (letters al)[j]? = some l := ⟨_, List.getElem?_eq_getElem hlj⟩
      have HL := Lib.hid hl
      have hlm := List.mem_of_getElem? hl
      obtain ⟨l0, l6⟩ := letters_lt6 ha63 l hlm
      obtain ⟨ln, hln⟩ := Int.eq_ofNat_of_zero_le l0
      obtain ⟨bL, oL, rfl, -, hcl⟩ := HLT.out j l hl
      have q2 : wr.cell? ⟨bL, oL + j, none⟩ = some (.int .i64 ln) := by have := hcl j l hl; rw [Nat.mul_one, hln] at this; exact hx2.cell this
      obtain ⟨bR', oR', eR, q1⟩ := HROWS.out wr he k r HR.out
      cases eR
      obtain ⟨s, hs⟩ : ∃ s, r ++ wtext [(ln : Int)] = s := ⟨_, rfl⟩
      have hsz : (wtext [(ln : Int)]).size = 1 := by rw [size_wtext]; rfl
      have hss : s.size ≤ 24 := by rw [← hs, ByteArray.size_append, hsz]; omega
      have hov : ¬ 9223372036854775807 < r.size + (wtext [(ln : Int)]).size := by omega
      have HS := Lib.hid hs
      have HL1 := Lib.hid (fun w' => l1Text_c ln w' (by omega))
      obtain ⟨x, hx⟩ : ∃ x, rowB (askTeacher t) tab.cols s = x := ⟨_, rfl⟩
      obtain ⟨m, hm⟩ : ∃ m, decide (x ∈ L) = m := ⟨_, rfl⟩
      have HOPEN : Hid (isOpen (askTeacher t) tab s = !m) := Lib.hid (isOpen_iff (by rw [hx, ← hL.out]; exact hm))
      have HROW := Lib.hid (fun w' (h : Ext w w') => (show Calls Tryz.prog 160 #[.agg #[.bool t.known, .int .i64 t.target.alphabet, .slice aa1 t.target.next.length ac1, .slice aa2 t.target.accept.length ac2, .int .i64 t.task.sys.alphabet, .int .i64 t.task.sys.states, .slice aa3 t.task.sys.edges.length ac3, .int .i64 t.task.prop.alphabet, .slice aa4 t.task.prop.next.length ac4, .slice aa5 t.task.prop.accept.length ac5, .int .i64 t.task.alphabet], .slice aC tab.cols.length cC, .string s] w' (Grows (.string x) w') from by have := l10Row_s _ t _ tab.cols s w' (HT.out _ h) (HCV.out _ h) (by omega) (fun c hc => by have := (HG.out.asks.col c hc).1; omega) hel hc20; rwa [hx] at this))
      have HIN := Lib.hid (fun w' (h : Ext w3 w') => l10In_s _ L x w' (HSV.out _ h) (by omega) hm)
      have hjs : (j : Int) < ((letters al).length : Int) := by omega
      have HBT : Hid (behindTo al tab.rows k (j + 1) = behindTo al tab.rows k j ++ [s]) := Lib.hid (by rw [behindTo_succ HR.out HL.out, hln]; rw [← HS.out]; first | done | rfl)
      have HFO : Hid (m = false → openW (askTeacher t) al tab = some s) := Lib.hid (fun hmf => by
        have := openW_found (f := askTeacher t) HR.out HL.out HNO.out (by rw [hln]; show isOpen _ _ (r ++ wtext [(ln : Int)]) = true; rw [HS.out, HOPEN.out, hmf]; rfl)
        rw [this, hln]; rw [← HS.out]; first | done | rfl)
      clear hl hlm hcl hx hm hln
      have E0 := fun d os => cell_regrown (b3.cell 0 rfl) d os; have E1 := fun d os => cell_regrown (b3.cell 1 rfl) d os
      have D11 := fun d os => cell_regrown q1 d os
      have D12 := fun d os => cell_regrown q2 d os
      go_wp2_with fail
      refine wp_region_quiet_below (by kernel_rfl) (by kernel_rfl) ?_
      repeat (go_big_quiet_step ((go_at_call 159; exact Grows.quiet (HL1.out _))))
      refine wpQuiet_nil ?_
      intro _ hw'
      obtain ⟨⟨dq, osq⟩, hw''⟩ := hw'
      subst hw''
      have hq3 : Ext wr (Go.Sort.grow (redrawn wr dq) osq) := below_regrown wr dq osq
      generalize Go.Sort.grow (redrawn wr dq) osq = wq at hq3 ⊢
      clear E0 E1
      clear D11 D12 q1 q2
      replace he := he.trans hq3
      replace hx3 := hx3.trans hq3
      replace hx2 := hx2.trans hq3
      replace b2 := b2.ext hq3
      replace b3 := b3.ext hq3
      clear hq3
      have b2_0 := b2.cell 0 rfl; have b2_1 := b2.cell 1 rfl; have b2_2 := b2.cell 2 rfl; have b2_3 := b2.cell 3 rfl; have b2_4 := b2.cell 4 rfl; have b2_5 := b2.cell 5 rfl; have b2_6 := b2.cell 6 rfl; have b2_7 := b2.cell 7 rfl; have b2_8 := b2.cell 8 rfl; have b2_9 := b2.cell 9 rfl; have b2_10 := b2.cell 10 rfl; have b3_0 := b3.cell 0 rfl; have b3_1 := b3.cell 1 rfl
      go_wp2_with fail
      refine (HROW.out _ he).mono ?_
      rintro e w5 ⟨rfl, he5⟩
      replace he := he.trans he5
      replace hx3 := hx3.trans he5
      replace hx2 := hx2.trans he5
      replace b2 := b2.ext he5
      replace b3 := b3.ext he5
      clear b2_0 b2_1 b2_2 b2_3 b2_4 b2_5 b2_6 b2_7 b2_8 b2_9 b2_10 b3_0 b3_1
      clear he5
      go_wp2_with fail
      refine (HIN.out _ hx3).mono ?_
      rintro e w6 ⟨rfl, rfl⟩
      cases m with
      | true =>
        have HNO2 : Hid (∀ y ∈ behindTo al tab.rows k (j + 1), isOpen (askTeacher t) tab y = false) := Lib.hid (by
          rw [HBT.out]
          intro y hy
          rcases List.mem_append.1 hy with hy | hy
          · exact HNO.out y hy
          · simp only [List.mem_singleton] at hy
            rw [hy, HOPEN.out]; rfl)
        go_wp2_with fail
        exact ⟨⟨j + 1, by omega, by go_num, HNO2, he, hx3, hx2, b2, b3⟩, by simp [intOf]; omega⟩
      | false =>
        have hoe : o = some s := by rw [← HOP.out]; exact HFO.out (by first | rfl | trivial)
        subst hoe
        go_wp2_with fail
        go_ret2
        exact Grows.mk rfl he
end Go.Proofs.YtanekmfifmkbmaaGreatDoor
