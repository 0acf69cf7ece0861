/- Part of this seat's proofs, cut to what its law needs. -/

import Derived.Test.YtccklliljdembaaGreatDoorDrawAk
import Derived.Test.YtccklliljdembaaGreatDoorAskT
import Derived.Test.YtccklliljdembaaGreatDoorWalkWs
import Derived.Test.YtccklliljdembaaGreatDoorDrawL
namespace Go.Proofs.YtccklliljdembaaGreatDoor.lawFnTeacherTask
open Go.ChangeShapes Go.WideShapes Go.ChangeAt Go.RowKit
open Go.Proofs.YtccklliljdembaaGreatDoor
open Go.ChangeMaps (open_string shut_string)
set_option linter.unusedVariables false
set_option linter.unusedSimpArgs false
set_option maxHeartbeats 1600000
set_option maxRecDepth 100000

theorem TeacherV.lens {w : World} {v : Value} {t : Teacher} (h : TeacherV w v t) : ∃ kn aN cN aA cA aE cE aM cM aP cP, t.known = kn ∧ v = .agg #[.bool kn, .int .i64 t.target.alphabet, .slice aN t.target.next.length cN, .slice aA t.target.accept.length cA, .int .i64 t.task.sys.alphabet, .int .i64 t.task.sys.states, .slice aE t.task.sys.edges.length cE, .int .i64 t.task.prop.alphabet, .slice aM t.task.prop.next.length cM, .slice aP t.task.prop.accept.length cP, .int .i64 t.task.alphabet] ∧ ∀ w', Ext w w' → TeacherV w' (.agg #[.bool kn, .int .i64 t.target.alphabet, .slice aN t.target.next.length cN, .slice aA t.target.accept.length cA, .int .i64 t.task.sys.alphabet, .int .i64 t.task.sys.states, .slice aE t.task.sys.edges.length cE, .int .i64 t.task.prop.alphabet, .slice aM t.task.prop.next.length cM, .slice aP t.task.prop.accept.length cP, .int .i64 t.task.alphabet]) t ∧ TaskV w' (.agg #[.int .i64 t.task.sys.alphabet, .int .i64 t.task.sys.states, .slice aE t.task.sys.edges.length cE, .int .i64 t.task.prop.alphabet, .slice aM t.task.prop.next.length cM, .slice aP t.task.prop.accept.length cP, .int .i64 t.task.alphabet]) t.task := by
  obtain ⟨vn, va, ve, vn2, va2, rfl, h1, h2, h3, h4, h5⟩ := h
  obtain ⟨aN, cN, rfl, -, -⟩ := h1.open
  obtain ⟨aA, cA, rfl, -, -⟩ := h2.open
  obtain ⟨aE, cE, rfl, -, -⟩ := h3.open
  obtain ⟨aM, cM, rfl, -, -⟩ := h4.open
  obtain ⟨aP, cP, rfl, -, -⟩ := h5.open
  exact ⟨_, aN, cN, aA, cA, aE, cE, aM, cM, aP, cP, rfl, rfl, fun w' h => ⟨⟨_, _, _, _, _, rfl, h1.mono h, h2.mono h, h3.mono h, h4.mono h, h5.mono h⟩, ⟨_, _, _, rfl, h3.mono h, h4.mono h, h5.mono h⟩⟩⟩

theorem AutoV.known {w : World} {a c : Value} {R : Auto} (h : AutoV w (.agg #[.int .i64 R.alphabet, a, c]) R) : TeacherV w (.agg #[.bool true, .int .i64 R.alphabet, a, c, .int .i64 0, .int .i64 0, .slice none 0 0, .int .i64 0, .slice none 0 0, .slice none 0 0, .int .i64 0]) ⟨true, R, ⟨⟨0, 0, []⟩, ⟨0, [], []⟩, 0⟩⟩ := by
  obtain ⟨vn, va, e, h1, h2⟩ := h
  simp at e
  obtain ⟨rfl, rfl⟩ := e
  have nil : ∀ {α : Type} (E : World → Nat → Nat → α → Prop) (sz : Nat) (w : World), SlV E sz w (.slice none 0 0) [] := fun E sz w => ⟨none, 0, rfl, Nat.le_refl _, Nat.zero_le _, fun h => absurd h (Nat.lt_irrefl _)⟩
  exact ⟨_, _, _, _, _, rfl, h1, h2, nil _ _ _, nil _ _ _, nil _ _ _⟩

theorem weak_ask {t : Teacher} {R : Auto} (hk : t.known = false) (hw : weakOf t.task = some R) (s : ByteArray) : askTeacher ⟨true, R, ⟨⟨0, 0, []⟩, ⟨0, [], []⟩, 0⟩⟩ s = askTeacher t s := by
  unfold askTeacher; simp only [hk, if_true, Bool.false_eq_true, if_false]; exact weak_word hw s

theorem walk (v0 : Value) (t0 : List UInt8) (w : World) (hv0 : BytesV w v0 t0) (hD : Deb w) : Calls Tryz.prog 8 #[v0] w (Grows (.bool true) w) := by
  obtain ⟨aB, cB, rfl, hleB, -⟩ := hv0.open
  have HDb := Lib.hid hD
  clear hD
  by_cases hz0 : 1048576 < t0.length
  · go_enter Tryz.func8, Tryz.ntmps8
    go_wp2_with fail
    go_ret
    exact Grows.mk rfl (Ext.refl _)
  go_enter Tryz.func8, Tryz.ntmps8
  go_wp2_with fail
  refine (DrawAskTeacher_t _ t0 _ hv0 (by omega)).mono ?_
  rintro e w1 ⟨vt, s, t, rfl, he1, hTV, hed, hsz⟩
  obtain ⟨kn, aN, cN, aA, cA, aE, cE, aM, cM, aP, cP, hkn, rfl, hTW⟩ := TeacherV.lens hTV
  have HT := Lib.hid hTW
  have HKN := Lib.hid hkn
  have HD := Lib.hid (show ∀ w', Ext w1 w' → Deb w' from fun w' h => HDb.out.ext (he1.trans h))
  obtain ⟨b, hb⟩ : ∃ b, askTeacher t s = b := ⟨_, rfl⟩
  have HB := Lib.hid hb
  obtain ⟨R, hR⟩ : ∃ R, (weakOf t.task).getD zeroA = R := ⟨_, rfl⟩
  obtain ⟨bb, hbb⟩ : ∃ bb, (weakOf t.task).isSome = bb := ⟨_, rfl⟩
  have HRR := Lib.hid hR
  have HBB := Lib.hid hbb
  have C1 := Lib.hid (show ∀ w', Ext w1 w' → Calls Tryz.prog 25 #[.agg #[.bool kn, .int .i64 t.target.alphabet, .slice aN t.target.next.length cN, .slice aA t.target.accept.length cA, .int .i64 t.task.sys.alphabet, .int .i64 t.task.sys.states, .slice aE t.task.sys.edges.length cE, .int .i64 t.task.prop.alphabet, .slice aM t.task.prop.next.length cM, .slice aP t.task.prop.accept.length cP, .int .i64 t.task.alphabet], .string s] w' (Grows (.bool b) w') from fun w' h => by have := AskTeacher_c _ t s _ (HT.out _ h).1 (by omega) (HD.out _ h); rwa [hb] at this)
  have C2 := Lib.hid (show ∀ w', Ext w1 w' → Calls Tryz.prog 26 #[.agg #[.bool kn, .int .i64 t.target.alphabet, .slice aN t.target.next.length cN, .slice aA t.target.accept.length cA, .int .i64 t.task.sys.alphabet, .int .i64 t.task.sys.states, .slice aE t.task.sys.edges.length cE, .int .i64 t.task.prop.alphabet, .slice aM t.task.prop.next.length cM, .slice aP t.task.prop.accept.length cP, .int .i64 t.task.alphabet], .string s] w' (Grows (.bool b) w') from fun w' h => by have := AskTeacher_s _ t s _ (HT.out _ h).1 (by omega) (by omega); rwa [hb] at this)
  have CWK := Lib.hid (show ∀ w', Ext w1 w' → Calls Tryz.prog 18 #[.agg #[.int .i64 t.task.sys.alphabet, .int .i64 t.task.sys.states, .slice aE t.task.sys.edges.length cE, .int .i64 t.task.prop.alphabet, .slice aM t.task.prop.next.length cM, .slice aP t.task.prop.accept.length cP, .int .i64 t.task.alphabet]] w' (fun e w'' => ∃ u, e = .returned (.tuple #[u, .bool bb]) ∧ Ext w' w'' ∧ AutoOwn w'.heap.size w'' u R) from fun w' h => (by have := WeakestAssumption_cd _ t.task w' (HT.out _ h).2 (HD.out _ h); unfold WeakDet at this; rwa [hR, hbb] at this))
  have HSZ := Lib.hid hsz
  clear hTV hTW hb hed hkn hR hbb
  have hx : Ext w1 (w1.alloc (.cells #[.bool kn, .int .i64 t.target.alphabet, .slice aN t.target.next.length cN, .slice aA t.target.accept.length cA, .int .i64 t.task.sys.alphabet, .int .i64 t.task.sys.states, .slice aE t.task.sys.edges.length cE, .int .i64 t.task.prop.alphabet, .slice aM t.task.prop.next.length cM, .slice aP t.task.prop.accept.length cP, .int .i64 t.task.alphabet] 50)) := Ext.alloc _ _
  have bC : Blk (w1.alloc (.cells #[.bool kn, .int .i64 t.target.alphabet, .slice aN t.target.next.length cN, .slice aA t.target.accept.length cA, .int .i64 t.task.sys.alphabet, .int .i64 t.task.sys.states, .slice aE t.task.sys.edges.length cE, .int .i64 t.task.prop.alphabet, .slice aM t.task.prop.next.length cM, .slice aP t.task.prop.accept.length cP, .int .i64 t.task.alphabet] 50)) w1.heap.size #[.bool kn, .int .i64 t.target.alphabet, .slice aN t.target.next.length cN, .slice aA t.target.accept.length cA, .int .i64 t.task.sys.alphabet, .int .i64 t.task.sys.states, .slice aE t.task.sys.edges.length cE, .int .i64 t.task.prop.alphabet, .slice aM t.task.prop.next.length cM, .slice aP t.task.prop.accept.length cP, .int .i64 t.task.alphabet] 50 := Blk.new _ _ _
  go_upto_region 4 with fail
  generalize w1.alloc (.cells #[.bool kn, .int .i64 t.target.alphabet, .slice aN t.target.next.length cN, .slice aA t.target.accept.length cA, .int .i64 t.task.sys.alphabet, .int .i64 t.task.sys.states, .slice aE t.task.sys.edges.length cE, .int .i64 t.task.prop.alphabet, .slice aM t.task.prop.next.length cM, .slice aP t.task.prop.accept.length cP, .int .i64 t.task.alphabet] 50) = w2 at hx bC ⊢
  have bC_0 := bC.cell 0 rfl; have bC_1 := bC.cell 1 rfl; have bC_2 := bC.cell 2 rfl; have bC_3 := bC.cell 3 rfl; have bC_4 := bC.cell 4 rfl; have bC_5 := bC.cell 5 rfl; have bC_6 := bC.cell 6 rfl; have bC_7 := bC.cell 7 rfl; have bC_8 := bC.cell 8 rfl; have bC_9 := bC.cell 9 rfl; have bC_10 := bC.cell 10 rfl
  go_wp2_with fail
  refine (C1.out _ hx).mono ?_
  rintro e wz1 ⟨rfl, hez1⟩
  clear bC_0 bC_1 bC_2 bC_3 bC_4 bC_5 bC_6 bC_7 bC_8 bC_9 bC_10
  replace bC := bC.ext hez1
  replace hx := hx.trans hez1
  have bC_0 := bC.cell 0 rfl; have bC_1 := bC.cell 1 rfl; have bC_2 := bC.cell 2 rfl; have bC_3 := bC.cell 3 rfl; have bC_4 := bC.cell 4 rfl; have bC_5 := bC.cell 5 rfl; have bC_6 := bC.cell 6 rfl; have bC_7 := bC.cell 7 rfl; have bC_8 := bC.cell 8 rfl; have bC_9 := bC.cell 9 rfl; have bC_10 := bC.cell 10 rfl
  have hbb : (b != b) = false := by simp
  have hbe : (b == b) = true := by simp
  go_wp2_with fail
  refine (C2.out _ hx).mono ?_
  rintro e wz2 ⟨rfl, hez2⟩
  clear bC_0 bC_1 bC_2 bC_3 bC_4 bC_5 bC_6 bC_7 bC_8 bC_9 bC_10
  replace bC := bC.ext hez2
  replace hx := hx.trans hez2
  have bC_0 := bC.cell 0 rfl; have bC_1 := bC.cell 1 rfl; have bC_2 := bC.cell 2 rfl; have bC_3 := bC.cell 3 rfl; have bC_4 := bC.cell 4 rfl; have bC_5 := bC.cell 5 rfl; have bC_6 := bC.cell 6 rfl; have bC_7 := bC.cell 7 rfl; have bC_8 := bC.cell 8 rfl; have bC_9 := bC.cell 9 rfl; have bC_10 := bC.cell 10 rfl
  cases kn with
  | true =>
    go_wp2_with fail
    refine (C2.out _ hx).mono ?_
    rintro e wz3 ⟨rfl, hez3⟩
    replace hx := hx.trans hez3
    skip
    go_wp2_with fail
    go_ret
    exact Grows.mk (by simp) (he1.trans hx)
  | false =>
    go_wp2_with fail
    refine (CWK.out _ hx).mono ?_
    rintro e wa ⟨u8, rfl, he8, hO8⟩
    clear bC_0 bC_1 bC_2 bC_3 bC_4 bC_5 bC_6 bC_7 bC_8 bC_9 bC_10 bC
    obtain ⟨vN8, vA8, rfl, hO8'⟩ := hO8
    obtain ⟨aN8, cN8, rfl⟩ := hO8'.1.shape
    obtain ⟨aA8, cA8, rfl⟩ := hO8'.2.shape
    have hN8 := hO8'.1.intss
    have hA8 := hO8'.2.bools
    have HW8 := Lib.hid (show ∀ w', Ext wa w' → AutoV w' (.agg #[.int .i64 R.alphabet, .slice aN8 R.next.length cN8, .slice aA8 R.accept.length cA8]) R from fun w' h => ⟨_, _, rfl, hN8.mono h, hA8.mono h⟩)
    clear hO8' hN8 hA8
    replace hx := (hx.trans he8).trans (Ext.alloc wa (.cells #[.int .i64 R.alphabet, .slice aN8 R.next.length cN8, .slice aA8 R.accept.length cA8] 26))
    have h8 : Ext wa (wa.alloc (.cells #[.int .i64 R.alphabet, .slice aN8 R.next.length cN8, .slice aA8 R.accept.length cA8] 26)) := Ext.alloc _ _
    clear he8
    have b8 : Blk (wa.alloc (.cells #[.int .i64 R.alphabet, .slice aN8 R.next.length cN8, .slice aA8 R.accept.length cA8] 26)) wa.heap.size #[.int .i64 R.alphabet, .slice aN8 R.next.length cN8, .slice aA8 R.accept.length cA8] 26 := Ext.blk (Ext.refl _)
    go_upto_region 8 with fail
    generalize (wa.alloc (.cells #[.int .i64 R.alphabet, .slice aN8 R.next.length cN8, .slice aA8 R.accept.length cA8] 26)) = wb at hx h8 b8  ⊢
    have b8_0 := b8.cell 0 rfl; have b8_1 := b8.cell 1 rfl; have b8_2 := b8.cell 2 rfl
    cases bb with
    | false =>
      go_wp2_with fail
      go_ret
      exact Grows.mk rfl (he1.trans hx)
    | true =>
      have hwk : weakOf t.task = some R := by
        have h1 := HRR.out; have h2 := HBB.out
        cases h : weakOf t.task with
        | none => rw [h] at h2; cases h2
        | some B => rw [h] at h1; cases h1; rfl
      have C6 := Lib.hid (show ∀ w', Ext wb w' → Calls Tryz.prog 25 #[.agg #[.bool true, .int .i64 R.alphabet, .slice aN8 R.next.length cN8, .slice aA8 R.accept.length cA8, .int .i64 0, .int .i64 0, .slice none 0 0, .int .i64 0, .slice none 0 0, .slice none 0 0, .int .i64 0], .string s] w' (Grows (.bool b) w') from fun w' h => by
        have := AskTeacher_c _ _ s _ (AutoV.known (HW8.out _ (h8.trans h))) (by have := HSZ.out; omega) (HD.out _ (hx.trans h)); rw [weak_ask HKN.out hwk, HB.out] at this; exact this)
      clear hwk
      go_wp2_with fail
      refine (C6.out _ (Ext.refl _)).mono ?_
      rintro e wc ⟨rfl, hec⟩
      go_wp2_with fail
      go_ret
      exact Grows.mk (by simp) ((he1.trans hx).trans hec)

end Go.Proofs.YtccklliljdembaaGreatDoor.lawFnTeacherTask
