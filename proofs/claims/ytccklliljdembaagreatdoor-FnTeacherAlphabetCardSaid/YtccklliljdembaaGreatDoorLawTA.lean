/- Part of this seat's proofs, cut to what its law needs. -/

import Derived.Test.YtccklliljdembaaGreatDoorDrawAk
import Derived.Test.YtccklliljdembaaGreatDoorAskT
import Derived.Test.YtccklliljdembaaGreatDoorWalkK
import Derived.Test.YtccklliljdembaaGreatDoorWalkH
import Derived.Test.YtccklliljdembaaGreatDoorDrawL
namespace Go.Proofs.YtccklliljdembaaGreatDoor.lawFnTeacherAlphabet
open Go.ChangeShapes Go.WideShapes Go.ChangeAt Go.RowKit
open Go.Proofs.YtccklliljdembaaGreatDoor
open Go.ChangeMaps (open_string shut_string)
set_option linter.unusedVariables false
set_option linter.unusedSimpArgs false
set_option maxHeartbeats 1600000
set_option maxRecDepth 100000

theorem TeacherV.lens {w : World} {v : Value} {t : Teacher} (h : TeacherV w v t) : ∃ kn aN cN aA cA aE cE aM cM aP cP, t.known = kn ∧ v = .agg #[.bool kn, .int .i64 t.target.alphabet, .slice aN t.target.next.length cN, .slice aA t.target.accept.length cA, .int .i64 t.task.sys.alphabet, .int .i64 t.task.sys.states, .slice aE t.task.sys.edges.length cE, .int .i64 t.task.prop.alphabet, .slice aM t.task.prop.next.length cM, .slice aP t.task.prop.accept.length cP, .int .i64 t.task.alphabet] ∧ ∀ w', Ext w w' → TeacherV w' (.agg #[.bool kn, .int .i64 t.target.alphabet, .slice aN t.target.next.length cN, .slice aA t.target.accept.length cA, .int .i64 t.task.sys.alphabet, .int .i64 t.task.sys.states, .slice aE t.task.sys.edges.length cE, .int .i64 t.task.prop.alphabet, .slice aM t.task.prop.next.length cM, .slice aP t.task.prop.accept.length cP, .int .i64 t.task.alphabet]) t ∧
    (kn = true → TeacherV w' (.agg #[.bool true, .int .i64 t.target.alphabet, .slice aN t.target.next.length cN, .slice aA t.target.accept.length cA, .int .i64 0, .int .i64 0, .slice none 0 0, .int .i64 0, .slice none 0 0, .slice none 0 0, .int .i64 (-1)]) ⟨true, t.target, ⟨⟨0, 0, []⟩, ⟨0, [], []⟩, -1⟩⟩) ∧ (kn = false → TeacherV w' (.agg #[.bool false, .int .i64 (-1), .slice none 0 0, .slice none 0 0, .int .i64 t.task.sys.alphabet, .int .i64 t.task.sys.states, .slice aE t.task.sys.edges.length cE, .int .i64 t.task.prop.alphabet, .slice aM t.task.prop.next.length cM, .slice aP t.task.prop.accept.length cP, .int .i64 t.task.alphabet]) ⟨false, ⟨-1, [], []⟩, t.task⟩) := by
  obtain ⟨vn, va, ve, vn2, va2, rfl, h1, h2, h3, h4, h5⟩ := h
  obtain ⟨aN, cN, rfl, -, -⟩ := h1.open
  obtain ⟨aA, cA, rfl, -, -⟩ := h2.open
  obtain ⟨aE, cE, rfl, -, -⟩ := h3.open
  obtain ⟨aM, cM, rfl, -, -⟩ := h4.open
  obtain ⟨aP, cP, rfl, -, -⟩ := h5.open
  have nil : ∀ {α : Type} (E : World → Nat → Nat → α → Prop) (sz : Nat) (w : World), SlV E sz w (.slice none 0 0) [] := fun E sz w => ⟨none, 0, rfl, Nat.le_refl _, Nat.zero_le _, fun h => absurd h (Nat.lt_irrefl _)⟩
  exact ⟨_, aN, cN, aA, cA, aE, cE, aM, cM, aP, cP, rfl, rfl, fun w' h => ⟨⟨_, _, _, _, _, rfl, h1.mono h, h2.mono h, h3.mono h, h4.mono h, h5.mono h⟩, fun _ => ⟨_, _, _, _, _, rfl, h1.mono h, h2.mono h, nil _ _ _, nil _ _ _, nil _ _ _⟩, fun _ => ⟨_, _, _, _, _, rfl, nil _ _ _, nil _ _ _, h3.mono h, h4.mono h, h5.mono h⟩⟩⟩

theorem known_ask {t : Teacher} (h : t.known = true) (s : ByteArray) : askTeacher ⟨true, t.target, ⟨⟨0, 0, []⟩, ⟨0, [], []⟩, -1⟩⟩ s = askTeacher t s := by
  unfold askTeacher; simp [h]
theorem known_alpha {t : Teacher} (h : t.known = true) : teacherAlphabet ⟨true, t.target, ⟨⟨0, 0, []⟩, ⟨0, [], []⟩, -1⟩⟩ = teacherAlphabet t := by
  unfold teacherAlphabet; simp [h]
theorem unknown_ask {t : Teacher} (h : t.known = false) (s : ByteArray) : askTeacher ⟨false, ⟨-1, [], []⟩, t.task⟩ s = askTeacher t s := by
  unfold askTeacher; simp [h]
theorem unknown_alpha {t : Teacher} (h : t.known = false) : teacherAlphabet ⟨false, ⟨-1, [], []⟩, t.task⟩ = teacherAlphabet t := by
  unfold teacherAlphabet; simp [h]
theorem ask_over {t : Teacher} {s : ByteArray} (h : askTeacher t s = true) : wordIn s (teacherAlphabet t) = true := by
  unfold askTeacher at h; unfold teacherAlphabet
  cases hk : t.known
  · rw [hk] at h; simp only [Bool.false_eq_true, if_false, safeWord, Bool.and_eq_true] at h
    simp [h.1.1, h.1.2]
  · rw [hk] at h; simp only [if_true, acceptsWord, Bool.and_eq_true] at h
    simp [h.1.1, h.1.2]

theorem walk (v0 : Value) (t0 : List UInt8) (w : World) (hv0 : BytesV w v0 t0) (hD : Deb w) : Calls Tryz.prog 7 #[v0] w (Grows (.bool true) w) := by
  obtain ⟨aB, cB, rfl, hleB, -⟩ := hv0.open
  have HDb := Lib.hid hD
  clear hD
  by_cases hz0 : 1048576 < t0.length
  · go_enter Tryz.func7, Tryz.ntmps7
    go_wp2_with fail
    go_ret
    exact Grows.mk rfl (Ext.refl _)
  go_enter Tryz.func7, Tryz.ntmps7
  go_wp2_with fail
  refine (DrawAskTeacher_t _ t0 _ hv0 (by omega)).mono ?_
  rintro e w1 ⟨vt, s, t, rfl, he1, hTV, hed, hsz⟩
  obtain ⟨kn, aN, cN, aA, cA, aE, cE, aM, cM, aP, cP, hkn, rfl, hTW⟩ := TeacherV.lens hTV
  have HT := Lib.hid hTW
  have HKN := Lib.hid hkn
  have HD := Lib.hid (show ∀ w', Ext w1 w' → Deb w' from fun w' h => HDb.out.ext (he1.trans h))
  obtain ⟨b, hb⟩ : ∃ b, askTeacher t s = b := ⟨_, rfl⟩
  have HB := Lib.hid hb
  obtain ⟨al, hal⟩ : ∃ al, teacherAlphabet t = al := ⟨_, rfl⟩
  have HAL := Lib.hid hal
  have C1 := Lib.hid (show ∀ w', Ext w1 w' → Calls Tryz.prog 25 #[.agg #[.bool kn, .int .i64 t.target.alphabet, .slice aN t.target.next.length cN, .slice aA t.target.accept.length cA, .int .i64 t.task.sys.alphabet, .int .i64 t.task.sys.states, .slice aE t.task.sys.edges.length cE, .int .i64 t.task.prop.alphabet, .slice aM t.task.prop.next.length cM, .slice aP t.task.prop.accept.length cP, .int .i64 t.task.alphabet], .string s] w' (Grows (.bool b) w') from fun w' h => by have := AskTeacher_c _ t s _ (HT.out _ h).1 (by omega) (HD.out _ h); rwa [hb] at this)
  have C2 := Lib.hid (show ∀ w', Ext w1 w' → Calls Tryz.prog 26 #[.agg #[.bool kn, .int .i64 t.target.alphabet, .slice aN t.target.next.length cN, .slice aA t.target.accept.length cA, .int .i64 t.task.sys.alphabet, .int .i64 t.task.sys.states, .slice aE t.task.sys.edges.length cE, .int .i64 t.task.prop.alphabet, .slice aM t.task.prop.next.length cM, .slice aP t.task.prop.accept.length cP, .int .i64 t.task.alphabet], .string s] w' (Grows (.bool b) w') from fun w' h => by have := AskTeacher_s _ t s _ (HT.out _ h).1 (by omega) (by omega); rwa [hb] at this)
  have C3 := Lib.hid (show ∀ w', Ext w1 w' → Calls Tryz.prog 27 #[.agg #[.bool kn, .int .i64 t.target.alphabet, .slice aN t.target.next.length cN, .slice aA t.target.accept.length cA, .int .i64 t.task.sys.alphabet, .int .i64 t.task.sys.states, .slice aE t.task.sys.edges.length cE, .int .i64 t.task.prop.alphabet, .slice aM t.task.prop.next.length cM, .slice aP t.task.prop.accept.length cP, .int .i64 t.task.alphabet]] w' (Grows (.int .i64 al) w') from fun w' h => by have := TeacherAlphabet_c _ t _ (HT.out _ h).1; rwa [hal] at this)
  obtain ⟨wi, hwi⟩ : ∃ wi, wordIn s al = wi := ⟨_, rfl⟩
  have CW := Lib.hid (show ∀ w', Calls Tryz.prog 28 #[.string s, .int .i64 al] w' (Same (.bool wi) w') from fun w' => by have := WordWithin_c s al w' (by omega); rwa [hwi] at this)
  have HBW := Lib.hid (show b = true → wi = true from fun h => by rw [← hwi, ← hal]; exact ask_over (by rw [hb, h]))
  clear hTV hTW hb hal hed hkn hwi
  have hx : Ext w1 (w1.alloc (.cells #[.bool kn, .int .i64 t.target.alphabet, .slice aN t.target.next.length cN, .slice aA t.target.accept.length cA, .int .i64 t.task.sys.alphabet, .int .i64 t.task.sys.states, .slice aE t.task.sys.edges.length cE, .int .i64 t.task.prop.alphabet, .slice aM t.task.prop.next.length cM, .slice aP t.task.prop.accept.length cP, .int .i64 t.task.alphabet] 50)) := Ext.alloc _ _
  have bC : Blk (w1.alloc (.cells #[.bool kn, .int .i64 t.target.alphabet, .slice aN t.target.next.length cN, .slice aA t.target.accept.length cA, .int .i64 t.task.sys.alphabet, .int .i64 t.task.sys.states, .slice aE t.task.sys.edges.length cE, .int .i64 t.task.prop.alphabet, .slice aM t.task.prop.next.length cM, .slice aP t.task.prop.accept.length cP, .int .i64 t.task.alphabet] 50)) w1.heap.size #[.bool kn, .int .i64 t.target.alphabet, .slice aN t.target.next.length cN, .slice aA t.target.accept.length cA, .int .i64 t.task.sys.alphabet, .int .i64 t.task.sys.states, .slice aE t.task.sys.edges.length cE, .int .i64 t.task.prop.alphabet, .slice aM t.task.prop.next.length cM, .slice aP t.task.prop.accept.length cP, .int .i64 t.task.alphabet] 50 := Blk.new _ _ _
  go_upto_region 4 with fail
  generalize w1.alloc (.cells #[.bool kn, .int .i64 t.target.alphabet, .slice aN t.target.next.length cN, .slice aA t.target.accept.length cA, .int .i64 t.task.sys.alphabet, .int .i64 t.task.sys.states, .slice aE t.task.sys.edges.length cE, .int .i64 t.task.prop.alphabet, .slice aM t.task.prop.next.length cM, .slice aP t.task.prop.accept.length cP, .int .i64 t.task.alphabet] 50) = w2 at hx bC ⊢
  have bC_0 := bC.cell 0 rfl; have bC_1 := bC.cell 1 rfl; have bC_2 := bC.cell 2 rfl; have bC_3 := bC.cell 3 rfl; have bC_4 := bC.cell 4 rfl; have bC_5 := bC.cell 5 rfl; have bC_6 := bC.cell 6 rfl; have bC_7 := bC.cell 7 rfl; have bC_8 := bC.cell 8 rfl; have bC_9 := bC.cell 9 rfl; have bC_10 := bC.cell 10 rfl
  go_wp2_with fail
  refine (C1.out _ hx).mono ?_
  rintro e wz1 ⟨rfl, hez1⟩
  clear bC_0 bC_1 bC_2 bC_3 bC_4 bC_5 bC_6 bC_7 bC_8 bC_9 bC_10
  replace bC := bC.ext hez1
  replace hx := hx.trans hez1
  have bC_0 := bC.cell 0 rfl; have bC_1 := bC.cell 1 rfl; have bC_2 := bC.cell 2 rfl; have bC_3 := bC.cell 3 rfl; have bC_4 := bC.cell 4 rfl; have bC_5 := bC.cell 5 rfl; have bC_6 := bC.cell 6 rfl; have bC_7 := bC.cell 7 rfl; have bC_8 := bC.cell 8 rfl; have bC_9 := bC.cell 9 rfl; have bC_10 := bC.cell 10 rfl
  have hbb : (b != b) = false := by simp
  go_wp2_with fail
  refine (C2.out _ hx).mono ?_
  rintro e wz2 ⟨rfl, hez2⟩
  clear bC_0 bC_1 bC_2 bC_3 bC_4 bC_5 bC_6 bC_7 bC_8 bC_9 bC_10
  replace bC := bC.ext hez2
  replace hx := hx.trans hez2
  have bC_0 := bC.cell 0 rfl; have bC_1 := bC.cell 1 rfl; have bC_2 := bC.cell 2 rfl; have bC_3 := bC.cell 3 rfl; have bC_4 := bC.cell 4 rfl; have bC_5 := bC.cell 5 rfl; have bC_6 := bC.cell 6 rfl; have bC_7 := bC.cell 7 rfl; have bC_8 := bC.cell 8 rfl; have bC_9 := bC.cell 9 rfl; have bC_10 := bC.cell 10 rfl
  go_wp2_with fail
  refine (C3.out _ hx).mono ?_
  rintro e wz3 ⟨rfl, hez3⟩
  clear bC_0 bC_1 bC_2 bC_3 bC_4 bC_5 bC_6 bC_7 bC_8 bC_9 bC_10
  replace bC := bC.ext hez3
  replace hx := hx.trans hez3
  have bC_0 := bC.cell 0 rfl; have bC_1 := bC.cell 1 rfl; have bC_2 := bC.cell 2 rfl; have bC_3 := bC.cell 3 rfl; have bC_4 := bC.cell 4 rfl; have bC_5 := bC.cell 5 rfl; have bC_6 := bC.cell 6 rfl; have bC_7 := bC.cell 7 rfl; have bC_8 := bC.cell 8 rfl; have bC_9 := bC.cell 9 rfl; have bC_10 := bC.cell 10 rfl
  go_upto_region 9 with fail
  have hxo : Ext w1 (wz3.alloc (.cells #[.bool kn, .int .i64 t.target.alphabet, .slice aN t.target.next.length cN, .slice aA t.target.accept.length cA, .int .i64 t.task.sys.alphabet, .int .i64 t.task.sys.states, .slice aE t.task.sys.edges.length cE, .int .i64 t.task.prop.alphabet, .slice aM t.task.prop.next.length cM, .slice aP t.task.prop.accept.length cP, .int .i64 t.task.alphabet] 50)) := hx.trans (Ext.alloc _ _)
  have hG : w1.heap.size ≤ wz3.heap.size := hx.size
  have bY : Blk (wz3.alloc (.cells #[.bool kn, .int .i64 t.target.alphabet, .slice aN t.target.next.length cN, .slice aA t.target.accept.length cA, .int .i64 t.task.sys.alphabet, .int .i64 t.task.sys.states, .slice aE t.task.sys.edges.length cE, .int .i64 t.task.prop.alphabet, .slice aM t.task.prop.next.length cM, .slice aP t.task.prop.accept.length cP, .int .i64 t.task.alphabet] 50)) wz3.heap.size #[.bool kn, .int .i64 t.target.alphabet, .slice aN t.target.next.length cN, .slice aA t.target.accept.length cA, .int .i64 t.task.sys.alphabet, .int .i64 t.task.sys.states, .slice aE t.task.sys.edges.length cE, .int .i64 t.task.prop.alphabet, .slice aM t.task.prop.next.length cM, .slice aP t.task.prop.accept.length cP, .int .i64 t.task.alphabet] 50 := Blk.new _ _ _
  replace bC := bC.ext (Ext.alloc wz3 (.cells #[.bool kn, .int .i64 t.target.alphabet, .slice aN t.target.next.length cN, .slice aA t.target.accept.length cA, .int .i64 t.task.sys.alphabet, .int .i64 t.task.sys.states, .slice aE t.task.sys.edges.length cE, .int .i64 t.task.prop.alphabet, .slice aM t.task.prop.next.length cM, .slice aP t.task.prop.accept.length cP, .int .i64 t.task.alphabet] 50))
  generalize wz3.alloc (.cells #[.bool kn, .int .i64 t.target.alphabet, .slice aN t.target.next.length cN, .slice aA t.target.accept.length cA, .int .i64 t.task.sys.alphabet, .int .i64 t.task.sys.states, .slice aE t.task.sys.edges.length cE, .int .i64 t.task.prop.alphabet, .slice aM t.task.prop.next.length cM, .slice aP t.task.prop.accept.length cP, .int .i64 t.task.alphabet] 50) = w6 at hxo bY bC ⊢
  generalize wz3.heap.size = G at hG bY ⊢
  clear bC_0 bC_1 bC_2 bC_3 bC_4 bC_5 bC_6 bC_7 bC_8 bC_9 bC_10 hx
  have hx := hxo
  clear hxo
  have bC_0 := bC.cell 0 rfl
  have y0 := bY.cell 0 rfl; have f0 := bY.fr 0; have y1 := bY.cell 1 rfl; have f1 := bY.fr 1; have y2 := bY.cell 2 rfl; have f2 := bY.fr 2; have y3 := bY.cell 3 rfl; have f3 := bY.fr 3; have y4 := bY.cell 4 rfl; have f4 := bY.fr 4; have y5 := bY.cell 5 rfl; have f5 := bY.fr 5; have y6 := bY.cell 6 rfl; have f6 := bY.fr 6; have y7 := bY.cell 7 rfl; have f7 := bY.fr 7; have y8 := bY.cell 8 rfl; have f8 := bY.fr 8; have y9 := bY.cell 9 rfl; have f9 := bY.fr 9; have y10 := bY.cell 10 rfl; have f10 := bY.fr 10
  cases kn with
  | true =>
    go_upto_region 12 with fail
    have bZ : Blk (((((((w6.setCell ⟨G, 4, none⟩ (.int .i64 0)).setCell ⟨G, 5, none⟩ (.int .i64 0)).setCell ⟨G, 6, none⟩ (.slice none 0 0)).setCell ⟨G, 7, none⟩ (.int .i64 0)).setCell ⟨G, 8, none⟩ (.slice none 0 0)).setCell ⟨G, 9, none⟩ (.slice none 0 0)).setCell ⟨G, 10, none⟩ (.int .i64 (-1))) G #[.bool true, .int .i64 t.target.alphabet, .slice aN t.target.next.length cN, .slice aA t.target.accept.length cA, .int .i64 0, .int .i64 0, .slice none 0 0, .int .i64 0, .slice none 0 0, .slice none 0 0, .int .i64 (-1)] 50 := (((((((bY.set 4 (.int .i64 0)).set 5 (.int .i64 0)).set 6 (.slice none 0 0)).set 7 (.int .i64 0)).set 8 (.slice none 0 0)).set 9 (.slice none 0 0)).set 10 (.int .i64 (-1)))
    have hx9 : Ext w1 (((((((w6.setCell ⟨G, 4, none⟩ (.int .i64 0)).setCell ⟨G, 5, none⟩ (.int .i64 0)).setCell ⟨G, 6, none⟩ (.slice none 0 0)).setCell ⟨G, 7, none⟩ (.int .i64 0)).setCell ⟨G, 8, none⟩ (.slice none 0 0)).setCell ⟨G, 9, none⟩ (.slice none 0 0)).setCell ⟨G, 10, none⟩ (.int .i64 (-1))) := (((((((hx.setCell (p := ⟨G, 4, none⟩) hG (.int .i64 0)).setCell (p := ⟨G, 5, none⟩) hG (.int .i64 0)).setCell (p := ⟨G, 6, none⟩) hG (.slice none 0 0)).setCell (p := ⟨G, 7, none⟩) hG (.int .i64 0)).setCell (p := ⟨G, 8, none⟩) hG (.slice none 0 0)).setCell (p := ⟨G, 9, none⟩) hG (.slice none 0 0)).setCell (p := ⟨G, 10, none⟩) hG (.int .i64 (-1)))
    have C4 := Lib.hid (show ∀ w', Ext w1 w' → Calls Tryz.prog 27 #[.agg #[.bool true, .int .i64 t.target.alphabet, .slice aN t.target.next.length cN, .slice aA t.target.accept.length cA, .int .i64 0, .int .i64 0, .slice none 0 0, .int .i64 0, .slice none 0 0, .slice none 0 0, .int .i64 (-1)]] w' (Grows (.int .i64 al) w') from fun w' h => by have := TeacherAlphabet_c _ _ _ ((HT.out _ h).2.1 rfl); rw [known_alpha HKN.out, HAL.out] at this; exact this)
    have C5 := Lib.hid (show ∀ w', Ext w1 w' → Calls Tryz.prog 25 #[.agg #[.bool true, .int .i64 t.target.alphabet, .slice aN t.target.next.length cN, .slice aA t.target.accept.length cA, .int .i64 0, .int .i64 0, .slice none 0 0, .int .i64 0, .slice none 0 0, .slice none 0 0, .int .i64 (-1)], .string s] w' (Grows (.bool b) w') from fun w' h => by have := AskTeacher_c _ _ s _ ((HT.out _ h).2.1 rfl) (by omega) (HD.out _ h); rw [known_ask HKN.out, HB.out] at this; exact this)
    clear y0 f0 y1 f1 y2 f2 y3 f3 y4 f4 y5 f5 y6 f6 y7 f7 y8 f8 y9 f9 y10 f10
    generalize (((((((w6.setCell ⟨G, 4, none⟩ (.int .i64 0)).setCell ⟨G, 5, none⟩ (.int .i64 0)).setCell ⟨G, 6, none⟩ (.slice none 0 0)).setCell ⟨G, 7, none⟩ (.int .i64 0)).setCell ⟨G, 8, none⟩ (.slice none 0 0)).setCell ⟨G, 9, none⟩ (.slice none 0 0)).setCell ⟨G, 10, none⟩ (.int .i64 (-1))) = w9 at bZ hx9 ⊢
    clear hx
    have hx := hx9
    clear hx9
    have bZ_0 := bZ.cell 0 rfl; have bZ_1 := bZ.cell 1 rfl; have bZ_2 := bZ.cell 2 rfl; have bZ_3 := bZ.cell 3 rfl; have bZ_4 := bZ.cell 4 rfl; have bZ_5 := bZ.cell 5 rfl; have bZ_6 := bZ.cell 6 rfl; have bZ_7 := bZ.cell 7 rfl; have bZ_8 := bZ.cell 8 rfl; have bZ_9 := bZ.cell 9 rfl; have bZ_10 := bZ.cell 10 rfl
    have haa : (al == al) = true := by simp
    go_wp2_with fail
    refine (C4.out _ hx).mono ?_
    rintro e wz4 ⟨rfl, hez4⟩
    clear bZ_0 bZ_1 bZ_2 bZ_3 bZ_4 bZ_5 bZ_6 bZ_7 bZ_8 bZ_9 bZ_10
    replace bZ := bZ.ext hez4
    replace hx := hx.trans hez4
    have bZ_0 := bZ.cell 0 rfl; have bZ_1 := bZ.cell 1 rfl; have bZ_2 := bZ.cell 2 rfl; have bZ_3 := bZ.cell 3 rfl; have bZ_4 := bZ.cell 4 rfl; have bZ_5 := bZ.cell 5 rfl; have bZ_6 := bZ.cell 6 rfl; have bZ_7 := bZ.cell 7 rfl; have bZ_8 := bZ.cell 8 rfl; have bZ_9 := bZ.cell 9 rfl; have bZ_10 := bZ.cell 10 rfl
    go_wp2_with fail
    refine (C5.out _ hx).mono ?_
    rintro e wz5 ⟨rfl, hez5⟩
    clear bZ_0 bZ_1 bZ_2 bZ_3 bZ_4 bZ_5 bZ_6 bZ_7 bZ_8 bZ_9 bZ_10
    replace bZ := bZ.ext hez5
    replace hx := hx.trans hez5
    have bZ_0 := bZ.cell 0 rfl; have bZ_1 := bZ.cell 1 rfl; have bZ_2 := bZ.cell 2 rfl; have bZ_3 := bZ.cell 3 rfl; have bZ_4 := bZ.cell 4 rfl; have bZ_5 := bZ.cell 5 rfl; have bZ_6 := bZ.cell 6 rfl; have bZ_7 := bZ.cell 7 rfl; have bZ_8 := bZ.cell 8 rfl; have bZ_9 := bZ.cell 9 rfl; have bZ_10 := bZ.cell 10 rfl
    cases b with
    | false =>
      go_wp2_with fail
      go_ret
      exact Grows.mk (by simp) (he1.trans hx)
    | true =>
      obtain rfl : wi = true := HBW.out rfl
      go_wp2_with fail
      refine (CW.out _).mono ?_
      rintro e wz6 ⟨rfl, rfl⟩
      go_wp2_with fail
      go_ret
      exact Grows.mk (by simp) (he1.trans hx)
  | false =>
    go_upto_region 12 with fail
    have bZ : Blk (((w6.setCell ⟨G, 1, none⟩ (.int .i64 (-1))).setCell ⟨G, 2, none⟩ (.slice none 0 0)).setCell ⟨G, 3, none⟩ (.slice none 0 0)) G #[.bool false, .int .i64 (-1), .slice none 0 0, .slice none 0 0, .int .i64 t.task.sys.alphabet, .int .i64 t.task.sys.states, .slice aE t.task.sys.edges.length cE, .int .i64 t.task.prop.alphabet, .slice aM t.task.prop.next.length cM, .slice aP t.task.prop.accept.length cP, .int .i64 t.task.alphabet] 50 := (((bY.set 1 (.int .i64 (-1))).set 2 (.slice none 0 0)).set 3 (.slice none 0 0))
    have hx9 : Ext w1 (((w6.setCell ⟨G, 1, none⟩ (.int .i64 (-1))).setCell ⟨G, 2, none⟩ (.slice none 0 0)).setCell ⟨G, 3, none⟩ (.slice none 0 0)) := (((hx.setCell (p := ⟨G, 1, none⟩) hG (.int .i64 (-1))).setCell (p := ⟨G, 2, none⟩) hG (.slice none 0 0)).setCell (p := ⟨G, 3, none⟩) hG (.slice none 0 0))
    have C4 := Lib.hid (show ∀ w', Ext w1 w' → Calls Tryz.prog 27 #[.agg #[.bool false, .int .i64 (-1), .slice none 0 0, .slice none 0 0, .int .i64 t.task.sys.alphabet, .int .i64 t.task.sys.states, .slice aE t.task.sys.edges.length cE, .int .i64 t.task.prop.alphabet, .slice aM t.task.prop.next.length cM, .slice aP t.task.prop.accept.length cP, .int .i64 t.task.alphabet]] w' (Grows (.int .i64 al) w') from fun w' h => by have := TeacherAlphabet_c _ _ _ ((HT.out _ h).2.2 rfl); rw [unknown_alpha HKN.out, HAL.out] at this; exact this)
    have C5 := Lib.hid (show ∀ w', Ext w1 w' → Calls Tryz.prog 25 #[.agg #[.bool false, .int .i64 (-1), .slice none 0 0, .slice none 0 0, .int .i64 t.task.sys.alphabet, .int .i64 t.task.sys.states, .slice aE t.task.sys.edges.length cE, .int .i64 t.task.prop.alphabet, .slice aM t.task.prop.next.length cM, .slice aP t.task.prop.accept.length cP, .int .i64 t.task.alphabet], .string s] w' (Grows (.bool b) w') from fun w' h => by have := AskTeacher_c _ _ s _ ((HT.out _ h).2.2 rfl) (by omega) (HD.out _ h); rw [unknown_ask HKN.out, HB.out] at this; exact this)
    clear y0 f0 y1 f1 y2 f2 y3 f3 y4 f4 y5 f5 y6 f6 y7 f7 y8 f8 y9 f9 y10 f10
    generalize (((w6.setCell ⟨G, 1, none⟩ (.int .i64 (-1))).setCell ⟨G, 2, none⟩ (.slice none 0 0)).setCell ⟨G, 3, none⟩ (.slice none 0 0)) = w9 at bZ hx9 ⊢
    clear hx
    have hx := hx9
    clear hx9
    have bZ_0 := bZ.cell 0 rfl; have bZ_1 := bZ.cell 1 rfl; have bZ_2 := bZ.cell 2 rfl; have bZ_3 := bZ.cell 3 rfl; have bZ_4 := bZ.cell 4 rfl; have bZ_5 := bZ.cell 5 rfl; have bZ_6 := bZ.cell 6 rfl; have bZ_7 := bZ.cell 7 rfl; have bZ_8 := bZ.cell 8 rfl; have bZ_9 := bZ.cell 9 rfl; have bZ_10 := bZ.cell 10 rfl
    have haa : (al == al) = true := by simp
    go_wp2_with fail
    refine (C4.out _ hx).mono ?_
    rintro e wz7 ⟨rfl, hez7⟩
    clear bZ_0 bZ_1 bZ_2 bZ_3 bZ_4 bZ_5 bZ_6 bZ_7 bZ_8 bZ_9 bZ_10
    replace bZ := bZ.ext hez7
    replace hx := hx.trans hez7
    have bZ_0 := bZ.cell 0 rfl; have bZ_1 := bZ.cell 1 rfl; have bZ_2 := bZ.cell 2 rfl; have bZ_3 := bZ.cell 3 rfl; have bZ_4 := bZ.cell 4 rfl; have bZ_5 := bZ.cell 5 rfl; have bZ_6 := bZ.cell 6 rfl; have bZ_7 := bZ.cell 7 rfl; have bZ_8 := bZ.cell 8 rfl; have bZ_9 := bZ.cell 9 rfl; have bZ_10 := bZ.cell 10 rfl
    go_wp2_with fail
    refine (C5.out _ hx).mono ?_
    rintro e wz8 ⟨rfl, hez8⟩
    clear bZ_0 bZ_1 bZ_2 bZ_3 bZ_4 bZ_5 bZ_6 bZ_7 bZ_8 bZ_9 bZ_10
    replace bZ := bZ.ext hez8
    replace hx := hx.trans hez8
    have bZ_0 := bZ.cell 0 rfl; have bZ_1 := bZ.cell 1 rfl; have bZ_2 := bZ.cell 2 rfl; have bZ_3 := bZ.cell 3 rfl; have bZ_4 := bZ.cell 4 rfl; have bZ_5 := bZ.cell 5 rfl; have bZ_6 := bZ.cell 6 rfl; have bZ_7 := bZ.cell 7 rfl; have bZ_8 := bZ.cell 8 rfl; have bZ_9 := bZ.cell 9 rfl; have bZ_10 := bZ.cell 10 rfl
    cases b with
    | false =>
      go_wp2_with fail
      go_ret
      exact Grows.mk (by simp) (he1.trans hx)
    | true =>
      obtain rfl : wi = true := HBW.out rfl
      go_wp2_with fail
      refine (CW.out _).mono ?_
      rintro e wz9 ⟨rfl, rfl⟩
      go_wp2_with fail
      go_ret
      exact Grows.mk (by simp) (he1.trans hx)

end Go.Proofs.YtccklliljdembaaGreatDoor.lawFnTeacherAlphabet
