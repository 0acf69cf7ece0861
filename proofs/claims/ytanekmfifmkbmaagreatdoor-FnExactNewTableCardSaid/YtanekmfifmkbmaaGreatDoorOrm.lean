/- Part of this seat's proofs, cut to what its law needs. -/

import Derived.Test.YtanekmfifmkbmaaGreatDoorOrn
namespace Go.Proofs.YtanekmfifmkbmaaGreatDoor
set_option linter.unusedSimpArgs false
set_option linter.unusedVariables false
open Go Go.RowKit Go.Maps
set_option maxHeartbeats 4000000
set_option maxRecDepth 100000

def NewOra (t : Teacher) (w : World) (e : Ending) (w' : World) : Prop :=
  (teacherAlphabet t < 0 ∧ Ext w w' ∧ e = .returned (.tuple #[.agg #[.int .i64 0, .nilFunc], .bool false])) ∨
  (0 ≤ teacherAlphabet t ∧ Ext w w' ∧ ∃ m lo bs vo J, e = .returned (.tuple #[.agg #[.int .i64 (teacherAlphabet t), vo], .bool true]) ∧ Ora (teacherAlphabet t) (askTeacher t) m lo bs vo J ∧ J 0 w' ∧ w.heap.size ≤ m ∧ w.heap.size ≤ lo ∧ bs ≤ w'.heap.size)
theorem alpha_known {t : Teacher} (hk : t.known = true) (h : 0 ≤ teacherAlphabet t) : autoValid t.target = true ∧ t.target.alphabet = teacherAlphabet t := by
  unfold teacherAlphabet at h ⊢
  rw [hk] at h ⊢
  cases hA : autoValid t.target with
  | true => exact ⟨rfl, by simp⟩
  | false => rw [hA] at h; simp at h
theorem alpha_safe {t : Teacher} (hk : t.known = false) (h : 0 ≤ teacherAlphabet t) : taskValid t.task = true ∧ t.task.alphabet = teacherAlphabet t := by
  unfold teacherAlphabet at h ⊢
  rw [hk] at h ⊢
  cases hA : taskValid t.task with
  | true => exact ⟨rfl, by simp⟩
  | false => rw [hA] at h; simp at h

theorem run_store_nilFunc' (P : Program) (w : World) (a : Addr) (m : Mode) : (store a .nilFunc m).run P w = stored P w a .nilFunc m := run_store P w a _ m rfl
theorem run_store_func' (P : Program) (w : World) (a : Addr) (m : Mode) (f : Fn) (x y : Array Value) : (store a (.func f x y) m).run P w = stored P w a (.func f x y) m := run_store P w a _ m rfl
attribute [local go_sem] run_store_nilFunc' run_store_func'

theorem newOracle_c (v : Value) (t : Teacher) (w : World) (hT : TeacherV w v t) (hD : Deb w) :
    Calls Tryz.prog 53 #[v] w (NewOra t w) := by
  have HDb := Lib.hid hD
  clear hD
  obtain ⟨al, hal⟩ : ∃ al, teacherAlphabet t = al := ⟨_, rfl⟩
  obtain ⟨ax1, ax2, ax3, ax4, ax5, rfl, ah1, ah2, ah3, ah4, ah5⟩ := hT
  obtain ⟨aa1, ac1, rfl, -, -⟩ := ah1.open
  obtain ⟨aa2, ac2, rfl, -, -⟩ := ah2.open
  obtain ⟨aa3, ac3, rfl, -, -⟩ := ah3.open
  obtain ⟨aa4, ac4, rfl, -, -⟩ := ah4.open
  obtain ⟨aa5, ac5, rfl, -, -⟩ := ah5.open
  have HT := Lib.hid (show ∀ w', Ext w w' → TeacherV w' (.agg #[.bool t.known, .int .i64 t.target.alphabet, .slice aa1 t.target.next.length ac1, .slice aa2 t.target.accept.length ac2, .int .i64 t.task.sys.alphabet, .int .i64 t.task.sys.states, .slice aa3 t.task.sys.edges.length ac3, .int .i64 t.task.prop.alphabet, .slice aa4 t.task.prop.next.length ac4, .slice aa5 t.task.prop.accept.length ac5, .int .i64 t.task.alphabet]) t from fun w' h => ⟨_, _, _, _, _, rfl, ah1.mono h, ah2.mono h, ah3.mono h, ah4.mono h, ah5.mono h⟩)
  clear ah1 ah2 ah3 ah4 ah5
  have CA := Lib.hid (show ∀ w', Ext w w' → Calls Tryz.prog 103 #[.agg #[.bool t.known, .int .i64 t.target.alphabet, .slice aa1 t.target.next.length ac1, .slice aa2 t.target.accept.length ac2, .int .i64 t.task.sys.alphabet, .int .i64 t.task.sys.states, .slice aa3 t.task.sys.edges.length ac3, .int .i64 t.task.prop.alphabet, .slice aa4 t.task.prop.next.length ac4, .slice aa5 t.task.prop.accept.length ac5, .int .i64 t.task.alphabet]] w' (Grows (.int .i64 al) w') from fun w' h => by have := TeacherAlphabet_c _ t w' (HT.out _ h); rwa [hal] at this)
  have HTK := Lib.hid (show ∀ w', Ext w w' → TaskV w' (.agg #[.int .i64 t.task.sys.alphabet, .int .i64 t.task.sys.states, .slice aa3 t.task.sys.edges.length ac3, .int .i64 t.task.prop.alphabet, .slice aa4 t.task.prop.next.length ac4, .slice aa5 t.task.prop.accept.length ac5, .int .i64 t.task.alphabet]) t.task from fun w' h => by
    obtain ⟨_, _, _, _, _, e, -, -, h3, h4, h5⟩ := HT.out w' h
    simp only [Value.agg.injEq, Array.mk.injEq, List.cons.injEq, and_true] at e
    obtain ⟨-, -, -, -, -, -, rfl, -, rfl, rfl, -⟩ := e
    exact ⟨_, _, _, rfl, h3, h4, h5⟩)
  have HAU := Lib.hid (show ∀ w', Ext w w' → AutoV w' (.agg #[.int .i64 t.target.alphabet, .slice aa1 t.target.next.length ac1, .slice aa2 t.target.accept.length ac2]) t.target from fun w' h => by
    obtain ⟨_, _, _, _, _, e, h1, h2, -, -, -⟩ := HT.out w' h
    simp only [Value.agg.injEq, Array.mk.injEq, List.cons.injEq, and_true] at e
    obtain ⟨-, -, rfl, rfl, -⟩ := e
    exact ⟨_, _, rfl, h1, h2⟩)
  obtain ⟨wo, hwo⟩ : ∃ wo, wo = (w.alloc (.cells #[.bool t.known, .int .i64 t.target.alphabet, .slice aa1 t.target.next.length ac1, .slice aa2 t.target.accept.length ac2, .int .i64 t.task.sys.alphabet, .int .i64 t.task.sys.states, .slice aa3 t.task.sys.edges.length ac3, .int .i64 t.task.prop.alphabet, .slice aa4 t.task.prop.next.length ac4, .slice aa5 t.task.prop.accept.length ac5, .int .i64 t.task.alphabet] 59)).alloc (.cells #[.int .i64 0, .nilFunc] 108) := ⟨_, rfl⟩
  have he : Ext w wo := by rw [hwo]; exact (Ext.alloc _ _).trans (Ext.alloc _ _)
  have b2 : Blk wo w.heap.size #[.bool t.known, .int .i64 t.target.alphabet, .slice aa1 t.target.next.length ac1, .slice aa2 t.target.accept.length ac2, .int .i64 t.task.sys.alphabet, .int .i64 t.task.sys.states, .slice aa3 t.task.sys.edges.length ac3, .int .i64 t.task.prop.alphabet, .slice aa4 t.task.prop.next.length ac4, .slice aa5 t.task.prop.accept.length ac5, .int .i64 t.task.alphabet] 59 := by rw [hwo]; exact Ext.blk (Ext.alloc _ _)
  have b3 : Blk wo (w.heap.size + 1) #[.int .i64 0, .nilFunc] 108 := by rw [hwo]; exact Ext.blk1 (Ext.refl _)
  go_enter Tryz.func53, Tryz.ntmps53
  go_upto_region 1 with fail
  rw [← hwo]
  clear hwo
  have b2_0 := b2.cell 0 rfl; have b2_1 := b2.cell 1 rfl; have b2_2 := b2.cell 2 rfl; have b2_3 := b2.cell 3 rfl; have b2_4 := b2.cell 4 rfl; have b2_5 := b2.cell 5 rfl; have b2_6 := b2.cell 6 rfl; have b2_7 := b2.cell 7 rfl; have b2_8 := b2.cell 8 rfl; have b2_9 := b2.cell 9 rfl; have b2_10 := b2.cell 10 rfl
  go_wp2_with fail
  refine (CA.out _ he).mono ?_
  rintro e w1 ⟨rfl, he1⟩
  clear b2_0 b2_1 b2_2 b2_3 b2_4 b2_5 b2_6 b2_7 b2_8 b2_9 b2_10
  replace he := he.trans he1
  replace b2 := b2.ext he1
  replace b3 := b3.ext he1
  clear he1
  have hsz := he.size
  by_cases hneg : al < 0
  · have HN := Lib.hid hneg
    have HAL := Lib.hid hal
    have f0 := b3.fr 0
    have f1 := b3.fr 1
    have k0 := b3.cell 0 rfl
    have k1 := b3.cell 1 rfl
    have hlow : w.heap.size ≤ w.heap.size + 1 := by omega
    have HE : Hid (Ext w ((w1.setCell ⟨w.heap.size + 1, 0, none⟩ (.int .i64 0)).setCell ⟨w.heap.size + 1, 1, none⟩ .nilFunc)) := Lib.hid ((he.setCell hlow _).setCell hlow _)
    clear hal
    have b2_0 := b2.cell 0 rfl; have b2_1 := b2.cell 1 rfl; have b2_2 := b2.cell 2 rfl; have b2_3 := b2.cell 3 rfl; have b2_4 := b2.cell 4 rfl; have b2_5 := b2.cell 5 rfl; have b2_6 := b2.cell 6 rfl; have b2_7 := b2.cell 7 rfl; have b2_8 := b2.cell 8 rfl; have b2_9 := b2.cell 9 rfl; have b2_10 := b2.cell 10 rfl
    go_wp2_with fail
    refine bodyPost_ret (v := .tuple #[.agg #[.int .i64 0, .nilFunc], .bool false]) (by simp [results, Tryz.results53, go_sem, k0, k1, f0, f1]) rfl ?_
    exact .inl ⟨by rw [HAL.out]; exact HN.out, HE.out, rfl⟩
  have hge : 0 ≤ al := by omega
  have HAL := Lib.hid hal
  have f0 := b3.fr 0
  have f1 := b3.fr 1
  cases hk : t.known with
  | true =>
    have HK := Lib.hid hk
    have HAA := Lib.hid (alpha_known hk (by rw [hal]; exact hge))
    clear hal
    have b2_0 := b2.cell 0 rfl; have b2_1 := b2.cell 1 rfl; have b2_2 := b2.cell 2 rfl; have b2_3 := b2.cell 3 rfl; have b2_4 := b2.cell 4 rfl; have b2_5 := b2.cell 5 rfl; have b2_6 := b2.cell 6 rfl; have b2_7 := b2.cell 7 rfl; have b2_8 := b2.cell 8 rfl; have b2_9 := b2.cell 9 rfl; have b2_10 := b2.cell 10 rfl
    go_wp2_with fail
    refine (tableOf_o _ t.target _ (HAU.out _ he) HAA.out.1).mono ?_
    rintro e w2 ⟨vT, rfl, he2, hTab⟩
    clear b2_0 b2_1 b2_2 b2_3 b2_4 b2_5 b2_6 b2_7 b2_8 b2_9 b2_10
    replace he := he.trans he2
    replace b2 := b2.ext he2
    replace b3 := b3.ext he2
    obtain ⟨aT, cT, rfl, -, -⟩ := hTab.tab.open
    go_upto_region 6 with fail
    obtain ⟨w3, hw3⟩ : ∃ w3, w3 = w2.alloc (.cells #[.slice aT (table t.target).length cT] 147) := ⟨_, rfl⟩
    have he3 : Ext w2 w3 := by rw [hw3]; exact Ext.alloc _ _
    have b5 : Blk w3 w2.heap.size #[.slice aT (table t.target).length cT] 147 := by rw [hw3]; exact Blk.new _ _ _
    rw [← hw3]
    clear hw3
    have hsz2 := he.size
    have hl3 := b3.lt
    replace he := he.trans he3
    replace b2 := b2.ext he3
    replace b3 := b3.ext he3
    replace hTab := hTab.mono he3
    obtain ⟨g5, hg5⟩ : ∃ g5, w2.heap.size = g5 := ⟨_, rfl⟩
    rw [hg5] at b5 hsz2 hl3 ⊢
    have k0 := b3.cell 0 rfl
    have k1 := b3.cell 1 rfl
    have f0' := b3.fr 0
    have f1' := b3.fr 1
    have hlow : w.heap.size ≤ w.heap.size + 1 := by omega
    have hsz3 := he.size
    have hend : ∀ w9, w9 = ((w3.setCell ⟨w.heap.size + 1, 0, none⟩ (.int .i64 al)).setCell ⟨w.heap.size + 1, 1, none⟩ (.func (.func 104) #[] #[.pointer (some ⟨g5, 0, none⟩), .pointer (some ⟨w.heap.size, 0, none⟩)])) → NewOra t w (.returned (.tuple #[.agg #[.int .i64 al, .func (.func 104) #[] #[.pointer (some ⟨g5, 0, none⟩), .pointer (some ⟨w.heap.size, 0, none⟩)]], .bool true])) w9 := by
      intro w9 h9
      have hx : Ext w w9 := by rw [h9]; exact (he.setCell hlow _).setCell hlow _
      have y3 : Blk (w3.setCell ⟨w.heap.size + 1, 0, none⟩ (.int .i64 al)) (w.heap.size + 1) _ 108 := b3.set 0 _
      have z5 : Blk w9 g5 #[.slice aT (table t.target).length cT] 147 := by rw [h9]; exact (b5.other (p := ⟨w.heap.size + 1, 0, none⟩) (by simp only []; omega) _).other (p := ⟨w.heap.size + 1, 1, none⟩) (by simp only []; omega) _
      have z2 : Blk w9 w.heap.size #[.bool t.known, .int .i64 t.target.alphabet, .slice aa1 t.target.next.length ac1, .slice aa2 t.target.accept.length ac2, .int .i64 t.task.sys.alphabet, .int .i64 t.task.sys.states, .slice aa3 t.task.sys.edges.length ac3, .int .i64 t.task.prop.alphabet, .slice aa4 t.task.prop.next.length ac4, .slice aa5 t.task.prop.accept.length ac5, .int .i64 t.task.alphabet] 59 := by rw [h9]; exact (b2.other (p := ⟨w.heap.size + 1, 0, none⟩) (by simp only []; omega) _).other (p := ⟨w.heap.size + 1, 1, none⟩) (by simp only []; omega) _
      have zT : TabOwn w9 (.slice aT (table t.target).length cT) t.target := by rw [h9]; exact (hTab.store b3 (by decide) 0 _).store y3 (by decide) 1 _
      have zA : BoolsV w9 (.slice aa2 t.target.accept.length ac2) t.target.accept := by
        obtain ⟨_, _, e, -, h2⟩ := HAU.out w9 hx
        simp only [Value.agg.injEq, Array.mk.injEq, List.cons.injEq, and_true] at e
        obtain ⟨-, -, rfl⟩ := e
        exact h2
      have hs9 : w9.heap.size = w3.heap.size := by rw [h9]; simp
      have hKW : KnowW w9 g5 w.heap.size t.target := ⟨⟨_, z5, zT.tab⟩, _, _, _, _, _, _, _, _, _, _, _, z2, zA⟩
      have hO := ora_known (m := w.heap.size) HK.out HAA.out.1 hKW (by have := z2.lt; omega)
      rw [HAA.out.2, HAL.out] at hO
      unfold NewOra
      rw [HAL.out]
      exact .inr ⟨hge, hx, _, _, _, _, _, rfl, hO, Ext.refl _, Nat.le_refl _, by omega, Nat.le_refl _⟩
    have HEND := Lib.hid hend
    clear hend
    go_wp2_with fail
    refine bodyPost_ret (v := .tuple #[.agg #[.int .i64 al, .func (.func 104) #[] #[.pointer (some ⟨g5, 0, none⟩), .pointer (some ⟨w.heap.size, 0, none⟩)]], .bool true]) (by simp [results, Tryz.results53, go_sem, k0, k1, f0', f1']) rfl ?_
    exact HEND.out _ rfl
  | false =>
    have HK := Lib.hid hk
    have HAA := Lib.hid (alpha_safe hk (by rw [hal]; exact hge))
    have HTX := Lib.hid (show ∀ w', Tnd (fun b => b = w.heap.size + 1 ∨ w1.heap.size ≤ b) w1 w' → Ext w w' from fun w' h => Below.trans he (h.below hsz fun b hb => by rcases hb with rfl | hb <;> omega))
    have HNS := Lib.hid (newSafety_x _ t.task (w.heap.size + 1) _ w1 (fun w' h => HTK.out w' (HTX.out w' h)) b3 HAA.out.1 (HDb.out.ext he))
    clear hal
    have b2_0 := b2.cell 0 rfl; have b2_1 := b2.cell 1 rfl; have b2_2 := b2.cell 2 rfl; have b2_3 := b2.cell 3 rfl; have b2_4 := b2.cell 4 rfl; have b2_5 := b2.cell 5 rfl; have b2_6 := b2.cell 6 rfl; have b2_7 := b2.cell 7 rfl; have b2_8 := b2.cell 8 rfl; have b2_9 := b2.cell 9 rfl; have b2_10 := b2.cell 10 rfl
    go_wp2_with fail
    refine HNS.out.mono ?_
    rintro e w2 ⟨K, rows0, rfl, hS2, hO2, he2, hm2, hB2⟩
    clear b2_0 b2_1 b2_2 b2_3 b2_4 b2_5 b2_6 b2_7 b2_8 b2_9 b2_10
    have hl3 := b3.lt
    have hs2 := he2.size
    replace he := he.trans he2
    replace b3 := b3.ext he2
    have k0 := b3.cell 0 rfl
    have k1 := b3.cell 1 rfl
    have f0' := b3.fr 0
    have f1' := b3.fr 1
    have hlow : w.heap.size ≤ w.heap.size + 1 := by omega
    have hend : ∀ w9, w9 = ((w2.setCell ⟨w.heap.size + 1, 0, none⟩ (.int .i64 al)).setCell ⟨w.heap.size + 1, 1, none⟩ (.func (.func 107) #[.pointer (some ⟨K.B, 0, none⟩)] #[])) → NewOra t w (.returned (.tuple #[.agg #[.int .i64 al, .func (.func 107) #[.pointer (some ⟨K.B, 0, none⟩)] #[]], .bool true])) w9 := by
      intro w9 h9
      have hx : Ext w w9 := by rw [h9]; exact (he.setCell hlow _).setCell hlow _
      have y3 : Blk (w2.setCell ⟨w.heap.size + 1, 0, none⟩ (.int .i64 al)) (w.heap.size + 1) _ 108 := b3.set 0 _
      have hs9 : w9.heap.size = w2.heap.size := by rw [h9]; simp
      have t9 : Touch (· == 108) w2.heap.size 0 w2 w9 := by rw [h9]; exact (Touch.put b3 (by decide) (Nat.zero_le _) 0 _).trans (Touch.put y3 (by decide) (Nat.zero_le _) 1 _)
      have x9 : Tnd (SX K (w.heap.size + 1)) w2 w9 := by rw [h9]; exact (tnd_set w2 (.inr rfl) 0 _).trans (tnd_set _ (.inr rfl) 1 _)
      obtain ⟨hbm, hB⟩ : K.bm < w2.heap.size ∧ K.B < w2.heap.size := by
        obtain ⟨vs, vx, vu, D, nm, hX, -⟩ := hS2
        obtain ⟨es, clock, h1, -⟩ := hX.map
        exact ⟨(Array.getElem?_eq_some_iff.1 h1).1, hX.box.lt⟩
      have hO := ora_safe (w2 := w9) HK.out HAA.out.1 (K := K) (fun w' h => hO2 w' (x9.trans (Tnd.imp h fun b hb => .inl hb))) (fun w' h => HDb.out.ext (Below.trans hx (h.below hx.size fun b hb => by rcases hb with rfl | hb <;> omega))) (by omega) (by omega)
      rw [HAA.out.2, HAL.out] at hO
      unfold NewOra
      rw [HAL.out]
      exact .inr ⟨hge, hx, _, _, _, _, _, rfl, hO, ⟨Tnd.refl _ _, _, _, rfl, by simp, hS2.keptE rfl rfl rfl rfl (by omega) (out_nc (Nat.le_refl _)) t9⟩, by omega, by omega, Nat.le_refl _⟩
    have HEND := Lib.hid hend
    clear hend hS2 hO2
    go_wp2_with fail
    refine bodyPost_ret (v := .tuple #[.agg #[.int .i64 al, .func (.func 107) #[.pointer (some ⟨K.B, 0, none⟩)] #[]], .bool true]) (by simp [results, Tryz.results53, go_sem, k0, k1, f0', f1']) rfl ?_
    exact HEND.out _ rfl
end Go.Proofs.YtanekmfifmkbmaaGreatDoor
