/- Part of this seat's proofs, cut to what its law needs. -/

import Derived.Test.YtanekmfifmkbmaaGreatDoorCtS
namespace Go.Proofs.YtanekmfifmkbmaaGreatDoor
set_option linter.unusedSimpArgs false
set_option linter.unusedVariables false
open Go Go.RowKit
set_option maxHeartbeats 4000000
set_option maxRecDepth 100000

theorem Pool.low {base base' : Nat} {w : World} {l : List Slc} (h : Pool base w l) (hb : base' ≤ base) : Pool base' w l := ⟨fun s hs => own_base (h.own s hs) hb, h.apt⟩
theorem cloneStrs_c (v : Value) (l : List ByteArray) (w : World) (hv : StrsV w v l) (hl : l.length ≤ 1048576) :
    Calls Tryz.prog 167 #[v] w (Gives (fun v w' => StrsOwn w.heap.size w' v l) w) := by
  obtain ⟨a, c, rfl, -, h1⟩ := SlV.open hv
  have heq := fun (a : Option Addr) (n c : Nat) (w : World) => nil_eql (P := Tryz.prog) w 51 9 a n c Tryz.underlying51
  cases a with
  | none =>
    have hnil := SlV.nil_of_none hv
    subst hnil
    clear h1
    go_enter Tryz.func167, Tryz.ntmps167
    go_wp2_with fail
    go_ret
    exact Gives.mk rfl (Ext.refl _) (World.ownsRow_nil _ _ _ _)
  | some ad =>
    have hc := hv.cells
    clear h1
    go_enter Tryz.func167, Tryz.ntmps167
    go_wp2_with (at_builtin; refine appN (news := l.map Value.string) rfl rfl Tryz.underlying51 infoStrT rfl (by decide) (own_lit 9 1 w) rfl rfl (by simp) (fun j u hu => (Ext.alloc w _).cell (hc j u hu)) (by intro u hu; obtain ⟨b, _, rfl⟩ := List.mem_map.1 hu; rfl) (by omega) (by decide) (by simp) ?_; intro v1 w1 hown1 hgr1 hbl1)
    go_ret
    refine Gives.mk rfl ((Ext.alloc _ _).trans' hbl1) ?_
    rw [Nat.zero_add, List.nil_append] at hown1
    exact hown1

noncomputable def newO (t : Teacher) : Option Table := closeO t startT
theorem startT_v {w : World} {b1 b2 : Nat} (h1 : Blk w b1 #[.string ByteArray.empty] 9) (h2 : Blk w b2 #[.string ByteArray.empty] 9) : TableV w (.agg #[.slice (some ⟨b1, 0, none⟩) 1 1, .slice (some ⟨b2, 0, none⟩) 1 1]) startT := by
  have key : ∀ b, Blk w b #[.string ByteArray.empty] 9 → StrsV w (.slice (some ⟨b, 0, none⟩) 1 1) [ByteArray.empty] := fun b h =>
    ⟨some ⟨b, 0, none⟩, 1, rfl, Nat.le_refl _, by unfold maxLen; omega, fun _ => ⟨b, 0, rfl, h.lt, fun i x hx => by
      match i, hx with
      | 0, hx => simp at hx; subst hx; exact h.cell 0 rfl
      | i + 1, hx => simp at hx⟩⟩
  exact ⟨_, _, rfl, key b1 h1, key b2 h2⟩
theorem startT_fit : TabFit startT where
  rl := by decide
  cl := by decide
  rs := fun r hr => by simp [startT] at hr; subst hr; decide
  cs := fun r hr => by simp [startT] at hr; subst hr; decide

theorem NewTable_s (v : Value) (t : Teacher) (w : World) (hT : TeacherV w v t) (hel : t.task.sys.edges.length ≤ 1048576) :
    Calls Tryz.prog 13 #[v] w (TabEnd (newO t) w) := by
  obtain ⟨o, ho⟩ : ∃ o, newO t = o := ⟨_, rfl⟩
  rw [ho]
  have HO := Lib.hid ho
  clear ho
  obtain ⟨ax1, ax2, ax3, ax4, ax5, rfl, ah1, ah2, ah3, ah4, ah5⟩ := hT
  obtain ⟨aa1, ac1, rfl, -, -⟩ := ah1.open
  obtain ⟨aa2, ac2, rfl, -, -⟩ := ah2.open
  obtain ⟨aa3, ac3, rfl, -, -⟩ := ah3.open
  obtain ⟨aa4, ac4, rfl, -, -⟩ := ah4.open
  obtain ⟨aa5, ac5, rfl, -, -⟩ := ah5.open
  have HT := Lib.hid (show ∀ w', Ext w w' → TeacherV w' (.agg #[.bool t.known, .int .i64 t.target.alphabet, .slice aa1 t.target.next.length ac1, .slice aa2 t.target.accept.length ac2, .int .i64 t.task.sys.alphabet, .int .i64 t.task.sys.states, .slice aa3 t.task.sys.edges.length ac3, .int .i64 t.task.prop.alphabet, .slice aa4 t.task.prop.next.length ac4, .slice aa5 t.task.prop.accept.length ac5, .int .i64 t.task.alphabet]) t from fun w' h => ⟨_, _, _, _, _, rfl, ah1.mono h, ah2.mono h, ah3.mono h, ah4.mono h, ah5.mono h⟩)
  clear ah1 ah2 ah3 ah4 ah5
  obtain ⟨w0, hw0⟩ : ∃ w0, w0 = (w.alloc (.cells #[.bool t.known, .int .i64 t.target.alphabet, .slice aa1 t.target.next.length ac1, .slice aa2 t.target.accept.length ac2, .int .i64 t.task.sys.alphabet, .int .i64 t.task.sys.states, .slice aa3 t.task.sys.edges.length ac3, .int .i64 t.task.prop.alphabet, .slice aa4 t.task.prop.next.length ac4, .slice aa5 t.task.prop.accept.length ac5, .int .i64 t.task.alphabet] 59)).alloc (.cells #[.slice none 0 0, .slice none 0 0] 53) := ⟨_, rfl⟩
  have he : Ext w w0 := by rw [hw0]; exact (Ext.alloc _ _).trans (Ext.alloc _ _)
  have b2 : Blk w0 w.heap.size #[.bool t.known, .int .i64 t.target.alphabet, .slice aa1 t.target.next.length ac1, .slice aa2 t.target.accept.length ac2, .int .i64 t.task.sys.alphabet, .int .i64 t.task.sys.states, .slice aa3 t.task.sys.edges.length ac3, .int .i64 t.task.prop.alphabet, .slice aa4 t.task.prop.next.length ac4, .slice aa5 t.task.prop.accept.length ac5, .int .i64 t.task.alphabet] 59 := by rw [hw0]; exact Ext.blk (Ext.alloc _ _)
  have b4 : Blk w0 (w.heap.size + 1) #[.slice none 0 0, .slice none 0 0] 53 := by rw [hw0]; exact Ext.blk1 (Ext.refl _)
  go_enter Tryz.func13, Tryz.ntmps13
  go_upto_region 1 with fail
  rw [← hw0]
  clear hw0
  have b2_0 := b2.cell 0 rfl; have b2_1 := b2.cell 1 rfl; have b2_2 := b2.cell 2 rfl; have b2_3 := b2.cell 3 rfl; have b2_4 := b2.cell 4 rfl; have b2_5 := b2.cell 5 rfl; have b2_6 := b2.cell 6 rfl; have b2_7 := b2.cell 7 rfl; have b2_8 := b2.cell 8 rfl; have b2_9 := b2.cell 9 rfl; have b2_10 := b2.cell 10 rfl
  obtain ⟨w1, hw1⟩ : ∃ w1, w1 = (w0.alloc (.cells #[.string (ByteArray.mk #[])] 9)).alloc (.cells #[.string (ByteArray.mk #[])] 9) := ⟨_, rfl⟩
  have he1 : Ext w0 w1 := by rw [hw1]; exact (Ext.alloc _ _).trans (Ext.alloc _ _)
  have s1 : Blk w1 w0.heap.size #[.string (ByteArray.mk #[])] 9 := by rw [hw1]; exact Ext.blk (Ext.alloc _ _)
  have s2 : Blk w1 (w0.heap.size + 1) #[.string (ByteArray.mk #[])] 9 := by rw [hw1]; exact Ext.blk1 (Ext.refl _)
  have b41 := b4.ext he1
  have hx1 := he.trans he1
  have CC := Lib.hid (CloseTable_s _ t _ startT w1 (HT.out _ hx1) (startT_v s1 s2) startT_fit hel)
  go_wp2_with fail
  rw [← hw1]
  clear hw1
  have hsz := hx1.size
  clear b2_0 b2_1 b2_2 b2_3 b2_4 b2_5 b2_6 b2_7 b2_8 b2_9 b2_10
  clear b2 b4 he he1 s1 s2
  refine CC.out.mono ?_
  rintro e w2 ⟨he2, (⟨hn, rfl⟩ | ⟨T, v', hn, rfl, vr, vc, rfl, hP⟩)⟩
  · obtain rfl : o = none := by rw [← HO.out]; exact hn
    have b42 := b41.ext he2
    have hx2 := hx1.trans he2
    have rc0 := b42.cell 0 rfl; have rf0 := b42.fr 0; have rc1 := b42.cell 1 rfl; have rf1 := b42.fr 1
    go_wp2_with fail
    refine bodyPost_ret (v := .tuple #[.agg #[.slice none 0 0, .slice none 0 0], .bool false]) (by simp [results, Tryz.results13, go_sem, rc0, rc1, rf0, rf1]) rfl ?_
    exact ⟨((hx2.setCell (p := ⟨(w.heap.size + 1), 0, none⟩) (by simp only []; omega) _).setCell (p := ⟨(w.heap.size + 1), 1, none⟩) (by simp only []; omega) _), .inl ⟨rfl, rfl⟩⟩
  · obtain rfl : o = some T := by rw [← HO.out]; exact hn
    have b42 := b41.ext he2
    have hx2 := hx1.trans he2
    obtain ⟨aR, cR, rfl⟩ := own_any' (Pool.hd hP)
    obtain ⟨aC, cC, rfl⟩ : ∃ a c, vc = .slice a T.cols.length c := own_any' (hP.own (slT vc T.cols) (by simp))
    have hnT : ∀ s ∈ [slT (.slice aR T.rows.length cR) T.rows, slT (.slice aC T.cols.length cC) T.cols], 53 ≠ s.e := by
      intro s hs
      simp only [List.mem_cons, List.mem_nil_iff, or_false] at hs
      rcases hs with rfl | rfl <;> exact (by decide : 53 ≠ 9)
    have rc0 := b42.cell 0 rfl; have rf0 := b42.fr 0; have rc1 := b42.cell 1 rfl; have rf1 := b42.fr 1
    clear hn
    go_wp2_with fail
    refine bodyPost_ret (v := .tuple #[.agg #[.slice aR T.rows.length cR, .slice aC T.cols.length cC], .bool true]) (by simp [results, Tryz.results13, go_sem, rc0, rc1, rf0, rf1]) rfl ?_
    exact ⟨((hx2.setCell (p := ⟨(w.heap.size + 1), 0, none⟩) (by simp only []; omega) _).setCell (p := ⟨(w.heap.size + 1), 1, none⟩) (by simp only []; omega) _), .inr ⟨_, _, rfl, rfl, _, _, rfl, (((hP.low hsz).set b42 hnT 0 _).set (b42.set 0 _) hnT 1 _)⟩⟩
end Go.Proofs.YtanekmfifmkbmaaGreatDoor
