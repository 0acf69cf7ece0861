/- Part of this seat's proofs, cut to what its law needs. -/

import Derived.Test.YtanekmfifmkbmaaGreatDoorOrc
namespace Go.Proofs.YtanekmfifmkbmaaGreatDoor
set_option linter.unusedSimpArgs false
set_option linter.unusedVariables false
open Go Go.RowKit Go.Maps
set_option maxHeartbeats 4000000
set_option maxRecDepth 100000

def SX (K : SK) (bx b : Nat) : Prop := SS K b ∨ b = bx
theorem SafO.of2 {t : Task} {K : SK} {wn : World} {nm : Nat} {D : DataW Unit} {bx base : Nat} {cx : Array Value} (hB : K.B = wn.heap.size) (hm : wn.ownsMap Tryz.prog 217 (plainElem (H := Unit) Tryz.prog 3) K.bm nm D)
    (hM : MovesV wn K.vm t.sys) (hR : TabOwn wn K.vr t.prop) (hH : IntsOwn 3 base wn K.vh (hiddenOf t)) (hx : Blk wn bx cx 108) {w' : World} (hA : BoolsV w' K.va t.prop.accept) (ht : Tnd (SX K bx) wn w') : SafO t K w' := by
  have key : ∀ {base n sz : Nat} {e : TypeId} {v : Value} {xs : List Value}, wn.ownsRow base e sz v n xs → e ≠ 108 → w'.ownsRow base e sz v n xs := by
    intro base n sz e v xs ho he
    refine Tnd.own ht ho fun g hg hS => ?_
    obtain ⟨-, cs, hc⟩ := own_tag ho hg
    rcases hS with (rfl | hS) | rfl
    · obtain ⟨es, clock, hb, -⟩ := hm
      rw [hb] at hc; cases hc
    · have := (Array.getElem?_eq_some_iff.1 hc).1
      omega
    · have h' : wn.heap[g]? = _ := hx
      rw [h'] at hc
      cases hc
      exact he rfl
  refine ⟨?_, ?_, ?_, hA⟩
  · obtain ⟨b, cs, e, h⟩ := hM
    refine ⟨b, cs, e, ⟨h.blk.tnd ht (fun hS => ?_), h.size, h.cell⟩⟩
    rcases hS with (hS | hS) | rfl
    · exact blk_ne_map h.blk hm hS
    · have := h.blk.lt; omega
    · have h1 : wn.heap[b]? = _ := hx
      have h2 : wn.heap[b]? = _ := h.blk
      rw [h1] at h2
      cases h2
  · obtain ⟨bb, cs, h1, h2⟩ := hR
    exact TabOwn.tab ⟨bb, cs, key h1 (by decide), h2⟩
  · exact IntsOwn.ints (base := base) (e := 3) (key hH (by decide))
def NewEndX (t : Task) (bx : Nat) (w : World) (e : Ending) (w' : World) : Prop := ∃ (K : SK) (rows : List (List Int)), e = .returned (.pointer (some ⟨K.B, 0, none⟩)) ∧ SafAt t K [closeM t startM] rows w' ∧ (∀ w'', Tnd (SX K bx) w' w'' → SafO t K w'') ∧ Ext w w' ∧ w.heap.size ≤ K.bm ∧ w.heap.size ≤ K.B
theorem newSafety_x (v : Value) (t : Task) (bx : Nat) (cx : Array Value) (w : World) (hV : ∀ w', Tnd (fun b => b = bx ∨ w.heap.size ≤ b) w w' → TaskV w' v t) (hbx : Blk w bx cx 108) (ht : taskValid t = true) (hT : Deb w) :
    Calls Tryz.prog 106 #[v] w (NewEndX t bx w) := by
  have HAX := Lib.hid hV
  have HBX := Lib.hid hbx
  replace hV := hV w (Tnd.refl _ _)
  clear hbx
  obtain ⟨hs, hp, hA⟩ := taskValid_facts ht
  obtain ⟨H, hand, hH0, hH63, hHL⟩ := andNot_hidden ht
  have HHL := Lib.hid hHL
  have HDb := Lib.hid hT
  obtain ⟨ve, vn, va, rfl, h1, h2, h3⟩ := hV
  obtain ⟨ae, ce, rfl, -, -⟩ := h1.open
  obtain ⟨an, cn, rfl, -, -⟩ := h2.open
  obtain ⟨aa, ca, rfl, -, -⟩ := h3.open
  have HSY := Lib.hid (show ∀ w', Ext w w' → SysV w' (.agg #[.int .i64 t.sys.alphabet, .int .i64 t.sys.states, .slice ae t.sys.edges.length ce]) t.sys from fun w' h => ⟨_, rfl, h1.mono h⟩)
  have HAU := Lib.hid (show ∀ w', Ext w w' → AutoV w' (.agg #[.int .i64 t.prop.alphabet, .slice an t.prop.next.length cn, .slice aa t.prop.accept.length ca]) t.prop from fun w' h => ⟨_, _, rfl, h2.mono h, h3.mono h⟩)
  have HAC := Lib.hid (show ∀ w', Tnd (fun b => b = bx ∨ w.heap.size ≤ b) w w' → BoolsV w' (.slice aa t.prop.accept.length ca) t.prop.accept from fun w' h => by
    obtain ⟨_, _, _, e, -, -, h3'⟩ := HAX.out w' h
    simp only [Value.agg.injEq, Array.mk.injEq, List.cons.injEq, and_true] at e
    obtain ⟨-, -, -, -, -, rfl, -⟩ := e
    exact h3')
  clear h1 h2 h3 ht hA hHL hT
  obtain ⟨wo, hwo⟩ : ∃ wo, wo = w.alloc (.cells #[.int .i64 t.sys.alphabet, .int .i64 t.sys.states, .slice ae t.sys.edges.length ce, .int .i64 t.prop.alphabet, .slice an t.prop.next.length cn, .slice aa t.prop.accept.length ca, .int .i64 t.alphabet] 57) := ⟨_, rfl⟩
  have he : Ext w wo := by rw [hwo]; exact Ext.alloc _ _
  have hB : Blk wo w.heap.size #[.int .i64 t.sys.alphabet, .int .i64 t.sys.states, .slice ae t.sys.edges.length ce, .int .i64 t.prop.alphabet, .slice an t.prop.next.length cn, .slice aa t.prop.accept.length ca, .int .i64 t.alphabet] 57 := by rw [hwo]; exact Blk.new _ _ _
  have hmm := @run_makeMap Tryz.prog
  go_enter Tryz.func106, Tryz.ntmps106
  go_wp2_with fail
  rw [← hwo]
  clear hwo
  have D0 := fun d os => cell_regrown (hB.cell 0 rfl) d os; have D1 := fun d os => cell_regrown (hB.cell 1 rfl) d os; have D2 := fun d os => cell_regrown (hB.cell 2 rfl) d os; have D3 := fun d os => cell_regrown (hB.cell 3 rfl) d os; have D4 := fun d os => cell_regrown (hB.cell 4 rfl) d os; have D5 := fun d os => cell_regrown (hB.cell 5 rfl) d os; have D6 := fun d os => cell_regrown (hB.cell 6 rfl) d os
  obtain ⟨Kc, HKc⟩ : ∃ Kc : FuncId → Array Value → World → Value → World → Prop, Hid (Kc = fun (fn : FuncId) (_ : Array Value) (w0 : World) (v : Value) (w' : World) => Ext w0 w' ∧ (fn = 76 → MovesV w' v t.sys) ∧ (fn = 90 → TabOwn w' v t.prop) ∧ (fn = 33 → ∃ base, IntsOwn 3 base w' v (hiddenOf t))) := ⟨_, rfl⟩
  refine wp_region_ext (Kc := Kc) 16 (by kernel_rfl) (by kernel_rfl) ?_
  simp only [List.take_succ_cons, List.take_zero]
  repeat (refine WalkE.pure rfl (fun K hK => ?_); simp only [PureDo]; go_simp; refine hK _ ?_; clear hK K)
  refine WalkE.step (fun K hK wc hwc hdc => ?_)
  simp only [OpDo, OpSafe, OpOut]
  go_simp
  refine ⟨(movesOf_c _ t.sys wc (HSY.out _ (he.trans ((Ext.drew _).trans hwc))) hs).mono ?_, ?_⟩
  · rintro e w' ⟨v, rfl, he', hv⟩
    exact ⟨_, rfl, by rw [HKc.out]; exact ⟨he', fun _ => hv, fun h => absurd h (by decide), fun h => absurd h (by decide)⟩⟩
  intro u4 w4 hk4
  rw [HKc.out] at hk4
  obtain ⟨hk4, hv4, -, -⟩ := hk4
  have hv4 := hv4 rfl
  obtain ⟨bM, csM, rfl, hMv⟩ := hv4
  refine ⟨hk4, hK _ _ ?_⟩
  clear hK K hdc
  repeat (refine WalkE.pure rfl (fun K hK => ?_); simp only [PureDo]; go_simp; refine hK _ ?_; clear hK K)
  refine WalkE.step (fun K hK wd hwd hdd => ?_)
  simp only [OpDo, OpSafe, OpOut]
  go_simp
  refine ⟨(tableOf_o _ t.prop wd (HAU.out _ (he.trans ((Ext.drew _).trans hwd))) hp).mono ?_, ?_⟩
  · rintro e w' ⟨v, rfl, he', hv⟩
    exact ⟨_, rfl, by rw [HKc.out]; exact ⟨he', fun h => absurd h (by decide), fun _ => hv, fun h => absurd h (by decide)⟩⟩
  intro u5 w5 hk5
  rw [HKc.out] at hk5
  obtain ⟨hk5, -, hv5, -⟩ := hk5
  have hv5 := hv5 rfl
  have hv5' := hv5
  obtain ⟨aR, cR, rfl, -, -⟩ := hv5'.tab.open
  clear hv5'
  refine ⟨hk5, hK _ _ ?_⟩
  clear hK K hdd
  repeat (refine WalkE.pure rfl (fun K hK => ?_); simp only [PureDo]; go_simp; refine hK _ ?_; clear hK K)
  refine WalkE.step (fun K hK we hwe hde => ?_)
  simp only [OpDo, OpSafe, OpOut]
  go_simp
  refine ⟨(lettersOf_o H we hH0 hH63).mono ?_, ?_⟩
  · rintro e w' ⟨v, rfl, he', hv⟩
    exact ⟨_, rfl, by rw [HKc.out]; exact ⟨he', fun h => absurd h (by decide), fun h => absurd h (by decide), fun _ => ⟨we.heap.size, by rw [← HHL.out]; exact hv⟩⟩⟩
  intro u6 w6 hk6
  rw [HKc.out] at hk6
  obtain ⟨hk6, -, -, hv6⟩ := hk6
  have hv6 := hv6 rfl
  obtain ⟨bH, hv6⟩ := hv6
  obtain ⟨aH, cH, rfl⟩ := hv6.shape
  refine ⟨hk6, hK _ _ ?_⟩
  clear hK K hde
  repeat (refine WalkE.pure rfl (fun K hK => ?_); simp only [PureDo]; go_simp; refine hK _ ?_; clear hK K)
  refine WalkE.step (fun K hK wf hwf hdf => ?_)
  simp only [OpDo, OpSafe, OpOut]
  go_simp
  refine ⟨Ext.alloc _ _, hK _ _ ?_⟩
  clear hK K hdf
  repeat (refine WalkE.pure rfl (fun K hK => ?_); simp only [PureDo]; go_simp; refine hK _ ?_; clear hK K)
  refine WalkE.nil (fun wn hwn hmn => ?_)
  simp only [List.drop_succ_cons, List.drop_zero, List.drop_nil]
  have e4 : Ext w4 wn := hmn 3 (by omega)
  have e5 : Ext w5 wn := hmn 6 (by omega)
  have e6 : Ext w6 wn := hmn 13 (by omega)
  have e7 := hmn 14 (by omega)
  have hxn := he.trans ((Ext.drew wo).trans hwn)
  have hmap : wn.ownsMap Tryz.prog 217 (plainElem (H := Unit) Tryz.prog 3) wf.heap.size 0 (.map []) := map_ext (World.ownsMap_made wf _ _ _) e7
  have hwf2 : w.heap.size ≤ wf.heap.size := (he.trans ((Ext.drew wo).trans hwf)).size
  have hMv4 : MovesV wn (.pointer (some ⟨bM, 0, none⟩)) t.sys := (show MovesV w4 (.pointer (some ⟨bM, 0, none⟩)) t.sys from ⟨bM, csM, rfl, hMv⟩).mono e4
  have hTv5 := hv5.mono e5
  have hHv6 := hv6.ext e6
  clear hmn HKc D0 D1 D2 D3 D4 D5 D6 hwn hwc hwd hwe hwf hk4 hk5 hk6 hv5 hv6 hMv e4 e5 e6 e7 hB he hmm
  generalize wf.heap.size = bm at hmap hwf2 ⊢
  obtain ⟨wb, hwb⟩ : ∃ wb, wb = wn.alloc (.cells #[.int .i64 t.sys.alphabet, .int .i64 t.sys.states, .slice ae t.sys.edges.length ce, .int .i64 t.prop.alphabet, .slice an t.prop.next.length cn, .slice aa t.prop.accept.length ca, .int .i64 t.alphabet, .pointer (some ⟨bM, 0, none⟩), .slice aR (table t.prop).length cR, .slice aH (hiddenOf t).length cH, .slice none 0 0, .map (some bm), .slice none 0 0, .slice none 0 0] 213) := ⟨_, rfl⟩
  go_wp2_with fail
  rw [← hwb]
  obtain ⟨K, hK⟩ : ∃ K : SK, K = ⟨.slice ae t.sys.edges.length ce, .slice an t.prop.next.length cn, .slice aa t.prop.accept.length ca, .pointer (some ⟨bM, 0, none⟩), .slice aR (table t.prop).length cR, .slice aH (hiddenOf t).length cH, bm, wn.heap.size⟩ := ⟨_, rfl⟩
  have hKB : K.B = wn.heap.size := by rw [hK]
  have hKm : K.bm = bm := by rw [hK]
  have hxb : Ext wn wb := by rw [hwb]; exact Ext.alloc _ _
  have hbox : Blk wb K.B (sbox t K (.slice none 0 0) (.slice none 0 0) (.slice none 0 0)) 213 := by rw [hwb, hK]; exact Blk.new _ _ _
  have hM0 : MovesV wn K.vm t.sys := by rw [hK]; exact hMv4
  have hR0 : TabOwn wn K.vr t.prop := by rw [hK]; exact hTv5
  have hH0 : IntsOwn 3 bH wn K.vh (hiddenOf t) := by rw [hK]; exact hHv6
  have hAC0 : ∀ w', Tnd (fun b => b = bx ∨ w.heap.size ≤ b) w w' → BoolsV w' K.va t.prop.accept := by rw [hK]; exact HAC.out
  rw [← hKB]
  rw [← hKm] at hmap hwf2
  have hTb : Tnd (SS K) wn wb := Tnd.ext hxb
  have hTbx : Tnd (SX K bx) wn wb := Tnd.ext hxb
  have hmB : w.heap.size ≤ K.bm ∧ w.heap.size ≤ K.B := ⟨hwf2, by rw [hKB]; exact hxn.size⟩
  have HOX := Lib.hid (fun w' (h : Tnd (SX K bx) wb w') => SafO.of2 (t := t) (K := K) hKB hmap hM0 hR0 hH0 (HBX.out.ext hxn) (hAC0 w' ((Tnd.ext hxn).trans (Tnd.imp (hTbx.trans h) fun b hb => by
    rcases hb with (rfl | hb) | rfl
    · exact .inr (by omega)
    · exact .inr (by omega)
    · exact .inl rfl))) (hTbx.trans h))
  have HO := Lib.hid (fun w' (h : Tnd (SS K) wb w') => HOX.out w' (Tnd.imp h fun b hb => .inl hb))
  have hY0 : SafX t K [] [] [] (.slice none 0 0) (.slice none 0 0) (.slice none 0 0) (.map []) 0 wb := ⟨hbox, (((Pool.nil K.B wb).addNil 4 1).addNil 135 6).addNil 217 12, fun s hs => by
    have hs' : s = slS (.slice none 0 0) [] ∨ s = slX (.slice none 0 0) [] ∨ s = slU (.slice none 0 0) [] := by simpa using hs
    rcases hs' with rfl | rfl | rfl
    · exact (by decide : 213 ≠ 217)
    · exact (by decide : 213 ≠ 135)
    · exact (by decide : 213 ≠ 4), map_ext hmap hxb⟩
  have hA0 : SafAt t K [] [] wb := ⟨_, _, _, _, 0, hY0, Nat.le_refl _, KeyMap.nil t, SafeSt.nil t⟩
  have hxw : Ext w wb := hxn.trans hxb
  have hwB : w.heap.size ≤ K.B := by rw [hKB]; exact hxn.size
  have HCL := Lib.hid (close_c K.B t startM wb (hY0.read (HO.out wb (Tnd.refl _ _))) hs hp (start_within hp) (HDb.out.ext hxw))
  rw [pval_start] at HCL
  have HAD := Lib.hid (fun w' (h : Ext wb w') => add_c t K (closeM t startM) [] [] wb w' hs hp (startC_within hs hp) (by simp) (Nat.le_of_lt (hY0.ext h).box.lt) HO.out (Tnd.ext h) (hA0.ext h))
  have hbs : K.B < wb.heap.size := hbox.lt
  clear hwb hK hKB hKm hbox hM0 hR0 hH0 hAC0 hTb hTbx hmB hY0 hA0 hMv4 hTv5 hHv6 hmap hxb hxn
  clear hbs
  refine HCL.out.mono ?_
  rintro e w7 ⟨rfl, he7⟩
  go_wp2_with fail
  refine (HAD.out w7 he7).mono ?_
  rintro e w8 ⟨n, nodes', rows', rfl, hn', hcase, hS8, ht8⟩
  rcases hcase with ⟨h0, -, -⟩ | ⟨-, rfl, rfl⟩
  · simp at h0
  go_wp2_with fail
  go_ret
  refine ⟨K, _, rfl, hS8, fun w'' h => HOX.out _ ((Tnd.imp ht8 fun b hb => .inl hb).trans h), Below.trans hxw (ht8.below hxw.size fun b hb => ?_), hwf2, hwB⟩
  rcases hb with rfl | hb
  · exact hwf2
  · omega


theorem SafAt.keptE {t : Task} {K : SK} {g : List Sets} {rows : List (List Int)} {E : TypeId → Bool} {mN bs : Nat} {w' w'' : World} (h : SafAt t K g rows w') (h1 : E 213 = false) (h2 : E 217 = false) (h3 : E 135 = false) (h4 : E 4 = false) (hm : K.bm ≠ mN) (hnc : NoCells w' mN) (ht : Touch E mN bs w' w'') : SafAt t K g rows w'' := by
  obtain ⟨vs, vx, vu, D, nm, hX, hnm, hKM, hst⟩ := h
  refine ⟨vs, vx, vu, D, nm, ⟨ht.blk hX.box h1 (fun e => ?_), ⟨fun s hs => ?_, hX.pool.apt⟩, hX.ty, ht.mapKept hX.map hm⟩, hnm, hKM, hst⟩
  · have h' : w'.heap[K.B]? = _ := hX.box
    rw [e] at h'
    exact hnc _ _ _ h'
  · refine ht.keptN (hX.pool.own s hs) ?_ hnc
    simp only [List.mem_cons, List.mem_nil_iff, or_false] at hs
    rcases hs with rfl | rfl | rfl
    · exact h2
    · exact h3
    · exact h4


theorem know_ask {t : Teacher} (hk : t.known = true) (hA : autoValid t.target = true) {s : ByteArray} (hw : wordIn s t.target.alphabet = true) : askTeacher t s = accepts t.target (run t.target 0 (chars s)) := by
  unfold askTeacher acceptsWord; rw [hk, hA, hw]; rfl
theorem safe_ask {t : Teacher} (hk : t.known = false) (hA : taskValid t.task = true) {s : ByteArray} (hw : wordIn s t.task.alphabet = true) : askTeacher t s = safeFrom t.task (closeM t.task startM) (chars s) := by
  unfold askTeacher safeWord; rw [hk, hA, hw]; rfl
theorem enter_known (args : Array Value) (w : World) : (callFunc 104 args).run Tryz.prog w = .ok (.enter 104 args) w := rfl
theorem enter_safe (args : Array Value) (w : World) : (callFunc 107 args).run Tryz.prog w = .ok (.enter 107 args) w := rfl
theorem ora_known {t : Teacher} (hk : t.known = true) (hA : autoValid t.target = true) {wk : World} {bt bc m : Nat} (h : KnowW wk bt bc t.target) (hm : m < wk.heap.size) :
    Ora t.target.alphabet (askTeacher t) m wk.heap.size wk.heap.size (.func (.func 104) #[] #[.pointer (some ⟨bt, 0, none⟩), .pointer (some ⟨bc, 0, none⟩)]) (fun _ w => Ext wk w) where
  fn := .inl ⟨_, _, _, rfl, enter_known, fun c w s hJ hc hw hs => (orAsk_c bt bc t.target s w (h.ext hJ) hA hw).mono (by
    rintro e w' ⟨rfl, he⟩
    exact ⟨by rw [know_ask hk hA hw], hJ.trans he, Touch.ext he⟩)⟩
  keep := fun c w w' mN hmN hnc hJ ht => Below.trans hJ (Tnd.below ht hJ.size fun b hb => by
    rcases hb with rfl | ⟨hb, -⟩ <;> omega)
  mlt := hm
  llt := Nat.le_refl _

theorem ora_safe {t : Teacher} (hk : t.known = false) (hA : taskValid t.task = true) {K : SK} {w2 : World} (hO : ∀ w', Tnd (SS K) w2 w' → SafO t.task K w') (hD : ∀ w', Tnd (SS K) w2 w' → Deb w') (hm : K.bm < w2.heap.size) (hB : K.B < w2.heap.size) :
    Ora t.task.alphabet (askTeacher t) K.bm K.B w2.heap.size (.func (.func 107) #[.pointer (some ⟨K.B, 0, none⟩)] #[]) (fun c w => Tnd (SS K) w2 w ∧ ∃ nodes rows, nodes[0]? = some (closeM t.task startM) ∧ nodes.length ≤ c + 1 ∧ SafAt t.task K nodes rows w) where
  fn := .inr ⟨_, _, rfl, enter_safe, fun c w s ⟨hT, nodes, rows, h0, hl, hS⟩ hc hw hs => (safe_k t.task K s w w hA (fun i hi => wordIn_at hw hi) (by omega) (fun w' h => hO w' (hT.trans (TK.tnd h))) (fun w' h => hD w' (hT.trans (TK.tnd h))) (Touch.refl _ _ _ _) nodes rows h0 (by omega) hS).mono (by
    rintro e w' ⟨rfl, ht, nodes', rows', h0', hl', hS'⟩
    exact ⟨by rw [safe_ask hk hA hw], ⟨hT.trans (TK.tnd ht), nodes', rows', h0', by omega, hS'⟩, ht⟩)⟩
  keep := fun c w w' mN hmN hnc ⟨hT, nodes, rows, h0, hl, hS⟩ ht => ⟨hT.trans (Tnd.imp ht fun b hb => by
    rcases hb with rfl | ⟨hb, -⟩
    · exact .inr (by omega)
    · exact .inr (by omega)), nodes, rows, h0, hl, hS.keptE rfl rfl rfl rfl (by omega) hnc ht⟩
  mlt := hm
  llt := by omega
end Go.Proofs.YtanekmfifmkbmaaGreatDoor
