/- Part of this seat's proofs, cut to what its law needs. -/

import Derived.Test.YtanekmfifmkbmaaGreatDoorOp1
import Derived.Test.YtanekmfifmkbmaaGreatDoorNtS
namespace Go.Proofs.YtanekmfifmkbmaaGreatDoor
set_option linter.unusedSimpArgs false
set_option linter.unusedVariables false
open Go Go.RowKit Go.Maps
set_option maxHeartbeats 4000000
set_option maxRecDepth 100000

theorem StrsV.inj {w : World} {v : Value} {l l' : List ByteArray} (h : StrsV w v l) (k : StrsV w v l') : l = l' := by
  obtain ⟨a, c, rfl, -, h1⟩ := SlV.open h
  obtain ⟨a', c', e, -, k1⟩ := SlV.open k
  simp only [Value.slice.injEq] at e
  obtain ⟨rfl, hl, -⟩ := e
  refine List.ext_getElem hl fun i h2 h3 => ?_
  obtain ⟨b, o, e1, -, g1⟩ := h1 i _ (List.getElem?_eq_getElem h2)
  obtain ⟨b', o', e2, -, g2⟩ := k1 i _ (List.getElem?_eq_getElem h3)
  rw [e1] at e2
  cases e2
  have q1 := g1 i _ (List.getElem?_eq_getElem h2)
  have q2 := g2 i _ (List.getElem?_eq_getElem h3)
  unfold StrAt' at q1 q2
  rw [q1] at q2
  injection q2 with q2
  injection q2

theorem below_set {lo : Nat} {w : World} {b : Nat} (h : lo ≤ b) (hw : lo ≤ w.heap.size) (j : Nat) (v : Value) : Below lo w (w.setCell ⟨b, j, none⟩ v) :=
  Tnd.below (tnd_set (S := fun x => x = b) w rfl j v) hw (fun x hx => by omega)

section
variable {al : Int} {f : ByteArray → Bool} {m lo bs : Nat} {vo : Value} {J : Nat → World → Prop}
def TabAskEnd (m lo : Nat) (o : Option Table) (w : World) (e : Ending) (w' : World) : Prop := Touch eK m lo w w' ∧ ((o = none ∧ e = .returned (.tuple #[.agg #[.slice none 0 0, .slice none 0 0], .bool false])) ∨ ∃ T v', o = some T ∧ e = .returned (.tuple #[v', .bool true]) ∧ TabO w.heap.size w' v' T)

theorem closeTable_c (hO : Ora al f m lo bs vo J) (vr vc : Value) (tab : Table) (c : Nat) (w : World) (hJ : J c w) (hc : c ≤ 1000) (hG : Grown al tab) (h1 : tab.cols.length ≤ 1) (hR : StrsV w vr tab.rows) (hC : StrsV w vc tab.cols) (hbs : bs ≤ w.heap.size) :
    Calls Tryz.prog 108 #[.agg #[.int .i64 al, vo], .agg #[vr, vc]] w (TabAskEnd m lo (closedT f al tab) w) := by
  obtain ⟨o, ho⟩ : ∃ o, closedT f al tab = o := ⟨_, rfl⟩
  rw [ho]
  have HO' := Lib.hid ho
  clear ho
  have HRV := Lib.hid (show ∀ w', Ext w w' → StrsV w' vr tab.rows from fun w' h => hR.mono h)
  have HCV := Lib.hid (show ∀ w', Ext w w' → StrsV w' vc tab.cols from fun w' h => hC.mono h)
  obtain ⟨aR, cR, rfl, -, -⟩ := SlV.open hR
  obtain ⟨aC, cC, rfl, -, -⟩ := SlV.open hC
  have HG0 := Lib.hid hG
  have hr12 := hG.len
  have HO := Lib.hid hO
  have hmlt := hO.mlt
  have hllt := hO.llt
  obtain ⟨w0, hw0⟩ : ∃ w0, w0 = ((w.alloc (.cells #[.int .i64 al, vo] 108)).alloc (.cells #[.slice aR tab.rows.length cR, .slice aC tab.cols.length cC] 53)).alloc (.cells #[.slice none 0 0, .slice none 0 0] 53) := ⟨_, rfl⟩
  have he : Ext w w0 := by rw [hw0]; exact ((Ext.alloc _ _).trans (Ext.alloc _ _)).trans (Ext.alloc _ _)
  have b2 : Blk w0 w.heap.size #[.int .i64 al, vo] 108 := by rw [hw0]; exact Ext.blk ((Ext.alloc _ _).trans (Ext.alloc _ _))
  have b3 : Blk w0 (w.heap.size + 1) #[.slice aR tab.rows.length cR, .slice aC tab.cols.length cC] 53 := by rw [hw0]; exact Ext.blk1 (Ext.alloc _ _)
  have b4 : Blk w0 (w.heap.size + 1 + 1) #[.slice none 0 0, .slice none 0 0] 53 := by rw [hw0]; exact Ext.blk2 (Ext.refl _)
  have HJX := Lib.hid (show ∀ w', Ext w w' → J c w' from fun w' h => hO.ext hbs hJ h)
  clear hO hJ hG hR hC
  go_enter Tryz.func108, Tryz.ntmps108
  have E0 := fun d os => cell_regrown (b3.cell 0 rfl) d os; have E1 := fun d os => cell_regrown (b3.cell 1 rfl) d os
  go_upto_region 1 with fail
  rw [← hw0]
  clear hw0
  obtain ⟨Kc, HKc⟩ : ∃ Kc : FuncId → Array Value → World → Value → World → Prop, Hid (Kc = fun (_ : FuncId) (args : Array Value) (w0 : World) (v : Value) (w' : World) => Ext w0 w' ∧ ∀ u l, args = #[u] → StrsV w0 u l → StrsOwn w0.heap.size w' v l) := ⟨_, rfl⟩
  refine wp_region_ext2 (Kc := Kc) 8 (fun i => i == 2 || i == 5) (by kernel_rfl) (by kernel_rfl) ?_
  simp only [List.take_succ_cons, List.take_zero]
  repeat (refine WalkE2.pure rfl rfl (fun K hK => ?_); simp only [PureDo]; go_simp; refine hK _ ?_; clear hK K)
  refine WalkE2.step (fun wd hwd hdd K hK => ?_)
  simp only [OpDo, OpSafe, OpOut]
  go_simp
  have hxd : Ext w wd := he.trans ((Ext.drew _).trans hwd)
  refine ⟨(cloneStrs_c _ tab.rows _ (HRV.out _ hxd) (by omega)).mono ?_, ?_⟩
  · rintro e w' ⟨v, rfl, he9, hv⟩
    exact ⟨v, rfl, by rw [HKc.out]; exact ⟨he9, fun u l hu hl => by simp only [Array.mk.injEq, List.cons.injEq, and_true] at hu; subst hu; rw [← (HRV.out _ hxd).inj hl]; exact hv⟩⟩
  intro u1 w5 hk1
  rw [HKc.out] at hk1
  have hown5 := hk1.2 _ _ rfl (HRV.out _ hxd)
  refine ⟨hk1.1, hK _ _ ?_⟩
  clear hK K hdd hk1
  obtain ⟨aR', cR', rfl⟩ := hown5.shape
  repeat (refine WalkE2.pure rfl rfl (fun K hK => ?_); simp only [PureDo]; go_simp; refine hK _ ?_; clear hK K)
  refine WalkE2.step (fun we hwe hde K hK => ?_)
  have j9 : Ext w5 we := hde _ (Array.mem_of_getElem? (i := 1) rfl) rfl
  have hxe : Ext w we := he.trans ((Ext.drew _).trans hwe)
  simp only [OpDo, OpSafe, OpOut]
  go_simp
  refine ⟨(cloneStrs_c _ tab.cols we (HCV.out _ hxe) (by omega)).mono ?_, ?_⟩
  · rintro e w' ⟨v, rfl, he9, hv⟩
    exact ⟨v, rfl, by rw [HKc.out]; exact ⟨he9, fun u l hu hl => by simp only [Array.mk.injEq, List.cons.injEq, and_true] at hu; subst hu; rw [← (HCV.out _ hxe).inj hl]; exact hv⟩⟩
  intro u2 w6 hk2
  rw [HKc.out] at hk2
  have hown6 := hk2.2 _ _ rfl (HCV.out _ hxe)
  refine ⟨hk2.1, hK _ _ ?_⟩
  clear hK K hde hk2
  obtain ⟨aC', cC', rfl⟩ := hown6.shape
  repeat (refine WalkE2.pure rfl rfl (fun K hK => ?_); simp only [PureDo]; go_simp; refine hK _ ?_; clear hK K)
  refine WalkE2.step (fun wh hwh hdh K hK => ?_)
  simp only [OpDo, OpSafe, OpOut]
  go_simp
  refine ⟨Ext.alloc _ _, hK _ _ ?_⟩
  clear hK K hdh
  refine WalkE2.nil (fun wn hwn hmn htot => ?_)
  simp only [List.drop_succ_cons, List.drop_zero, List.drop_nil]
  have hszh : w.heap.size ≤ wh.heap.size := Nat.le_trans (Nat.le_trans he.size (Ext.drew _).size) hwh.size
  have hsd : w.heap.size ≤ wd.heap.size := hxd.size
  have hse : w.heap.size ≤ we.heap.size := hxe.size
  have hP : Pool w.heap.size wn [slT (.slice aR' tab.rows.length cR') tab.rows, slT (.slice aC' tab.cols.length cC') tab.cols] := by
    refine ⟨fun s hs => ?_, List.pairwise_cons.2 ⟨fun s hs k hk hk2 => ?_, List.pairwise_cons.2 ⟨fun s hs => (by cases hs), List.Pairwise.nil⟩⟩⟩
    · simp only [List.mem_cons, List.mem_nil_iff, or_false] at hs
      rcases hs with rfl | rfl
      · exact own_base (own_ext hown5 (hmn 2 (by omega))) hsd
      · exact own_base (own_ext hown6 (hmn 5 (by omega))) hse
    · simp only [List.mem_cons, List.mem_nil_iff, or_false] at hs
      subst hs
      have h1 := (own_lt hown5 hk).2
      have h2 := (own_lt hown6 hk2).1
      have h3 := j9.size
      omega
  have b6 := (Blk.new wh _ _).ext (hmn 7 (by omega))
  have hxn : Ext w0 wn := (Ext.drew _).trans hwn
  have hb4l := b4.lt
  have hwhs : w0.heap.size ≤ wh.heap.size := Nat.le_trans (Ext.drew _).size hwh.size
  replace he := he.trans hxn
  replace b2 := b2.ext hxn
  replace b4 := b4.ext hxn
  clear hmn htot HKc hwd hwe hwh hwn j9 hxd hxe hown5 hown6 hxn b3 hse hsd E0 E1
  generalize wh.heap.size = g at b6 hszh hwhs ⊢
  have hnT : ∀ s ∈ [slT (.slice aR' tab.rows.length cR') tab.rows, slT (.slice aC' tab.cols.length cC') tab.cols], 53 ≠ s.e := by
    intro s hs
    simp only [List.mem_cons, List.mem_nil_iff, or_false] at hs
    rcases hs with rfl | rfl <;> exact (by decide : 53 ≠ 9)
  obtain ⟨w7, hw7⟩ : ∃ w7, w7 = (wn.setCell ⟨g, 0, none⟩ (.slice aR' tab.rows.length cR')).setCell ⟨g, 1, none⟩ (.slice aC' tab.cols.length cC') := ⟨_, rfl⟩
  have b67 : Blk w7 g #[.slice aR' tab.rows.length cR', .slice aC' tab.cols.length cC'] 53 := by rw [hw7]; exact (b6.set 0 _).set 1 _
  have hP7 : Pool w.heap.size w7 [slT (.slice aR' tab.rows.length cR') tab.rows, slT (.slice aC' tab.cols.length cC') tab.cols] := by rw [hw7]; exact (hP.set b6 hnT 0 _).set (b6.set 0 _) hnT 1 _
  have b27 : Blk w7 w.heap.size #[.int .i64 al, vo] 108 := by rw [hw7]; exact (b2.other (p := ⟨g, 0, none⟩) (by simp only []; omega) _).other (p := ⟨g, 1, none⟩) (by simp only []; omega) _
  have b47 : Blk w7 (w.heap.size + 1 + 1) #[.slice none 0 0, .slice none 0 0] 53 := by rw [hw7]; exact (b4.other (p := ⟨g, 0, none⟩) (by simp only []; omega) _).other (p := ⟨g, 1, none⟩) (by simp only []; omega) _
  have he7 : Ext w w7 := by rw [hw7]; exact (he.setCell (p := ⟨g, 0, none⟩) (by simp only []; omega) _).setCell (p := ⟨g, 1, none⟩) (by simp only []; omega) _
  have hJ7 := HJX.out _ he7
  have ht7 : Touch eK m lo w w7 := Touch.ext he7
  have hg4 : w.heap.size + 1 + 1 < g := by omega
  have gc0 := b6.cell 0 rfl; have gf0 := b6.fr 0; have gc1 := b6.cell 1 rfl; have gf1 := b6.fr 1
  clear hP b2 b4 b6 he hnT hb4l hwhs he7
  go_wp2_with fail
  rw [← hw7]
  clear hw7 gc0 gc1 gf0 gf1
  clear wn
  go_loopw [] (fun wr => ∃ (rows : List ByteArray) (vR : Value) (c' : Nat), rows.length ≤ 12 ∧ c' ≤ c + rows.length * 900000 ∧ Hid (Grown al ⟨rows, tab.cols⟩) ∧ Hid (o = closedT f al ⟨rows, tab.cols⟩) ∧ J c' wr ∧ Blk wr g #[vR, .slice aC' tab.cols.length cC'] 53 ∧ Pool w.heap.size wr [slT vR rows, slT (.slice aC' tab.cols.length cC') tab.cols] ∧ Blk wr w.heap.size #[.int .i64 al, vo] 108 ∧ Blk wr (w.heap.size + 1 + 1) #[.slice none 0 0, .slice none 0 0] 53 ∧ Touch eK m lo w wr) (fun wr => roomT wr g)
  case atStart => exact ⟨tab.rows, _, c, hr12, by omega, HG0, Lib.hid HO'.out.symm, hJ7, b67, hP7, b27, b47, ht7⟩
  case round =>
    clear b67 hP7 b27 b47 ht7 hJ7
    obtain ⟨rows, vR, c', hrl, hc', HG, HOC, hJ, b6, hP, b2, b4, ht⟩ := hrel
    obtain ⟨aR, cR, rfl⟩ := own_any' (Pool.hd hP)
    have hz := ht.size
    have c60 := b6.cell 0 rfl
    have c61 := b6.cell 1 rfl
    have c20 := b2.cell 0 rfl
    have c21 := b2.cell 1 rfl
    have hroom : roomT wr g = 13 - rows.length := by unfold roomT; rw [c60]; rfl
    have HFO := Lib.hid (firstOpen1_c HO.out (.slice aR rows.length cR) (.slice aC' tab.cols.length cC') ⟨rows, tab.cols⟩ c' wr hJ (by omega) HG.out (fun w' h => StrsOwn.strs (base := w.heap.size) (h.kept (hP.own (slT (.slice aR rows.length cR) rows) (by simp)) (by decide) (by omega))) (fun w' h => StrsOwn.strs (base := w.heap.size) (h.kept (hP.own (slT (.slice aC' tab.cols.length cC') tab.cols) (by simp)) (by decide) (by omega))) (by omega) h1)
    obtain ⟨oo, hoo⟩ : ∃ oo, openW f al ⟨rows, tab.cols⟩ = oo := ⟨_, rfl⟩
    rw [hoo] at HFO
    have HOO := Lib.hid hoo
    clear hoo
    go_wp2_with fail
    refine HFO.out.mono ?_
    rintro e w9 ⟨rfl, ⟨c9, hc9, hJ9⟩, ht9⟩
    have b69 := ht9.blk b6 (by decide) (by omega)
    have b29 := ht9.blk b2 (by decide) (by omega)
    have b49 := ht9.blk b4 (by decide) (by omega)
    have hP9 : Pool w.heap.size w9 [slT (.slice aR rows.length cR) rows, slT (.slice aC' tab.cols.length cC') tab.cols] := ⟨fun s hs => by
      have h2 : eK s.e = false := by
        simp only [List.mem_cons, List.mem_nil_iff, or_false] at hs
        rcases hs with rfl | rfl <;> exact (by decide : eK 9 = false)
      exact ht9.kept (hP.own s hs) h2 (by omega), hP.apt⟩
    have t9 := ht.trans ht9
    have hz9 := t9.size
    have hnT : ∀ s ∈ [slT (.slice aR rows.length cR) rows, slT (.slice aC' tab.cols.length cC') tab.cols], 53 ≠ s.e := by
      intro s hs
      simp only [List.mem_cons, List.mem_nil_iff, or_false] at hs
      rcases hs with rfl | rfl <;> exact (by decide : 53 ≠ 9)
    clear c60 c61 c20 c21 HFO b6 b2 b4 hP ht
    have c60 := b69.cell 0 rfl
    have c61 := b69.cell 1 rfl
    have hlow : w.heap.size ≤ w.heap.size + 1 + 1 := by omega
    cases oo with
    | none =>
      obtain rfl : o = some ⟨rows, tab.cols⟩ := by rw [HOC.out]; exact closedT_none hrl HOO.out
      have rc0 := b49.cell 0 rfl; have rf0 := b49.fr 0; have rc1 := b49.cell 1 rfl; have rf1 := b49.fr 1
      go_wp2_with fail
      refine bodyPost_ret (v := .tuple #[.agg #[.slice aR rows.length cR, .slice aC' tab.cols.length cC'], .bool true]) (by simp [results, Tryz.results108, go_sem, rc0, rc1, rf0, rf1]) rfl ?_
      exact ⟨(t9.low (below_set hlow hz9 0 _)).low (below_set hlow (by rw [World.size_setCell]; exact hz9) 1 _), .inr ⟨_, _, rfl, rfl, _, _, rfl, (hP9.set b49 hnT 0 _).set (b49.set 0 _) hnT 1 _⟩⟩
    | some q =>
      have hot : otext (some q) = q := rfl
      by_cases h12 : rows.length = 12
      · obtain rfl : o = none := by rw [HOC.out]; exact closedT_full h12 HOO.out
        have hi : ((rows.length : Int) == 12) = true := by rw [h12]; rfl
        have rc0 := b49.cell 0 rfl; have rf0 := b49.fr 0; have rc1 := b49.cell 1 rfl; have rf1 := b49.fr 1
        clear h12 hroom
        go_wp2_with fail
        refine bodyPost_ret (v := .tuple #[.agg #[.slice none 0 0, .slice none 0 0], .bool false]) (by simp [results, Tryz.results108, go_sem, rc0, rc1, rf0, rf1]) rfl ?_
        exact ⟨(t9.low (below_set hlow hz9 0 _)).low (below_set hlow (by rw [World.size_setCell]; exact hz9) 1 _), .inl ⟨rfl, rfl⟩⟩
      · have h12' : rows.length < 12 := by omega
        have hi : ((rows.length : Int) == 12) = false := beq_eq_false_iff_ne.2 (by omega)
        have HG2 := Lib.hid (HG.out.push (f := f) h12' HOO.out)
        have HOC2 := Lib.hid (HOC.out.trans (closedT_push h12' HOO.out))
        go_wp2_with (at_builtin; refine appP (news := [.string q]) rfl rfl Tryz.underlying51 infoStrT rfl (by decide) hP9 rfl rfl rfl (by simp [Value.oneCell']) (by omega) (by decide) hz9 ?_; intro v1 wb hP1 hg1 hb1; obtain ⟨a1, c1, rfl⟩ := own_any' (Pool.hd hP1); have b61 := b69.grown (Pool.hd hP9) hg1 (by decide); have k60 := b61.cell 0 rfl; have k6f := b61.fr 0)
        have hd := Pool.hd hP9
        have hJa : J c9 (wb.setCell ⟨g, 0, none⟩ (.slice a1 (rows.length + 1) c1)) := HO.out.keep c9 w9 _ w9.heap.size (by omega) (out_nc (Nat.le_refl _)) hJ9 ((Touch.own hg1 hd (by decide) (by omega)).trans (Touch.put b61 (by decide) (by omega) 0 _))
        have e1 : (⟨9, 1, .slice a1 (rows.length + 1) c1, rows.length + 1, rows.map Value.string ++ [Value.string q]⟩ : Slc) = slT (.slice a1 (rows.length + 1) c1) (rows ++ [q]) := by simp [slT]
        have hPa : Pool w.heap.size (wb.setCell ⟨g, 0, none⟩ (.slice a1 (rows.length + 1) c1)) [slT (.slice a1 (rows.length + 1) c1) (rows ++ [q]), slT (.slice aC' tab.cols.length cC') tab.cols] := by
          rw [← e1]
          exact hP1.set b61 (fun s hs => by
            simp only [List.mem_cons, List.mem_nil_iff, or_false] at hs
            rcases hs with rfl | rfl <;> exact (by decide : 53 ≠ 9)) 0 _
        have b2a : Blk (wb.setCell ⟨g, 0, none⟩ (.slice a1 (rows.length + 1) c1)) w.heap.size #[.int .i64 al, vo] 108 := (b29.grown hd hg1 (by decide)).other (p := ⟨g, 0, none⟩) (by simp only []; omega) _
        have b4a : Blk (wb.setCell ⟨g, 0, none⟩ (.slice a1 (rows.length + 1) c1)) (w.heap.size + 1 + 1) #[.slice none 0 0, .slice none 0 0] 53 := (b49.grown hd hg1 (by decide)).other (p := ⟨g, 0, none⟩) (by simp only []; omega) _
        have b6a := b61.set 0 (.slice a1 (rows.length + 1) c1)
        have hmeas : roomT (wb.setCell ⟨g, 0, none⟩ (.slice a1 (rows.length + 1) c1)) g < roomT wr g := by
          rw [hroom]
          unfold roomT
          rw [b6a.cell 0 rfl]
          show 13 - (rows.length + 1) < 13 - rows.length
          omega
        exact ⟨⟨rows ++ [q], _, c9, by simp; omega, by simp; omega, HG2, HOC2, hJa, b6a, hPa, b2a, b4a, (t9.low hb1).low (below_set (by omega) (Nat.le_trans hz9 hb1.size) 0 _)⟩, hmeas⟩
end
end Go.Proofs.YtanekmfifmkbmaaGreatDoor
