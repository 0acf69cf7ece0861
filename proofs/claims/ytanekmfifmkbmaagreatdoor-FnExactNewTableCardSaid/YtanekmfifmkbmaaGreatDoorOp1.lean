/- Part of this seat's proofs, cut to what its law needs. -/

import Derived.Test.YtanekmfifmkbmaaGreatDoorOpc
namespace Go.Proofs.YtanekmfifmkbmaaGreatDoor
set_option linter.unusedSimpArgs false
set_option linter.unusedVariables false
open Go Go.RowKit Go.Maps
set_option maxHeartbeats 4000000
set_option maxRecDepth 100000

section
variable {al : Int} {f : ByteArray → Bool} {m lo bs : Nat} {vo : Value} {J : Nat → World → Prop}
def NumsEnd1 (f : ByteArray → Bool) (m lo : Nat) (J : Nat → World → Prop) (rows cols : List ByteArray) (c : Nat) (w : World) (e : Ending) (w' : World) : Prop :=
  ∃ bm D nm, e = .returned (.map (some bm)) ∧ w'.ownsMap Tryz.prog 9 (plainElem (H := Unit) Tryz.prog 3) bm nm D ∧ w.heap.size ≤ bm ∧ MarkMap (seenM f rows cols) D ∧ (∃ c', c' ≤ c + 120000 ∧ J c' w') ∧ Touch eK m lo w w'
def OpenEnd1 (m lo : Nat) (J : Nat → World → Prop) (c : Nat) (o : Option ByteArray) (w : World) (e : Ending) (w' : World) : Prop := e = .returned (.tuple #[.string (otext o), .bool o.isSome]) ∧ (∃ c', c' ≤ c + 900000 ∧ J c' w') ∧ Touch eK m lo w w'
theorem marks1_c (hO : Ora al f m lo bs vo J) (vr vc : Value) (cols : List ByteArray) (s : ByteArray) (c : Nat) (w : World) (hJ : J c w) (hc : c + 200000 ≤ 90000000) (hA : Asks al cols) (hws : wordIn s al = true) (hs : s.size ≤ 4000) (hC : ∀ w', Touch eK m lo w w' → StrsV w' vc cols) (hbs : bs ≤ w.heap.size) (h1 : cols.length ≤ 1) :
    Calls Tryz.prog 198 #[.agg #[.int .i64 al, vo], .agg #[vr, vc], .string s] w (fun e w' => e = .returned (.string (rowB f cols s)) ∧ (∃ c', c' ≤ c + 10000 ∧ J c' w') ∧ Touch eK m lo w w') := by
  have hC0 := hC w (Touch.refl _ _ _ _)
  obtain ⟨aC, cC, rfl, -, -⟩ := SlV.open hC0
  have HCV := Lib.hid hC
  have HO := Lib.hid hO
  have hm := hO.mlt
  have hlo := hO.llt
  have hc20 := hA.len
  have HA := Lib.hid hA
  have HWS := Lib.hid hws
  have HRB : Hid (rowB f cols s = ⟨(marksL f cols s).toArray⟩) := Lib.hid rfl
  have hml : (marksL f cols s).length = cols.length := by simp [marksL]
  obtain ⟨ro, hro⟩ : ∃ ro, rowB f cols s = ro := ⟨_, rfl⟩
  rw [hro] at HRB ⊢
  obtain ⟨wo, hwo⟩ : ∃ wo, wo = (w.alloc (.cells #[.int .i64 al, vo] 108)).alloc (.cells #[vr, .slice aC cols.length cC] 53) := ⟨_, rfl⟩
  have he : Ext w wo := by rw [hwo]; exact (Ext.alloc _ _).trans (Ext.alloc _ _)
  have b1 : Blk wo w.heap.size #[.int .i64 al, vo] 108 := by rw [hwo]; exact Ext.blk (Ext.alloc _ _)
  have b2 : Blk wo (w.heap.size + 1) #[vr, .slice aC cols.length cC] 53 := by rw [hwo]; exact Ext.blk1 (Ext.refl _)
  have hsz : w.heap.size + 2 ≤ wo.heap.size := by rw [hwo]; simp
  have hJ0 := hO.ext hbs hJ he
  have hbo : bs ≤ wo.heap.size := by omega
  clear hC hC0 hO hA hws hro hJ
  rcases HO.out.fn with ⟨ff, p1, p2, rfl, hent, hcall⟩ | ⟨ff, p1, rfl, hent, hcall⟩
  all_goals
    have HC := Lib.hid hcall
    clear hcall
    go_enter Tryz.func198, Tryz.ntmps198
    have b2_1 := b2.cell 1 rfl
    go_upto_region 1 with fail
    rw [← hwo]
    clear hwo
    go_wp2_with (at_make; refine make1 rfl rfl Tryz.underlying22 infoByte rfl rfl rfl rfl (by omega) (by decide) (Nat.le_refl _) ?_; intro w1 hown hext hlt; have b2_1' := (b2.ext hext).cell 1 rfl)
    clear b2_1 b2_1'
    have hown0 : w1.ownsRow wo.heap.size 5 1 (.slice (some ⟨wo.heap.size, 0, none⟩) cols.length cols.length) cols.length (filled ((marksL f cols s).map byteVal) 0 (.int .u8 0)) := by
      rw [filled_zero, List.length_map, hml]; simpa [toList_madeCells_one, Value.cells] using hown
    have hJ1 := HO.out.ext hbo hJ0 hext
    have b11 := b1.ext hext
    have b21 := b2.ext hext
    have ht1 : Touch eK m lo w w1 := Touch.ext (he.trans hext)
    generalize wo.heap.size = g at hown0 hsz hbo ⊢
    clear hown hext hJ0 he b1 b2 hlt
    clear wo
    go_loopw [17] (fun i wr => ∃ (k c' : Nat), k ≤ cols.length ∧ i = .int .i64 k ∧ c' ≤ c + k * 10000 ∧ J c' wr ∧ wr.ownsRow g 5 1 (.slice (some ⟨g, 0, none⟩) cols.length cols.length) cols.length (filled ((marksL f cols s).map byteVal) k (.int .u8 0)) ∧ Touch eK m lo w wr ∧ Blk wr w.heap.size _ 108 ∧ Blk wr (w.heap.size + 1) #[vr, .slice aC cols.length cC] 53) (fun i _ => cols.length - (intOf i).toNat)
    case atStart => exact ⟨0, c, by omega, rfl, by omega, hJ1, hown0, ht1, b11, b21⟩
    case round =>
      clear hJ1 hown0 ht1 b11 b21
      obtain ⟨k, c', hk, rfl, hc', hJ, hown, ht, b1, b2⟩ := hrel
      by_cases hlt : k < cols.length
      · obtain ⟨x, hx⟩ : ∃ x, cols[k]? = some x := ⟨_, List.getElem?_eq_getElem hlt⟩
        obtain ⟨aC', cC', eC, -, hat⟩ := SlV.open (HCV.out wr ht)
        cases eC
        obtain ⟨bc, oc, rfl, -, hcc⟩ := hat k x hx
        have q1 : wr.cell? ⟨bc, oc + k, none⟩ = some (.string x) := by have := hcc k x hx; unfold StrAt' at this; rwa [Nat.mul_one] at this
        have hxm := List.mem_of_getElem? hx
        have hxz := (HA.out.col x hxm).1
        have HW := Lib.hid (HA.out.word HWS.out hs hxm)
        have hov : ¬ 9223372036854775807 < s.size + x.size := by omega
        have hxs : (s ++ x).size ≤ 10000 := by rw [ByteArray.size_append]; omega
        have hks : (k : Int) < (cols.length : Int) := by omega
        have g2 := own_cell hown (filled_at ((marksL f cols s).map byteVal) k (.int .u8 0) (by simpa [hml] using hlt))
        have g3 := hown.frozenAt k
        have c1 := b1.cell 1 rfl
        have hng1 : w.heap.size ≠ g := by omega
        have hng2 : w.heap.size + 1 ≠ g := by omega
        have b1' := b1.other (p := ⟨g, k, none⟩) hng1 (.int .u8 45)
        have b2' := b2.other (p := ⟨g, k, none⟩) hng2 (.int .u8 45)
        have hszr : bs ≤ wr.heap.size := by have := ht.size; omega
        have hJ' := HO.out.cell hszr hJ hown rfl (by decide) (by omega) k (.int .u8 45)
        obtain ⟨o1, o2⟩ := hown.stored k (.int .u8 45)
        have ht' : Touch eK m lo w (wr.setCell ⟨g, k, none⟩ (.int .u8 45)) := ht.low ((Below.refl _ _).grown o2 ht.size (fun j hj => by cases hj; omega))
        have hmk : Hid (((marksL f cols s).map byteVal)[k]? = some (byteVal (mark (f (s ++ x))))) := Lib.hid (by simp [marksL, hx])
        have HCX := Lib.hid (HC.out c' _ (s ++ x) hJ' (by omega) HW.out hxs)
        have c1' := b1'.cell 1 rfl
        clear hx hat hcc hxm
        go_wp2_with fail
        refine HCX.out.mono ?_
        rintro e w3 ⟨rfl, hJ3, ht3⟩
        have o3 := ht3.kept o1 (by decide) (by omega)
        have b13 := ht3.blk b1' (by decide) (by omega)
        have b23 := ht3.blk b2' (by decide) (by omega)
        have t3 := ht'.trans ht3
        have h3 : c' + (s ++ x).size ≤ c + (k + 1) * 10000 := by omega
        cases hb : f (s ++ x) with
        | false =>
          rw [hb] at hmk
          have e4 : (filled ((marksL f cols s).map byteVal) k (.int .u8 0)).set k (.int .u8 45) = filled ((marksL f cols s).map byteVal) (k + 1) (.int .u8 0) := filled_set _ _ _ _ hmk.out
          rw [e4] at o3
          go_wp2_with fail
          exact ⟨⟨k + 1, _, by omega, by go_num, h3, hJ3, o3, t3, b13, b23⟩, by simp [intOf]; omega⟩
        | true =>
          rw [hb] at hmk
          have g4 := own_cell o3 (j := k) (u := .int .u8 45) (by rw [List.getElem?_set_self]; rw [filled_len _ _ _ (by simp [hml]; omega)]; simp [hml]; omega)
          have g5 := o3.frozenAt k
          obtain ⟨o5, o6⟩ := o3.stored k (.int .u8 43)
          have e4 : ((filled ((marksL f cols s).map byteVal) k (.int .u8 0)).set k (.int .u8 45)).set k (.int .u8 43) = filled ((marksL f cols s).map byteVal) (k + 1) (.int .u8 0) := by rw [List.set_set]; exact filled_set _ _ _ _ hmk.out
          rw [e4] at o5
          have hsz3 : bs ≤ w3.heap.size := by have := t3.size; omega
          have hJ5 := HO.out.cell hsz3 hJ3 o3 rfl (by decide) (by omega) k (.int .u8 43)
          have t5 : Touch eK m lo w (w3.setCell ⟨g, k, none⟩ (.int .u8 43)) := t3.low ((Below.refl _ _).grown o6 t3.size (fun j hj => by cases hj; omega))
          go_wp2_with fail
          exact ⟨⟨k + 1, _, by omega, by go_num, h3, hJ5, o5, t5, b13.other (p := ⟨g, k, none⟩) hng1 _, b23.other (p := ⟨g, k, none⟩) hng2 _⟩, by simp [intOf]; omega⟩
      · obtain rfl : k = cols.length := by omega
        have hfull := filled_full ((marksL f cols s).map byteVal) (.int .u8 0)
        rw [List.length_map, hml] at hfull
        rw [hfull] at hown
        have hbo : BytesOwn 5 g wr (.slice (some ⟨g, 0, none⟩) cols.length cols.length) (marksL f cols s) := by unfold BytesOwn; rw [hml]; exact hown
        have hst := hbo.string
        rw [← HRB.out] at hst
        clear hbo hown hfull
        go_wp2_with fail
        go_ret
        exact ⟨rfl, ⟨c', by omega, hJ⟩, ht⟩

theorem rowNumbers1_c (hO : Ora al f m lo bs vo J) (vr vc : Value) (rows cols : List ByteArray) (c : Nat) (w : World) (hJ : J c w) (hc : c + 3000000 ≤ 90000000) (hA : Asks al cols) (hrw : ∀ r ∈ rows, wordIn r al = true ∧ r.size ≤ 4000) (hrl : rows.length ≤ 12) (hR : ∀ w', Touch eK m lo w w' → StrsV w' vr rows) (hC : ∀ w', Touch eK m lo w w' → StrsV w' vc cols) (hbs : bs ≤ w.heap.size) (h1 : cols.length ≤ 1) :
    Calls Tryz.prog 197 #[.agg #[.int .i64 al, vo], .agg #[vr, vc]] w (NumsEnd1 f m lo J rows cols c w) := by
  obtain ⟨aR, cR, rfl, -, -⟩ := SlV.open (hR w (Touch.refl _ _ _ _))
  have HCV := Lib.hid hC
  have HRV := Lib.hid hR
  have HO := Lib.hid hO
  have hm := hO.mlt
  have hlo := hO.llt
  have HA := Lib.hid hA
  have hc20 := hA.len
  have HRW := Lib.hid hrw
  have hmm := @run_makeMap Tryz.prog
  obtain ⟨wo, hwo⟩ : ∃ wo, wo = (w.alloc (.cells #[.int .i64 al, vo] 108)).alloc (.cells #[.slice aR rows.length cR, vc] 53) := ⟨_, rfl⟩
  have he : Ext w wo := by rw [hwo]; exact (Ext.alloc _ _).trans (Ext.alloc _ _)
  have b1 : Blk wo w.heap.size #[.int .i64 al, vo] 108 := by rw [hwo]; exact Ext.blk (Ext.alloc _ _)
  have b2 : Blk wo (w.heap.size + 1) #[.slice aR rows.length cR, vc] 53 := by rw [hwo]; exact Ext.blk1 (Ext.refl _)
  have hsz : wo.heap.size = w.heap.size + 2 := by rw [hwo]; simp
  have hm0 : (wo.alloc (.map #[] 0)).ownsMap Tryz.prog 9 (plainElem (H := Unit) Tryz.prog 3) wo.heap.size 0 (.map []) := World.ownsMap_made _ _ _ _
  have hx1 := he.trans (Ext.alloc wo (.map #[] 0))
  have hJ1 := hO.ext hbs hJ hx1
  have b11 := b1.ext (Ext.alloc wo (.map #[] 0))
  have b21 := b2.ext (Ext.alloc wo (.map #[] 0))
  have ht1 : Touch eK m lo w (wo.alloc (.map #[] 0)) := Touch.ext hx1
  clear hC hR hO hA hrw hJ he b1 b2 hx1
  go_enter Tryz.func197, Tryz.ntmps197
  have b21_0 := b21.cell 0 rfl
  go_upto_region 1 with fail
  rw [← hwo]
  clear hwo
  go_wp2_with fail
  generalize wo.alloc (.map #[] 0) = w1 at hm0 hJ1 b11 b21 ht1 b21_0 ⊢
  rw [hsz] at hm0
  clear hmm b21_0
  obtain ⟨bm, hbm⟩ : ∃ bm, w.heap.size + 2 = bm := ⟨_, rfl⟩
  rw [hbm] at hm0 ⊢
  have hMM : Hid (MarkMap (seenM f (rows.take 0) cols) (DataW.map [])) := Lib.hid (by simpa [seenM] using MarkMap.nil)
  generalize (DataW.map [] : DataW Unit) = D0 at hm0 hMM
  clear hsz
  clear wo
  go_loopw [15] (fun i wr => ∃ (k c' nm : Nat) (D : DataW Unit), k ≤ rows.length ∧ i = .int .i64 k ∧ c' ≤ c + k * 10000 ∧ J c' wr ∧ wr.ownsMap Tryz.prog 9 (plainElem (H := Unit) Tryz.prog 3) bm nm D ∧ nm ≤ k ∧ Hid (MarkMap (seenM f (rows.take k) cols) D) ∧ Touch eK m lo w wr ∧ Blk wr w.heap.size #[.int .i64 al, vo] 108 ∧ Blk wr (w.heap.size + 1) #[.slice aR rows.length cR, vc] 53) (fun i _ => rows.length - (intOf i).toNat)
  case atStart => exact ⟨0, c, 0, D0, by omega, rfl, by omega, hJ1, hm0, by omega, hMM, ht1, b11, b21⟩
  case round =>
    clear hJ1 hm0 hMM ht1 b11 b21
    obtain ⟨k, c', nm, D, hk, rfl, hc', hJ, hmo, hnm, HM, ht, b1, b2⟩ := hrel
    by_cases hlt : k < rows.length
    · obtain ⟨r, hr⟩ : ∃ r, rows[k]? = some r := ⟨_, List.getElem?_eq_getElem hlt⟩
      obtain ⟨aR', cR', eR, -, hat⟩ := SlV.open (HRV.out wr ht)
      cases eR
      obtain ⟨bc, oc, rfl, -, hcc⟩ := hat k r hr
      have q1 : wr.cell? ⟨bc, oc + k, none⟩ = some (.string r) := by have := hcc k r hr; unfold StrAt' at this; rwa [Nat.mul_one] at this
      have hks : (k : Int) < (rows.length : Int) := by omega
      obtain ⟨hrin, hrz⟩ := HRW.out r (List.mem_of_getElem? hr)
      have hszr := ht.size
      have HMK := Lib.hid (marks1_c (h1 := h1) HO.out (.slice (some ⟨bc, oc, none⟩) rows.length cR) vc cols r c' wr hJ (by omega) HA.out hrin hrz (fun w' h => HCV.out w' (ht.trans h)) (by omega))
      have b1_0 := b1.cell 0 rfl
      have b1_1 := b1.cell 1 rfl
      have b2_0 := b2.cell 0 rfl
      have b2_1 := b2.cell 1 rfl
      obtain ⟨mk, hmk⟩ : ∃ mk, rowB f cols r = mk := ⟨_, rfl⟩
      rw [hmk] at HMK
      have hmz : mk.size ≤ maxLen := by rw [← hmk, rowB_size]; unfold maxLen; omega
      have HSN : Hid (seenM f (rows.take (k + 1)) cols = addN (seenM f (rows.take k) cols) mk) := Lib.hid (by rw [List.take_add_one, hr, Option.toList_some, seenM_snoc, hmk])
      clear hr hat hcc hmk hrin hrz
      go_wp2_with fail
      refine HMK.out.mono ?_
      rintro e w3 ⟨rfl, ⟨c3, hc3, hJ3⟩, ht3⟩
      have hm3 := ht3.mapKept hmo (by omega)
      have b13 := ht3.blk b1 (by decide) (by omega)
      have b23 := ht3.blk b2 (by decide) (by omega)
      have t3 := ht.trans ht3
      have hkey := Lib.hid (key_str hmz)
      obtain ⟨ok, hok⟩ : ∃ ok, decide (mk ∈ seenM f (rows.take k) cols) = ok := ⟨_, rfl⟩
      have hhas : Maps.has D (keyS mk) = ok := by rw [HM.out.1 mk, hok]
      have HOK := Lib.hid hok
      clear b1_0 b1_1 b2_0 b2_1 hok HMK
      cases ok with
      | true =>
        have HM2 : Hid (MarkMap (seenM f (rows.take (k + 1)) cols) D) := Lib.hid (by rw [HSN.out, addN, if_pos (of_decide_eq_true HOK.out)]; exact HM.out)
        go_wp2_with (at_lookup; refine wpList_lookup_own_ok_int _ rfl _ _ 239 rfl 9 3 .i64 lawStr Tryz.underlying239 Tryz.underlying3 (zeroInt _) bm nm D rfl hm3 _ _ rfl hkey.out ?_; intro c0 hat hwc; rw [hhas]; clear hat hwc)
        exact ⟨⟨k + 1, c3, nm, D, by omega, by go_num, by omega, hJ3, hm3, by omega, HM2, t3, b13, b23⟩, by simp [intOf]; omega⟩
      | false =>
        have hn := of_decide_eq_false HOK.out
        have HM2 : Hid (MarkMap (seenM f (rows.take (k + 1)) cols) (D.put (keyS mk) (.lit (.int .i64 (k : Int))))) := Lib.hid (by rw [HSN.out, addN, if_neg hn]; exact HM.out.push hm3.isMap (hm3.tidy lawStr) hmz hn _)
        have hnm2 : nm < maxLen := by unfold maxLen; omega
        clear hn
        go_wp2_with (first
          | (at_lookup; refine wpList_lookup_own_ok_int _ rfl _ _ 239 rfl 9 3 .i64 lawStr Tryz.underlying239 Tryz.underlying3 (zeroInt _) bm nm D rfl hm3 _ _ rfl hkey.out ?_; intro c0 hat hwc; rw [hhas]; clear hat hwc)
          | (at_mapUpdate; refine wpList_mapUpdate_own _ rfl _ _ _ 239 rfl 9 3 lawStr Tryz.underlying239 _ bm nm D rfl hm3 hnm2 _ _ _ rfl rfl hkey.out _ [] (elem_int (x := k) (by omega)) ?_; intro w6 hm6 hg6))
        have hJ6 := HO.out.keep c3 w3 w6 bm (by omega) (map_nc hm3) hJ3 (Touch.map hg6)
        have t6 : Touch eK m lo w w6 := t3.low ((Below.refl _ _).grown hg6 t3.size (fun j hj => by cases hj; omega))
        have b16 : Blk w6 w.heap.size #[.int .i64 al, vo] 108 := (hg6.block _ b13.lt (fun e => by simp at e; omega)).trans b13
        have b26 : Blk w6 (w.heap.size + 1) #[.slice (some ⟨bc, oc, none⟩) rows.length cR, vc] 53 := (hg6.block _ b23.lt (fun e => by simp at e; omega)).trans b23
        exact ⟨⟨k + 1, c3, nm + 1, _, by omega, by go_num, by omega, hJ6, hm6, by omega, HM2, t6, b16, b26⟩, by simp [intOf]; omega⟩
    · obtain rfl : k = rows.length := by omega
      have hmf := HM.out
      rw [List.take_length] at hmf
      have HMF := Lib.hid hmf
      clear hmf
      go_wp2_with fail
      go_ret
      exact ⟨bm, D, nm, rfl, hmo, by omega, HMF.out, ⟨c', by omega, hJ⟩, ht⟩

theorem firstOpen1_c (hO : Ora al f m lo bs vo J) (vr vc : Value) (t : Table) (c : Nat) (w : World) (hJ : J c w) (hc : c + 20000000 ≤ 90000000) (hG : Grown al t) (hR : ∀ w', Touch eK m lo w w' → StrsV w' vr t.rows) (hC : ∀ w', Touch eK m lo w w' → StrsV w' vc t.cols) (hbs : bs ≤ w.heap.size) (h1 : t.cols.length ≤ 1) :
    Calls Tryz.prog 168 #[.agg #[.int .i64 al, vo], .agg #[vr, vc]] w (OpenEnd1 m lo J c (openW f al t) w) := by
  have hR0 := hR w (Touch.refl _ _ _ _)
  have hC0 := hC w (Touch.refl _ _ _ _)
  obtain ⟨aR, cR, rfl, -, -⟩ := SlV.open hR0
  obtain ⟨aC, cC, rfl, -, -⟩ := SlV.open hC0
  have HTV := Lib.hid hR
  have HTC := Lib.hid hC
  have HO := Lib.hid hO
  have HG := Lib.hid hG
  have hr12 := hG.len
  have hmlt := hO.mlt
  have hllt := hO.llt
  have ha : 0 ≤ al ∧ al ≤ 63 := by simpa [isAlpha] using hG.asks.alpha
  obtain ⟨ha0, ha63⟩ := ha
  have hl6 : (letters al).length ≤ 6 := lettersTo_len al 6
  obtain ⟨o, ho⟩ : ∃ o, openW f al t = o := ⟨_, rfl⟩
  rw [ho]
  have HOP := Lib.hid ho
  clear hG hR hC hR0 hC0 ho
  obtain ⟨wo, hwo⟩ : ∃ wo, wo = (w.alloc (.cells #[.int .i64 al, vo] 108)).alloc (.cells #[.slice aR t.rows.length cR, .slice aC t.cols.length cC] 53) := ⟨_, rfl⟩
  have he : Ext w wo := by rw [hwo]; exact (Ext.alloc _ _).trans (Ext.alloc _ _)
  have b2 : Blk wo w.heap.size #[.int .i64 al, vo] 108 := by rw [hwo]; exact Ext.blk (Ext.alloc _ _)
  have b3 : Blk wo (w.heap.size + 1) #[.slice aR t.rows.length cR, .slice aC t.cols.length cC] 53 := by rw [hwo]; exact Ext.blk1 (Ext.refl _)
  have hJo := hO.ext hbs hJ he
  have hszo := he.size
  have ht0 : Touch eK m lo w wo := Touch.ext he
  have HRN := Lib.hid (rowNumbers1_c (h1 := h1) hO (.slice aR t.rows.length cR) (.slice aC t.cols.length cC) t.rows t.cols c wo hJo (by omega) HG.out.asks (fun r hr => ⟨(HG.out.row r hr).2, by have := (HG.out.row r hr).1; omega⟩) hr12 (fun w' h => HTV.out w' (ht0.trans h)) (fun w' h => HTC.out w' (ht0.trans h)) (by omega))
  clear hJ hJo hO he
  go_enter Tryz.func168, Tryz.ntmps168
  go_upto_region 1 with fail
  rw [← hwo]
  clear hwo
  have b2_0 := b2.cell 0 rfl
  have b2_1 := b2.cell 1 rfl
  have b3_0 := b3.cell 0 rfl
  have b3_1 := b3.cell 1 rfl
  go_wp2_with fail
  refine HRN.out.mono ?_
  rintro e w1 ⟨bm, D, nm, rfl, hmo, hbm, HM, ⟨c1, hc1, hJ1⟩, ht1⟩
  have HMM := Lib.hid HM
  replace b2 := ht1.blk b2 (by decide) (by omega)
  replace b3 := ht1.blk b3 (by decide) (by omega)
  have ht := ht0.trans ht1
  clear b2_0 b2_1 b3_0 b3_1 HRN HM ht0 ht1
  have b3_0 := b3.cell 0 rfl
  go_wp2_with fail
  go_loopw [20] (fun i wr => ∃ k c' : Nat, k ≤ t.rows.length ∧ i = .int .i64 k ∧ c' ≤ c1 + k * 60000 ∧ J c' wr ∧ Hid (∀ x ∈ behindTo al t.rows k 0, isOpen f t x = false) ∧ wr.ownsMap Tryz.prog 9 (plainElem (H := Unit) Tryz.prog 3) bm nm D ∧ Touch eK m lo w wr ∧ Blk wr w.heap.size #[.int .i64 al, vo] 108 ∧ Blk wr (w.heap.size + 1) #[.slice aR t.rows.length cR, .slice aC t.cols.length cC] 53) (fun i _ => t.rows.length - (intOf i).toNat)
  case atStart => exact ⟨0, c1, by omega, rfl, by omega, hJ1, Lib.hid (by rw [behindTo_zero]; intro x hx; cases hx), hmo, ht, b2, b3⟩
  case round =>
    clear hJ1 hmo ht b2 b3 b3_0
    obtain ⟨k, c', hk, rfl, hc', hJ, HNO, hmo, ht, b2, b3⟩ := hrel
    have hszr := ht.size
    by_cases hlt : k < t.rows.length
    case neg =>
      obtain rfl : k = t.rows.length := by omega
      have hoe : o = none := by rw [← HOP.out]; exact openW_none HNO.out
      subst hoe
      go_wp2_with fail
      go_ret2
      exact ⟨rfl, ⟨c', by omega, hJ⟩, ht⟩
    obtain ⟨r, hr⟩ : ∃ r, t.rows[k]? = some r := ⟨_, List.getElem?_eq_getElem hlt⟩
    have HR := Lib.hid hr
    have hrs := (HG.out.row r (List.mem_of_getElem? hr)).1
    obtain ⟨aR', cR', eR, -, hat⟩ := SlV.open (HTV.out wr ht)
    cases eR
    obtain ⟨bR, oR, rfl, -, hcc⟩ := hat k r hr
    have q1 : wr.cell? ⟨bR, oR + k, none⟩ = some (.string r) := by have := hcc k r hr; unfold StrAt' at this; rwa [Nat.mul_one] at this
    have hks : (k : Int) < (t.rows.length : Int) := by omega
    have b2_0 := b2.cell 0 rfl
    clear hr hat hcc
    go_wp2_with fail
    refine (lettersOf_o al wr ha0 ha63).mono ?_
    rintro e w4 ⟨vl, rfl, he4, hLo⟩
    obtain ⟨aL, cL, rfl⟩ := hLo.shape
    have b24 := b2.ext he4
    have b34 := b3.ext he4
    have hJ4 := HO.out.ext (by omega) hJ he4
    have hm4 := map_ext hmo he4
    have ht4 := ht.trans (Touch.ext he4)
    have hz4 := he4.size
    obtain ⟨base, hbase⟩ : ∃ base, wr.heap.size = base := ⟨_, rfl⟩
    rw [hbase] at hLo hszr hz4
    clear hJ hmo ht b2 b3 q1 b2_0 he4 hbase
    go_wp2_with fail
    go_loopw [28] (fun i wr => ∃ j d : Nat, j ≤ (letters al).length ∧ i = .int .i64 j ∧ d ≤ c1 + k * 60000 + j * 10000 ∧ J d wr ∧ Hid (∀ x ∈ behindTo al t.rows k j, isOpen f t x = false) ∧ wr.ownsMap Tryz.prog 9 (plainElem (H := Unit) Tryz.prog 3) bm nm D ∧ IntsOwn 3 base wr (.slice aL (letters al).length cL) (letters al) ∧ Touch eK m lo w wr ∧ Blk wr w.heap.size #[.int .i64 al, vo] 108 ∧ Blk wr (w.heap.size + 1) #[.slice (some ⟨bR, oR, none⟩) t.rows.length cR, .slice aC t.cols.length cC] 53) (fun i _ => (letters al).length - (intOf i).toNat)
    case atStart => exact ⟨0, c', by omega, rfl, by omega, hJ4, HNO, hm4, hLo, ht4, b24, b34⟩
    case round =>
      clear hJ4 HNO hm4 hLo ht4 b24 b34 hc' hz4
      obtain ⟨j, d, hj, rfl, hd, hJ, HNO, hmo, hLo, ht, b2, b3⟩ := hrel
      have hzr := ht.size
      by_cases hlj : j < (letters al).length
      case neg =>
        obtain rfl : j = (letters al).length := by omega
        have HNO2 : Hid (∀ x ∈ behindTo al t.rows (k + 1) 0, isOpen f t x = false) := Lib.hid (by rw [behindTo_next HR.out]; exact HNO.out)
        have hd2 : d ≤ c1 + (k + 1) * 60000 := by omega
        go_wp2_with fail
        exact ⟨⟨k + 1, d, by omega, by go_num, hd2, hJ, HNO2, hmo, ht, b2, b3⟩, by simp [intOf]; omega⟩
      obtain ⟨l, hl⟩ : ∃ l, (letters al)[j]? = some l := ⟨_, List.getElem?_eq_getElem hlj⟩
      have HL := Lib.hid hl
      have hlm := List.mem_of_getElem? hl
      obtain ⟨l0, l6⟩ := letters_lt6 ha63 l hlm
      obtain ⟨ln, hln⟩ := Int.eq_ofNat_of_zero_le l0
      obtain ⟨gL, cL', eL, q2⟩ := own_at hLo.own (j := j) (u := .int .i64 ln) (by rw [List.getElem?_map, hl, hln]; rfl)
      obtain ⟨hwi, hws⟩ := HG.out.behind (List.mem_of_getElem? HR.out) hlm
      obtain ⟨s, hs0⟩ : ∃ s, r ++ wtext [(ln : Int)] = s := ⟨_, rfl⟩
      have HS := Lib.hid hs0
      have hin : wordIn s al = true ∧ s.size ≤ 23 := by rw [← hs0]; rw [hln] at hwi hws; exact ⟨hwi, hws⟩
      obtain ⟨hwi2, hws2⟩ := hin
      have hsz1 : (wtext [(ln : Int)]).size = 1 := by rw [size_wtext]; rfl
      obtain ⟨tl, htl⟩ : ∃ tl, wtext [(ln : Int)] = tl := ⟨_, rfl⟩
      have hen : Utf8.encode (wrap32 (97 + (ln : Int))) = tl := by rw [← htl, ← enc_letter (l := ln) (by omega)]; congr 1; unfold wrap32; omega
      have hs : r ++ tl = s := by rw [← htl]; exact hs0
      have hov : ¬ 9223372036854775807 < r.size + tl.size := by rw [← htl]; omega
      have HLB := Lib.hid (fun w' => letterByte_c ln w' (by omega))
      have HMK := Lib.hid (marks1_c (h1 := h1) HO.out (.slice (some ⟨bR, oR, none⟩) t.rows.length cR) (.slice aC t.cols.length cC) t.cols s d wr hJ (by omega) HG.out.asks hwi2 (by omega) (fun w' h => HTC.out w' (ht.trans h)) (by omega))
      obtain ⟨mk, hmk⟩ : ∃ mk, rowB f t.cols s = mk := ⟨_, rfl⟩
      rw [hmk] at HMK
      have hmz : mk.size ≤ maxLen := by rw [← hmk, rowB_size]; have := HG.out.asks.len; unfold maxLen; omega
      have hkey := Lib.hid (key_str hmz)
      obtain ⟨ok, hok⟩ : ∃ ok, decide (mk ∈ seenM f t.rows t.cols) = ok := ⟨_, rfl⟩
      have hhas : Maps.has D (keyS mk) = ok := by rw [HMM.out.1 mk, hok]
      have HOPEN : Hid (isOpen f t s = !ok) := Lib.hid (isOpen_iff (by rw [hmk, ← hok]; exact decide_eq_decide.2 seenM_mem.symm))
      have HBT : Hid (behindTo al t.rows k (j + 1) = behindTo al t.rows k j ++ [s]) := Lib.hid (by rw [behindTo_succ HR.out HL.out, hln]; rw [← HS.out]; first | done | rfl)
      have HFO : Hid (ok = false → openW f al t = some s) := Lib.hid (fun hmf => by
        have := openW_found (f := f) HR.out HL.out HNO.out (by rw [hln]; show isOpen _ _ (r ++ wtext [(ln : Int)]) = true; rw [HS.out, HOPEN.out, hmf]; rfl)
        rw [this, hln]; rw [← HS.out]; first | done | rfl)
      have hjs : (j : Int) < ((letters al).length : Int) := by omega
      have b2_0 := b2.cell 0 rfl
      have b2_1 := b2.cell 1 rfl
      have b3_0 := b3.cell 0 rfl
      have b3_1 := b3.cell 1 rfl
      clear hl hlm hln hwi hws hmk hok htl hsz1 hs0 hwi2 hws2
      cases eL
      go_wp2_with (go_at_call 189; refine (HLB.out _).mono ?_; rintro e w' ⟨rfl, rfl⟩)
      refine HMK.out.mono ?_
      rintro e w5 ⟨rfl, ⟨c5, hc5, hJ5⟩, ht5⟩
      have hm5 := ht5.mapKept hmo (by omega)
      have hL5 := ht5.kept hLo.own (by decide) (by omega)
      have b25 := ht5.blk b2 (by decide) (by omega)
      have b35 := ht5.blk b3 (by decide) (by omega)
      have t5 := ht.trans ht5
      clear b2_0 b2_1 b3_0 b3_1 HMK q2
      cases ok with
      | true =>
        have HNO2 : Hid (∀ y ∈ behindTo al t.rows k (j + 1), isOpen f t y = false) := Lib.hid (by
          rw [HBT.out]
          intro y hy
          rcases List.mem_append.1 hy with hy | hy
          · exact HNO.out y hy
          · simp only [List.mem_singleton] at hy
            rw [hy, HOPEN.out]; rfl)
        go_wp2_with (at_lookup; refine wpList_lookup_own_ok_int _ rfl _ _ 239 rfl 9 3 .i64 lawStr Tryz.underlying239 Tryz.underlying3 (zeroInt _) bm nm D rfl hm5 _ _ rfl hkey.out ?_; intro c0 hat hwc; rw [hhas]; clear hat hwc)
        exact ⟨⟨j + 1, c5, by omega, by go_num, by omega, hJ5, HNO2, hm5, hL5, t5, b25, b35⟩, by simp [intOf]; omega⟩
      | false =>
        have hoe : o = some s := by rw [← HOP.out]; exact HFO.out (by first | rfl | trivial)
        subst hoe
        go_wp2_with (at_lookup; refine wpList_lookup_own_ok_int _ rfl _ _ 239 rfl 9 3 .i64 lawStr Tryz.underlying239 Tryz.underlying3 (zeroInt _) bm nm D rfl hm5 _ _ rfl hkey.out ?_; intro c0 hat hwc; rw [hhas]; clear hat hwc)
        go_ret2
        exact ⟨rfl, ⟨c5, by omega, hJ5⟩, t5⟩
end
end Go.Proofs.YtanekmfifmkbmaaGreatDoor
