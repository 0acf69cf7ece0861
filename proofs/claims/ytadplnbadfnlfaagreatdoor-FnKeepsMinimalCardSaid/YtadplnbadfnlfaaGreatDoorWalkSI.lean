/- Part of this seat's proofs, cut to what its law needs. -/

import Derived.Test.YtadplnbadfnlfaaGreatDoorWalkSE

namespace Go.Proofs.YtadplnbadfnlfaaGreatDoor
set_option linter.unusedSimpArgs false
set_option linter.unusedVariables false
open Go.RowKit

set_option maxHeartbeats 1600000
set_option maxRecDepth 100000

theorem BytesOwn.one (w : World) (b : UInt8) : BytesOwn 5 w.heap.size (w.alloc (.cells #[byteVal b] 5)) (.slice (some ⟨w.heap.size, 0, none⟩) 1 1) [b] :=
  ⟨by simp, .inr ⟨w.heap.size, 1, #[byteVal b], rfl, Nat.le_refl _, heap_alloc_new w _, Nat.le_refl _, by unfold maxLen; omega, by simp, by simp⟩⟩

theorem l1Text_c (l : Nat) (w : World) (hl : l < 6) : Calls Tryz.prog 179 #[.int .i64 l] w (Grows (.string (wtext [(l : Int)])) w) := by
  have hb := BytesOwn.one w (lb (l : Int))
  have hcv := hb.string
  rw [lb_val l hl, show ((97 + l : Nat) : Int) = 97 + (l : Int) by omega] at hcv
  go_enter Tryz.func179, Tryz.ntmps179
  go_wp2_with fail
  go_ret
  exact Grows.mk rfl (Ext.alloc _ _)

theorem wtext_push (u : List Int) (l : Int) : wtext u ++ wtext [l] = wtext (u ++ [l]) := by
  apply ByteArray.ext
  rw [ByteArray.data_append]
  simp [wtext]

theorem l4First_c (v : Value) (n : Net) (kind q : Int) (G : Nat → Bool) (w : World) (hv : NetV w v n (List.replicate (sizesOf n).length 0) kind q) (h : NetOk n)
    (hF : ∀ w' u vm v' node, Ext w w' → NetV w' v' n (List.replicate (sizesOf n).length 0) kind q → IntsV w' u (ints (decode (sizesOf n) node)) → Calls Tryz.prog 274 #[v', u, vm] w' (Grows (.bool (G node)) w')) :
    Calls Tryz.prog 203 #[v] w (FoundEnd (Wins (netN n) (letters n.letters) [0] G) w) := by
  have HV := Lib.hid hv
  have HF := Lib.hid hF
  obtain ⟨vp, va, vs, rfl, -, -, hst⟩ := hv
  have HST := Lib.hid hst
  clear hF hst
  have hal := h.al
  have hnp := h.np
  have hna := h.na
  go_enter Tryz.func203, Tryz.ntmps203
  go_wp2_with fail
  have he : Ext w (w.alloc (.cells #[vp, va, vs, .int .i64 n.letters, .int .i64 kind, .int .i64 q] 108)) := Ext.alloc _ _
  have hB := Blk.new w #[vp, va, vs, .int .i64 n.letters, .int .i64 kind, .int .i64 q] 108
  have hsz0 : (w.alloc (.cells #[vp, va, vs, .int .i64 n.letters, .int .i64 kind, .int .i64 q] 108)).heap.size = w.heap.size + 1 := by simp
  generalize w.alloc (.cells #[vp, va, vs, .int .i64 n.letters, .int .i64 kind, .int .i64 q] 108) = wo at he hB hsz0 ⊢
  refine (l4Sizes_c _ n _ kind q wo (HV.out.mono he) h).mono ?_
  rintro e w1 ⟨v4, rfl, he1, hv4⟩
  obtain ⟨a4, c4, rfl⟩ := hv4.shape
  have hls := ints_len (sizesOf n)
  have hln := sizes_len n
  obtain ⟨T, hT⟩ : ∃ T, T = (sizesOf n).length := ⟨_, rfl⟩
  rw [← hT] at hln hls
  have hT5 : T ≤ 5 := by omega
  have hv4' := hv4.ints
  rw [hls] at hv4' ⊢
  have HS := Lib.hid hv4'
  obtain ⟨a4', c4', hcs, -, hhs⟩ := hv4'.open
  obtain rfl : a4 = a4' := by injection hcs
  clear hcs
  have hTs := Lib.hid hT
  clear hT hln hv4 hv4' hls
  go_wp2_with fail
  go_loopw [5, 6] (fun c i wr => ∃ k : Nat, k ≤ T ∧ i = .int .i64 k ∧ c = .int .i64 (((sizesOf n).take k).prod : Nat) ∧ Ext w1 wr) (fun _ i _ => T - (intOf i).toNat)
  case atStart => exact ⟨0, by omega, rfl, by simp, Ext.refl _⟩
  case round =>
    obtain ⟨k, hk, rfl, rfl, hext⟩ := hrel
    by_cases hlt : k < T
    · obtain ⟨sz, hsz⟩ : ∃ s, (sizesOf n)[k]? = some s := ⟨_, List.getElem?_eq_getElem (by rw [← hTs.out]; exact hlt)⟩
      obtain ⟨b, off, rfl, -, hc⟩ := hhs k sz (ints_at hsz)
      have g1 := hext.cell (hc k sz (ints_at hsz))
      rw [Nat.mul_one] at g1
      have HP := Lib.hid (show ((sizesOf n).take (k + 1)).prod = ((sizesOf n).take k).prod * sz by rw [List.take_add_one, hsz, List.prod_append]; simp)
      have hb1 := take_prod_le h (k + 1)
      rw [HP.out] at hb1
      clear hc hsz
      obtain ⟨P, hP⟩ : ∃ P, Hid (P = ((sizesOf n).take k).prod) := ⟨_, rfl⟩
      rw [← hP.out] at hb1 HP ⊢
      have e1 : IntKind.i64.wrap ((P : Int) * (sz : Int)) = ((P * sz : Nat) : Int) := by rw [show (P : Int) * (sz : Int) = ((P * sz : Nat) : Int) by simp, IntKind.wrap_i64]; omega
      have e2 : wrap64 ((P : Int) * (sz : Int)) = (P : Int) * (sz : Int) := by rw [show (P : Int) * (sz : Int) = ((P * sz : Nat) : Int) by simp]; exact IntWalk.wrap64_in _ (by omega)
      go_wp2_with fail
      refine ⟨⟨k + 1, by omega, by go_num, by rw [HP.out]; simp [e2], hext⟩, by simp [intOf]; omega⟩
    · obtain rfl : k = T := by omega
      have hpr : ((sizesOf n).take k).prod = (sizesOf n).prod := by rw [List.take_of_length_le (by rw [← hTs.out]; exact Nat.le_refl _)]
      rw [hpr]
      have htot := take_prod_le h k
      rw [hpr] at htot
      have hN : ∀ node, node < (sizesOf n).prod → ∀ l ∈ letters n.letters, ∀ m, m ∈ netN n node l → m < (sizesOf n).prod := fun node _ l _ m hm => by
        rw [← nx_full] at hm
        have := nx_lt h node l _ m hm
        rwa [List.take_of_length_le (by rw [sizes_len]; exact Nat.le_refl _)] at this
      have htot1 : 1 ≤ (sizesOf n).prod := by
        have : ∀ l : List Nat, (∀ x ∈ l, 1 ≤ x) → 1 ≤ l.prod := by
          intro l
          induction l with
          | nil => simp
          | cons a l ih => intro hx; rw [List.prod_cons]; exact Nat.mul_pos (hx a (by simp)) (ih fun x hm => hx x (by simp [hm]))
        exact this _ fun x hx => (sizes_bound h x hx).1
      have HN := Lib.hid hN
      obtain ⟨total, htt⟩ : ∃ total, Hid (total = (sizesOf n).prod) := ⟨_, rfl⟩
      rw [← htt.out] at htot htot1 HN ⊢
      clear hN hpr
      have hBr := hB.ext (he1.trans hext)
      have cc0 := hBr.cell 0 rfl; have cc1 := hBr.cell 1 rfl; have cc2 := hBr.cell 2 rfl; have cc3 := hBr.cell 3 rfl; have cc4 := hBr.cell 4 rfl; have cc5 := hBr.cell 5 rfl
      have hxr := (he.trans he1).trans hext
      have HMV := Lib.hid (l4Moves_c _ _ n _ kind q total wr (HV.out.mono hxr) h (HS.out.mono hext) htot)
      have hL6 := letters_len n.letters
      have HL66 := Lib.hid (letters_lt6 hal.2)
      have HLA := Lib.hid (letters_asc n.letters)
      obtain ⟨L, hL⟩ : ∃ L, Hid (L = letters n.letters) := ⟨_, rfl⟩
      rw [← hL.out] at HN HMV hL6 HL66 HLA
      go_wp2_with fail
      refine (HMV.out).mono ?_
      rintro e w2 ⟨v7, rfl, he2, hv7⟩
      have hv7' := hv7.intsss
      have H7 := Lib.hid hv7'
      obtain ⟨a7, c7, rfl, -, hh7⟩ := hv7'.open
      have hml := movesTo_len n L total
      rw [hml] at H7 ⊢
      clear hv7 hv7' HMV hml
      have hx2 := hxr.trans he2
      have hB2 := hBr.ext he2
      have HS2 := Lib.hid (HS.out.mono (hext.trans he2))
      go_wp2_with (at_make; refine make1 (n := total) rfl rfl Tryz.underlying96 infoInt rfl rfl rfl rfl (by omega) (by decide) (Nat.le_refl _) ?_; intro w3 hown hext3 hlt3)
      go_loopw [9] (fun i wr => ∃ (k' : Nat) (D : List Int), k' ≤ total ∧ i = .int .i64 k' ∧ wr.ownsRow w2.heap.size 3 1 (.slice (some ⟨w2.heap.size, 0, none⟩) total total) total (D.map (Value.int .i64)) ∧ Hid (D.length = total) ∧ Hid (∀ m, m < k' → dst D m = if G m = true then 0 else -1) ∧ Ext w2 wr) (fun i _ => total - (intOf i).toNat)
      case atStart =>
        exact ⟨0, List.replicate total 0, by omega, rfl, by simpa [toList_madeCells_one, Value.cells] using hown, Lib.hid (by simp), Lib.hid fun m hm => by omega, hext3⟩
      case round =>
        obtain ⟨k', D, hk', rfl, hown, hDl, hD, hext⟩ := hrel
        by_cases hlt' : k' < total
        · obtain ⟨x, hx⟩ : ∃ x, D[k']? = some x := ⟨_, List.getElem?_eq_getElem (by rw [hDl.out]; exact hlt')⟩
          have gx := own_cell hown (j := k') (u := .int .i64 x) (by rw [List.getElem?_map, hx]; rfl)
          have fx := hown.frozenAt k'
          clear hx
          go_wp2_with fail
          obtain ⟨o1, p1⟩ := hown.stored k' (.int .i64 (-1))
          have hxs : Ext w2 (wr.setCell ⟨w2.heap.size, k', none⟩ (.int .i64 (-1))) := Below.setCell (p := ⟨w2.heap.size, k', none⟩) hext (Nat.le_refl _) _
          generalize wr.setCell ⟨w2.heap.size, k', none⟩ (.int .i64 (-1)) = ws at o1 hxs ⊢
          have hDl1 : (D.set k' (-1)).length = total := by rw [List.length_set]; exact hDl.out
          rw [← List.map_set] at o1
          have hsw := (he2.trans hxs)
          have hBs := hB2.ext hxs
          obtain ⟨b7, off7, rfl, -, hc7⟩ := hh7 k' _ (movesTo_at hlt')
          obtain ⟨vr7, g7, -⟩ := hc7 k' _ (movesTo_at hlt')
          rw [Nat.mul_one] at g7
          replace g7 := hxs.cell g7
          clear hc7
          have hxw := hx2.trans hxs
          have i1 : (k' : Int) < (total : Int) := by omega
          have HSs := Lib.hid (HS2.out.mono hxs)
          have D0 := fun d os => cell_regrown (hBs.cell 0 rfl) d os
          have D1 := fun d os => cell_regrown (hBs.cell 1 rfl) d os
          have D2 := fun d os => cell_regrown (hBs.cell 2 rfl) d os
          have D3 := fun d os => cell_regrown (hBs.cell 3 rfl) d os
          have D4 := fun d os => cell_regrown (hBs.cell 4 rfl) d os
          have D5 := fun d os => cell_regrown (hBs.cell 5 rfl) d os
          have D6 := fun d os => cell_regrown g7 d os
          obtain ⟨DE, hDE⟩ : ∃ DE, Hid (DE = ints (decode (sizesOf n) k')) := ⟨_, rfl⟩
          obtain ⟨Kc, HKc⟩ : ∃ Kc : FuncId → Array Value → World → Value → World → Prop, Hid (Kc = fun (_ : FuncId) (_ : Array Value) (w0 : World) (v : Value) (w' : World) => Ext w0 w' ∧ IntsOwn 3 0 w' v DE) := ⟨_, rfl⟩
          refine wp_region_ext (Kc := Kc) 8 (by kernel_rfl) (by kernel_rfl) ?_
          simp only [List.take_succ_cons, List.take_zero]
          repeat (refine WalkE.pure rfl (fun K hK => ?_); simp only [PureDo]; go_simp; refine hK _ ?_; clear hK K)
          refine WalkE.step (fun K hK wc hwc hdc => ?_)
          simp only [OpDo, OpSafe, OpOut]
          go_simp
          refine ⟨(l4Decode_c _ (sizesOf n) k' _ (HSs.out.mono ((Ext.drew _).trans hwc)) (sizes_bound h) (by rw [← hTs.out]; omega) (by omega)).mono ?_, ?_⟩
          · rintro e w' ⟨v, rfl, he, hv⟩
            rw [← hDE.out] at hv
            exact ⟨v, rfl, by rw [HKc.out]; exact ⟨he, hv.low (Nat.zero_le _)⟩⟩
          intro ud w4 hk4
          rw [HKc.out] at hk4
          refine ⟨hk4.1, hK _ _ ?_⟩
          clear hK K hdc
          obtain ⟨ad, cd, rfl⟩ := hk4.2.shape
          repeat (refine WalkE.pure rfl (fun K hK => ?_); simp only [PureDo]; go_simp; refine hK _ ?_; clear hK K)
          refine WalkE.nil (fun wz hwz hmz => ?_)
          simp only [List.drop_succ_cons, List.drop_zero, List.drop_nil]
          have hdz := (hk4.2.ext (hmz 3 (by omega))).ints
          have hxz : Ext ws wz := (Ext.drew _).trans hwz
          rw [hDE.out] at hdz
          have HFZ := Lib.hid (HF.out wz _ vr7 _ k' (hxw.trans hxz) (HV.out.mono (hxw.trans hxz)) hdz)
          rw [← hDE.out] at HFZ
          clear hmz HKc hwc hwz hk4 D0 D1 D2 D3 D4 D5 D6 hdz
          have ozz := own_ext o1 hxz
          by_cases hG : G k' = true
          · have hG' := Lib.hid hG
            have gz := own_cell ozz (j := k') (u := .int .i64 (-1)) (by rw [List.getElem?_map, List.getElem?_set_self (by rw [hDl.out]; exact hlt')]; rfl)
            clear hG
            go_wp2_with (refine (HFZ.out).mono ?_; rintro e w5 ⟨rfl, he5⟩; rw [hG'.out]; have gz5 := he5.cell gz; have oz5 := own_ext ozz he5; have fz5 := oz5.frozenAt k')
            obtain ⟨o2, p2⟩ := oz5.stored k' (.int .i64 0)
            rw [← List.map_set, List.set_set] at o2
            refine ⟨⟨k' + 1, D.set k' 0, by omega, by go_num, o2, Lib.hid (by rw [List.length_set]; exact hDl.out), Lib.hid fun m hm => ?_, Below.setCell (p := ⟨w2.heap.size, k', none⟩) ((hxs.trans hxz).trans he5) (Nat.le_refl _) _⟩, by simp [intOf]; omega⟩
            rw [dst_set (by rw [hDl.out]; exact hlt')]
            by_cases hmk : m = k'
            · subst hmk; rw [if_pos rfl, hG'.out]; rfl
            · rw [if_neg hmk]; exact hD.out m (by omega)
          · have hG' : G k' = false := by simpa using hG
            have hG2 := Lib.hid hG'
            clear hG hG'
            go_wp2_with (refine (HFZ.out).mono ?_; rintro e w5 ⟨rfl, he5⟩; rw [hG2.out])
            refine ⟨⟨k' + 1, D.set k' (-1), by omega, by go_num, own_ext ozz he5, Lib.hid hDl1, Lib.hid fun m hm => ?_, (hxs.trans hxz).trans he5⟩, by simp [intOf]; omega⟩
            rw [dst_set (by rw [hDl.out]; exact hlt')]
            by_cases hmk : m = k'
            · subst hmk; rw [if_pos rfl, hG2.out]; rfl
            · rw [if_neg hmk]; exact hD.out m (by omega)
        · obtain rfl : k' = total := by omega
          have HDI := Lib.hid (l4Dist_c _ w2.heap.size k' n L G k' D w2 wr hext H7.out hown hDl.out hD.out HN.out htot hL6)
          go_wp2_with fail
          refine (HDI.out).mono ?_
          rintro e w3 ⟨rfl, he3, D', hown', hDl', hfar, hdle⟩
          have hd0le := hdle 0 (by omega)
          clear hdle
          have HFAR := Lib.hid hfar
          have HDL := Lib.hid hDl'
          have hB3 := hB2.ext he3
          have hx3 := hx2.trans he3
          clear HDI hfar hD hDl hown hext
          have ec0 := hB3.cell 0 rfl; have ec1 := hB3.cell 1 rfl; have ec2 := hB3.cell 2 rfl; have ec3 := hB3.cell 3 rfl; have ec4 := hB3.cell 4 rfl; have ec5 := hB3.cell 5 rfl
          go_wp2_with fail
          refine (l4Encode_c _ vs (sizesOf n) _ (HS2.out.mono he3) (HST.out.mono hx3) (by rw [← hTs.out]; omega) (sizes_bound h)).mono ?_
          rintro e w5 ⟨rfl, he5⟩
          have hB5 := hB3.ext he5
          have q3 : ∀ o, (w5.alloc o).cell? ⟨w.heap.size, 3, none⟩ = some (.int .i64 n.letters) := fun o => (hB5.ext (Ext.alloc w5 o)).cell 3 rfl
          go_wp2_with fail
          have h10 := IntsOwn.one 3 w5 0
          refine (l1Letters_c _ _ hal.1 hal.2).mono ?_
          rintro e w6 ⟨vl, rfl, he6, hvl⟩
          rw [← hL.out] at hvl
          obtain ⟨al, cl, rfl, -, hll⟩ := hvl.open
          have h10' := (h10.ext he6).low (Nat.zero_le _)
          have c10 := (h10.ext he6).ints
          have hx6 : Ext w3 w6 := (he5.trans (Ext.alloc _ _)).trans he6
          obtain ⟨x0, hx0⟩ : ∃ x, D'[0]? = some x := ⟨_, List.getElem?_eq_getElem (by rw [HDL.out]; omega)⟩
          have hd0 := dst_at hx0
          rw [hd0] at hd0le
          have hown6 := own_ext hown' hx6
          have g0 := own_cell hown6 (j := 0) (u := .int .i64 x0) (by rw [List.getElem?_map, hx0]; rfl)
          have g10 : w6.cell? ⟨w5.heap.size, 0, none⟩ = some (.int .i64 0) := ((Blk.new w5 #[.int .i64 0] 3).ext he6).cell 0 rfl
          have hxw6 := hx3.trans hx6
          have H76 := Lib.hid (H7.out.mono (he3.trans hx6))
          have hD6 : IntsOwn 3 0 w6 (.slice (some ⟨w2.heap.size, 0, none⟩) k' k') D' := own_base (by rw [HDL.out]; exact hown6) (Nat.zero_le _)
          have HD6 := Lib.hid hD6.ints
          clear hx0 hown' hD6
          go_wp2_with fail
          by_cases hneg : x0 < 0
          · go_loopw [10, 12, 13] (fun _ t c wr => t = .string ⟨#[]⟩ ∧ c = .int .i64 x0 ∧ Ext w6 wr) (fun _ _ _ _ => 0)
            case atStart => exact ⟨rfl, rfl, Ext.refl _⟩
            case round =>
              obtain ⟨rfl, rfl, hext⟩ := hrel
              go_wp2_with fail
              go_ret2
              refine ⟨none, fun v hv => ?_, ?_, hxw6.trans hext⟩
              · rw [wins_hits] at hv
                rw [← hL.out] at hv
                rcases HFAR.out 0 (by omega) with ⟨_, h5⟩ | ⟨h5, _⟩
                · exact h5 v hv
                · rw [hd0] at h5; omega
              · have hx0 : ¬ x0 = 0 := by omega
                simp [rtext, hx0]
          · obtain ⟨d0, rfl⟩ := Int.eq_ofNat_of_zero_le (show 0 ≤ x0 by omega)
            go_loopw [10, 12, 13] (fun o t c wr => ∃ (u : List Int) (at' : List Nat) (d : Nat), t = .string (wtext u) ∧ c = .int .i64 d ∧ IntsV wr o (ints at') ∧ at'.length ≤ 268435456 ∧ d ≤ 268435457 ∧ u.length + d = d0 ∧ Hid (Down (netN n) L G k' (dst D') 0 u at' d) ∧ Ext w6 wr) (fun _ _ c _ => (intOf c).toNat)
            case atStart => exact ⟨[], [0], d0, rfl, rfl, c10, by simp, by omega, by simp, Lib.hid (Down.start HFAR.out (by omega) hd0), Ext.refl _⟩
            case round =>
              obtain ⟨u, at', d, rfl, rfl, hat, hatl, hdb, hud, hdn, hext⟩ := hrel
              have HUD := Lib.hid hud
              clear hud
              cases d with
              | zero =>
                go_wp2_with fail
                go_ret2
                have h5 := hdn.out.over' HN.out (by omega) HFAR.out
                rw [hL.out] at h5
                exact ⟨some u, h5, rfl, hxw6.trans hext⟩
              | succ d =>
                have hgo := hdn.out.goes HN.out (by omega) HFAR.out
                obtain ⟨kg, lg, hkg, hgg⟩ := hgo
                have hkgL := (List.getElem?_eq_some_iff.1 hkg).1
                obtain ⟨l0, hl0⟩ : ∃ l0, L[0]? = some l0 := ⟨_, List.getElem?_eq_getElem (by omega)⟩
                have HCL := Lib.hid (fun (w' : World) (hx : Ext wr w') (k2 : Nat) (l : Int) (hk : L[k2]? = some l) => l4Closer_c _ _ _ n h L k' D' at' k2 l (d : Int) w' (H76.out.mono (hext.trans hx)) (HD6.out.mono (hext.trans hx)) HDL.out (hat.mono hx) (hdn.out.lt HN.out (by omega)) hk HN.out htot hatl hL6)
                have HGG := Lib.hid (And.intro hkg hgg)
                obtain ⟨aat, cat, rfl, -, -⟩ := hat.open
                clear hkg hgg
                go_wp2_with fail
                refine (HCL.out wr (Ext.refl _) 0 l0 hl0).mono ?_
                rintro e w7 ⟨vo, rfl, he7, out0, hout0, houtl0, hmem0⟩
                obtain ⟨ao, co, rfl⟩ := hout0.shape
                have HL0 := Lib.hid hl0
                have HM0 := Lib.hid hmem0
                clear hl0 hmem0
                go_wp2_with fail
                go_loopw [14, 15] (fun i o wr' => ∃ (k2 : Nat) (l : Int) (out : List Nat), i = .int .i64 k2 ∧ Hid (L[k2]? = some l) ∧ IntsOwn 3 0 wr' o (ints out) ∧ out.length ≤ 268435456 ∧ Hid (∀ m, m ∈ out ↔ ∃ x ∈ at', m ∈ netN n x l ∧ D'[m]? = some (d : Int)) ∧ Hid (∀ (k3 : Nat) l', k3 < k2 → L[k3]? = some l' → ¬ ∃ x ∈ at', ∃ m ∈ netN n x l', dst D' m = (d : Int)) ∧ Ext wr wr') (fun i _ _ => L.length - (intOf i).toNat)
                case atStart => exact ⟨0, l0, out0, rfl, HL0, hout0.low (Nat.zero_le _), houtl0, HM0, Lib.hid (fun k3 l' h3 => by omega), he7⟩
                case round =>
                  obtain ⟨k2, l, out, rfl, hlk, hout, houtl, hmem, hless, hext2⟩ := hrel
                  obtain ⟨ao, co, rfl⟩ := hout.shape
                  have hk2 := (List.getElem?_eq_some_iff.1 hlk.out).1
                  have hatlt := hdn.out.lt HN.out (by omega)
                  have HDD := Lib.hid (show ∀ x ∈ at', ∀ m ∈ netN n x l, (D'[m]? = some (d : Int) ↔ dst D' m = (d : Int)) from fun x hx m hm => by
                    have hmt := HN.out x (hatlt x hx) l (List.mem_of_getElem? hlk.out) m hm
                    have e := List.getElem?_eq_getElem (show m < D'.length by rw [HDL.out]; exact hmt)
                    rw [dst_at e, e]
                    constructor
                    · intro h5; exact Option.some.inj h5
                    · intro h5; rw [h5])
                  by_cases hnil : out = []
                  · subst hnil
                    have hlt2 : k2 < kg := by
                      obtain ⟨hkg, x, hx, m, hm, hdm⟩ := HGG.out
                      rcases Nat.lt_trichotomy kg k2 with h5 | h5 | h5
                      · exact absurd ⟨x, hx, m, hm, hdm⟩ (hless.out kg lg h5 hkg)
                      · subst h5
                        have := hlk.out
                        rw [hkg] at this
                        cases this
                        have h6 := (hmem.out m).2 ⟨x, hx, hm, (HDD.out x hx m hm).2 hdm⟩
                        cases h6
                      · exact h5
                    obtain ⟨l1, hl1⟩ : ∃ l1, L[k2 + 1]? = some l1 := ⟨_, List.getElem?_eq_getElem (by omega)⟩
                    have HC1 := HCL.out _ hext2 (k2 + 1) l1 hl1
                    rw [show ((k2 + 1 : Nat) : Int) = (k2 : Int) + 1 by omega] at HC1
                    have HC2 := Lib.hid HC1
                    have HL1 := Lib.hid hl1
                    have HLS := Lib.hid (show ∀ (k3 : Nat) l', k3 < k2 + 1 → L[k3]? = some l' → ¬ ∃ x ∈ at', ∃ m ∈ netN n x l', dst D' m = (d : Int) from fun k3 l' h3 h4 => by
                      by_cases h5 : k3 = k2
                      · subst h5
                        have := hlk.out
                        rw [h4] at this
                        cases this
                        rintro ⟨x, hx, m, hm, hdm⟩
                        have h6 := (hmem.out m).2 ⟨x, hx, hm, (HDD.out x hx m hm).2 hdm⟩
                        cases h6
                      · exact hless.out k3 l' (by omega) h4)
                    clear HC1 hl1 hout
                    go_wp2_with (refine (HC2.out).mono ?_; rintro e w8 ⟨vo, rfl, he8, out1, hout1, houtl1, hmem1⟩; obtain ⟨ao1, co1, rfl⟩ := hout1.shape)
                    exact ⟨⟨k2 + 1, l1, out1, by go_num, HL1, hout1.low (Nat.zero_le _), houtl1, Lib.hid hmem1, HLS, hext2.trans he8⟩, by simp [intOf]; omega⟩
                  · have hln0 : ¬ (ints out).length = 0 := by rw [ints_len]; exact fun h5 => hnil (List.eq_nil_of_length_eq_zero h5)
                    have hln1 : ¬ ((ints out).length : Int) = 0 := by omega
                    obtain ⟨bl, offl, rfl, -, hcl⟩ := hll k2 l hlk.out
                    have hxx := hext.trans hext2
                    have gl := hxx.cell (hcl k2 l hlk.out)
                    rw [Nat.mul_one] at gl
                    obtain ⟨hl0', hl6'⟩ := HL66.out l (List.mem_of_getElem? hlk.out)
                    obtain ⟨ln, rfl⟩ := Int.eq_ofNat_of_zero_le hl0'
                    have HST2 := Lib.hid (hdn.out.step HLA.out HN.out (by omega) HFAR.out hlk.out (ms := out) (fun m => by
                      rw [hmem.out m]
                      constructor
                      · rintro ⟨x, hx, hm, h5⟩; exact ⟨x, hx, hm, (HDD.out x hx m hm).1 h5⟩
                      · rintro ⟨x, hx, hm, h5⟩; exact ⟨x, hx, hm, (HDD.out x hx m hm).2 h5⟩) hnil hless.out)
                    have HWP := Lib.hid (wtext_push u (ln : Int))
                    have hov : ¬ 9223372036854775807 < (wtext u).size + (wtext [(ln : Int)]).size := by
                      have e1 : (wtext u).size = u.length := by simp [wtext, ByteArray.size]
                      have e2 : (wtext [(ln : Int)]).size = 1 := by simp [wtext, ByteArray.size]
                      have := HUD.out
                      rw [e1, e2]; omega
                    clear hcl
                    go_wp2_with fail
                    refine (l1Text_c ln _ (by omega)).mono ?_
                    rintro e w8 ⟨rfl, he8⟩
                    go_wp2_with fail
                    refine ⟨⟨u ++ [(ln : Int)], out, d, by rw [HWP.out], rfl, hout.ints.mono he8, houtl, by omega, by have := HUD.out; simp; omega, HST2, (hext.trans hext2).trans he8⟩, by simp [intOf]⟩
end Go.Proofs.YtadplnbadfnlfaaGreatDoor

namespace Go.Proofs.YtadplnbadfnlfaaGreatDoor
set_option linter.unusedSimpArgs false
set_option linter.unusedVariables false
open Go.RowKit

set_option maxHeartbeats 1600000
set_option maxRecDepth 100000

theorem leads_congr {N N' : Nat → Int → List Nat} (h : ∀ node l r, r ∈ N node l ↔ r ∈ N' node l) (s : Nat) (v : List Int) (g : Nat) : Leads N s v g ↔ Leads N' s v g := by
  induction v generalizing s with
  | nil => exact Iff.rfl
  | cons l v ih =>
    show (∃ b, b ∈ N s l ∧ Leads N b v g) ↔ (∃ b, b ∈ N' s l ∧ Leads N' b v g)
    constructor
    · rintro ⟨b, h1, h2⟩; exact ⟨b, (h s l b).1 h1, (ih b).1 h2⟩
    · rintro ⟨b, h1, h2⟩; exact ⟨b, (h s l b).2 h1, (ih b).2 h2⟩
theorem wins_congr {N N' : Nat → Int → List Nat} {L : List Int} {S : List Nat} {G G' : Nat → Bool} (h : ∀ node l r, r ∈ N node l ↔ r ∈ N' node l) (hG : ∀ g, G g = G' g) (v : List Int) : Wins N L S G v ↔ Wins N' L S G' v := by
  unfold Wins Gets
  constructor
  · rintro ⟨n, ⟨h1, s, hs, h2⟩, h3⟩; exact ⟨n, ⟨h1, s, hs, (leads_congr h s v n).1 h2⟩, by rw [← hG]; exact h3⟩
  · rintro ⟨n, ⟨h1, s, hs, h2⟩, h3⟩; exact ⟨n, ⟨h1, s, hs, (leads_congr h s v n).2 h2⟩, by rw [hG]; exact h3⟩

theorem ok_one (parts : List Sys) (p : Auto) (al : Int) (node : Nat) : okAt ⟨parts, [p], al⟩ node 0 = accepts p (node % p.next.length) := by
  unfold okAt
  have e1 : sizesOf ⟨parts, [p], al⟩ = partSizes parts ++ [p.next.length] := by simp [sizesOf, partSizes]
  simp only [List.getElem?_cons_zero]
  rw [e1, decode_snoc, List.getD_eq_getElem?_getD, List.getElem?_append_right (by rw [decode_len]; simp [partSizes])]
  simp [decode_len, partSizes]
theorem pv_net {parts : List Sys} {p : Auto} {r : Option (List Int)} (hp : areParts parts = true) (ha : autoValid p = true) (al : Int) (hal : al = (orTo parts parts.length : Nat)) (h : FirstIs (Wins (netN ⟨parts, [p], al⟩) (letters al) [0] (fun node => !okAt ⟨parts, [p], al⟩ node 0)) r) : PV parts p r := by
  unfold PV
  rw [if_pos (by simp [hp, ha])]
  refine h.congr fun v => ?_
  unfold BrokenW
  have e : allLetters parts trivAuto = al := by unfold allLetters; rw [hal]; simp [trivAuto]
  rw [e]
  refine wins_congr (fun node l r => (brokenN_one parts (prod_4096 hp).2.2.2 p node l al r).symm) (fun g => ?_) v
  show (!okAt ⟨parts, [p], al⟩ g 0) = _
  rw [ok_one]
  unfold brokenG
  have : accepts trivAuto (g / p.next.length % trivAuto.next.length) = true := by
    have : g / p.next.length % trivAuto.next.length = 0 := by simp [trivAuto, Nat.mod_one]
    rw [this]; rfl
  rw [this, Bool.true_and]
theorem AutosV.one {w : World} {a : Auto} {vn va : Value} (h1 : IntssV w vn a.next) (h2 : BoolsV w va a.accept) :
    AutosV (w.alloc (.cells #[.int .i64 a.alphabet, vn, va] 31)) (.slice (some ⟨w.heap.size, 0, none⟩) 1 1) [a] := by
  refine ⟨_, 1, rfl, Nat.le_refl _, by decide, fun _ => ⟨w.heap.size, 0, rfl, by simp, fun i x hi => ?_⟩⟩
  obtain rfl : i = 0 := by have := (List.getElem?_eq_some_iff.1 hi).1; simp at this; exact this
  simp at hi
  subst hi
  have hb := Blk.new w #[.int .i64 a.alphabet, vn, va] 31
  exact ⟨vn, va, hb.cell 0 rfl, hb.cell 1 rfl, hb.cell 2 rfl, h1.mono (Ext.alloc _ _), h2.mono (Ext.alloc _ _)⟩
theorem AutosV.two {w : World} {a p : Auto} {vn va vn' va' : Value} (h1 : IntssV w vn a.next) (h2 : BoolsV w va a.accept) (h3 : IntssV w vn' p.next) (h4 : BoolsV w va' p.accept) :
    AutosV (w.alloc (.cells #[.int .i64 a.alphabet, vn, va, .int .i64 p.alphabet, vn', va'] 31)) (.slice (some ⟨w.heap.size, 0, none⟩) 2 2) [a, p] := by
  have hb := Blk.new w #[.int .i64 a.alphabet, vn, va, .int .i64 p.alphabet, vn', va'] 31
  refine ⟨_, 2, rfl, Nat.le_refl _, by decide, fun _ => ⟨w.heap.size, 0, rfl, by simp, fun i x hi => ?_⟩⟩
  match i, hi with
  | 0, hi =>
    simp at hi; subst hi
    exact ⟨vn, va, hb.cell 0 rfl, hb.cell 1 rfl, hb.cell 2 rfl, h1.mono (Ext.alloc _ _), h2.mono (Ext.alloc _ _)⟩
  | 1, hi =>
    simp at hi; subst hi
    exact ⟨vn', va', hb.cell 3 rfl, hb.cell 4 rfl, hb.cell 5 rfl, h3.mono (Ext.alloc _ _), h4.mono (Ext.alloc _ _)⟩
  | i + 2, hi => simp at hi
theorem AutomatonValid_sb {v : Value} {x : Auto} {w : World} {b : Bool} (hb : autoValid x = b) (hv : AutoV w v x) :
    Calls Tryz.prog 202 #[v] w (Grows (.bool b) w) := hb ▸ AutomatonValid_s v x w hv
theorem make_zeros (w : World) (n : Nat) (hn : n ≤ 1048576) : ∃ w', (Instr.makeSlice 96 (.int .i64 (n : Int)) (.int .i64 (n : Int))).run Tryz.prog w = .ok (.slice (some ⟨w.heap.size, 0, none⟩) n n) w' ∧ Ext w w' ∧
    IntsOwn 3 w.heap.size w' (.slice (some ⟨w.heap.size, 0, none⟩) n n) (List.replicate n 0) := by
  obtain ⟨i, hi, hz, hsize, hby⟩ := info_parts infoInt
  obtain ⟨w', hr, h1, h2⟩ := run_make_full (P := Tryz.prog) w w.heap.size 96 3 i _ 1 Tryz.underlying96 hi hz hsize .i64 .i64 n (by rw [hby]; omega) (by unfold maxLen; omega) (Nat.le_refl _)
  refine ⟨w', hr, (Below.refl _ _).grown h2 (Nat.le_refl _) fun k hk => (by cases hk), ?_⟩
  unfold IntsOwn
  rw [List.length_replicate, List.map_replicate]
  simpa [toList_madeCells_one, Value.cells] using h1

theorem PartsViolation_s (v vp : Value) (parts : List Sys) (p : Auto) (w : World) (hv : SyssV w v parts) (hl : parts.length ≤ 1048576) (hel : ∀ s ∈ parts, s.edges.length ≤ 1048576) (hp : AutoV w vp p) :
    Calls Tryz.prog 115 #[v, vp] w (AnsEnd (PV parts p) w) := by
  have HV := Lib.hid hp
  obtain ⟨asy, csy, rfl, -, -⟩ := hv.open
  obtain ⟨vn, va, rfl, h2, h3⟩ := hp
  obtain ⟨an, cn, rfl, -, -⟩ := h2.open
  obtain ⟨aa, ca, rfl, -, -⟩ := h3.open
  go_enter Tryz.func115, Tryz.ntmps115
  go_wp2_with fail
  have he : Ext w (w.alloc (.cells #[.int .i64 p.alphabet, .slice an p.next.length cn, .slice aa p.accept.length ca] 31)) := Ext.alloc _ _
  have hB := Blk.new w #[.int .i64 p.alphabet, .slice an p.next.length cn, .slice aa p.accept.length ca] 31
  generalize w.alloc (.cells #[.int .i64 p.alphabet, .slice an p.next.length cn, .slice aa p.accept.length ca] 31) = wo at he hB ⊢
  refine (PartsAlphabet_s _ parts _ (hv.mono he) hl).mono ?_
  rintro e w1 ⟨rfl, he1⟩
  have hB1 := hB.ext he1
  have hx1 := he.trans he1
  have cc0 := hB1.cell 0 rfl; have cc1 := hB1.cell 1 rfl; have cc2 := hB1.cell 2 rfl
  by_cases hP : areParts parts = true
  case neg =>
    have hP' : areParts parts = false := by simpa using hP
    have e1 : partsAlphabet parts = -1 := by unfold partsAlphabet; rw [hP']; rfl
    rw [e1]
    go_wp2_with fail
    go_ret2
    exact ⟨none, by unfold PV; rw [hP']; simp, rfl, hx1⟩
  have HP := Lib.hid hP
  have e1 : partsAlphabet parts = (orTo parts parts.length : Nat) := by unfold partsAlphabet; rw [if_pos hP]
  obtain ⟨AL, hAL⟩ : ∃ AL, Hid (AL = orTo parts parts.length) := ⟨_, rfl⟩
  rw [e1, ← hAL.out]
  clear e1 hP
  go_wp2_with fail
  by_cases hA : autoValid p = true
  case neg =>
    have hA' : autoValid p = false := by simpa using hA
    refine (AutomatonValid_sb hA' (HV.out.mono hx1)).mono ?_
    rintro e w2 ⟨rfl, he2⟩
    go_wp2_with fail
    go_ret2
    exact ⟨none, by unfold PV; rw [hA']; simp, rfl, hx1.trans he2⟩
  refine (AutomatonValid_sb hA (HV.out.mono hx1)).mono ?_
  rintro e w2 ⟨rfl, he2⟩
  have HA := Lib.hid hA
  have hB2 := hB1.ext he2
  have hx2 := hx1.trans he2
  clear hA
  go_wp2_with fail
  have D0 := fun d os => cell_regrown (hB2.cell 0 rfl) d os
  have D1 := fun d os => cell_regrown (hB2.cell 1 rfl) d os
  have D2 := fun d os => cell_regrown (hB2.cell 2 rfl) d os
  have hl3 := (prod_4096 HP.out).2.2.1
  have e1 : IntKind.i64.wrap ((parts.length : Int) + 1) = (parts.length : Int) + 1 := by rw [IntKind.wrap_i64]; omega
  obtain ⟨Kc, HKc⟩ : ∃ Kc : FuncId → Array Value → World → Value → World → Prop, Hid (Kc = fun (_ : FuncId) (_ : Array Value) (w0 : World) (v : Value) (w' : World) => Ext w0 w' ∧ ∃ r, PV parts p r ∧ v = .tuple #[.string (rtext r), .bool r.isSome]) := ⟨_, rfl⟩
  refine wp_region_ext (Kc := Kc) 12 (by kernel_rfl) (by kernel_rfl) ?_
  simp only [List.take_succ_cons, List.take_zero]
  repeat (refine WalkE.pure rfl (fun K hK => ?_); simp only [PureDo]; go_simp; refine hK _ ?_; clear hK K)
  refine WalkE.step (fun K hK wc hwc hdc => ?_)
  simp only [OpDo, OpSafe, OpOut]
  go_simp
  refine ⟨Ext.alloc _ _, hK _ _ ?_⟩
  clear hK K hdc
  repeat (refine WalkE.pure rfl (fun K hK => ?_); simp only [PureDo]; go_simp; refine hK _ ?_; clear hK K)
  refine WalkE.step (fun K hK wd hwd hdd => ?_)
  simp only [OpDo, OpSafe, OpOut]
  go_simp
  obtain ⟨wm, hrun, hxm, hom⟩ := make_zeros wd (parts.length + 1) (by omega)
  rw [show ((parts.length : Int) + 1) = ((parts.length + 1 : Nat) : Int) by omega, hrun]
  simp only [Result.andThen]
  refine ⟨trivial, fun v2 w2' hvw => ?_⟩
  obtain ⟨rfl, rfl⟩ := hvw
  refine ⟨hxm, hK _ _ ?_⟩
  clear hK K hdd hrun
  refine WalkE.pure rfl (fun K hK => ?_); simp only [PureDo]; go_simp; refine hK _ ?_; clear hK K
  refine WalkE.step (fun K hK we hwe hde => ?_)
  simp only [OpDo, OpSafe, OpOut]
  go_simp
  have j2 : Ext (wc.alloc (.cells #[.int .i64 p.alphabet, .slice an p.next.length cn, .slice aa p.accept.length ca] 31)) we := hde _ (Array.mem_of_getElem? (i := 1) rfl) rfl
  have j6 : Ext w2' we := hde _ (Array.mem_of_getElem? (i := 2) rfl) rfl
  refine ⟨Ext.refl _, hK _ _ ?_⟩
  clear hK K hde
  refine WalkE.step (fun K hK wf hwf hdf => ?_)
  simp only [OpDo, OpSafe, OpOut]
  go_simp
  have j8 : Ext we wf := hdf _ (Array.mem_of_getElem? (i := 0) rfl) rfl
  clear hdf
  have hxf : Ext w wf := hx2.trans ((Ext.drew _).trans hwf)
  have hxc : Ext w wc := hx2.trans ((Ext.drew _).trans hwc)
  have HNO := Lib.hid (show NetOk ⟨parts, [p], (orTo parts parts.length : Nat)⟩ from .of (prod_4096 HP.out).2.2.2 (by simpa using HA.out) hl3 (by simp) ⟨by simp only []; omega, by have := orTo_lt (prod_4096 HP.out).2.2.2 parts.length; simp only []; omega⟩ hel)
  have hsl : (sizesOf ⟨parts, [p], (orTo parts parts.length : Nat)⟩).length = parts.length + 1 := by simp [sizesOf]
  have HNV := Lib.hid (show NetV wf (.agg #[.slice asy parts.length csy, .slice (some ⟨wc.heap.size, 0, none⟩) 1 1, .slice (some ⟨wd.heap.size, 0, none⟩) (parts.length + 1 : Nat) (parts.length + 1 : Nat), .int .i64 (orTo parts parts.length : Nat), .int .i64 3, .int .i64 0]) ⟨parts, [p], (orTo parts parts.length : Nat)⟩ (List.replicate (sizesOf ⟨parts, [p], (orTo parts parts.length : Nat)⟩).length 0) 3 0 from
    ⟨_, _, _, rfl, hv.mono hxf, (AutosV.one (h2.mono hxc) (h3.mono hxc)).mono (j2.trans j8), by rw [hsl]; exact hom.ints.mono (j6.trans j8)⟩)
  have HFF := Lib.hid (fun (w' : World) (u vm v' : Value) (node : Nat) (_ : Ext wf w') (hn : NetV w' v' ⟨parts, [p], (orTo parts parts.length : Nat)⟩ (List.replicate (sizesOf ⟨parts, [p], (orTo parts parts.length : Nat)⟩).length 0) 3 0) (hu : IntsV w' u (ints (decode (sizesOf ⟨parts, [p], (orTo parts parts.length : Nat)⟩) node))) => l4Found_3 v' u vm _ _ 0 node w' hn HNO.out hu rfl)
  have HFI := Lib.hid (l4First_c _ _ 3 0 (fun node => !okAt ⟨parts, [p], (orTo parts parts.length : Nat)⟩ node 0) wf HNV.out HNO.out HFF.out)
  rw [hAL.out]
  refine ⟨(HFI.out).mono ?_, ?_⟩
  · rintro e w' ⟨r, hr, rfl, he⟩
    exact ⟨_, rfl, by rw [HKc.out]; exact ⟨he, r, pv_net HP.out HA.out _ rfl hr, rfl⟩⟩
  intro u3 w9 hk3
  rw [HKc.out] at hk3
  obtain ⟨hk3, r, hr, rfl⟩ := hk3
  refine ⟨hk3, hK _ _ ?_⟩
  clear hK K
  repeat (refine WalkE.pure rfl (fun K hK => ?_); simp only [PureDo]; go_simp; refine hK _ ?_; clear hK K)
  refine WalkE.nil (fun wn hwn hmn => ?_)
  simp only [List.drop_succ_cons, List.drop_zero, List.drop_nil]
  go_wp2_with fail
  go_ret2
  exact ⟨r, hr, rfl, hx2.trans ((Ext.drew _).trans hwn)⟩
end Go.Proofs.YtadplnbadfnlfaaGreatDoor

namespace Go.Proofs.YtadplnbadfnlfaaGreatDoor
set_option linter.unusedSimpArgs false
set_option linter.unusedVariables false
open Go.RowKit

set_option maxHeartbeats 1600000
set_option maxRecDepth 100000

theorem FirstViolation_s (v vp : Value) (s : Sys) (p : Auto) (w : World) (hv : SysV w v s) (hp : AutoV w vp p) (hel : s.edges.length ≤ 1048576) :
    Calls Tryz.prog 42 #[v, vp] w (AnsEnd (PV [s] p) w) := by
  obtain ⟨ve, rfl, h1⟩ := hv
  obtain ⟨ae, ce, rfl, -, -⟩ := h1.open
  have HV := Lib.hid hp
  obtain ⟨vn, va, rfl, h2, h3⟩ := hp
  obtain ⟨an, cn, rfl, -, -⟩ := h2.open
  obtain ⟨aa, ca, rfl, -, -⟩ := h3.open
  clear h2 h3
  go_enter Tryz.func42, Tryz.ntmps42
  go_wp2_with fail
  have hS := h1.mono ((Ext.alloc w (.cells #[.int .i64 s.alphabet, .int .i64 s.states, .slice ae s.edges.length ce] 25)).trans (Ext.alloc _ (.cells #[.int .i64 p.alphabet, .slice an p.next.length cn, .slice aa p.accept.length ca] 31)))
  have he := ((Ext.alloc w (.cells #[.int .i64 s.alphabet, .int .i64 s.states, .slice ae s.edges.length ce] 25)).trans (Ext.alloc _ (.cells #[.int .i64 p.alphabet, .slice an p.next.length cn, .slice aa p.accept.length ca] 31))).trans (Ext.alloc _ (.cells #[.int .i64 s.alphabet, .int .i64 s.states, .slice ae s.edges.length ce] 25))
  have hone := SyssV.one hS
  simp only [World.size_alloc] at hone
  refine (PartsViolation_s _ _ [s] p _ hone (by simp) (by simpa using hel) (HV.out.mono he)).mono ?_
  rintro e w1 ⟨r, hr, rfl, he1⟩
  go_wp2_with fail
  go_ret2
  exact ⟨r, hr, rfl, he.trans he1⟩

end Go.Proofs.YtadplnbadfnlfaaGreatDoor

namespace Go.Proofs.YtadplnbadfnlfaaGreatDoor
set_option linter.unusedSimpArgs false
set_option linter.unusedVariables false
open Go.RowKit

set_option maxHeartbeats 1600000
set_option maxRecDepth 100000

theorem IntsV.three (w : World) : IntsV (w.alloc (.cells #[.int .i64 0, .int .i64 0, .int .i64 0] 3)) (.slice (some ⟨w.heap.size, 0, none⟩) 3 3) [0, 0, 0] := by
  have hb := Blk.new w #[.int .i64 0, .int .i64 0, .int .i64 0] 3
  refine ⟨_, 3, rfl, Nat.le_refl _, by decide, fun _ => ⟨w.heap.size, 0, rfl, by simp, fun i x hi => ?_⟩⟩
  match i, hi with
  | 0, hi => simp at hi; subst hi; exact hb.cell 0 rfl
  | 1, hi => simp at hi; subst hi; exact hb.cell 1 rfl
  | 2, hi => simp at hi; subst hi; exact hb.cell 2 rfl
  | i + 3, hi => simp at hi

end Go.Proofs.YtadplnbadfnlfaaGreatDoor
