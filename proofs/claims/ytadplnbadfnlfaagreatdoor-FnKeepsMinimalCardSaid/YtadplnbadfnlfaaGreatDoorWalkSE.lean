/- Part of this seat's proofs, cut to what its law needs. -/

import Derived.Test.YtadplnbadfnlfaaGreatDoorWalkSA

namespace Go.Proofs.YtadplnbadfnlfaaGreatDoor
set_option linter.unusedSimpArgs false
set_option linter.unusedVariables false
open Go.RowKit

set_option maxHeartbeats 1600000
set_option maxRecDepth 100000

def LL (base : Nat) (w : World) (v : Value) (ll : List (List Int)) : Prop := ∃ vs, w.ownsRow base 96 1 v ll.length vs ∧ ∀ (i : Nat) l, ll[i]? = some l → ∃ u, vs[i]? = some u ∧ IntsOwn 3 0 w u l
def LLL (base : Nat) (w : World) (v : Value) (lll : List (List (List Int))) : Prop := ∃ vs, w.ownsRow base 28 1 v lll.length vs ∧ ∀ (i : Nat) ll, lll[i]? = some ll → ∃ u, vs[i]? = some u ∧ LL 0 w u ll
def TabsAt (w : World) (b o : Nat) (ll : List (List Int)) : Prop := ∃ v, w.cell? ⟨b, o, none⟩ = some v ∧ IntssV w v ll
abbrev IntsssV := SlV TabsAt 1
theorem TabsAt.mono {w w' : World} (h : Ext w w') {b o : Nat} {ll : List (List Int)} (k : TabsAt w b o ll) : TabsAt w' b o ll := let ⟨v, h1, h2⟩ := k; ⟨v, h.cell h1, h2.mono h⟩
theorem IntsssV.mono {w w' : World} (h : Ext w w') {v : Value} {l : List (List (List Int))} (k : IntsssV w v l) : IntsssV w' v l := SlV.mono k (fun _ _ _ _ => TabsAt.mono h) h.size
theorem LL.ext {base : Nat} {w w' : World} {v : Value} {ll : List (List Int)} (h : LL base w v ll) (he : Ext w w') : LL base w' v ll := let ⟨vs, h1, h2⟩ := h; ⟨vs, own_ext h1 he, fun i l hi => let ⟨u, h3, h4⟩ := h2 i l hi; ⟨u, h3, h4.ext he⟩⟩
theorem LL.intss {base : Nat} {w : World} {v : Value} {ll : List (List Int)} (h : LL base w v ll) : IntssV w v ll := by
  obtain ⟨vs, h1, h2⟩ := h
  refine SlV_of_own h1 fun g cap hv i l hi => ?_
  obtain ⟨u, h3, h4⟩ := h2 i l hi
  subst hv
  rw [Nat.mul_one]
  exact ⟨u, own_cell h1 h3, h4.ints⟩
theorem LL.grown {base base' : Nat} {w w' : World} {v u : Value} {ll : List (List Int)} {e' : TypeId} {size' n' : Nat} {us : List Value} (h : LL base w v ll) (hu : w.ownsRow base' e' size' u n' us) (hg : w.grownBy w' u.ownBlock) (h1 : 96 ≠ e') (h2 : 3 ≠ e') : LL base w' v ll :=
  let ⟨vs, k1, k2⟩ := h; ⟨vs, own_grown k1 hu hg h1, fun i l hi => let ⟨x, h3, h4⟩ := k2 i l hi; ⟨x, h3, own_grown h4 hu hg h2⟩⟩
theorem LL.push {base : Nat} {w w' : World} {v v' x : Value} {ll ll' : List (List Int)} {l : List Int} {vs : List Value} (hown : w.ownsRow base 96 1 v ll.length vs) (hr : ∀ (i : Nat) l, ll[i]? = some l → ∃ u, vs[i]? = some u ∧ IntsOwn 3 0 w u l) (hx : IntsOwn 3 0 w x l)
    (h1 : w'.ownsRow base 96 1 v' (ll.length + 1) (vs ++ [x])) (hg : w.grownBy w' v.ownBlock) (hl : ll' = ll ++ [l]) : LL base w' v' ll' := by
  subst hl
  refine ⟨_, by simpa using h1, fun i m hi => ?_⟩
  have hvl : vs.length = ll.length := by have := hown.1; simpa using this
  by_cases hlt : i < ll.length
  · rw [List.getElem?_append_left hlt] at hi
    obtain ⟨u, h3, h4⟩ := hr i m hi
    exact ⟨u, by rw [List.getElem?_append_left (by omega)]; exact h3, own_grown h4 hown hg (by decide)⟩
  · have := (List.getElem?_eq_some_iff.1 hi).1
    simp at this
    obtain rfl : i = ll.length := by omega
    rw [List.getElem?_concat_length] at hi
    cases hi
    exact ⟨x, by rw [← hvl, List.getElem?_concat_length], own_grown hx hown hg (by decide)⟩
theorem LLL.intsss {base : Nat} {w : World} {v : Value} {ll : List (List (List Int))} (h : LLL base w v ll) : IntsssV w v ll := by
  obtain ⟨vs, h1, h2⟩ := h
  refine SlV_of_own h1 fun g cap hv i l hi => ?_
  obtain ⟨u, h3, h4⟩ := h2 i l hi
  subst hv
  rw [Nat.mul_one]
  exact ⟨u, own_cell h1 h3, h4.intss⟩
theorem LLL.push {base : Nat} {w w' : World} {v v' x : Value} {ll ll' : List (List (List Int))} {l : List (List Int)} {vs : List Value} (hown : w.ownsRow base 28 1 v ll.length vs) (hr : ∀ (i : Nat) l, ll[i]? = some l → ∃ u, vs[i]? = some u ∧ LL 0 w u l) (hx : LL 0 w x l)
    (h1 : w'.ownsRow base 28 1 v' (ll.length + 1) (vs ++ [x])) (hg : w.grownBy w' v.ownBlock) (hl : ll' = ll ++ [l]) : LLL base w' v' ll' := by
  subst hl
  refine ⟨_, by simpa using h1, fun i m hi => ?_⟩
  have hvl : vs.length = ll.length := by have := hown.1; simpa using this
  by_cases hlt : i < ll.length
  · rw [List.getElem?_append_left hlt] at hi
    obtain ⟨u, h3, h4⟩ := hr i m hi
    exact ⟨u, by rw [List.getElem?_append_left (by omega)]; exact h3, h4.grown hown hg (by decide) (by decide)⟩
  · have := (List.getElem?_eq_some_iff.1 hi).1
    simp at this
    obtain rfl : i = ll.length := by omega
    rw [List.getElem?_concat_length] at hi
    cases hi
    exact ⟨x, by rw [← hvl, List.getElem?_concat_length], hx.grown hown hg (by decide) (by decide)⟩
theorem own_shape1 {w : World} {base : Nat} {e : TypeId} {v : Value} {n : Nat} {vs : List Value} (h : w.ownsRow base e 1 v n vs) : ∃ a c, v = .slice a n c := by
  rcases own_shape h with ⟨rfl, h0⟩ | ⟨g, cap, rfl, _⟩
  · exact ⟨none, 0, by rw [h0]⟩
  · exact ⟨_, _, rfl⟩
theorem infoIntss : (Tryz.prog.info? 28).map (fun i => (i.zero, i.size, i.bytes)) = some (some (.slice none 0 0), 1, 24) := by kernel_rfl

def rowsTo (n : Net) (node : Nat) (L : List Int) (m : Nat) : List (List Int) := (L.take m).map fun l => ints (netN n node l)
def movesTo (n : Net) (L : List Int) (k : Nat) : List (List (List Int)) := (List.range k).map fun node => L.map fun l => ints (netN n node l)
theorem rowsTo_succ {n : Net} {node : Nat} {L : List Int} {m : Nat} {l : Int} (h : L[m]? = some l) : rowsTo n node L (m + 1) = rowsTo n node L m ++ [ints (netN n node l)] := by
  unfold rowsTo; rw [List.take_add_one, h, List.map_append]; rfl
theorem rowsTo_len (n : Net) (node : Nat) (L : List Int) (m : Nat) (h : m ≤ L.length) : (rowsTo n node L m).length = m := by unfold rowsTo; simp; omega
theorem movesTo_succ (n : Net) (L : List Int) (k : Nat) : movesTo n L (k + 1) = movesTo n L k ++ [rowsTo n k L L.length] := by
  unfold movesTo rowsTo; rw [List.range_succ, List.map_append, List.take_length]; rfl
theorem movesTo_len (n : Net) (L : List Int) (k : Nat) : (movesTo n L k).length = k := by simp [movesTo]
theorem letters_len (a : Int) : (letters a).length ≤ 6 := lettersTo_len a 6

theorem l1Letters_o (a : Int) (w : World) (ha : 0 ≤ a) (ha2 : a ≤ 63) :
    Calls Tryz.prog 70 #[.int .i64 a] w (Gives (fun v w' => IntsOwn 3 w.heap.size w' v (letters a)) w) := by
  go_enter Tryz.func70, Tryz.ntmps70
  go_wp2_with fail
  go_loopw [3, 4] (fun v i wr => ∃ k : Nat, k ≤ 6 ∧ i = .int .i64 k ∧ IntsOwn 3 w.heap.size wr v (lettersTo a k) ∧ Ext w wr) (fun _ i _ => 6 - (intOf i).toNat)
  case atStart => exact ⟨0, by omega, rfl, IntsOwn.lit _ _, Ext.alloc _ _⟩
  case round =>
    obtain ⟨k, hk, rfl, hown, hext⟩ := hrel
    have hsz := hext.size
    by_cases hlt : k < 6
    · have HS := Lib.hid (lettersTo_succ a k)
      have hlen := lettersTo_len a k
      by_cases hb : bit a k = true
      · go_wp2_with (first | (go_at_call 147; refine (l1Has_c _ _ _ (by omega) (by omega) (by omega) (by omega)).mono ?_; rintro e w' ⟨rfl, rfl⟩) | (at_builtin; refine app1 rfl rfl Tryz.underlying96 infoInt rfl (by decide) hown.own rfl rfl rfl (by simp [Value.oneCell']) (by omega) (by decide) (by omega) ?_; intro v1 w1 hown1 hgr1 hbl1))
        exact ⟨⟨k + 1, by omega, by go_num, IntsOwn.push hown1 (by rw [HS.out, if_pos hb]), Below.trans hext hbl1⟩, by simp [intOf]; omega⟩
      · go_wp2_with (first | (go_at_call 147; refine (l1Has_c _ _ _ (by omega) (by omega) (by omega) (by omega)).mono ?_; rintro e w' ⟨rfl, rfl⟩))
        exact ⟨⟨k + 1, by omega, by go_num, by rw [HS.out, if_neg hb, List.append_nil]; exact hown, hext⟩, by simp [intOf]; omega⟩
    · obtain rfl : k = 6 := by omega
      go_wp2_with fail
      go_ret
      exact Gives.mk rfl hext hown

theorem l4Moves_c (v sv : Value) (n : Net) (st : List Int) (kind q : Int) (total : Nat) (w : World) (hv : NetV w v n st kind q) (h : NetOk n) (hsv : IntsV w sv (ints (sizesOf n))) (ht : total ≤ 268435456) :
    Calls Tryz.prog 273 #[v, sv, .int .i64 total] w (Gives (fun v w' => LLL w.heap.size w' v (movesTo n (letters n.letters) total)) w) := by
  have HV := Lib.hid hv
  obtain ⟨vp, va, vs, rfl, -, -, -⟩ := hv
  obtain ⟨asz, csz, rfl, -, -⟩ := hsv.open
  have HS := Lib.hid hsv
  have hls := ints_len (sizesOf n)
  have hln := sizes_len n
  have hnp := h.np
  have hna := h.na
  have hal := h.al
  rw [hls] at HS ⊢
  obtain ⟨T, hT⟩ : ∃ T, T = (sizesOf n).length := ⟨_, rfl⟩
  rw [← hT] at hln HS ⊢
  have hT8 : T ≤ 8 := by omega
  have hTs := Lib.hid hT
  clear hT hln hls hsv
  go_enter Tryz.func273, Tryz.ntmps273
  go_wp2_with fail
  have he : Ext w (w.alloc (.cells #[vp, va, vs, .int .i64 n.letters, .int .i64 kind, .int .i64 q] 108)) := Ext.alloc _ _
  have hB := Blk.new w #[vp, va, vs, .int .i64 n.letters, .int .i64 kind, .int .i64 q] 108
  have hsz0 : (w.alloc (.cells #[vp, va, vs, .int .i64 n.letters, .int .i64 kind, .int .i64 q] 108)).heap.size = w.heap.size + 1 := by simp
  generalize w.alloc (.cells #[vp, va, vs, .int .i64 n.letters, .int .i64 kind, .int .i64 q] 108) = wo at he hB hsz0 ⊢
  have hlit := own_lit 28 1 wo
  rw [hsz0] at hlit
  have he2 := Ext.alloc wo (.cells #[] 28)
  generalize wo.alloc (.cells #[] 28) = wp at hlit he2 ⊢
  refine (l1Letters_o _ _ hal.1 hal.2).mono ?_
  rintro e wl ⟨vl, rfl, hel, hvl⟩
  obtain ⟨al, cl, rfl⟩ := hvl.shape
  have hLlen := letters_len n.letters
  have hL6 := Lib.hid (letters_lt6 hal.2)
  obtain ⟨L, hL⟩ : ∃ L, Hid (L = letters n.letters) := ⟨_, rfl⟩
  rw [← hL.out] at hvl hLlen hL6 ⊢
  go_wp2_with fail
  go_loopw [7, 9] (fun o i wr => ∃ k : Nat, k ≤ total ∧ i = .int .i64 k ∧ LLL (w.heap.size + 1) wr o (movesTo n L k) ∧ IntsOwn 3 0 wr (.slice al L.length cl) L ∧ Ext wo wr) (fun _ i _ => total - (intOf i).toNat)
  case atStart => exact ⟨0, by omega, rfl, ⟨[], own_ext hlit hel, fun i l hi => by simp [movesTo] at hi⟩, hvl.low (Nat.zero_le _), he2.trans hel⟩
  case round =>
    obtain ⟨k, hk, rfl, ⟨vs7, hown7, hrow7⟩, hlet, hext⟩ := hrel
    obtain ⟨a7, c7, rfl⟩ := own_shape1 hown7
    have h7l := movesTo_len n L k
    rw [h7l] at hown7 ⊢
    by_cases hlt : k < total
    · have hxr := he.trans hext
      have hss := HS.out.mono hxr
      have hs16 := Lib.hid (sizes_bound h)
      go_wp2_with fail
      have HDE := Lib.hid (l4Decode_c (.slice asz T csz) (sizesOf n) k wr hss (hs16.out) (by rw [← hTs.out]; exact hT8) (by omega))
      refine (HDE.out).mono ?_
      rintro e w1 ⟨vd, rfl, he1, hvd⟩
      clear HDE
      obtain ⟨ad, cd, rfl⟩ := hvd.shape
      have hdl := ints_len (decode (sizesOf n) k)
      rw [decode_len, ← hTs.out] at hdl
      have hvd1 := hvd.ints
      rw [hdl] at hvd1
      have HDV := Lib.hid hvd1
      clear hvd hvd1
      go_wp2_with fail
      have hlit1 := own_lit 96 1 w1
      have hn1 := Ext.alloc w1 (.cells #[] 96)
      have hx1 := hxr.trans he1
      have hlet1 := hlet.ext he1
      have hll := hlet1.ints.open
      obtain ⟨al1, cl1, hcl, -, hll⟩ := hll
      cases hcl
      have hB1 := hB.ext (hext.trans he1)
      have HV1 := Lib.hid (HV.out.mono hx1)
      have HS1 := Lib.hid (HS.out.mono hx1)
      clear hs16 hss
      go_loopw [11, 12] (fun o i ws => ∃ m : Nat, m ≤ L.length ∧ i = .int .i64 m ∧ LL w1.heap.size ws o (rowsTo n k L m) ∧ Ext w1 ws) (fun _ i _ => L.length - (intOf i).toNat)
      case atStart => exact ⟨0, by omega, rfl, ⟨[], hlit1, fun i l hi => by simp [rowsTo] at hi⟩, hn1⟩
      case round =>
        obtain ⟨m, hm, rfl, ⟨vs11, hown11, hrow11⟩, hxs⟩ := hrel
        have h11l := rowsTo_len n k L m hm
        have HRO := Lib.hid hrow11
        have HOW := Lib.hid hown11
        rw [h11l] at hown11
        obtain ⟨a11, c11, rfl⟩ := own_shape1 hown11
        clear hrow11
        by_cases hlm : m < L.length
        · obtain ⟨l, hl⟩ : ∃ l, L[m]? = some l := ⟨_, List.getElem?_eq_getElem hlm⟩
          obtain ⟨bl, offl, rfl, -, hlc⟩ := hll m l hl
          have g1 := hxs.cell (hlc m l hl)
          rw [Nat.mul_one] at g1
          have hl6 := hL6.out l (List.mem_of_getElem? hl)
          have HRS := Lib.hid (rowsTo_succ (n := n) (node := k) hl)
          have i1 : (m : Int) < (L.length : Int) := by omega
          have hBs := hB1.ext hxs
          clear hlc hl
          go_wp2_with fail
          have D0 := fun d os => cell_regrown (hBs.cell 0 rfl) d os
          have D1 := fun d os => cell_regrown (hBs.cell 1 rfl) d os
          have D2 := fun d os => cell_regrown (hBs.cell 2 rfl) d os
          have D3 := fun d os => cell_regrown (hBs.cell 3 rfl) d os
          have D4 := fun d os => cell_regrown (hBs.cell 4 rfl) d os
          have D5 := fun d os => cell_regrown (hBs.cell 5 rfl) d os
          have D6 := fun d os => cell_regrown g1 d os
          obtain ⟨NX, hNX⟩ : ∃ NX, Hid (NX = ints (netN n k l)) := ⟨_, rfl⟩
          rw [← hNX.out] at HRS
          obtain ⟨Kc, HKc⟩ : ∃ Kc : FuncId → Array Value → World → Value → World → Prop, Hid (Kc = fun (_ : FuncId) (_ : Array Value) (w0 : World) (v : Value) (w' : World) => Ext w0 w' ∧ IntsOwn 3 0 w' v NX) := ⟨_, rfl⟩
          refine wp_region_ext (Kc := Kc) 10 (by kernel_rfl) (by kernel_rfl) ?_
          simp only [List.take_succ_cons, List.take_zero]
          repeat (refine WalkE.pure rfl (fun K hK => ?_); simp only [PureDo]; go_simp; refine hK _ ?_; clear hK K)
          refine WalkE.step (fun K hK wc hwc hdc => ?_)
          simp only [OpDo, OpSafe, OpOut]
          go_simp
          have hxc := hxs.trans ((Ext.drew _).trans hwc)
          refine ⟨(l4Nexts_c _ _ _ n st kind q k l _ (HV1.out.mono hxc) h (HS1.out.mono hxc) (HDV.out.mono hxc) hl6.1 hl6.2).mono ?_, ?_⟩
          · rintro e w' ⟨v, rfl, he, hv⟩
            rw [← hNX.out] at hv
            exact ⟨v, rfl, by rw [HKc.out]; exact ⟨he, hv.low (Nat.zero_le _)⟩⟩
          intro u w4 hk4
          rw [HKc.out] at hk4
          refine ⟨hk4.1, hK _ _ ?_⟩
          clear hK K hdc
          obtain ⟨au, cu, rfl⟩ := hk4.2.shape
          repeat (refine WalkE.pure rfl (fun K hK => ?_); simp only [PureDo]; go_simp; refine hK _ ?_; clear hK K)
          refine WalkE.step (fun K hK wd hwd hdd => ?_)
          simp only [OpDo, OpSafe, OpOut]
          go_simp
          refine ⟨Ext.alloc _ _, hK _ _ ?_⟩
          clear hK K hdd
          refine WalkE.nil (fun wz hwz hmz => ?_)
          simp only [List.drop_succ_cons, List.drop_zero, List.drop_nil]
          have hbz := (Blk.new wd _ _).ext (hmz 9 (by omega))
          have huz := hk4.2.ext (hmz 8 (by omega))
          have hcell : ∀ (j' : Nat) (u : Value), [Value.slice au NX.length cu][j']? = some u → wz.cell? ((⟨wd.heap.size, 0, none⟩ : Addr).add j') = some u := fun j' u hu => by
            rw [add_none]
            cases j' with
            | zero => simp at hu; subst hu; exact hbz.cell 0 (by simp)
            | succ j' => simp at hu
          clear hmz HKc D0 D1 D2 D3 D4 D5 D6 i1 hbz hwd hk4 hwc hxc
          have hx9 := (Ext.drew _).trans hwz
          have hoz := own_ext hown11 hx9
          have hxz := hxs.trans hx9
          have hzs := hxz.size
          generalize wd.heap.size = bq at hcell ⊢
          clear wd wc w4
          go_wp2_with (at_builtin; refine appN (news := [Value.slice au NX.length cu]) rfl rfl Tryz.underlying28 infoInts rfl (by decide) hoz rfl rfl (by simp) hcell (by simp [Value.oneCell']) (by omega) (by decide) hzs ?_; intro v1 w2 hown2 hgr2 hbl2; obtain ⟨a1, c1, rfl⟩ := own_shape1 hown2)
          refine ⟨⟨m + 1, by omega, by go_num, LL.push (own_ext HOW.out hx9) (fun i l hi => let ⟨u, h3, h4⟩ := HRO.out i l hi; ⟨u, h3, h4.ext hx9⟩) huz (by rw [h11l]; exact hown2) hgr2 HRS.out, Below.trans hxz hbl2⟩, by simp [intOf]; omega⟩
        · obtain rfl : m = L.length := by omega
          have hxr2 := he1.trans hxs
          have hown7b := own_ext hown7 hxr2
          have hsz9 := (hext.trans hxr2).size
          go_wp2_with (at_builtin; refine app1 rfl rfl Tryz.underlying280 infoIntss rfl (by decide) hown7b rfl rfl rfl (by simp [Value.oneCell']) (by omega) (by decide) (by omega) ?_; intro v1 w2 hown2 hgr2 hbl2; obtain ⟨a1, c1, rfl⟩ := own_shape1 hown2)
          refine ⟨⟨k + 1, by omega, by go_num, LLL.push (ll := movesTo n L k) (by rw [h7l]; exact hown7b) (fun i l hi => let ⟨u, h3, h4⟩ := hrow7 i l hi; ⟨u, h3, h4.ext hxr2⟩) ⟨vs11, own_base HOW.out (Nat.zero_le _), HRO.out⟩ (by rw [h7l]; exact hown2) hgr2 (movesTo_succ n L k), own_grown (hlet.ext hxr2) hown7b hgr2 (by decide), Below.trans (hext.trans hxr2) (hbl2.mono (by omega))⟩, by simp [intOf]; omega⟩
    · obtain rfl : k = total := by omega
      go_wp2_with fail
      go_ret
      refine Gives.mk rfl (he.trans hext) ?_
      rw [← hL.out]
      exact ⟨vs7, own_base (by rw [h7l]; exact hown7) (by omega), hrow7⟩
end Go.Proofs.YtadplnbadfnlfaaGreatDoor

namespace Go.Proofs.YtadplnbadfnlfaaGreatDoor
set_option linter.unusedSimpArgs false
set_option linter.unusedVariables false
open Go.RowKit

set_option maxHeartbeats 1600000
set_option maxRecDepth 100000

def okAt (n : Net) (node i : Nat) : Bool := match n.autos[i]? with
  | some a => accepts a ((decode (sizesOf n) node).getD (n.parts.length + i) 0)
  | none => false

theorem l4Ok_o (v u : Value) (n : Net) (st : List Int) (kind q : Int) (node i : Nat) (w : World) (hv : NetV w v n st kind q) (h : NetOk n) (hu : IntsV w u (ints (decode (sizesOf n) node))) (hi : i < n.autos.length) :
    Calls Tryz.prog 306 #[v, u, .int .i64 i] w (Grows (.bool (okAt n node i)) w) := by
  have e := List.getElem?_eq_getElem hi
  have hk := sizes_at_auto e
  have hlt : n.parts.length + i < (decode (sizesOf n) node).length := by rw [decode_len, sizes_len]; omega
  have hq := List.getElem?_eq_getElem hlt
  have hok : okAt n node i = accepts n.autos[i] (decode (sizesOf n) node)[n.parts.length + i] := by
    unfold okAt; rw [e]; simp only []; rw [List.getD_eq_getElem?_getD, hq]; rfl
  rw [hok]
  exact l4Ok_c v u n st kind q _ i _ _ w hv hu e hq (h.autos _ (List.mem_of_getElem? e)) (decode_ok h hk hq) (by rw [decode_len, sizes_len]; have := h.np; have := h.na; omega)

theorem l4Found_3 (v u vm : Value) (n : Net) (st : List Int) (q : Int) (node : Nat) (w : World) (hv : NetV w v n st 3 q) (h : NetOk n) (hu : IntsV w u (ints (decode (sizesOf n) node))) (hi : n.autos.length = 1) :
    Calls Tryz.prog 274 #[v, u, vm] w (Grows (.bool (!okAt n node 0)) w) := by
  have HV := Lib.hid hv
  obtain ⟨vp, va, vs, rfl, -, -, -⟩ := hv
  go_enter Tryz.func274, Tryz.ntmps274
  go_wp2_with fail
  have he : Ext w (w.alloc (.cells #[vp, va, vs, .int .i64 n.letters, .int .i64 3, .int .i64 q] 108)) := Ext.alloc _ _
  have hB := Blk.new w #[vp, va, vs, .int .i64 n.letters, .int .i64 3, .int .i64 q] 108
  generalize w.alloc (.cells #[vp, va, vs, .int .i64 n.letters, .int .i64 3, .int .i64 q] 108) = wo at he hB ⊢
  refine (l4Ok_o _ _ n st 3 q node 0 wo (HV.out.mono he) h (hu.mono he) (by omega)).mono ?_
  rintro e w1 ⟨rfl, he1⟩
  go_wp2_with fail
  go_ret
  exact Grows.mk rfl (he.trans he1)

theorem l4Near_c (v u : Value) (rows : List (List Int)) (D : List Int) (d : Int) (w : World) (hv : IntssV w v rows) (hu : IntsV w u D) (hr : ∀ r ∈ rows, ∀ x ∈ r, ∃ m : Nat, x = m ∧ m < D.length) :
    Calls Tryz.prog 307 #[v, u, .int .i64 d] w (Same (.bool (decide (∃ r ∈ rows, ∃ x ∈ r, D[x.toNat]? = some d))) w) := by
  obtain ⟨a, c, rfl, hal, h2⟩ := hv.open
  obtain ⟨au, cu, rfl, -, k2⟩ := hu.open
  have HR := Lib.hid hr
  clear hr
  go_enter Tryz.func307, Tryz.ntmps307
  go_wp2_with fail
  go_loop [7] (fun i => ∃ k : Nat, k ≤ rows.length ∧ i = .int .i64 k ∧ Hid (¬ ∃ r ∈ rows.take k, ∃ x ∈ r, D[x.toNat]? = some d)) (fun i => rows.length - (intOf i).toNat)
  case atStart => exact ⟨0, by omega, rfl, Lib.hid (by simp)⟩
  case round =>
    obtain ⟨k, hk, rfl, hno⟩ := hrel
    by_cases hlt : k < rows.length
    · obtain ⟨r, hr⟩ : ∃ r, rows[k]? = some r := ⟨_, List.getElem?_eq_getElem hlt⟩
      obtain ⟨b, off, rfl, -, hc⟩ := h2 k r hr
      obtain ⟨vr, g1, hvr⟩ := hc k r hr
      rw [Nat.mul_one] at g1
      obtain ⟨ar, cr, rfl, hrl, hhr⟩ := hvr.open
      have HRK := Lib.hid hr
      clear hc hr
      go_wp2_with fail
      go_loop [8] (fun i => ∃ j : Nat, j ≤ r.length ∧ i = .int .i64 j ∧ Hid (¬ ∃ x ∈ r.take j, D[x.toNat]? = some d)) (fun i => r.length - (intOf i).toNat)
      case atStart => exact ⟨0, by omega, rfl, Lib.hid (by simp)⟩
      case round =>
        obtain ⟨j, hj, rfl, hno2⟩ := hrel
        by_cases hlj : j < r.length
        · obtain ⟨x, hx⟩ : ∃ x, r[j]? = some x := ⟨_, List.getElem?_eq_getElem hlj⟩
          obtain ⟨br, offr, rfl, -, hcr⟩ := hhr j x hx
          have g2 := hcr j x hx
          obtain ⟨m, rfl, hm⟩ := HR.out r (List.mem_of_getElem? HRK.out) x (List.mem_of_getElem? hx)
          obtain ⟨y, hy⟩ : ∃ y, D[m]? = some y := ⟨_, List.getElem?_eq_getElem hm⟩
          obtain ⟨bu, offu, rfl, -, hcu⟩ := k2 m y hy
          have g3 := hcu m y hy
          unfold IntAt at g2 g3
          rw [Nat.mul_one] at g2 g3
          have HX := Lib.hid hx
          have HY := Lib.hid hy
          clear hcr hcu hx hy
          by_cases hyd : y = d
          · subst hyd
            go_wp2_with fail
            go_ret
            have hex : ∃ r ∈ rows, ∃ x ∈ r, D[x.toNat]? = some y := ⟨r, List.mem_of_getElem? HRK.out, _, List.mem_of_getElem? HX.out, by simpa using HY.out⟩
            exact Same.mk (by rw [decide_eq_true hex]; rfl)
          · go_wp2_with fail
            refine ⟨⟨j + 1, by omega, by go_num, Lib.hid ?_⟩, by simp [intOf]; omega⟩
            rintro ⟨z, hz, hzd⟩
            rw [List.take_add_one, HX.out] at hz
            rcases List.mem_append.1 hz with hz | hz
            · exact hno2.out ⟨z, hz, hzd⟩
            · simp at hz; subst hz
              rw [Int.toNat_natCast, HY.out] at hzd
              cases hzd; exact hyd rfl
        · obtain rfl : j = r.length := by omega
          go_wp2_with fail
          refine ⟨⟨k + 1, by omega, by go_num, Lib.hid ?_⟩, by simp [intOf]; omega⟩
          have h5 := hno2.out
          rw [List.take_length] at h5
          rintro ⟨z, hz, hzd⟩
          rw [List.take_add_one, HRK.out] at hz
          rcases List.mem_append.1 hz with hz | hz
          · exact hno.out ⟨z, hz, hzd⟩
          · simp at hz; subst hz; exact h5 hzd
    · obtain rfl : k = rows.length := by omega
      go_wp2_with fail
      go_ret
      have h5 := hno.out
      rw [List.take_length] at h5
      exact Same.mk (by rw [decide_eq_false h5]; rfl)
end Go.Proofs.YtadplnbadfnlfaaGreatDoor

namespace Go.Proofs.YtadplnbadfnlfaaGreatDoor
set_option linter.unusedSimpArgs false
set_option linter.unusedVariables false
open Go.RowKit

set_option maxHeartbeats 1600000
set_option maxRecDepth 100000

theorem nodup_len (l : List Nat) (n : Nat) (h : l.Nodup) (hb : ∀ x ∈ l, x < n) : l.length ≤ n := by
  induction n generalizing l with
  | zero =>
    cases l with
    | nil => simp
    | cons a l => have := hb a (by simp); omega
  | succ n ih =>
    have h1 := ih (l.erase n) (h.erase n) fun x hx => by
      obtain ⟨h2, h3⟩ := (List.Nodup.mem_erase_iff h).1 hx
      have := hb x h3
      omega
    by_cases hm : n ∈ l
    · rw [List.length_erase_of_mem hm] at h1; omega
    · rw [List.erase_of_not_mem hm] at h1; omega
theorem mem_ints {m : Nat} {l : List Nat} : (m : Int) ∈ ints l ↔ m ∈ l := by
  unfold ints
  rw [List.mem_map]
  constructor
  · rintro ⟨x, hx, he⟩
    have : x = m := by omega
    subst this; exact hx
  · intro h; exact ⟨m, h, rfl⟩
theorem movesTo_at {n : Net} {L : List Int} {total x : Nat} (h : x < total) : (movesTo n L total)[x]? = some (L.map fun l => ints (netN n x l)) := by simp [movesTo, h]
theorem netN_len {n : Net} (h : NetOk n) (node : Nat) (l : Int) : (netN n node l).length ≤ 1048576 := by rw [← nx_full]; exact nx_len h node l _

theorem l4Closer_c (v u a : Value) (n : Net) (h : NetOk n) (L : List Int) (total : Nat) (D : List Int) (at' : List Nat) (k : Nat) (l d : Int) (w : World) (hv : IntsssV w v (movesTo n L total)) (hu : IntsV w u D) (hD : D.length = total) (ha : IntsV w a (ints at')) (hlt : ∀ x ∈ at', x < total) (hk : L[k]? = some l)
    (hN : ∀ node, node < total → ∀ l ∈ L, ∀ m, m ∈ netN n node l → m < total) (ht : total ≤ 268435456) (hat : at'.length ≤ 268435456) (hL6 : L.length ≤ 6) :
    Calls Tryz.prog 277 #[v, u, a, .int .i64 k, .int .i64 d] w (Gives (fun v w' => ∃ out : List Nat, IntsOwn 3 w.heap.size w' v (ints out) ∧ out.length ≤ 268435456 ∧ ∀ m, m ∈ out ↔ ∃ x ∈ at', m ∈ netN n x l ∧ D[m]? = some d) w) := by
  obtain ⟨av, cv, rfl, -, hhv⟩ := hv.open
  obtain ⟨au, cu, rfl, -, hhu⟩ := hu.open
  obtain ⟨aa, ca, rfl, -, hha⟩ := ha.open
  have hil := ints_len at'
  rw [hil, hD]
  have HD := Lib.hid hD
  clear hD
  have hkL := (List.getElem?_eq_some_iff.1 hk).1
  have HK := Lib.hid hk
  have HN := Lib.hid (fun node hn => hN node hn l (List.mem_of_getElem? hk))
  have HLT := Lib.hid hlt
  clear hN hk hlt
  go_enter Tryz.func277, Tryz.ntmps277
  go_wp2_with fail
  go_loopw [11, 12] (fun o i wr => ∃ (i' : Nat) (out : List Nat), i' ≤ at'.length ∧ i = .int .i64 i' ∧ IntsOwn 3 w.heap.size wr o (ints out) ∧ out.Nodup ∧ Hid (∀ m, m ∈ out ↔ ∃ x ∈ at'.take i', m ∈ netN n x l ∧ D[m]? = some d) ∧ Ext w wr) (fun _ i _ => at'.length - (intOf i).toNat)
  case atStart => exact ⟨0, [], by omega, rfl, IntsOwn.lit _ _, by simp, Lib.hid (by simp), Ext.alloc _ _⟩
  case round =>
    obtain ⟨i', out, hi, rfl, hown, hnd, hmem, hext⟩ := hrel
    by_cases hlt : i' < at'.length
    · obtain ⟨x, hx⟩ : ∃ x, at'[i']? = some x := ⟨_, List.getElem?_eq_getElem hlt⟩
      have hxt := HLT.out x (List.mem_of_getElem? hx)
      obtain ⟨ba, offa, rfl, -, hca⟩ := hha i' x (ints_at hx)
      obtain ⟨bv, offv, rfl, -, hcv⟩ := hhv x _ (movesTo_at hxt)
      obtain ⟨vr, g2, hvr⟩ := hcv x _ (movesTo_at hxt)
      obtain ⟨ar, cr, rfl, -, hhr⟩ := hvr.open
      obtain ⟨br, offr, rfl, -, hcr⟩ := hhr k (ints (netN n x l)) (by rw [List.getElem?_map, HK.out]; rfl)
      obtain ⟨vl, g3, hvl⟩ := hcr k (ints (netN n x l)) (by rw [List.getElem?_map, HK.out]; rfl)
      obtain ⟨al, cl, rfl, -, hhl⟩ := hvl.open
      have g1 := hext.cell (hca i' x (ints_at hx))
      rw [Nat.mul_one] at g1 g2 g3
      replace g2 := hext.cell g2
      replace g3 := hext.cell g3
      have HX := Lib.hid hx
      have hxl := ints_len (netN n x l)
      have hnl := netN_len h x l
      have hNX := Lib.hid (HN.out x hxt)
      clear hca hcv hcr hx
      have hlm : (L.map fun l => ints (netN n x l)).length = L.length := by simp
      rw [hlm] at g2
      have hml := movesTo_len n L total
      rw [hml]
      obtain ⟨ao, co, rfl⟩ := hown.shape
      rw [hxl] at g3
      obtain ⟨R, hR⟩ : ∃ R, Hid (R = netN n x l) := ⟨_, rfl⟩
      rw [← hR.out] at g3 hhl hxl hnl hNX
      clear hlm hhr hvl hvr
      go_wp2_with fail
      go_loopw [11, 14] (fun o i wr => ∃ (j : Nat) (out : List Nat), j ≤ R.length ∧ i = .int .i64 j ∧ IntsOwn 3 w.heap.size wr o (ints out) ∧ out.Nodup ∧ Hid (∀ m, m ∈ out ↔ (∃ x ∈ at'.take i', m ∈ netN n x l ∧ D[m]? = some d) ∨ (m ∈ R.take j ∧ D[m]? = some d)) ∧ Ext w wr) (fun _ i _ => R.length - (intOf i).toNat)
      case atStart => exact ⟨0, out, by omega, rfl, hown, hnd, Lib.hid (by simpa using hmem.out), hext⟩
      case round =>
        obtain ⟨j, out, hj, rfl, hown, hnd, hmem, hext⟩ := hrel
        by_cases hlj : j < R.length
        · obtain ⟨y, hy⟩ : ∃ y, R[j]? = some y := ⟨_, List.getElem?_eq_getElem hlj⟩
          have hyt := hNX.out y (List.mem_of_getElem? hy)
          obtain ⟨bl, offl, rfl, -, hcl⟩ := hhl j y (ints_at hy)
          have k1 := hext.cell (hcl j y (ints_at hy))
          obtain ⟨z, hz⟩ : ∃ z, D[y]? = some z := ⟨_, List.getElem?_eq_getElem (by rw [HD.out]; exact hyt)⟩
          obtain ⟨bu, offu, rfl, -, hcu⟩ := hhu y z hz
          have k2 := hext.cell (hcu y z hz)
          rw [Nat.mul_one] at k1 k2
          have HY := Lib.hid hy
          have HZ := Lib.hid hz
          have hol : out.length ≤ total := nodup_len out total hnd fun m hm => by
            have := ((hmem.out m).1 hm)
            have hDm : D[m]? = some d := by
              rcases this with ⟨_, _, _, h5⟩ | ⟨_, h5⟩ <;> exact h5
            rw [← HD.out]; exact (List.getElem?_eq_some_iff.1 hDm).1
          have hoi := ints_len out
          have hws := hext.size
          clear hcl hcu hy hz
          by_cases hzd : z = d
          · subst hzd
            have HIN := Lib.hid (l4In_c _ (ints out) (y : Int) _ hown.ints (by omega))
            have hyR := Lib.hid (fun m => (hmem.out m))
            by_cases hin : y ∈ out
            · have hin' : decide ((y : Int) ∈ ints out) = true := decide_eq_true (mem_ints.2 hin)
              have HI := Lib.hid hin'
              clear hin'
              go_wp2_with (refine (HIN.out).mono ?_; rintro e w5 ⟨rfl, rfl⟩; rw [HI.out])
              refine ⟨⟨j + 1, out, by omega, by go_num, hown, hnd, Lib.hid fun m => ?_, hext⟩, by simp [intOf]; omega⟩
              rw [List.take_add_one, HY.out, List.mem_append]
              simp only [Option.toList, List.mem_singleton]
              rw [hmem.out m]
              constructor
              · rintro (h1 | ⟨h1, h2⟩)
                · exact .inl h1
                · exact .inr ⟨.inl h1, h2⟩
              · rintro (h1 | ⟨h1 | h1, h2⟩)
                · exact .inl h1
                · exact .inr ⟨h1, h2⟩
                · subst h1; exact (hmem.out m).1 hin
            · have hin' : decide ((y : Int) ∈ ints out) = false := decide_eq_false fun h5 => hin (mem_ints.1 h5)
              have HI := Lib.hid hin'
              clear hin'
              go_wp2_with (first | (refine (HIN.out).mono ?_; rintro e w5 ⟨rfl, rfl⟩; rw [HI.out]) | (at_builtin; refine app1 rfl rfl Tryz.underlying96 infoInt rfl (by decide) hown.own rfl rfl rfl (by simp [Value.oneCell']) (by omega) (by decide) hws ?_; intro v1 w2 hown2 hgr2 hbl2))
              refine ⟨⟨j + 1, out ++ [y], by omega, by go_num, IntsOwn.push hown2 (by rw [ints_append]; rfl), ?_, Lib.hid fun m => ?_, Below.trans hext hbl2⟩, by simp [intOf]; omega⟩
              · rw [List.nodup_append]
                refine ⟨hnd, by simp, fun a ha b hb => ?_⟩
                simp at hb; subst hb
                exact fun he => hin (he ▸ ha)
              · rw [List.take_add_one, HY.out, List.mem_append, List.mem_append]
                simp only [Option.toList, List.mem_singleton]
                rw [hmem.out m]
                constructor
                · rintro ((h1 | ⟨h1, h2⟩) | h1)
                  · exact .inl h1
                  · exact .inr ⟨.inl h1, h2⟩
                  · subst h1; exact .inr ⟨.inr rfl, HZ.out⟩
                · rintro (h1 | ⟨h1 | h1, h2⟩)
                  · exact .inl (.inl h1)
                  · exact .inl (.inr ⟨h1, h2⟩)
                  · exact .inr h1
          · go_wp2_with fail
            refine ⟨⟨j + 1, out, by omega, by go_num, hown, hnd, Lib.hid fun m => ?_, hext⟩, by simp [intOf]; omega⟩
            rw [List.take_add_one, HY.out, List.mem_append]
            simp only [Option.toList, List.mem_singleton]
            rw [hmem.out m]
            constructor
            · rintro (h1 | ⟨h1, h2⟩)
              · exact .inl h1
              · exact .inr ⟨.inl h1, h2⟩
            · rintro (h1 | ⟨h1 | h1, h2⟩)
              · exact .inl h1
              · exact .inr ⟨h1, h2⟩
              · subst h1; rw [HZ.out] at h2; cases h2; exact absurd rfl hzd
        · obtain rfl : j = R.length := by omega
          obtain ⟨ao, co, rfl⟩ := hown.shape
          go_wp2_with fail
          refine ⟨⟨i' + 1, out, by omega, by go_num, hown, hnd, Lib.hid fun m => ?_, hext⟩, by simp [intOf]; omega⟩
          rw [hmem.out m, List.take_length, List.take_add_one, HX.out, hR.out]
          simp only [Option.toList, List.mem_append, List.mem_singleton]
          constructor
          · rintro (⟨z, hz, h1⟩ | h1)
            · exact ⟨z, .inl hz, h1⟩
            · exact ⟨x, .inr rfl, h1⟩
          · rintro ⟨z, hz | rfl, h1⟩
            · exact .inl ⟨z, hz, h1⟩
            · exact .inr h1
    · obtain rfl : i' = at'.length := by omega
      obtain ⟨ao, co, rfl⟩ := hown.shape
      go_wp2_with fail
      go_ret
      have h5 := hmem.out
      rw [List.take_length] at h5
      refine Gives.mk rfl hext ⟨out, hown, ?_, h5⟩
      refine Nat.le_trans (nodup_len out total hnd fun m hm => ?_) ht
      obtain ⟨_, _, _, h6⟩ := (h5 m).1 hm
      rw [← HD.out]; exact (List.getElem?_eq_some_iff.1 h6).1
end Go.Proofs.YtadplnbadfnlfaaGreatDoor

namespace Go.Proofs.YtadplnbadfnlfaaGreatDoor
set_option linter.unusedSimpArgs false
set_option linter.unusedVariables false
open Go.RowKit

set_option maxHeartbeats 1600000
set_option maxRecDepth 100000

def unsetN (D : List Int) : Nat := (D.filter fun x => x == -1).length
theorem unsetN_le (D : List Int) : unsetN D ≤ D.length := List.length_filter_le _ _
theorem unsetN_set {D : List Int} {i : Nat} {x : Int} (h : D[i]? = some (-1)) (hx : x ≠ -1) : unsetN (D.set i x) + 1 = unsetN D := by
  unfold unsetN
  induction D generalizing i with
  | nil => simp at h
  | cons a D ih =>
    cases i with
    | zero =>
      simp at h; subst h
      simp [List.filter_cons, hx]
    | succ i =>
      simp at h
      have := ih h
      simp only [List.set_cons_succ, List.filter_cons]
      split <;> (try simp only [List.length_cons]) <;> omega
def dst (D : List Int) (m : Nat) : Int := D.getD m (-1)
theorem dst_at {D : List Int} {m : Nat} {x : Int} (h : D[m]? = some x) : dst D m = x := by unfold dst; rw [List.getD_eq_getElem?_getD, h]; rfl
theorem dst_set {D : List Int} {i : Nat} {x : Int} (h : i < D.length) (m : Nat) : dst (D.set i x) m = if m = i then x else dst D m := by
  unfold dst
  rw [List.getD_eq_getElem?_getD, List.getD_eq_getElem?_getD, List.getElem?_set]
  by_cases hm : m = i
  · subst hm; simp [h]
  · rw [if_neg hm, if_neg (Ne.symm hm)]

structure Pass (N : Nat → Int → List Nat) (L : List Int) (G : Nat → Bool) (total d i : Nat) (D : List Int) (ch : Bool) : Prop where
  len : D.length = total
  lo : ∀ m, m < i → m < total → Lev N L G ((d : Int) + 1) m (dst D m)
  hi : ∀ m, i ≤ m → m < total → Lev N L G d m (dst D m)
  calm : ch = false → ∀ m, m < i → m < total → dst D m ≠ (d : Int) + 1
  un : unsetN D + d + (if ch = true then 1 else 0) ≤ total
theorem lev_neg {N : Nat → Int → List Nat} {L : List Int} {G : Nat → Bool} {d : Int} {n : Nat} {x : Int} (h : Lev N L G d n x) (hx : x < 0) : x = -1 := by
  rcases h with ⟨h, _⟩ | ⟨h, _⟩
  · exact h
  · omega
theorem lev_le {N : Nat → Int → List Nat} {L : List Int} {G : Nat → Bool} {d : Int} {n : Nat} {x : Int} (h : Lev N L G d n x) (hd : 0 ≤ d) : x ≤ d := by
  rcases h with ⟨h, _⟩ | ⟨_, h, _⟩ <;> omega
section
variable {N : Nat → Int → List Nat} {L : List Int} {G : Nat → Bool} {total d i : Nat} {D : List Int} {ch : Bool}
theorem Pass.any (h : Pass N L G total d i D ch) (hN : ∀ node, node < total → ∀ l ∈ L, ∀ m, m ∈ N node l → m < total) (hi : i < total) : ∀ l ∈ L, ∀ m, m ∈ N i l → Lev N L G d m (dst D m) ∨ Lev N L G ((d : Int) + 1) m (dst D m) := by
  intro l hl m hm
  have hmt := hN i hi l hl m hm
  by_cases hmi : m < i
  · exact .inr (h.lo m hmi hmt)
  · exact .inl (h.hi m (by omega) hmt)
theorem Pass.keep (h : Pass N L G total d i D ch) (hi : i < total) (hx : 0 ≤ dst D i) : Pass N L G total d (i + 1) D ch where
  len := h.len
  lo := fun m hm hmt => by
    by_cases hmi : m = i
    · subst hmi; exact (h.hi m (Nat.le_refl _) hmt).keep hx
    · exact h.lo m (by omega) hmt
  hi := fun m hm hmt => h.hi m (by omega) hmt
  calm := fun hc m hm hmt => by
    by_cases hmi : m = i
    · subst hmi; have := lev_le (h.hi m (Nat.le_refl _) hmt) (by omega); omega
    · exact h.calm hc m (by omega) hmt
  un := h.un
theorem Pass.not (h : Pass N L G total d i D ch) (hN : ∀ node, node < total → ∀ l ∈ L, ∀ m, m ∈ N node l → m < total) (hi : i < total) (hx : dst D i < 0) (hn : ¬ NearTo (N := N) (L := L) (dst D) i d) : Pass N L G total d (i + 1) D ch where
  len := h.len
  lo := fun m hm hmt => by
    by_cases hmi : m = i
    · subst hmi
      have h1 := h.hi m (Nat.le_refl _) hmt
      have h2 := lev_neg h1 hx
      rw [h2] at h1 ⊢
      exact Lev.not (by omega) (h.any hN hmt) h1 hn
    · exact h.lo m (by omega) hmt
  hi := fun m hm hmt => h.hi m (by omega) hmt
  calm := fun hc m hm hmt => by
    by_cases hmi : m = i
    · subst hmi; omega
    · exact h.calm hc m (by omega) hmt
  un := h.un
theorem Pass.set (h : Pass N L G total d i D ch) (hN : ∀ node, node < total → ∀ l ∈ L, ∀ m, m ∈ N node l → m < total) (hi : i < total) (hx : dst D i < 0) (hn : NearTo (N := N) (L := L) (dst D) i d) : Pass N L G total d (i + 1) (D.set i ((d : Int) + 1)) true where
  len := by rw [List.length_set]; exact h.len
  lo := fun m hm hmt => by
    rw [dst_set (by rw [h.len]; exact hi)]
    by_cases hmi : m = i
    · subst hmi
      rw [if_pos rfl]
      have h1 := h.hi m (Nat.le_refl _) hmt
      have h2 := lev_neg h1 hx
      rw [h2] at h1
      exact Lev.set (by omega) (h.any hN hmt) h1 hn
    · rw [if_neg hmi]; exact h.lo m (by omega) hmt
  hi := fun m hm hmt => by
    rw [dst_set (by rw [h.len]; exact hi), if_neg (by omega)]; exact h.hi m (by omega) hmt
  calm := fun hc => by cases hc
  un := by
    have h1 := h.hi i (Nat.le_refl _) hi
    have h2 := lev_neg h1 hx
    have h3 : D[i]? = some (-1) := by
      have e := List.getElem?_eq_getElem (show i < D.length by rw [h.len]; exact hi)
      rw [dst_at e] at h2
      rw [e, h2]
    have h4 := unsetN_set (x := (d : Int) + 1) h3 (by omega)
    have h5 := h.un
    simp only [if_true]
    split at h5 <;> omega
end

theorem near_iff {n : Net} {L : List Int} {D : List Int} {node : Nat} {d : Int} {total : Nat} (hD : D.length = total) (hN : ∀ l ∈ L, ∀ m, m ∈ netN n node l → m < total) :
    (∃ r ∈ L.map (fun l => ints (netN n node l)), ∃ x ∈ r, D[x.toNat]? = some d) ↔ NearTo (N := netN n) (L := L) (dst D) node d := by
  unfold NearTo
  constructor
  · rintro ⟨r, hr, x, hx, h⟩
    obtain ⟨l, hl, rfl⟩ := List.mem_map.1 hr
    unfold ints at hx
    obtain ⟨m, hm, rfl⟩ := List.mem_map.1 hx
    rw [Int.toNat_natCast] at h
    exact ⟨l, hl, m, hm, dst_at h⟩
  · rintro ⟨l, hl, m, hm, h⟩
    refine ⟨_, List.mem_map.2 ⟨l, hl, rfl⟩, (m : Int), mem_ints.2 hm, ?_⟩
    rw [Int.toNat_natCast]
    have e := List.getElem?_eq_getElem (show m < D.length by rw [hD]; exact hN l hl m hm)
    rw [dst_at e] at h
    rw [e, h]

def DistEnd (n : Net) (L : List Int) (G : Nat → Bool) (total : Nat) (u : Value) (w0 : World) (e : Ending) (w' : World) : Prop :=
  e = .returned (.tuple #[]) ∧ Ext w0 w' ∧ ∃ D : List Int, w'.ownsRow w0.heap.size 3 1 u total (D.map (Value.int .i64)) ∧ D.length = total ∧ (∀ m, m < total → Far (netN n) L G m (dst D m)) ∧ ∀ m, m < total → dst D m ≤ (total : Int) + 1

def boolNat : Value → Nat | .bool true => 1 | _ => 0

theorem l4Dist_c (v : Value) (g cu : Nat) (n : Net) (L : List Int) (G : Nat → Bool) (total : Nat) (D0 : List Int) (w0 w : World) (h0 : Ext w0 w) (hv : IntsssV w0 v (movesTo n L total)) (hu : w.ownsRow w0.heap.size 3 1 (.slice (some ⟨g, 0, none⟩) total cu) total (D0.map (Value.int .i64))) (hD : D0.length = total)
    (hi0 : ∀ m, m < total → dst D0 m = if G m = true then 0 else -1) (hN : ∀ node, node < total → ∀ l ∈ L, ∀ m, m ∈ netN n node l → m < total) (ht : total ≤ 268435456) (hL6 : L.length ≤ 6) :
    Calls Tryz.prog 275 #[v, .slice (some ⟨g, 0, none⟩) total cu] w (DistEnd n L G total (.slice (some ⟨g, 0, none⟩) total cu) w0) := by
  obtain ⟨av, cv, rfl, -, hhv⟩ := hv.open
  have hml := movesTo_len n L total
  rw [hml]
  have HML := Lib.hid hml
  clear hml
  have hgb := (World.ownsRow.lt hu g rfl).1
  have HN := Lib.hid hN
  have hP0 : Pass (netN n) L G total 0 0 D0 false ∨ True := .inr trivial
  have hlev : ∀ m, m < total → Lev (netN n) L G ((0 : Nat) : Int) m (dst D0 m) := fun m hm => by rw [hi0 m hm]; exact lev_zero m
  clear hN hP0
  go_enter Tryz.func275, Tryz.ntmps275
  go_wp2_with fail
  go_loopw [4, 5] (fun c i wr => ∃ (d : Nat) (ch : Bool) (D : List Int), c = .bool ch ∧ i = .int .i64 ((d : Int) + 1) ∧ wr.ownsRow w0.heap.size 3 1 (.slice (some ⟨g, 0, none⟩) total cu) total (D.map (Value.int .i64)) ∧ Ext w0 wr ∧ D.length = total ∧ Hid (∀ m, m < total → Lev (netN n) L G d m (dst D m)) ∧ (ch = true → unsetN D + d ≤ total) ∧ d ≤ total + 1 ∧ Hid (ch = false → ∀ m, m < total → dst D m ≠ d)) (fun c i _ => 2 * (total + 2 - (intOf i).toNat) + boolNat c)
  case atStart => exact ⟨0, true, D0, rfl, rfl, hu, h0, hD, Lib.hid hlev, fun _ => by have := unsetN_le D0; omega, by omega, Lib.hid (fun h => by cases h)⟩
  case round =>
    obtain ⟨d, ch, D, rfl, rfl, hown, hext, hDl, hlv, hun, hdt, hcalm⟩ := hrel
    cases ch with
    | false =>
      go_wp2_with fail
      go_end0
      exact ⟨rfl, hext, D, hown, hDl, far_of_lev (by omega) HN.out hlv.out (hcalm.out trivial), fun m hm => by have := lev_le (hlv.out m hm) (by omega); omega⟩
    | true =>
      have hun' := hun rfl
      go_wp2_with fail
      go_loopw [4, 6] (fun c i wr => ∃ (i' : Nat) (ch : Bool) (D : List Int), c = .bool ch ∧ i = .int .i64 i' ∧ i' ≤ total ∧ wr.ownsRow w0.heap.size 3 1 (.slice (some ⟨g, 0, none⟩) total cu) total (D.map (Value.int .i64)) ∧ Ext w0 wr ∧ Hid (Pass (netN n) L G total d i' D ch)) (fun _ i _ => total - (intOf i).toNat)
      case atStart => exact ⟨0, false, D, rfl, rfl, by omega, hown, hext, Lib.hid ⟨hDl, fun m hm => by omega, fun m _ hmt => hlv.out m hmt, fun _ m hm => by omega, by simpa using hun'⟩⟩
      case round =>
        obtain ⟨i', ch, D, rfl, rfl, hi, hown, hext, hP⟩ := hrel
        have hDl := hP.out.len
        have HDL := Lib.hid hDl
        by_cases hlt : i' < total
        · obtain ⟨x, hx⟩ : ∃ x, D[i']? = some x := ⟨_, List.getElem?_eq_getElem (by omega)⟩
          have hdx := dst_at hx
          have gx := own_cell hown (j := i') (u := .int .i64 x) (by rw [List.getElem?_map, hx]; rfl)
          have fx := hown.frozenAt i'
          have HX := Lib.hid hdx
          clear hx hdx hDl
          by_cases hx0 : x < 0
          · obtain ⟨bv, offv, rfl, -, hcv⟩ := hhv i' _ (movesTo_at hlt)
            obtain ⟨vr, g2, hvr⟩ := hcv i' _ (movesTo_at hlt)
            rw [Nat.mul_one] at g2
            replace g2 := hext.cell g2
            replace hvr := hvr.mono hext
            have hio : IntsOwn 3 w0.heap.size wr (.slice (some ⟨g, 0, none⟩) total cu) D := by unfold IntsOwn; rw [HDL.out]; exact hown
            have HNE := Lib.hid (l4Near_c vr _ (L.map fun l => ints (netN n i' l)) D (d : Int) wr hvr hio.ints (fun r hr x hx => by
              obtain ⟨l, hl, rfl⟩ := List.mem_map.1 hr
              unfold ints at hx
              obtain ⟨m, hm, rfl⟩ := List.mem_map.1 hx
              exact ⟨m, rfl, by rw [HDL.out]; exact HN.out i' hlt l hl m hm⟩))
            have hiff := near_iff (n := n) (L := L) (node := i') (d := (d : Int)) HDL.out (HN.out i' hlt)
            obtain ⟨ar, cr, rfl, -, -⟩ := hvr.open
            have hlm : (L.map fun l => ints (netN n i' l)).length = L.length := by simp
            rw [hlm] at g2 HNE
            clear hcv hvr hio hlm
            by_cases hnear : NearTo (N := netN n) (L := L) (dst D) i' d
            · have HB := Lib.hid (decide_eq_true (hiff.2 hnear))
              clear hiff
              go_wp2_with (refine (HNE.out).mono ?_; rintro e w5 ⟨rfl, rfl⟩; rw [HB.out])
              obtain ⟨o1, p1⟩ := hown.stored i' (.int .i64 ((d : Int) + 1))
              refine ⟨⟨i' + 1, true, D.set i' ((d : Int) + 1), rfl, by go_num, by omega, by rw [List.map_set]; exact o1, Below.setCell (p := ⟨g, i', none⟩) hext hgb _, Lib.hid (hP.out.set HN.out hlt (by rw [HX.out]; exact hx0) hnear)⟩, by simp [intOf]; omega⟩
            · have HB := Lib.hid (decide_eq_false fun h5 => hnear (hiff.1 h5))
              clear hiff
              go_wp2_with (refine (HNE.out).mono ?_; rintro e w5 ⟨rfl, rfl⟩; rw [HB.out])
              exact ⟨⟨i' + 1, ch, D, rfl, by go_num, by omega, hown, hext, Lib.hid (hP.out.not HN.out hlt (by rw [HX.out]; exact hx0) hnear)⟩, by simp [intOf]; omega⟩
          · go_wp2_with fail
            exact ⟨⟨i' + 1, ch, D, rfl, by go_num, by omega, hown, hext, Lib.hid (hP.out.keep hlt (by rw [HX.out]; omega))⟩, by simp [intOf]; omega⟩
        · obtain rfl : i' = total := by omega
          have hun2 := hP.out.un
          go_wp2_with fail
          refine ⟨⟨d + 1, ch, D, rfl, by go_num, hown, hext, hDl, Lib.hid fun m hm => ?_, fun hc => by rw [hc] at hun2; simp at hun2; omega, by omega, Lib.hid fun hc m hm => ?_⟩, ?_⟩
          · have := hP.out.lo m hm hm
            rwa [show ((d + 1 : Nat) : Int) = (d : Int) + 1 by omega]
          · have := hP.out.calm hc m hm hm
            rwa [show ((d + 1 : Nat) : Int) = (d : Int) + 1 by omega]
          · cases ch <;> simp [intOf, boolNat] <;> omega
end Go.Proofs.YtadplnbadfnlfaaGreatDoor
