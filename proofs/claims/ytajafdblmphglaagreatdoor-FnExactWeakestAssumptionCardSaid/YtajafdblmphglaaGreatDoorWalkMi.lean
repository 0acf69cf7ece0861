/- Merged: WalkTr, WalkMi. -/
import Derived.Test.YtajafdblmphglaaGreatDoorWalkN
import Derived.Test.YtajafdblmphglaaGreatDoorPlainM
import Derived.Test.YtajafdblmphglaaGreatDoorWalkFB
import Derived.Test.YtajafdblmphglaaGreatDoorWalkSE
import Derived.Test.YtajafdblmphglaaGreatDoorInj
import Derived.Deep.RegionLaw
import Derived.Test.YtajafdblmphglaaGreatDoorWalkCl

namespace Go.Proofs.YtajafdblmphglaaGreatDoor
open Go Go.RowKit
set_option linter.unusedVariables false
set_option linter.unusedSimpArgs false
set_option maxHeartbeats 4000000
set_option maxRecDepth 100000

/-! ### The plain law -/
theorem trim_few {A : Auto} (hA : AutoFit A) {M : Nat} (hM : A.next.length ≤ M) : ¬ TooMany (nxT A) (letters A.alphabet) 0 M := by
  rintro ⟨l, h1, h2, h3⟩
  have h0 : 0 < A.next.length := hA.n1
  have := nodup_len l A.next.length h1 fun x hx => reach_lt h0 (fun q l hq _ => hA.step_lt hq l) (h3 x hx)
  omega
/-- The trimmed automaton. -/
def IsTrim (A : Auto) (B : Auto) : Prop := ∃ nodes, Numbers (nxT A) (letters A.alphabet) 0 nodes ∧ nodes.length ≤ 12 ∧ B = autoN (nxT A) A.alphabet (accepts A) nodes
theorem stepN_trim (A : Auto) : stepN (nxT A) A.alphabet = step A := by
  funext q l
  unfold stepN nxT
  by_cases h : bit A.alphabet l = true
  · rw [if_pos h]
  · rw [if_neg h]; simp [step, h]
theorem IsTrim.valid {A B : Auto} (hA : autoValid A = true) (h : IsTrim A B) : autoValid B = true := by
  obtain ⟨nodes, h1, h2, rfl⟩ := h
  obtain ⟨a0, a1, -⟩ := autoValid_facts hA
  exact autoN_valid (by simp only [isAlpha, Bool.and_eq_true, decide_eq_true_eq]; exact ⟨a0, a1⟩) h1 h2
theorem IsTrim.accepts {A B : Auto} (hA : autoValid A = true) (h : IsTrim A B) (v : List Int) : accepts A (run A 0 v) = accepts B (run B 0 v) := by
  obtain ⟨nodes, h1, h2, rfl⟩ := h
  obtain ⟨a0, a1, -⟩ := autoValid_facts hA
  rw [autoN_accepts a0 a1 h1, stepN_trim]; rfl

/-! ### The walk -/
theorem trimNext_c (b : Nat) (A : Auto) (q lt : Nat) (w : World) (h : ∃ v, Blk w b #[v] 94 ∧ TabV w v (table A)) (hA : AutoFit A) (hq : q < A.next.length) (hl : lt < 6) :
    Calls Tryz.prog 148 #[.int .i64 q, .int .i64 lt, .pointer (some ⟨b, 0, none⟩)] w (Grows (.int .i64 (nxT A q (lt : Nat) : Nat)) w) := by
  obtain ⟨vu, hu1, hu2⟩ := h
  obtain ⟨au, cu, rfl, -, hu3⟩ := hu2.open
  rw [table_len] at hu1
  obtain ⟨b1, o1, rfl, -, hc1⟩ := hu3 q _ (table_at A q hq)
  have g1 := hc1 q _ (table_at A q hq) lt hl
  simp only [tabRow] at g1
  obtain ⟨z, hz⟩ : ∃ z, nxT A q (lt : Nat) = z := ⟨_, rfl⟩
  have hz' : step A q (lt : Int) = z := hz
  rw [hz'] at g1
  rw [hz]
  have i1 : (q : Int) < (A.next.length : Int) := by omega
  have i2 : (lt : Int) < 6 := by omega
  clear hu3 hc1 hu2 hz hz'
  have D1 := hu1.cell 0 rfl
  go_enter Tryz.func148, Tryz.ntmps148
  go_wp2_with fail
  go_ret
  exact Grows.mk rfl (Ext.refl _)
theorem enter_trim (args : Array Value) (w : World) : (callFunc 148 args).run Tryz.prog w = .ok (.enter 148 args) w := rfl
theorem nx_trim {w0 : World} {b : Nat} {A : Auto} (h : ∃ v, Blk w0 b #[v] 94 ∧ TabV w0 v (table A)) (hA : AutoFit A) :
    NxIs w0 A.next.length (letters A.alphabet) (.func (.func 148) #[] #[.pointer (some ⟨b, 0, none⟩)]) (nxT A) := by
  have a1 := hA.a63
  refine ⟨⟨_, _, rfl, enter_trim, fun w' k l hx hk hl => ?_⟩, fun k l hk _ => hA.step_lt hk l⟩
  obtain ⟨hl0, hl6⟩ := letters_lt6 a1 l hl
  obtain ⟨lt, rfl⟩ := Int.eq_ofNat_of_zero_le hl0
  obtain ⟨v, h1, h2⟩ := h
  exact trimNext_c b A k lt w' ⟨v, h1.ext hx, h2.mono hx⟩ hA hk (by omega)

theorem trim_f (v : Value) (A : Auto) (w : World) (hv : AutoV w v A) (hA : AutoFit A) (hM : A.next.length ≤ 100) :
    Calls Tryz.prog 81 #[v] w (fun e w' => ∃ v' B, e = .returned v' ∧ Ext w w' ∧ IsTrimF A B ∧ AutoOwn w.heap.size w' v' B) := by
  obtain ⟨vn, va, rfl, hN1, hA1⟩ := hv
  obtain ⟨an, cn, rfl, -, -⟩ := hN1.open
  obtain ⟨aa, ca, rfl, -, hat⟩ := hA1.open
  have HV := Lib.hid (show ∀ w', Ext w w' → AutoV w' (.agg #[.int .i64 A.alphabet, .slice an A.next.length cn, .slice aa A.accept.length ca]) A from fun w' h => ⟨_, _, rfl, hN1.mono h, hA1.mono h⟩)
  have HAT := Lib.hid hat
  have HX := Lib.hid hA
  clear hN1 hA1 hat
  have ha0 := hA.a0
  have ha63 := hA.a63
  have hn1 := hA.n1
  have hn12 := hM
  have hna := hA.acc
  have HNA := Lib.hid hna
  clear hna hA
  obtain ⟨wo, hwo⟩ : ∃ wo, wo = (w.alloc (.cells #[.int .i64 A.alphabet, .slice an A.next.length cn, .slice aa A.accept.length ca] 29)).alloc (.cells #[.int .i64 0, .slice none 0 0, .slice none 0 0] 29) := ⟨_, rfl⟩
  have he : Ext w wo := by rw [hwo]; exact (Ext.alloc _ _).trans (Ext.alloc _ _)
  have b1 : Blk wo w.heap.size #[.int .i64 A.alphabet, .slice an A.next.length cn, .slice aa A.accept.length ca] 29 := by rw [hwo]; exact Ext.blk (Ext.alloc _ _)
  have b2 : Blk wo (w.heap.size + 1) #[.int .i64 0, .slice none 0 0, .slice none 0 0] 29 := by rw [hwo]; exact Ext.blk1 (Ext.refl _)
  go_enter Tryz.func81, Tryz.ntmps81
  go_upto_region 1 with fail
  rw [← hwo]
  clear hwo
  have c0 := b1.cell 0 rfl; have c1 := b1.cell 1 rfl; have c2 := b1.cell 2 rfl
  go_wp2_with fail
  refine (tableOf_f _ A _ (HV.out _ he) HX.out (by omega)).mono ?_
  rintro e w1 ⟨vt, rfl, he1, htb⟩
  obtain ⟨aT, cT, rfl, -, -⟩ := htb.tab.open
  rw [table_len] at *
  clear c0 c1 c2
  go_upto_region 2 with fail
  obtain ⟨w2, hw2⟩ : ∃ w2, w2 = w1.alloc (.cells #[.slice aT A.next.length cT] 94) := ⟨_, rfl⟩
  have y2 : Ext w1 w2 := by rw [hw2]; exact Ext.alloc _ _
  have b3 : Blk w2 w1.heap.size #[.slice aT A.next.length cT] 94 := by rw [hw2]; exact Blk.new _ _ _
  rw [← hw2]
  clear hw2
  have l1 := (he.trans he1).size
  have l12 := (b2.ext he1).lt
  generalize w1.heap.size = p3 at b3 l1 l12 ⊢
  have HT := Lib.hid (show ∃ v, Blk w2 p3 #[v] 94 ∧ TabV w2 v (table A) from ⟨_, b3, htb.tab.mono y2⟩)
  replace he := (he.trans he1).trans y2
  replace b1 := (b1.ext he1).ext y2
  replace b2 := (b2.ext he1).ext y2
  clear htb he1 y2
  have D0 := fun d os => cell_regrown (b1.cell 0 rfl) d os
  have D3 := fun d os => cell_regrown (b3.cell 0 rfl) d os
  obtain ⟨nx, hnx⟩ : ∃ nx, nxT A = nx := ⟨_, rfl⟩
  obtain ⟨L, hL⟩ : ∃ L, letters A.alphabet = L := ⟨_, rfl⟩
  have hL6 : L.length ≤ 6 := by rw [← hL]; exact lettersTo_len A.alphabet 6
  have HNX := Lib.hid hnx
  have HLE := Lib.hid hL
  clear hnx hL
  obtain ⟨Kc, HKc⟩ : ∃ Kc : FuncId → Array Value → World → Value → World → Prop, Hid (Kc = fun f args w0 v w' => Ext w0 w' ∧ (f = 51 → IntsV w' v L) ∧ (f = 67 → NumbsEnd nx L 0 A.next.length w0 (.returned v) w')) := ⟨_, rfl⟩
  refine wp_region_ext (Kc := Kc) 14 (by kernel_rfl) (by kernel_rfl) ?_
  simp only [List.take_succ_cons, List.take_zero]
  repeat (refine WalkE.pure rfl (fun K hK => ?_); simp only [PureDo]; go_simp; refine hK _ ?_; clear hK K)
  refine WalkE.step (fun K hK wc hwc hdc => ?_)
  simp only [OpDo, OpSafe, OpOut]
  go_simp
  refine ⟨(lettersOf_c _ _ ha0 ha63).mono ?_, ?_⟩
  · rintro e w' ⟨v, rfl, he', hl⟩
    exact ⟨v, rfl, by rw [HKc.out, ← HLE.out]; exact ⟨he', fun _ => hl, fun h => absurd h (by decide)⟩⟩
  intro u4 w4 hk4
  rw [HKc.out] at hk4
  have hl4 := hk4.2.1 rfl
  refine ⟨hk4.1, hK _ _ ?_⟩
  clear hK K hdc hk4
  obtain ⟨aL, cL, rfl, -, -⟩ := hl4.open
  repeat (refine WalkE.pure rfl (fun K hK => ?_); simp only [PureDo]; go_simp; refine hK _ ?_; clear hK K)
  refine WalkE.step (fun K hK wd hwd hdd => ?_)
  simp only [OpDo, OpSafe, OpOut]
  go_simp
  have x2d : Ext w2 wd := (Ext.drew _).trans hwd
  have hN : NxIs wd A.next.length L (.func (.func 148) #[] #[.pointer (some ⟨p3, 0, none⟩)]) nx := by
    rw [← HNX.out, ← HLE.out]
    exact nx_trim (let ⟨v, h1, h2⟩ := HT.out; ⟨v, h1.ext x2d, h2.mono x2d⟩) HX.out
  refine ⟨(numbered_c 0 A.next.length A.next.length _ _ L nx _ (hl4.mono (hdd ⟨2, .data⟩ (by simp) rfl)) hL6 (by omega) (by omega) (by omega) (by omega) hN).mono ?_, ?_⟩
  · rintro e w' hne
    have hne' := hne
    obtain ⟨he', hr⟩ := hne'
    obtain ⟨v, rfl⟩ : ∃ v, e = .returned v := by
      rcases hr with ⟨_, _, _, _, _, e1, -⟩ | ⟨e1, -⟩ <;> exact ⟨_, e1⟩
    exact ⟨v, rfl, by rw [HKc.out]; exact ⟨he', fun h => absurd h (by decide), fun _ => hne⟩⟩
  intro u6 w6 hk6
  rw [HKc.out] at hk6
  have hn6 := hk6.2.2 rfl
  obtain ⟨x6, nodes, vS, vR, vs, rows, e6, hnum, hlen, hP, hrows, hvl⟩ | htm : Ext wd w6 ∧ (∃ nodes vS vR vs rows, u6 = .tuple #[vS, vR, .bool true] ∧ Numbers nx L 0 nodes ∧ nodes.length ≤ A.next.length ∧ Pool wd.heap.size w6 (numPool vS vR nodes.length nodes nodes.length vs rows) ∧ rows = nodes.map (rowN nx L nodes) ∧ vs.length = nodes.length) ∨ TooMany nx L 0 A.next.length := by
    obtain ⟨x6, h | h⟩ := hn6
    · obtain ⟨nodes, vS, vR, vs, rows, e6, h⟩ := h
      exact .inl ⟨x6, nodes, vS, vR, vs, rows, by injection e6, h⟩
    · exact .inr h.2
  case inr =>
    rw [← HNX.out, ← HLE.out] at htm
    exact absurd htm (trim_few HX.out (Nat.le_refl _))
  subst e6
  refine ⟨hk6.1, hK _ _ ?_⟩
  clear hK K hdd hk6 hn6 hl4 hN
  repeat (refine WalkE.pure rfl (fun K hK => ?_); simp only [PureDo]; go_simp; refine hK _ ?_; clear hK K)
  refine WalkE.nil (fun wn hwn hmn => ?_)
  simp only [List.drop_succ_cons, List.drop_zero, List.drop_nil]
  have hPn := hP.ext (hmn 6 (by omega))
  have xn : Ext w2 wn := (Ext.drew _).trans hwn
  have sB : w2.heap.size ≤ wd.heap.size := x2d.size
  have sN : wd.heap.size ≤ wn.heap.size := Nat.le_trans x6.size (hmn 6 (by omega)).size
  clear hmn HKc D0 D3 hwn hwd hwc hP x6 x2d
  generalize wd.heap.size = base at hPn sB sN ⊢
  clear wd wc w4
  replace he := he.trans xn
  replace b1 := b1.ext xn
  replace b2 := b2.ext xn
  have l2w : w.heap.size + 1 < w2.heap.size := by have := b3.lt; omega
  clear b3 xn HT
  obtain ⟨aR, cR, rfl⟩ := own_any' (Pool.hd2 hPn)
  obtain ⟨aS, cS, rfl⟩ := own_any' (Pool.hd hPn)
  have HB := Lib.hid (show ∀ n ∈ nodes, n < A.next.length from fun n hn => by
    have := hnum.reach n hn
    rw [← HNX.out, ← HLE.out] at this
    exact reach_lt (by omega) (fun k l hk _ => HX.out.step_lt hk l) this)
  have HNU := Lib.hid hnum
  have HRW := Lib.hid hrows
  have HVL := Lib.hid hvl
  clear hnum hrows hvl
  have c0 := b1.cell 0 rfl; have c1 := b1.cell 1 rfl; have c2 := b1.cell 2 rfl
  go_upto_region 4 with fail
  obtain ⟨w3, hw3⟩ : ∃ w3, w3 = wn.alloc (.cells #[.int .i64 A.alphabet, .slice aR nodes.length cR, .slice none 0 0] 29) := ⟨_, rfl⟩
  have y3 : Ext wn w3 := by rw [hw3]; exact Ext.alloc _ _
  have b7 : Blk w3 wn.heap.size #[.int .i64 A.alphabet, .slice aR nodes.length cR, .slice none 0 0] 29 := by rw [hw3]; exact Blk.new _ _ _
  rw [← hw3]
  clear hw3
  replace he := he.trans y3
  replace b1 := b1.ext y3
  replace b2 := b2.ext y3
  replace hPn := (hPn.ext y3).addNil 4 1
  have sN3 : base ≤ w3.heap.size := Nat.le_trans sN y3.size
  clear y3 c0 c1 c2
  generalize wn.heap.size = G at b7 sN ⊢
  clear wn
  go_wp2_with fail
  go_loopw [29] (fun i wr => ∃ (k : Nat) (va : Value), k ≤ nodes.length ∧ i = .int .i64 k ∧ Blk wr G #[.int .i64 A.alphabet, .slice aR nodes.length cR, va] 29 ∧ Pool base wr (⟨4, 1, va, k, ((nodes.take k).map (accepts A)).map Value.bool⟩ :: numPool (.slice aS nodes.length cS) (.slice aR nodes.length cR) nodes.length nodes nodes.length vs rows) ∧ Blk wr w.heap.size #[.int .i64 A.alphabet, .slice an A.next.length cn, .slice aa A.accept.length ca] 29 ∧ Blk wr (w.heap.size + 1) #[.int .i64 0, .slice none 0 0, .slice none 0 0] 29 ∧ Ext w wr ∧ base ≤ wr.heap.size) (fun i _ => nodes.length - (intOf i).toNat)
  case atStart => exact ⟨0, _, by omega, rfl, b7, hPn, b1, b2, he, sN3⟩
  case round =>
    clear b7 hPn b1 b2 he sN3
    obtain ⟨k, va, hk, rfl, b7, hP, b1, b2, he, hsz⟩ := hrel
    obtain ⟨aA, cA, rfl⟩ := own_any' (Pool.hd hP)
    by_cases hlt : k < nodes.length
    · obtain ⟨n, hnk⟩ : ∃ n, nodes[k]? = some n := ⟨_, List.getElem?_eq_getElem (by omega)⟩
      obtain ⟨gS, cS', e6, gs⟩ := own_at (Pool.hd2 hP) (j := k) (u := .int .i64 n) (by rw [List.getElem?_map, ints_at hnk]; rfl)
      cases e6
      have hnB := HB.out n (List.mem_of_getElem? hnk)
      obtain ⟨b9, o9, rfl, -, hc9⟩ := HAT.out n _ (HX.out.accepts_at hnB)
      have g9 : wr.cell? ⟨b9, o9 + n, none⟩ = some (.bool (accepts A n)) := by have := hc9 n _ (HX.out.accepts_at hnB); rw [Nat.mul_one] at this; exact he.cell this
      obtain ⟨z, hz⟩ : ∃ z, accepts A n = z := ⟨_, rfl⟩
      rw [hz] at g9
      have HZ := Lib.hid hz
      have HNK := Lib.hid hnk
      have i1 : (n : Int) < (A.accept.length : Int) := by have := HNA.out; omega
      have i2 : (k : Int) < (nodes.length : Int) := by omega
      clear hc9 hz hnk hnB
      go_wp2_with fail
      clear gs
      have D0 := fun d os => cell_regrown (b7.cell 2 rfl) d os
      have D1 := fun d os => cell_regrown (b1.cell 2 rfl) d os
      have D2 := fun d os => cell_regrown g9 d os
      obtain ⟨Kc, HKc⟩ : ∃ Kc : FuncId → Array Value → World → Value → World → Prop, Hid (Kc = fun _ _ _ _ _ => False) := ⟨_, rfl⟩
      refine wp_region_ext (Kc := Kc) 8 (by kernel_rfl) (by kernel_rfl) ?_
      simp only [List.take_succ_cons, List.take_zero]
      repeat (refine WalkE.pure rfl (fun K hK => ?_); simp only [PureDo]; go_simp; refine hK _ ?_; clear hK K)
      refine WalkE.step (fun K hK we hwe hde => ?_)
      simp only [OpDo, OpSafe, OpOut]
      go_simp
      refine ⟨Ext.alloc _ _, hK _ _ ?_⟩
      clear hK K hde
      refine WalkE.nil (fun wn hwn hmn => ?_)
      simp only [List.drop_succ_cons, List.drop_zero, List.drop_nil]
      have x0 : Ext wr wn := (Ext.drew _).trans hwn
      have hbn : Blk wn we.heap.size #[.bool z] 4 := (Blk.new we _ _).ext (hmn 7 (by omega))
      have hcell : ∀ (j : Nat) u, [Value.bool z][j]? = some u → wn.cell? ((⟨we.heap.size, 0, none⟩ : Addr).add j) = some u := fun j u hu => by
        rw [add_none, Nat.zero_add]
        exact hbn.cell j (by simpa using hu)
      have hP3 := hP.ext x0
      have b73 := b7.ext x0
      have b13 := b1.ext x0
      have b23 := b2.ext x0
      have he3 := he.trans x0
      have hs3 := Nat.le_trans hsz x0.size
      clear hmn HKc D0 D1 D2 hwn hwe hbn x0 hP b7 b1 b2 he hsz g9 i1 i2
      generalize we.heap.size = gN at hcell ⊢
      go_wp2_with (at_builtin; refine appPN (news := [Value.bool z]) rfl rfl Tryz.underlying27 infoBool rfl (by decide) hP3 rfl rfl (by simp) hcell (by simp [Value.oneCell']) (by omega) (by decide) hs3 ?_; intro v1 w7 hP1 hg1 hb1; obtain ⟨a1, c1, rfl⟩ := own_any' (Pool.hd hP1); have b74 := b73.grown (Pool.hd hP3) hg1 (by decide); have g2 := b74.cell 2 rfl; have f2 := b74.fr 2)
      have hd := Pool.hd hP3
      refine ⟨⟨k + 1, _, by omega, by go_num, b74.set 2 (.slice a1 (k + 1) c1), ?_, (b13.grown hd hg1 (by decide)).other (p := ⟨G, 2, none⟩) (by simp only []; omega) _, (b23.grown hd hg1 (by decide)).other (p := ⟨G, 2, none⟩) (by simp only []; omega) _, (Below.trans he3 (hb1.mono (by omega))).setCell (p := ⟨G, 2, none⟩) (by simp only []; omega) _, by simp; exact Nat.le_trans hs3 hg1.size⟩, by simp [intOf]; omega⟩
      rw [List.take_add_one, HNK.out, List.map_append, List.map_append, Option.toList_some, List.map_singleton, List.map_singleton, HZ.out]
      exact Pool.set hP1 b74 (fun t ht => by
        rcases List.mem_cons.1 ht with e | ht
        · rw [e]; dsimp only; decide
        rcases List.mem_cons.1 ht with e | ht
        · rw [e]; dsimp only; decide
        rcases List.mem_cons.1 ht with e | ht
        · rw [e]; dsimp only; decide
        · rw [slRows_e t ht]; decide) 2 (.slice a1 (k + 1) c1)
    · obtain rfl : k = nodes.length := by omega
      have hEND : AutoOwn base wr (.agg #[.int .i64 A.alphabet, .slice aR nodes.length cR, .slice aA nodes.length cA]) (autoN (nxT A) A.alphabet (accepts A) nodes) := by
        have hp := (hP.perm (((List.Perm.swap _ _ _).trans ((List.Perm.swap _ _ _).cons _)))).tail
        rw [List.take_length] at hp
        refine Pool.auto (x := autoN (nxT A) A.alphabet (accepts A) nodes) (vs := vs) (vn := .slice aR nodes.length cR) (va := .slice aA nodes.length cA) (w := wr) (base := base) ?_ (by rw [HVL.out]; simp [autoN])
        have e1 : (autoN (nxT A) A.alphabet (accepts A) nodes).next = rows := by rw [HRW.out, ← HNX.out, ← HLE.out]; rfl
        have e2 : (autoN (nxT A) A.alphabet (accepts A) nodes).accept = nodes.map (accepts A) := rfl
        rw [e1, e2, HRW.out, List.length_map, List.length_map, ← HRW.out]
        exact hp
      have HEND := Lib.hid hEND
      have hlB : w.heap.size ≤ base := by omega
      have gc0 := b7.cell 0 rfl; have gc1 := b7.cell 1 rfl; have gc2 := b7.cell 2 rfl
      have rc0 := b2.cell 0 rfl; have rf0 := b2.fr 0; have rc1 := b2.cell 1 rfl; have rf1 := b2.fr 1; have rc2 := b2.cell 2 rfl; have rf2 := b2.fr 2
      clear hEND hP b1
      go_wp2_with fail
      refine bodyPost_ret (v := .agg #[.int .i64 A.alphabet, .slice aR nodes.length cR, .slice aA nodes.length cA]) (by simp [results, Tryz.results81, go_sem, rc0, rc1, rc2, rf0, rf1, rf2]) rfl ?_
      have hnu := HNU.out
      rw [← HNX.out, ← HLE.out] at hnu
      refine ⟨_, _, rfl, (((he.setCell (p := ⟨(w.heap.size + 1), 0, none⟩) (by simp only []; omega) _).setCell (p := ⟨(w.heap.size + 1), 1, none⟩) (by simp only []; omega) _).setCell (p := ⟨(w.heap.size + 1), 2, none⟩) (by simp only []; omega) _), ⟨nodes, hnu, rfl⟩, ?_⟩
      exact (auto_store (auto_store (auto_store HEND.out b2 (by decide) (by decide) (by decide) 0 _) (b2.set 0 _) (by decide) (by decide) (by decide) 1 _) ((b2.set 0 _).set 1 _) (by decide) (by decide) (by decide) 2 _).low hlB
end Go.Proofs.YtajafdblmphglaaGreatDoor

namespace Go.Proofs.YtajafdblmphglaaGreatDoor
open Go Go.RowKit
set_option linter.unusedVariables false
set_option linter.unusedSimpArgs false
set_option maxHeartbeats 4000000
set_option maxRecDepth 100000

theorem quo_next (A : Auto) : (quo A).next = (clsD A).map (rowN nxR (letters A.alphabet) (clsD A)) := rfl
theorem quo_acc (A : Auto) : (quo A).accept = (clsD A).map fun g => g [] := rfl
theorem perm_min (a n w c : Slc) (R : List Slc) : (a :: n :: w :: c :: R).Perm (n :: a :: c :: (R ++ [w])) :=
  (List.Perm.swap n a _).trans ((((List.Perm.swap c w R).trans ((List.perm_append_singleton w R).symm.cons c)).cons a).cons n)
def MinEnd (A : Auto) (w : World) (e : Ending) (w' : World) : Prop := ∃ v' B, e = .returned v' ∧ Ext w w' ∧ IsMin (res A 0) A.alphabet B ∧ AutoOwn w.heap.size w' v' B

theorem minimize_c (v : Value) (A : Auto) (w : World) (hv : AutoV w v A) (hA : AutoFit A) (hM : A.next.length < 100) :
    Calls Tryz.prog 52 #[v] w (MinEnd A w) := by
  obtain ⟨vn, va, rfl, hN1, hA1⟩ := hv
  obtain ⟨an, cn, rfl, -, hn2⟩ := hN1.open
  obtain ⟨aa, ca, rfl, -, hat⟩ := hA1.open
  have HV := Lib.hid (show ∀ w', Ext w w' → AutoV w' (.agg #[.int .i64 A.alphabet, .slice an A.next.length cn, .slice aa A.accept.length ca]) A from fun w' h => ⟨_, _, rfl, hN1.mono h, hA1.mono h⟩)
  have HN2 := Lib.hid hn2
  have HAT := Lib.hid hat
  have HX := Lib.hid hA
  have HACC := Lib.hid hA.acc
  have hn1 := hA.n1
  have hL6 : (letters A.alphabet).length ≤ 6 := lettersTo_len A.alphabet 6
  clear hN1 hA1 hat hn2 hA
  obtain ⟨wo, hwo⟩ : ∃ wo, wo = (w.alloc (.cells #[.int .i64 A.alphabet, .slice an A.next.length cn, .slice aa A.accept.length ca] 29)).alloc (.cells #[.int .i64 0, .slice none 0 0, .slice none 0 0] 29) := ⟨_, rfl⟩
  have he : Ext w wo := by rw [hwo]; exact (Ext.alloc _ _).trans (Ext.alloc _ _)
  have b1 : Blk wo w.heap.size #[.int .i64 A.alphabet, .slice an A.next.length cn, .slice aa A.accept.length ca] 29 := by rw [hwo]; exact Ext.blk (Ext.alloc _ _)
  have b2 : Blk wo (w.heap.size + 1) #[.int .i64 0, .slice none 0 0, .slice none 0 0] 29 := by rw [hwo]; exact Ext.blk1 (Ext.refl _)
  go_enter Tryz.func52, Tryz.ntmps52
  go_upto_region 1 with fail
  rw [← hwo]
  clear hwo
  have c0 := b1.cell 0 rfl; have c1 := b1.cell 1 rfl; have c2 := b1.cell 2 rfl
  go_wp2_with fail
  refine (classesOf_c _ A _ (HV.out _ he) HX.out hM).mono ?_
  rintro e w1 ⟨gC, capC, rfl, he1, hC⟩
  have hwl := he.size
  have l2w : w.heap.size + 1 < wo.heap.size := b2.lt
  have hC1 : SetsOwn wo.heap.size A.next.length gC capC w1 (clsOf A) := hC
  replace he := he.trans he1
  replace b1 := b1.ext he1
  replace b2 := b2.ext he1
  have sB : wo.heap.size ≤ w1.heap.size := he1.size
  clear c0 c1 c2 he1 hC
  generalize wo.heap.size = base at hC1 sB l2w hwl
  clear wo
  have c0 := b1.cell 0 rfl; have c1 := b1.cell 1 rfl; have c2 := b1.cell 2 rfl
  go_upto_region 3 with fail
  obtain ⟨w3, hw3⟩ : ∃ w3, w3 = w1.alloc (.cells #[.int .i64 A.alphabet, .slice none 0 0, .slice none 0 0] 29) := ⟨_, rfl⟩
  have y3 : Ext w1 w3 := by rw [hw3]; exact Ext.alloc _ _
  have b7 : Blk w3 w1.heap.size #[.int .i64 A.alphabet, .slice none 0 0, .slice none 0 0] 29 := by rw [hw3]; exact Blk.new _ _ _
  rw [← hw3]
  clear hw3
  replace he := he.trans y3
  replace b1 := b1.ext y3
  replace b2 := b2.ext y3
  have hP0 : Pool base w3 [⟨81, 1, .slice none 0 0, 0, []⟩, ⟨4, 1, .slice none 0 0, 0, []⟩, ⟨3, 1, .slice (some ⟨gC, 0, none⟩) A.next.length capC, A.next.length, (setsL A.next.length (clsOf A)).map (Value.int .i64)⟩] := by
    have p0 : Pool base w3 [⟨3, 1, .slice (some ⟨gC, 0, none⟩) A.next.length capC, A.next.length, (setsL A.next.length (clsOf A)).map (Value.int .i64)⟩] := ⟨fun s hs => by
      obtain rfl : s = _ := by simpa using hs
      exact hC1.ext y3, List.pairwise_cons.2 ⟨fun s hs => by (cases hs), List.Pairwise.nil⟩⟩
    exact (p0.addNil 4 1).addNil 81 1
  have sN3 : base ≤ w3.heap.size := Nat.le_trans sB y3.size
  clear y3 c0 c1 c2 hC1
  generalize w1.heap.size = G at b7 sB ⊢
  clear w1
  go_wp2_with fail
  have hR0 : Hid (([] : List Value).length = 0) := Lib.hid rfl
  go_loopw [17] (fun i wr => ∃ (k : Nat) (va vN : Value) (m : Nat) (vs : List Value) (rows : List (List Int)), k ≤ A.next.length ∧ i = .int .i64 k ∧ m ≤ k ∧ Hid ((ddTo (res A) k).length = m) ∧ Hid (vs.length = m) ∧ Hid (rows = (ddTo (res A) k).map (rowN nxR (letters A.alphabet) (clsD A))) ∧ Blk wr G #[.int .i64 A.alphabet, vN, va] 29 ∧ Pool base wr (⟨81, 1, vN, m, vs⟩ :: ⟨4, 1, va, m, ((ddTo (res A) k).map fun g => g []).map Value.bool⟩ :: ⟨3, 1, .slice (some ⟨gC, 0, none⟩) A.next.length capC, A.next.length, (setsL A.next.length (clsOf A)).map (Value.int .i64)⟩ :: slRows 3 vs rows) ∧ Blk wr w.heap.size #[.int .i64 A.alphabet, .slice an A.next.length cn, .slice aa A.accept.length ca] 29 ∧ Blk wr (w.heap.size + 1) #[.int .i64 0, .slice none 0 0, .slice none 0 0] 29 ∧ Ext w wr ∧ base ≤ wr.heap.size) (fun i _ => A.next.length - (intOf i).toNat)
  case atStart => exact ⟨0, _, _, 0, [], [], by omega, rfl, by omega, Lib.hid rfl, hR0, Lib.hid rfl, b7, hP0, b1, b2, he, sN3⟩
  case round =>
    clear b7 hP0 b1 b2 he sN3 hR0
    obtain ⟨k, va, vN, m, vs, rows, hk, rfl, hmk, HM, HVL, HRW, b7, hP, b1, b2, he, hsz⟩ := hrel
    obtain ⟨aN, cN, rfl⟩ := own_any' (Pool.hd hP)
    obtain ⟨aA, cA, rfl⟩ := own_any' (Pool.hd2 hP)
    by_cases hlt : k < A.next.length
    · have hkn : (k : Int) < (A.next.length : Int) := by omega
      have gk : wr.cell? ⟨gC, k, none⟩ = some (.int .i64 (clsOf A k : Int)) := own_cell (Pool.hd3 hP) (by rw [List.getElem?_map, setsL_at _ hlt]; rfl)
      have hold := ddTo_lt (f := res A) hlt
      obtain ⟨ck, hck⟩ : ∃ ck, clsOf A k = ck := ⟨_, rfl⟩
      rw [show (ddTo (res A) A.next.length).idxOf (res A k) = ck from hck, HM.out] at hold
      rw [hck] at gk
      have HCK := Lib.hid hck
      have d71 := b7.cell 1 rfl
      clear hck
      by_cases hmem : res A k ∈ ddTo (res A) k
      · have hlt2 : (ck : Int) < (m : Int) := by have := hold.2 hmem; omega
        have e1 : ddTo (res A) (k + 1) = ddTo (res A) k := by rw [ddTo_succ]; exact if_pos hmem
        have HE := Lib.hid e1
        clear hold hmem e1
        go_wp2_with fail
        refine ⟨⟨k + 1, _, _, m, vs, rows, by omega, by go_num, by omega, Lib.hid (by rw [HE.out]; exact HM.out), HVL, Lib.hid (by rw [HE.out]; exact HRW.out), b7, ?_, b1, b2, he, hsz⟩, by simp [intOf]; omega⟩
        rw [HE.out]; exact hP
      · have hlt2 : ¬ (ck : Int) < (m : Int) := by
          intro h
          exact hmem (hold.1 (by omega))
        have e1 : ddTo (res A) (k + 1) = ddTo (res A) k ++ [res A k] := by rw [ddTo_succ]; exact if_neg hmem
        have HE := Lib.hid e1
        obtain ⟨row, hr, hrl, -⟩ := HX.out.row hlt
        obtain ⟨b, off, rfl, -, hc3⟩ := HN2.out k row hr
        obtain ⟨vr, g1, hvr⟩ := hc3 k row hr
        rw [Nat.mul_one] at g1
        have g1r := he.cell g1
        obtain ⟨ar, cr, rfl, -, hrr⟩ := hvr.open
        have HRR := Lib.hid hrr
        have HR1 := Lib.hid hr
        have HRL := Lib.hid (show row.length = (letters A.alphabet).length from hrl)
        have d11 := b1.cell 1 rfl
        clear hold hmem e1 hc3 hr hvr hrr hrl g1
        have hPW := hP.addNil 3 1
        go_wp2_with fail
        go_loopw [7, 33] (fun vW j wr => ∃ q : Nat, q ≤ row.length ∧ j = .int .i64 q ∧ Blk wr G #[.int .i64 A.alphabet, .slice aN m cN, .slice aA m cA] 29 ∧ Pool base wr (⟨3, 1, vW, q, (((letters A.alphabet).take q).map fun l => (clsOf A (step A k l) : Int)).map (Value.int .i64)⟩ :: ⟨81, 1, .slice aN m cN, m, vs⟩ :: ⟨4, 1, .slice aA m cA, m, ((ddTo (res A) k).map fun g => g []).map Value.bool⟩ :: ⟨3, 1, .slice (some ⟨gC, 0, none⟩) A.next.length capC, A.next.length, (setsL A.next.length (clsOf A)).map (Value.int .i64)⟩ :: slRows 3 vs rows) ∧ Blk wr w.heap.size #[.int .i64 A.alphabet, .slice (some ⟨b, off, none⟩) A.next.length cn, .slice aa A.accept.length ca] 29 ∧ Blk wr (w.heap.size + 1) #[.int .i64 0, .slice none 0 0, .slice none 0 0] 29 ∧ Ext w wr ∧ base ≤ wr.heap.size) (fun _ j _ => row.length - (intOf j).toNat)
        case atStart => exact ⟨0, by omega, rfl, b7, hPW, b1, b2, he, hsz⟩
        case round =>
          clear hP hPW b7 b1 b2 he hsz g1r d11 d71 gk
          obtain ⟨q, hq, rfl, b7, hP, b1, b2, he, hsz⟩ := hrel
          obtain ⟨aW, cW, rfl⟩ := own_any' (Pool.hd hP)
          by_cases hql : q < row.length
          · obtain ⟨l, hl⟩ : ∃ l, (letters A.alphabet)[q]? = some l := ⟨_, List.getElem?_eq_getElem (by rw [← HRL.out]; exact hql)⟩
            obtain ⟨hb, h0, h6, hm6⟩ := letters_mem _ _ _ HX.out.a63 hl
            have hp := ((letters_place _ _ q HX.out.a0 HX.out.a63 h0 h6 hm6).1 hl).2
            obtain ⟨row', z, hr', hz, rfl, hzn⟩ := HX.out.step_facts hlt hb
            rw [HR1.out] at hr'
            cases hr'
            rw [hp] at hz
            obtain ⟨y, hy⟩ : ∃ y, step A k l = y := ⟨_, rfl⟩
            rw [hy] at hz hzn
            obtain ⟨b5, off5, rfl, -, hc2⟩ := HRR.out q _ hz
            have g2 := he.cell (hc2 q _ hz)
            rw [Nat.mul_one] at g2
            have gy : wr.cell? ⟨gC, y, none⟩ = some (.int .i64 (clsOf A y : Int)) := own_cell (Pool.hd4 hP) (by rw [List.getElem?_map, setsL_at _ hzn]; rfl)
            obtain ⟨cy, hcy⟩ : ∃ cy, clsOf A y = cy := ⟨_, rfl⟩
            rw [hcy] at gy
            have HCY : Hid (clsOf A (step A k l) = cy) := Lib.hid (by rw [hy]; exact hcy)
            have HL := Lib.hid hl
            have hyi : (y : Int) < (A.next.length : Int) := by omega
            have hqi : (q : Int) < (row.length : Int) := by omega
            clear hc2 hz hb hp h0 h6 hl hy hcy
            go_wp2_with (at_builtin; refine appP (news := [Value.int .i64 (cy : Int)]) rfl rfl Tryz.underlying81 infoInt rfl (by decide) hP rfl rfl rfl (by simp [Value.oneCell']) (by omega) (by decide) hsz ?_; intro v1 w6 hP1 hg1 hb1)
            have hd := Pool.hd hP
            refine ⟨⟨q + 1, by omega, by go_num, b7.grown hd hg1 (by decide), ?_, b1.grown hd hg1 (by decide), b2.grown hd hg1 (by decide), Below.trans he (hb1.mono (by omega)), Nat.le_trans hsz hg1.size⟩, by simp [intOf]; omega⟩
            rw [List.take_add_one, HL.out, List.map_append, List.map_append, Option.toList_some, List.map_singleton, List.map_singleton, HCY.out]
            exact hP1
          · obtain rfl : q = row.length := by omega
            have HROW : Hid (((letters A.alphabet).take row.length).map (fun l => (clsOf A (step A k l) : Int)) = rowN nxR (letters A.alphabet) (clsD A) (res A k)) := Lib.hid (by rw [HRL.out, List.take_length]; rfl)
            rw [HROW.out] at hP
            have HRLN : Hid ((rowN nxR (letters A.alphabet) (clsD A) (res A k)).length = row.length) := Lib.hid (by rw [HRL.out]; simp [rowN])
            have hPN := hP.perm (List.Perm.swap _ _ _)
            have d71 := b7.cell 1 rfl
            have hm32 : m ≤ 4294967296 := by omega
            clear hP
            go_wp2_with (at_builtin; refine appP (news := [Value.slice aW row.length cW]) rfl rfl Tryz.underlying26 infoInts rfl (by decide) hPN rfl rfl rfl (by simp [Value.oneCell']) hm32 (by decide) hsz ?_; intro v1 w6 hP1 hg1 hb1; obtain ⟨a1, c1, rfl⟩ := own_any' (Pool.hd hP1); have b76 := b7.grown (Pool.hd hPN) hg1 (by decide); have g2 := b76.cell 1 rfl; have f2 := b76.fr 1)
            have hd := Pool.hd hPN
            have b77 := b76.set 1 (.slice a1 (m + 1) c1)
            have b17 := (b1.grown hd hg1 (by decide)).other (p := ⟨G, 1, none⟩) (by simp only []; omega) (.slice a1 (m + 1) c1)
            have b27 := (b2.grown hd hg1 (by decide)).other (p := ⟨G, 1, none⟩) (by simp only []; omega) (.slice a1 (m + 1) c1)
            have he7 : Ext w (w6.setCell ⟨G, 1, none⟩ (.slice a1 (m + 1) c1)) := (Below.trans he (hb1.mono (by omega))).setCell (p := ⟨G, 1, none⟩) (by simp only []; omega) (.slice a1 (m + 1) c1)
            have hs7 : base ≤ (w6.setCell ⟨G, 1, none⟩ (.slice a1 (m + 1) c1)).heap.size := by simp; exact Nat.le_trans hsz hg1.size
            have hP7 := Pool.set hP1 b76 (fun t ht => by
              rcases List.mem_cons.1 ht with e | ht
              · rw [e]; dsimp only; decide
              rcases List.mem_cons.1 ht with e | ht
              · rw [e]; dsimp only; decide
              rcases List.mem_cons.1 ht with e | ht
              · rw [e]; dsimp only; decide
              rcases List.mem_cons.1 ht with e | ht
              · rw [e]; dsimp only; decide
              · rw [slRows_e t ht]; decide) 1 (.slice a1 (m + 1) c1)
            clear hP1 hPN hd b7 b76 b1 b2 he hb1 hg1 hsz g2 f2 d71
            generalize w6.setCell ⟨G, 1, none⟩ (.slice a1 (m + 1) c1) = w7 at b77 b17 b27 he7 hs7 hP7 ⊢
            clear w6
            have hP8 := hP7.perm (((List.Perm.swap _ _ _).cons _).trans (List.Perm.swap _ _ _))
            obtain ⟨b9, o9, rfl, -, hc9⟩ := HAT.out k _ (HX.out.accepts_at hlt)
            have g9 : w7.cell? ⟨b9, o9 + k, none⟩ = some (.bool (accepts A k)) := by have := hc9 k _ (HX.out.accepts_at hlt); rw [Nat.mul_one] at this; exact he7.cell this
            obtain ⟨z, hz⟩ : ∃ z, accepts A k = z := ⟨_, rfl⟩
            rw [hz] at g9
            have HZ := Lib.hid hz
            have i1 : (k : Int) < (A.accept.length : Int) := by have := HACC.out; omega
            have i2 : (k : Int) < (A.next.length : Int) := by omega
            have D0 := fun d os => cell_regrown (b77.cell 2 rfl) d os
            have D1 := fun d os => cell_regrown (b17.cell 2 rfl) d os
            have D2 := fun d os => cell_regrown g9 d os
            clear hP7 hc9 hz
            obtain ⟨Kc, HKc⟩ : ∃ Kc : FuncId → Array Value → World → Value → World → Prop, Hid (Kc = fun _ _ _ _ _ => False) := ⟨_, rfl⟩
            refine wp_region_ext (Kc := Kc) 8 (by kernel_rfl) (by kernel_rfl) ?_
            simp only [List.take_succ_cons, List.take_zero]
            repeat (refine WalkE.pure rfl (fun K hK => ?_); simp only [PureDo]; go_simp; refine hK _ ?_; clear hK K)
            refine WalkE.step (fun K hK we hwe hde => ?_)
            simp only [OpDo, OpSafe, OpOut]
            go_simp
            refine ⟨Ext.alloc _ _, hK _ _ ?_⟩
            clear hK K hde
            refine WalkE.nil (fun wn hwn hmn => ?_)
            simp only [List.drop_succ_cons, List.drop_zero, List.drop_nil]
            have x0 : Ext w7 wn := (Ext.drew _).trans hwn
            have hbn : Blk wn we.heap.size #[.bool z] 4 := (Blk.new we _ _).ext (hmn 7 (by omega))
            have hcell : ∀ (j : Nat) u, [Value.bool z][j]? = some u → wn.cell? ((⟨we.heap.size, 0, none⟩ : Addr).add j) = some u := fun j u hu => by
              rw [add_none, Nat.zero_add]
              exact hbn.cell j (by simpa using hu)
            have hP9 := hP8.ext x0
            have b73 := b77.ext x0
            have b13 := b17.ext x0
            have b23 := b27.ext x0
            have he3 := he7.trans x0
            have hs3 := Nat.le_trans hs7 x0.size
            clear hmn HKc D0 D1 D2 hwn hwe hbn x0 hP8 b77 b17 b27 he7 hs7 g9 i1 i2
            generalize we.heap.size = gN at hcell ⊢
            go_wp2_with (at_builtin; refine appPN (news := [Value.bool z]) rfl rfl Tryz.underlying27 infoBool rfl (by decide) hP9 rfl rfl (by simp) hcell (by simp [Value.oneCell']) (by omega) (by decide) hs3 ?_; intro v1 w8 hP1 hg1 hb1; obtain ⟨a2, c2, rfl⟩ := own_any' (Pool.hd hP1); have b74 := b73.grown (Pool.hd hP9) hg1 (by decide); have g2 := b74.cell 2 rfl; have f2 := b74.fr 2)
            have hd := Pool.hd hP9
            refine ⟨⟨k + 1, _, _, m + 1, vs ++ [.slice aW row.length cW], rows ++ [rowN nxR (letters A.alphabet) (clsD A) (res A k)], by omega, by go_num, by omega, Lib.hid (by rw [HE.out, List.length_append, HM.out]; rfl), Lib.hid (by rw [List.length_append, HVL.out]; rfl), Lib.hid (by rw [HE.out, HRW.out]; simp), b74.set 2 (.slice a2 (m + 1) c2), ?_, (b13.grown hd hg1 (by decide)).other (p := ⟨G, 2, none⟩) (by simp only []; omega) _, (b23.grown hd hg1 (by decide)).other (p := ⟨G, 2, none⟩) (by simp only []; omega) _, (Below.trans he3 (hb1.mono (by omega))).setCell (p := ⟨G, 2, none⟩) (by simp only []; omega) _, by simp; exact Nat.le_trans hs3 hg1.size⟩, by simp [intOf]; omega⟩
            have hPS := Pool.set hP1 b74 (fun t ht => by
              rcases List.mem_cons.1 ht with e | ht
              · rw [e]; dsimp only; decide
              rcases List.mem_cons.1 ht with e | ht
              · rw [e]; dsimp only; decide
              rcases List.mem_cons.1 ht with e | ht
              · rw [e]; dsimp only; decide
              rcases List.mem_cons.1 ht with e | ht
              · rw [e]; dsimp only; decide
              · rw [slRows_e t ht]; decide) 2 (.slice a2 (m + 1) c2)
            have hF := hPS.perm (perm_min _ _ _ _ _)
            rw [slRows_push (by rw [HVL.out, HRW.out, List.length_map, HM.out]), HE.out]
            have e9 : ((ddTo (res A) k ++ [res A k]).map fun g => g []).map Value.bool = ((ddTo (res A) k).map fun g => g []).map Value.bool ++ [Value.bool z] := by
              rw [List.map_append, List.map_append]
              simp [res_nil, HZ.out]
            rw [e9]
            unfold slInts
            rw [HRLN.out]
            exact hF
    · obtain rfl : k = A.next.length := by omega
      have hQL : (clsD A).length = m := HM.out
      have hEND : AutoOwn base wr (.agg #[.int .i64 A.alphabet, .slice aN m cN, .slice aA m cA]) (quo A) := by
        have hp := (hP.perm ((((List.Perm.swap _ _ _).cons _).trans (List.Perm.swap _ _ _)))).tail
        refine Pool.auto (x := quo A) (vs := vs) (vn := .slice aN m cN) (va := .slice aA m cA) (w := wr) (base := base) ?_ (by rw [HVL.out, quo_next, List.length_map, hQL])
        rw [quo_next, quo_acc, List.length_map, List.length_map, hQL]
        rw [show (clsD A).map (rowN nxR (letters A.alphabet) (clsD A)) = rows from HRW.out.symm]
        exact hp
      have hQF := quo_fit HX.out
      have hQn : (quo A).next.length = m := by rw [quo_next, List.length_map, hQL]
      have HQ := Lib.hid hQF
      have HT := Lib.hid (trim_f _ (quo A) wr hEND.auto hQF (by omega))
      have HMIN := Lib.hid (fun B (h : IsTrimF (quo A) B) => min_of_quo HX.out h)
      have gc0 := b7.cell 0 rfl; have gc1 := b7.cell 1 rfl; have gc2 := b7.cell 2 rfl
      clear hEND hP b1 hQL hQF hQn
      go_wp2_with fail
      refine HT.out.mono ?_
      rintro e w4 ⟨v', B, rfl, he4, hT, vN', vA', rfl, hO⟩
      obtain ⟨aN', cN', rfl⟩ := hO.1.shape
      obtain ⟨aA', cA', rfl⟩ := hO.2.shape
      have hBm := HMIN.out B hT
      have HBM := Lib.hid hBm
      have hOW : AutoOwn wr.heap.size w4 (.agg #[.int .i64 B.alphabet, .slice aN' B.next.length cN', .slice aA' B.accept.length cA']) B := ⟨_, _, rfl, hO⟩
      have b24 := b2.ext he4
      have hwB : w.heap.size ≤ wr.heap.size := he.size
      have hx4 := he.trans he4
      have rc0 := b24.cell 0 rfl; have rf0 := b24.fr 0; have rc1 := b24.cell 1 rfl; have rf1 := b24.fr 1; have rc2 := b24.cell 2 rfl; have rf2 := b24.fr 2
      clear gc0 gc1 gc2 hT hBm hO
      go_wp2_with fail
      refine bodyPost_ret (v := .agg #[.int .i64 B.alphabet, .slice aN' B.next.length cN', .slice aA' B.accept.length cA']) (by simp [results, Tryz.results52, go_sem, rc0, rc1, rc2, rf0, rf1, rf2]) rfl ?_
      refine ⟨_, B, rfl, (((hx4.setCell (p := ⟨(w.heap.size + 1), 0, none⟩) (by simp only []; omega) _).setCell (p := ⟨(w.heap.size + 1), 1, none⟩) (by simp only []; omega) _).setCell (p := ⟨(w.heap.size + 1), 2, none⟩) (by simp only []; omega) _), HBM.out, ?_⟩
      exact (auto_store (auto_store (auto_store hOW b24 (by decide) (by decide) (by decide) 0 _) (b24.set 0 _) (by decide) (by decide) (by decide) 1 _) ((b24.set 0 _).set 1 _) (by decide) (by decide) (by decide) 2 _).low hwB
end Go.Proofs.YtajafdblmphglaaGreatDoor
