/- The program's trim. -/
import Derived.Test.YtloampfmlhmlhaaGreatDoorWalkN
import Derived.Test.YtloampfmlhmlhaaGreatDoorWalkFB
import Derived.Test.YtloampfmlhmlhaaGreatDoorWalkSE
import Derived.Test.YtloampfmlhmlhaaGreatDoorInj
import Derived.Deep.RegionLaw

namespace Go.Proofs.YtloampfmlhmlhaaGreatDoor
open Go Go.RowKit
set_option linter.unusedVariables false
set_option linter.unusedSimpArgs false
set_option maxHeartbeats 4000000
set_option maxRecDepth 100000

/-! ### The plain law -/
/-- The successors by the letters of the automaton's alphabet. -/
def nxT (A : Auto) (q : Nat) (l : Int) : Nat := step A q l
theorem trim_few {A : Auto} (hA : autoValid A = true) {M : Nat} (hM : A.next.length ≤ M) : ¬ TooMany (nxT A) (letters A.alphabet) 0 M := by
  rintro ⟨l, h1, h2, h3⟩
  have h0 : 0 < A.next.length := by have := autoValid_facts hA; omega
  have := nodup_len l A.next.length h1 fun x hx => reach_lt h0 (fun q l hq _ => step_lt hA hq l) (h3 x hx)
  omega
/-- The trimmed automaton. -/
def IsTrim (A : Auto) (B : Auto) : Prop := ∃ nodes, Numbers (nxT A) (letters A.alphabet) 0 nodes ∧ nodes.length ≤ 12 ∧ B = autoN (nxT A) A.alphabet (accepts A) nodes
theorem stepN_trim (A : Auto) : stepN (nxT A) A.alphabet = step A := by
  funext q l
  unfold stepN nxT
  by_cases h : bit A.alphabet l = true
  · rw [if_pos h]
  · rw [if_neg h]; simp [step, h]
theorem IsTrim.valid {A B : Auto} (hA : autoValid A = true) (h : IsTrim A B) : autoValid B = true := by
  obtain ⟨nodes, h1, h2, rfl⟩ := h
  obtain ⟨a0, a1, -⟩ := autoValid_facts hA
  exact autoN_valid (by simp only [isAlpha, Bool.and_eq_true, decide_eq_true_eq]; exact ⟨a0, a1⟩) h1 h2
theorem IsTrim.accepts {A B : Auto} (hA : autoValid A = true) (h : IsTrim A B) (v : List Int) : accepts A (run A 0 v) = accepts B (run B 0 v) := by
  obtain ⟨nodes, h1, h2, rfl⟩ := h
  obtain ⟨a0, a1, -⟩ := autoValid_facts hA
  rw [autoN_accepts a0 a1 h1, stepN_trim]; rfl

/-! ### The walk -/
theorem trimNext_c (b : Nat) (A : Auto) (q lt : Nat) (w : World) (h : ∃ v, Blk w b #[v] 117 ∧ TabV w v (table A)) (hA : autoValid A = true) (hq : q < A.next.length) (hl : lt < 6) :
    Calls Tryz.prog 146 #[.int .i64 q, .int .i64 lt, .pointer (some ⟨b, 0, none⟩)] w (Grows (.int .i64 (nxT A q (lt : Nat) : Nat)) w) := by
  obtain ⟨vu, hu1, hu2⟩ := h
  obtain ⟨au, cu, rfl, -, hu3⟩ := hu2.open
  rw [table_len] at hu1
  obtain ⟨b1, o1, rfl, -, hc1⟩ := hu3 q _ (table_at A q hq)
  have g1 := hc1 q _ (table_at A q hq) lt hl
  simp only [tabRow] at g1
  obtain ⟨z, hz⟩ : ∃ z, nxT A q (lt : Nat) = z := ⟨_, rfl⟩
  have hz' : step A q (lt : Int) = z := hz
  rw [hz'] at g1
  rw [hz]
  have i1 : (q : Int) < (A.next.length : Int) := by omega
  have i2 : (lt : Int) < 6 := by omega
  clear hu3 hc1 hu2 hz hz'
  have D1 := hu1.cell 0 rfl
  go_enter Tryz.func146, Tryz.ntmps146
  go_wp2_with fail
  go_ret
  exact Grows.mk rfl (Ext.refl _)
theorem enter_trim (args : Array Value) (w : World) : (callFunc 146 args).run Tryz.prog w = .ok (.enter 146 args) w := rfl
theorem nx_trim {w0 : World} {b : Nat} {A : Auto} (h : ∃ v, Blk w0 b #[v] 117 ∧ TabV w0 v (table A)) (hA : autoValid A = true) :
    NxIs w0 A.next.length (letters A.alphabet) (.func (.func 146) #[] #[.pointer (some ⟨b, 0, none⟩)]) (nxT A) := by
  obtain ⟨-, a1, -⟩ := autoValid_facts hA
  refine ⟨⟨_, _, rfl, enter_trim, fun w' k l hx hk hl => ?_⟩, fun k l hk _ => step_lt hA hk l⟩
  obtain ⟨hl0, hl6⟩ := letters_lt6 a1 l hl
  obtain ⟨lt, rfl⟩ := Int.eq_ofNat_of_zero_le hl0
  obtain ⟨v, h1, h2⟩ := h
  exact trimNext_c b A k lt w' ⟨v, h1.ext hx, h2.mono hx⟩ hA hk (by omega)

theorem trim_c (v : Value) (A : Auto) (w : World) (hv : AutoV w v A) (hA : autoValid A = true) :
    Calls Tryz.prog 68 #[v] w (fun e w' => ∃ v' B, e = .returned v' ∧ Ext w w' ∧ IsTrim A B ∧ AutoOwn w.heap.size w' v' B) := by
  obtain ⟨vn, va, rfl, hN1, hA1⟩ := hv
  obtain ⟨an, cn, rfl, -, -⟩ := hN1.open
  obtain ⟨aa, ca, rfl, -, hat⟩ := hA1.open
  have HV := Lib.hid (show ∀ w', Ext w w' → AutoV w' (.agg #[.int .i64 A.alphabet, .slice an A.next.length cn, .slice aa A.accept.length ca]) A from fun w' h => ⟨_, _, rfl, hN1.mono h, hA1.mono h⟩)
  have HAT := Lib.hid hat
  have HX := Lib.hid hA
  clear hN1 hA1 hat
  obtain ⟨ha0, ha63, hn1, hn12, hna⟩ := autoValid_facts HX.out
  have HNA := Lib.hid hna
  clear hna hA
  obtain ⟨wo, hwo⟩ : ∃ wo, wo = (w.alloc (.cells #[.int .i64 A.alphabet, .slice an A.next.length cn, .slice aa A.accept.length ca] 26)).alloc (.cells #[.int .i64 0, .slice none 0 0, .slice none 0 0] 26) := ⟨_, rfl⟩
  have he : Ext w wo := by rw [hwo]; exact (Ext.alloc _ _).trans (Ext.alloc _ _)
  have b1 : Blk wo w.heap.size #[.int .i64 A.alphabet, .slice an A.next.length cn, .slice aa A.accept.length ca] 26 := by rw [hwo]; exact Ext.blk (Ext.alloc _ _)
  have b2 : Blk wo (w.heap.size + 1) #[.int .i64 0, .slice none 0 0, .slice none 0 0] 26 := by rw [hwo]; exact Ext.blk1 (Ext.refl _)
  go_enter Tryz.func68, Tryz.ntmps68
  go_upto_region 1 with fail
  rw [← hwo]
  clear hwo
  have c0 := b1.cell 0 rfl; have c1 := b1.cell 1 rfl; have c2 := b1.cell 2 rfl
  go_wp2_with fail
  refine (tableOf_o _ A _ (HV.out _ he) HX.out).mono ?_
  rintro e w1 ⟨vt, rfl, he1, htb⟩
  obtain ⟨aT, cT, rfl, -, -⟩ := htb.tab.open
  rw [table_len] at *
  clear c0 c1 c2
  go_upto_region 2 with fail
  obtain ⟨w2, hw2⟩ : ∃ w2, w2 = w1.alloc (.cells #[.slice aT A.next.length cT] 117) := ⟨_, rfl⟩
  have y2 : Ext w1 w2 := by rw [hw2]; exact Ext.alloc _ _
  have b3 : Blk w2 w1.heap.size #[.slice aT A.next.length cT] 117 := by rw [hw2]; exact Blk.new _ _ _
  rw [← hw2]
  clear hw2
  have l1 := (he.trans he1).size
  have l12 := (b2.ext he1).lt
  generalize w1.heap.size = p3 at b3 l1 l12 ⊢
  have HT := Lib.hid (show ∃ v, Blk w2 p3 #[v] 117 ∧ TabV w2 v (table A) from ⟨_, b3, htb.tab.mono y2⟩)
  replace he := (he.trans he1).trans y2
  replace b1 := (b1.ext he1).ext y2
  replace b2 := (b2.ext he1).ext y2
  clear htb he1 y2
  have D0 := fun d os => cell_regrown (b1.cell 0 rfl) d os
  have D3 := fun d os => cell_regrown (b3.cell 0 rfl) d os
  obtain ⟨nx, hnx⟩ : ∃ nx, nxT A = nx := ⟨_, rfl⟩
  obtain ⟨L, hL⟩ : ∃ L, letters A.alphabet = L := ⟨_, rfl⟩
  have hL6 : L.length ≤ 6 := by rw [← hL]; exact lettersTo_len A.alphabet 6
  have HNX := Lib.hid hnx
  have HLE := Lib.hid hL
  clear hnx hL
  obtain ⟨Kc, HKc⟩ : ∃ Kc : FuncId → Array Value → World → Value → World → Prop, Hid (Kc = fun f args w0 v w' => Ext w0 w' ∧ (f = 66 → IntsV w' v L) ∧ (f = 145 → NumbsEnd nx L 0 A.next.length w0 (.returned v) w')) := ⟨_, rfl⟩
  refine wp_region_ext (Kc := Kc) 14 (by kernel_rfl) (by kernel_rfl) ?_
  simp only [List.take_succ_cons, List.take_zero]
  repeat (refine WalkE.pure rfl (fun K hK => ?_); simp only [PureDo]; go_simp; refine hK _ ?_; clear hK K)
  refine WalkE.step (fun K hK wc hwc hdc => ?_)
  simp only [OpDo, OpSafe, OpOut]
  go_simp
  refine ⟨(lettersOf_c _ _ ha0 ha63).mono ?_, ?_⟩
  · rintro e w' ⟨v, rfl, he', hl⟩
    exact ⟨v, rfl, by rw [HKc.out, ← HLE.out]; exact ⟨he', fun _ => hl, fun h => absurd h (by decide)⟩⟩
  intro u4 w4 hk4
  rw [HKc.out] at hk4
  have hl4 := hk4.2.1 rfl
  refine ⟨hk4.1, hK _ _ ?_⟩
  clear hK K hdc hk4
  obtain ⟨aL, cL, rfl, -, -⟩ := hl4.open
  repeat (refine WalkE.pure rfl (fun K hK => ?_); simp only [PureDo]; go_simp; refine hK _ ?_; clear hK K)
  refine WalkE.step (fun K hK wd hwd hdd => ?_)
  simp only [OpDo, OpSafe, OpOut]
  go_simp
  have x2d : Ext w2 wd := (Ext.drew _).trans hwd
  have hN : NxIs wd A.next.length L (.func (.func 146) #[] #[.pointer (some ⟨p3, 0, none⟩)]) nx := by
    rw [← HNX.out, ← HLE.out]
    exact nx_trim (let ⟨v, h1, h2⟩ := HT.out; ⟨v, h1.ext x2d, h2.mono x2d⟩) HX.out
  refine ⟨(numbered_c 0 A.next.length A.next.length _ _ L nx _ (hl4.mono (hdd ⟨2, .data⟩ (by simp) rfl)) hL6 (by omega) (by omega) (by omega) (by omega) hN).mono ?_, ?_⟩
  · rintro e w' hne
    have hne' := hne
    obtain ⟨he', hr⟩ := hne'
    obtain ⟨v, rfl⟩ : ∃ v, e = .returned v := by
      rcases hr with ⟨_, _, _, _, _, e1, -⟩ | ⟨e1, -⟩ <;> exact ⟨_, e1⟩
    exact ⟨v, rfl, by rw [HKc.out]; exact ⟨he', fun h => absurd h (by decide), fun _ => hne⟩⟩
  intro u6 w6 hk6
  rw [HKc.out] at hk6
  have hn6 := hk6.2.2 rfl
  obtain ⟨x6, nodes, vS, vR, vs, rows, e6, hnum, hlen, hP, hrows, hvl⟩ | htm : Ext wd w6 ∧ (∃ nodes vS vR vs rows, u6 = .tuple #[vS, vR, .bool true] ∧ Numbers nx L 0 nodes ∧ nodes.length ≤ A.next.length ∧ Pool wd.heap.size w6 (numPool vS vR nodes.length nodes nodes.length vs rows) ∧ rows = nodes.map (rowN nx L nodes) ∧ vs.length = nodes.length) ∨ TooMany nx L 0 A.next.length := by
    obtain ⟨x6, h | h⟩ := hn6
    · obtain ⟨nodes, vS, vR, vs, rows, e6, h⟩ := h
      exact .inl ⟨x6, nodes, vS, vR, vs, rows, by injection e6, h⟩
    · exact .inr h.2
  case inr =>
    rw [← HNX.out, ← HLE.out] at htm
    exact absurd htm (trim_few HX.out (Nat.le_refl _))
  subst e6
  refine ⟨hk6.1, hK _ _ ?_⟩
  clear hK K hdd hk6 hn6 hl4 hN
  repeat (refine WalkE.pure rfl (fun K hK => ?_); simp only [PureDo]; go_simp; refine hK _ ?_; clear hK K)
  refine WalkE.nil (fun wn hwn hmn => ?_)
  simp only [List.drop_succ_cons, List.drop_zero, List.drop_nil]
  have hPn := hP.ext (hmn 6 (by omega))
  have xn : Ext w2 wn := (Ext.drew _).trans hwn
  have sB : w2.heap.size ≤ wd.heap.size := x2d.size
  have sN : wd.heap.size ≤ wn.heap.size := Nat.le_trans x6.size (hmn 6 (by omega)).size
  clear hmn HKc D0 D3 hwn hwd hwc hP x6 x2d
  generalize wd.heap.size = base at hPn sB sN ⊢
  clear wd wc w4
  replace he := he.trans xn
  replace b1 := b1.ext xn
  replace b2 := b2.ext xn
  have l2w : w.heap.size + 1 < w2.heap.size := by have := b3.lt; omega
  clear b3 xn HT
  obtain ⟨aR, cR, rfl⟩ := own_any' (Pool.hd2 hPn)
  obtain ⟨aS, cS, rfl⟩ := own_any' (Pool.hd hPn)
  have HB := Lib.hid (show ∀ n ∈ nodes, n < A.next.length from fun n hn => by
    have := hnum.reach n hn
    rw [← HNX.out, ← HLE.out] at this
    exact reach_lt (by omega) (fun k l hk _ => step_lt HX.out hk l) this)
  have HNU := Lib.hid hnum
  have HRW := Lib.hid hrows
  have HVL := Lib.hid hvl
  clear hnum hrows hvl
  have c0 := b1.cell 0 rfl; have c1 := b1.cell 1 rfl; have c2 := b1.cell 2 rfl
  go_upto_region 4 with fail
  obtain ⟨w3, hw3⟩ : ∃ w3, w3 = wn.alloc (.cells #[.int .i64 A.alphabet, .slice aR nodes.length cR, .slice none 0 0] 26) := ⟨_, rfl⟩
  have y3 : Ext wn w3 := by rw [hw3]; exact Ext.alloc _ _
  have b7 : Blk w3 wn.heap.size #[.int .i64 A.alphabet, .slice aR nodes.length cR, .slice none 0 0] 26 := by rw [hw3]; exact Blk.new _ _ _
  rw [← hw3]
  clear hw3
  replace he := he.trans y3
  replace b1 := b1.ext y3
  replace b2 := b2.ext y3
  replace hPn := (hPn.ext y3).addNil 4 1
  have sN3 : base ≤ w3.heap.size := Nat.le_trans sN y3.size
  clear y3 c0 c1 c2
  generalize wn.heap.size = G at b7 sN ⊢
  clear wn
  go_wp2_with fail
  go_loopw [29] (fun i wr => ∃ (k : Nat) (va : Value), k ≤ nodes.length ∧ i = .int .i64 k ∧ Blk wr G #[.int .i64 A.alphabet, .slice aR nodes.length cR, va] 26 ∧ Pool base wr (⟨4, 1, va, k, ((nodes.take k).map (accepts A)).map Value.bool⟩ :: numPool (.slice aS nodes.length cS) (.slice aR nodes.length cR) nodes.length nodes nodes.length vs rows) ∧ Blk wr w.heap.size #[.int .i64 A.alphabet, .slice an A.next.length cn, .slice aa A.accept.length ca] 26 ∧ Blk wr (w.heap.size + 1) #[.int .i64 0, .slice none 0 0, .slice none 0 0] 26 ∧ Ext w wr ∧ base ≤ wr.heap.size) (fun i _ => nodes.length - (intOf i).toNat)
  case atStart => exact ⟨0, _, by omega, rfl, b7, hPn, b1, b2, he, sN3⟩
  case round =>
    clear b7 hPn b1 b2 he sN3
    obtain ⟨k, va, hk, rfl, b7, hP, b1, b2, he, hsz⟩ := hrel
    obtain ⟨aA, cA, rfl⟩ := own_any' (Pool.hd hP)
    by_cases hlt : k < nodes.length
    · obtain ⟨n, hnk⟩ : ∃ n, nodes[k]? = some n := ⟨_, List.getElem?_eq_getElem (by omega)⟩
      obtain ⟨gS, cS', e6, gs⟩ := own_at (Pool.hd2 hP) (j := k) (u := .int .i64 n) (by rw [List.getElem?_map, ints_at hnk]; rfl)
      cases e6
      have hnB := HB.out n (List.mem_of_getElem? hnk)
      obtain ⟨b9, o9, rfl, -, hc9⟩ := HAT.out n _ (accepts_at HX.out hnB)
      have g9 : wr.cell? ⟨b9, o9 + n, none⟩ = some (.bool (accepts A n)) := by have := hc9 n _ (accepts_at HX.out hnB); rw [Nat.mul_one] at this; exact he.cell this
      obtain ⟨z, hz⟩ : ∃ z, accepts A n = z := ⟨_, rfl⟩
      rw [hz] at g9
      have HZ := Lib.hid hz
      have HNK := Lib.hid hnk
      have i1 : (n : Int) < (A.accept.length : Int) := by have := HNA.out; omega
      have i2 : (k : Int) < (nodes.length : Int) := by omega
      clear hc9 hz hnk hnB
      go_wp2_with fail
      clear gs
      have D0 := fun d os => cell_regrown (b7.cell 2 rfl) d os
      have D1 := fun d os => cell_regrown (b1.cell 2 rfl) d os
      have D2 := fun d os => cell_regrown g9 d os
      obtain ⟨Kc, HKc⟩ : ∃ Kc : FuncId → Array Value → World → Value → World → Prop, Hid (Kc = fun _ _ _ _ _ => False) := ⟨_, rfl⟩
      refine wp_region_ext (Kc := Kc) 8 (by kernel_rfl) (by kernel_rfl) ?_
      simp only [List.take_succ_cons, List.take_zero]
      repeat (refine WalkE.pure rfl (fun K hK => ?_); simp only [PureDo]; go_simp; refine hK _ ?_; clear hK K)
      refine WalkE.step (fun K hK we hwe hde => ?_)
      simp only [OpDo, OpSafe, OpOut]
      go_simp
      refine ⟨Ext.alloc _ _, hK _ _ ?_⟩
      clear hK K hde
      refine WalkE.nil (fun wn hwn hmn => ?_)
      simp only [List.drop_succ_cons, List.drop_zero, List.drop_nil]
      have x0 : Ext wr wn := (Ext.drew _).trans hwn
      have hbn : Blk wn we.heap.size #[.bool z] 4 := (Blk.new we _ _).ext (hmn 7 (by omega))
      have hcell : ∀ (j : Nat) u, [Value.bool z][j]? = some u → wn.cell? ((⟨we.heap.size, 0, none⟩ : Addr).add j) = some u := fun j u hu => by
        rw [add_none, Nat.zero_add]
        exact hbn.cell j (by simpa using hu)
      have hP3 := hP.ext x0
      have b73 := b7.ext x0
      have b13 := b1.ext x0
      have b23 := b2.ext x0
      have he3 := he.trans x0
      have hs3 := Nat.le_trans hsz x0.size
      clear hmn HKc D0 D1 D2 hwn hwe hbn x0 hP b7 b1 b2 he hsz g9 i1 i2
      generalize we.heap.size = gN at hcell ⊢
      go_wp2_with (at_builtin; refine appPN (news := [Value.bool z]) rfl rfl Tryz.underlying24 infoBool rfl (by decide) hP3 rfl rfl (by simp) hcell (by simp [Value.oneCell']) (by omega) (by decide) hs3 ?_; intro v1 w7 hP1 hg1 hb1; obtain ⟨a1, c1, rfl⟩ := own_any' (Pool.hd hP1); have b74 := b73.grown (Pool.hd hP3) hg1 (by decide); have g2 := b74.cell 2 rfl; have f2 := b74.fr 2)
      have hd := Pool.hd hP3
      refine ⟨⟨k + 1, _, by omega, by go_num, b74.set 2 (.slice a1 (k + 1) c1), ?_, (b13.grown hd hg1 (by decide)).other (p := ⟨G, 2, none⟩) (by simp only []; omega) _, (b23.grown hd hg1 (by decide)).other (p := ⟨G, 2, none⟩) (by simp only []; omega) _, (Below.trans he3 (hb1.mono (by omega))).setCell (p := ⟨G, 2, none⟩) (by simp only []; omega) _, by simp; exact Nat.le_trans hs3 hg1.size⟩, by simp [intOf]; omega⟩
      rw [List.take_add_one, HNK.out, List.map_append, List.map_append, Option.toList_some, List.map_singleton, List.map_singleton, HZ.out]
      exact Pool.set hP1 b74 (fun t ht => by
        rcases List.mem_cons.1 ht with e | ht
        · rw [e]; dsimp only; decide
        rcases List.mem_cons.1 ht with e | ht
        · rw [e]; dsimp only; decide
        rcases List.mem_cons.1 ht with e | ht
        · rw [e]; dsimp only; decide
        · rw [slRows_e t ht]; decide) 2 (.slice a1 (k + 1) c1)
    · obtain rfl : k = nodes.length := by omega
      have hEND : AutoOwn base wr (.agg #[.int .i64 A.alphabet, .slice aR nodes.length cR, .slice aA nodes.length cA]) (autoN (nxT A) A.alphabet (accepts A) nodes) := by
        have hp := (hP.perm (((List.Perm.swap _ _ _).trans ((List.Perm.swap _ _ _).cons _)))).tail
        rw [List.take_length] at hp
        refine Pool.auto (x := autoN (nxT A) A.alphabet (accepts A) nodes) (vs := vs) (vn := .slice aR nodes.length cR) (va := .slice aA nodes.length cA) (w := wr) (base := base) ?_ (by rw [HVL.out]; simp [autoN])
        have e1 : (autoN (nxT A) A.alphabet (accepts A) nodes).next = rows := by rw [HRW.out, ← HNX.out, ← HLE.out]; rfl
        have e2 : (autoN (nxT A) A.alphabet (accepts A) nodes).accept = nodes.map (accepts A) := rfl
        rw [e1, e2, HRW.out, List.length_map, List.length_map, ← HRW.out]
        exact hp
      have HEND := Lib.hid hEND
      have hlB : w.heap.size ≤ base := by omega
      have gc0 := b7.cell 0 rfl; have gc1 := b7.cell 1 rfl; have gc2 := b7.cell 2 rfl
      have rc0 := b2.cell 0 rfl; have rf0 := b2.fr 0; have rc1 := b2.cell 1 rfl; have rf1 := b2.fr 1; have rc2 := b2.cell 2 rfl; have rf2 := b2.fr 2
      clear hEND hP b1
      go_wp2_with fail
      refine bodyPost_ret (v := .agg #[.int .i64 A.alphabet, .slice aR nodes.length cR, .slice aA nodes.length cA]) (by simp [results, Tryz.results68, go_sem, rc0, rc1, rc2, rf0, rf1, rf2]) rfl ?_
      have hnu := HNU.out
      rw [← HNX.out, ← HLE.out] at hnu
      refine ⟨_, _, rfl, (((he.setCell (p := ⟨(w.heap.size + 1), 0, none⟩) (by simp only []; omega) _).setCell (p := ⟨(w.heap.size + 1), 1, none⟩) (by simp only []; omega) _).setCell (p := ⟨(w.heap.size + 1), 2, none⟩) (by simp only []; omega) _), ⟨nodes, hnu, by omega, rfl⟩, ?_⟩
      exact (auto_store (auto_store (auto_store HEND.out b2 (by decide) (by decide) (by decide) 0 _) (b2.set 0 _) (by decide) (by decide) (by decide) 1 _) ((b2.set 0 _).set 1 _) (by decide) (by decide) (by decide) 2 _).low hlB
end Go.Proofs.YtloampfmlhmlhaaGreatDoor
