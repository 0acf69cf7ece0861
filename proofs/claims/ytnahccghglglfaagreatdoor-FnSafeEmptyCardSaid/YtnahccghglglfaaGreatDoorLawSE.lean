/- FnSafeEmpty: for all bytes, the empty word is safe for a drawn task exactly if its system without the letters of the task keeps the property: the law answers true. -/
import Derived.Test.YtnahccghglglfaaGreatDoorDrawU
import Derived.Test.YtnahccghglglfaaGreatDoorSafeS
import Derived.Test.YtnahccghglglfaaGreatDoorSafeN
import Derived.Test.YtnahccghglglfaaGreatDoorDet
import Derived.Test.YtnahccghglglfaaGreatDoorPool
import Derived.Test.YtnahccghglglfaaGreatDoorCard
import Derived.Test.YtnahccghglglfaaGreatDoorDrawL
namespace Go.Proofs.YtnahccghglglfaaGreatDoor.lawFnSafeEmpty
open Go.ChangeShapes Go.WideShapes Go.ChangeAt Go.RowKit
open Go.Proofs.YtnahccghglglfaaGreatDoor
open Go.ChangeMaps (open_string shut_string)
set_option linter.unusedVariables false
set_option linter.unusedSimpArgs false
set_option maxHeartbeats 1600000
set_option maxRecDepth 100000

theorem agHas_c (s n : Int) (w : World) (hs : 0 ≤ s) (hs2 : s ≤ 9223372036854775807) (h : 0 ≤ n) (hn : n < 64) :
    Calls Tryz.prog 13 #[.int .i64 s, .int .i64 n] w (Same (.bool (bit s n)) w) := by
  go_enter Tryz.func13, Tryz.ntmps13
  go_wp2
  go_ret
  exact ⟨by rw [bit_nonneg h, ← has_bit s n hs hs2]; rfl, rfl⟩
/-- The first k edges, those with letters of the task left out. -/
def hiddenE (T : Task) (k : Nat) : List Edge := (T.sys.edges.take k).filter fun e => !bit T.alphabet e.letter
theorem hiddenE_in {T : Task} {k : Nat} {x : Edge} (h : T.sys.edges[k]? = some x) (hb : bit T.alphabet x.letter = false) : hiddenE T (k + 1) = hiddenE T k ++ [x] := by
  unfold hiddenE; rw [List.take_add_one, h, List.filter_append]; simp [hb]
theorem hiddenE_out {T : Task} {k : Nat} {x : Edge} (h : T.sys.edges[k]? = some x) (hb : bit T.alphabet x.letter = true) : hiddenE T (k + 1) = hiddenE T k := by
  unfold hiddenE; rw [List.take_add_one, h, List.filter_append]; simp [hb]
theorem hiddenE_len (T : Task) (k : Nat) : (hiddenE T k).length ≤ k := by
  unfold hiddenE
  have := List.length_filter_le (fun e => !bit T.alphabet e.letter) (T.sys.edges.take k)
  have := List.length_take_le k T.sys.edges
  omega
theorem hiddenE_all (T : Task) : fewer T.sys (fun e => !bit T.alphabet e.letter) = ⟨T.sys.alphabet, T.sys.states, hiddenE T T.sys.edges.length⟩ := by
  unfold fewer hiddenE; rw [List.take_length]

theorem walk (v0 : Value) (t0 : List UInt8) (w : World) (hv0 : BytesV w v0 t0) (hD : Deb w) : Calls Tryz.prog 3 #[v0] w (Grows (.bool true) w) := by
  obtain ⟨aB, cB, rfl, hleB, -⟩ := hv0.open
  have HDb := Lib.hid hD
  clear hD
  by_cases hz0 : 1048576 < t0.length
  · go_enter Tryz.func3, Tryz.ntmps3
    go_wp2_with fail
    go_ret
    exact Grows.mk rfl (Ext.refl _)
  go_enter Tryz.func3, Tryz.ntmps3
  go_wp2_with fail
  refine (DrawSafeWord_t _ t0 _ hv0 (by omega)).mono ?_
  rintro e w1 ⟨vt, s, T, rfl, he1, hTV, hTe, hsz⟩
  obtain ⟨vE1, vN1, vA1, rfl, hE1, hN1, hA1⟩ := hTV
  obtain ⟨aE1, cE1, rfl, -, -⟩ := hE1.open
  obtain ⟨aN1, cN1, rfl, -, -⟩ := hN1.open
  obtain ⟨aA1, cA1, rfl, -, -⟩ := hA1.open
  have HT := Lib.hid (show ∀ w', Ext w1 w' → TaskV w' (.agg #[.int .i64 T.sys.alphabet, .int .i64 T.sys.states, .slice aE1 T.sys.edges.length cE1, .int .i64 T.prop.alphabet, .slice aN1 T.prop.next.length cN1, .slice aA1 T.prop.accept.length cA1, .int .i64 T.alphabet]) T from fun w' h => ⟨_, _, _, rfl, hE1.mono h, hN1.mono h, hA1.mono h⟩)
  have HSY := Lib.hid (show ∀ w', Ext w1 w' → SysV w' (.agg #[.int .i64 T.sys.alphabet, .int .i64 T.sys.states, .slice aE1 T.sys.edges.length cE1]) T.sys from fun w' h => ⟨_, rfl, hE1.mono h⟩)
  have HAU := Lib.hid (show ∀ w', Ext w1 w' → AutoV w' (.agg #[.int .i64 T.prop.alphabet, .slice aN1 T.prop.next.length cN1, .slice aA1 T.prop.accept.length cA1]) T.prop from fun w' h => ⟨_, _, rfl, hN1.mono h, hA1.mono h⟩)
  have HD := Lib.hid (show ∀ w', Ext w1 w' → Deb w' from fun w' h => HDb.out.ext (he1.trans h))
  obtain ⟨sw, hsw⟩ : ∃ sw, safeWord T s = sw := ⟨_, rfl⟩
  have HSW := Lib.hid hsw
  have C1 := Lib.hid (show ∀ w', Ext w1 w' → Calls Tryz.prog 10 #[.agg #[.int .i64 T.sys.alphabet, .int .i64 T.sys.states, .slice aE1 T.sys.edges.length cE1, .int .i64 T.prop.alphabet, .slice aN1 T.prop.next.length cN1, .slice aA1 T.prop.accept.length cA1, .int .i64 T.alphabet], .string s] w' (Grows (.bool sw) w') from fun w' h => by have := SafeWord_c _ T s w' (HT.out _ h) (by omega) (HD.out _ h); rwa [HSW.out] at this)
  have C2 := Lib.hid (show ∀ w', Ext w1 w' → Calls Tryz.prog 11 #[.agg #[.int .i64 T.sys.alphabet, .int .i64 T.sys.states, .slice aE1 T.sys.edges.length cE1, .int .i64 T.prop.alphabet, .slice aN1 T.prop.next.length cN1, .slice aA1 T.prop.accept.length cA1, .int .i64 T.alphabet], .string s] w' (Grows (.bool sw) w') from fun w' h => by have := SafeWord_s _ T s w' (HT.out _ h) (by omega) (by omega); rwa [HSW.out] at this)
  clear hE1 hN1 hA1 hsw
  have hx : Ext w1 (w1.alloc (.cells #[.int .i64 T.sys.alphabet, .int .i64 T.sys.states, .slice aE1 T.sys.edges.length cE1, .int .i64 T.prop.alphabet, .slice aN1 T.prop.next.length cN1, .slice aA1 T.prop.accept.length cA1, .int .i64 T.alphabet] 31)) := Ext.alloc _ _
  have bT : Blk (w1.alloc (.cells #[.int .i64 T.sys.alphabet, .int .i64 T.sys.states, .slice aE1 T.sys.edges.length cE1, .int .i64 T.prop.alphabet, .slice aN1 T.prop.next.length cN1, .slice aA1 T.prop.accept.length cA1, .int .i64 T.alphabet] 31)) w1.heap.size #[.int .i64 T.sys.alphabet, .int .i64 T.sys.states, .slice aE1 T.sys.edges.length cE1, .int .i64 T.prop.alphabet, .slice aN1 T.prop.next.length cN1, .slice aA1 T.prop.accept.length cA1, .int .i64 T.alphabet] 31 := Ext.blk (Ext.refl _)
  go_wp2_with fail
  generalize (w1.alloc (.cells #[.int .i64 T.sys.alphabet, .int .i64 T.sys.states, .slice aE1 T.sys.edges.length cE1, .int .i64 T.prop.alphabet, .slice aN1 T.prop.next.length cN1, .slice aA1 T.prop.accept.length cA1, .int .i64 T.alphabet] 31)) = w2 at hx bT ⊢
  have bT_0 := bT.cell 0 rfl; have bT_1 := bT.cell 1 rfl; have bT_2 := bT.cell 2 rfl; have bT_3 := bT.cell 3 rfl; have bT_4 := bT.cell 4 rfl; have bT_5 := bT.cell 5 rfl; have bT_6 := bT.cell 6 rfl
  go_wp2_with fail
  refine (C1.out _ hx).mono ?_
  rintro e wz1 ⟨rfl, hez1⟩
  clear bT_0 bT_1 bT_2 bT_3 bT_4 bT_5 bT_6
  replace bT := bT.ext hez1
  replace hx := hx.trans hez1
  have bT_0 := bT.cell 0 rfl; have bT_1 := bT.cell 1 rfl; have bT_2 := bT.cell 2 rfl; have bT_3 := bT.cell 3 rfl; have bT_4 := bT.cell 4 rfl; have bT_5 := bT.cell 5 rfl; have bT_6 := bT.cell 6 rfl
  go_wp2_with fail
  refine (C2.out _ hx).mono ?_
  rintro e wz2 ⟨rfl, hez2⟩
  clear bT_0 bT_1 bT_2 bT_3 bT_4 bT_5 bT_6
  replace bT := bT.ext hez2
  replace hx := hx.trans hez2
  have bT_0 := bT.cell 0 rfl; have bT_1 := bT.cell 1 rfl; have bT_2 := bT.cell 2 rfl; have bT_3 := bT.cell 3 rfl; have bT_4 := bT.cell 4 rfl; have bT_5 := bT.cell 5 rfl; have bT_6 := bT.cell 6 rfl
  have heq2 : (sw != sw) = false := by simp
  have heq3 : (sw == sw) = true := by simp
  obtain ⟨tb, htb⟩ : ∃ tb, taskValid T = tb := ⟨_, rfl⟩
  have HTB := Lib.hid htb
  have CT := Lib.hid (show ∀ w', Ext w1 w' → Calls Tryz.prog 12 #[.agg #[.int .i64 T.sys.alphabet, .int .i64 T.sys.states, .slice aE1 T.sys.edges.length cE1, .int .i64 T.prop.alphabet, .slice aN1 T.prop.next.length cN1, .slice aA1 T.prop.accept.length cA1, .int .i64 T.alphabet]] w' (Grows (.bool tb) w') from fun w' h => by have := TaskValid_c _ T w' (HT.out _ h); rwa [HTB.out] at this)
  clear htb
  go_wp2_with fail
  refine (CT.out _ hx).mono ?_
  rintro e wz3 ⟨rfl, hez3⟩
  clear bT_0 bT_1 bT_2 bT_3 bT_4 bT_5 bT_6
  replace bT := bT.ext hez3
  replace hx := hx.trans hez3
  have bT_0 := bT.cell 0 rfl; have bT_1 := bT.cell 1 rfl; have bT_2 := bT.cell 2 rfl; have bT_3 := bT.cell 3 rfl; have bT_4 := bT.cell 4 rfl; have bT_5 := bT.cell 5 rfl; have bT_6 := bT.cell 6 rfl
  cases tb with
  | false =>
    go_wp2_with fail
    refine (C2.out _ hx).mono ?_
    rintro e wz4 ⟨rfl, hez4⟩
    clear bT_0 bT_1 bT_2 bT_3 bT_4 bT_5 bT_6
    replace bT := bT.ext hez4
    replace hx := hx.trans hez4
    have bT_0 := bT.cell 0 rfl; have bT_1 := bT.cell 1 rfl; have bT_2 := bT.cell 2 rfl; have bT_3 := bT.cell 3 rfl; have bT_4 := bT.cell 4 rfl; have bT_5 := bT.cell 5 rfl; have bT_6 := bT.cell 6 rfl
    go_wp2_with fail
    go_ret
    exact Grows.mk rfl (he1.trans hx)
  | true =>
  obtain ⟨hsv, -, hal⟩ := taskValid_facts HTB.out
  obtain ⟨ha0, ha1⟩ := alpha_facts hal
  have HSV := Lib.hid hsv
  have HAL := Lib.hid (And.intro ha0 ha1)
  have HTE := Lib.hid hTe
  clear C1 C2 CT heq2 heq3 hsv hal ha0 ha1 hTe
  clear bT_0 bT_1 bT_2 bT_3 bT_4 bT_5 bT_6
  generalize wz3 = wb at hx bT ⊢
  have bT_0 := bT.cell 0 rfl; have bT_1 := bT.cell 1 rfl; have bT_2 := bT.cell 2 rfl; have bT_3 := bT.cell 3 rfl; have bT_4 := bT.cell 4 rfl; have bT_5 := bT.cell 5 rfl; have bT_6 := bT.cell 6 rfl
  have hw : Ext wb (wb.alloc (.cells #[.int .i64 T.sys.alphabet, .int .i64 T.sys.states, .slice none 0 0] 25)) := Ext.alloc _ _
  have b6 : Blk (wb.alloc (.cells #[.int .i64 T.sys.alphabet, .int .i64 T.sys.states, .slice none 0 0] 25)) wb.heap.size #[.int .i64 T.sys.alphabet, .int .i64 T.sys.states, .slice none 0 0] 25 := Blk.new _ _ _
  go_wp2_with fail
  generalize wb.alloc (.cells #[.int .i64 T.sys.alphabet, .int .i64 T.sys.states, .slice none 0 0] 25) = wc at hw b6 ⊢
  clear bT_0 bT_1 bT_2 bT_3 bT_4 bT_5 bT_6
  go_loopw [7] (fun i wr => ∃ (k : Nat) (v : Value), k ≤ T.sys.edges.length ∧ i = .int .i64 k ∧ Ext wb wr ∧ Blk wr wb.heap.size #[.int .i64 T.sys.alphabet, .int .i64 T.sys.states, v] 25 ∧ EdgesOwn 38 wb.heap.size wr v (hiddenE T k)) (fun i _ => T.sys.edges.length - (intOf i).toNat)
  case atStart => exact ⟨0, _, by omega, rfl, hw, b6, EdgesOwn.nil _ _ _⟩
  case round =>
    clear hw b6
    obtain ⟨k, v, hk, rfl, hw, b6, hown⟩ := hrel
    obtain ⟨a6, c6, rfl⟩ := hown.shape
    have bTr := bT.ext hw
    have hxr := hx.trans hw
    by_cases hlt : k < T.sys.edges.length
    · obtain ⟨x, hxk⟩ : ∃ x, T.sys.edges[k]? = some x := ⟨_, List.getElem?_eq_getElem hlt⟩
      have hin := edges_in HSV.out (List.mem_of_getElem? hxk)
      have HXK := Lib.hid hxk
      have HI1 := Lib.hid (fun hb => hiddenE_in hxk hb)
      have HI2 := Lib.hid (fun hb => hiddenE_out hxk hb)
      obtain ⟨ve, ee, hE⟩ := HSY.out _ hxr
      obtain ⟨aa, cc, ev, -, hn⟩ := hE.open
      subst ev
      cases ee
      obtain ⟨b, off, rfl, -, hc⟩ := hn k x hxk
      obtain ⟨q1, q2, q3⟩ := hc k x hxk
      obtain ⟨src, letter, dst⟩ := x
      obtain ⟨-, -, -, -, l1, l2, -⟩ := hin
      simp only [] at l1 l2 q1 q2 q3 HI1 HI2
      have hll : ((hiddenE T k).length : Nat) ≤ 4294967000 := by have := hiddenE_len T k; have := HTE.out; omega
      have hk3 : (k : Int) ≤ 30000 := by have := HTE.out; omega
      clear hc hn hE hxk
      have hk0 : (0 : Int) ≤ (k : Int) := by omega
      have hk1 : (k : Int) < (T.sys.edges.length : Int) := by omega
      obtain ⟨hb, hhb⟩ : ∃ hb, bit T.alphabet letter = hb := ⟨_, rfl⟩
      have HHB := Lib.hid hhb
      have CH := Lib.hid (show ∀ w', Ext w1 w' → Calls Tryz.prog 13 #[.int .i64 T.alphabet, .int .i64 letter] w' (Grows (.bool hb) w') from fun w' h => by have := agHas_c T.alphabet letter w' HAL.out.1 (by have := HAL.out.2; omega) l1 (by omega); rw [HHB.out] at this; exact this.mono fun _ _ h => h.grows)
      clear hhb l1 l2
      have t0 := bTr.cell 0 rfl; have t1 := bTr.cell 1 rfl; have t2 := bTr.cell 2 rfl; have t3 := bTr.cell 3 rfl; have t4 := bTr.cell 4 rfl; have t5 := bTr.cell 5 rfl; have t6 := bTr.cell 6 rfl
      go_wp2_with fail
      clear t0 t1 t2 t3 t4 t5 t6
      have D0 := fun d os => cell_regrown (bTr.cell 0 rfl) d os; have D1 := fun d os => cell_regrown (bTr.cell 1 rfl) d os; have D2 := fun d os => cell_regrown (bTr.cell 2 rfl) d os; have D3 := fun d os => cell_regrown (bTr.cell 3 rfl) d os; have D4 := fun d os => cell_regrown (bTr.cell 4 rfl) d os; have D5 := fun d os => cell_regrown (bTr.cell 5 rfl) d os; have D6 := fun d os => cell_regrown (bTr.cell 6 rfl) d os
      have E1 := fun d os => cell_regrown q1 d os
      have E2 := fun d os => cell_regrown q2 d os
      have E3 := fun d os => cell_regrown q3 d os
      rcases hb with _ | _
      · refine wp_region_quiet_below (by kernel_rfl) (by kernel_rfl) ?_
        repeat (go_big_quiet_step ((go_at_call 13; exact Grows.quiet (CH.out _ (hxr.trans (below_regrown _ _ _))))))
        refine wpQuiet_nil ?_
        intro _ hw'
        obtain ⟨⟨dq, osq⟩, hw''⟩ := hw'
        subst hw''
        have hq2 : Ext wr (Go.Sort.grow (redrawn wr dq) osq) := below_regrown wr dq osq
        generalize Go.Sort.grow (redrawn wr dq) osq = wq at hq2 ⊢
        clear E1 E2 E3 D0 D1 D2 D3 D4 D5 D6
        go_wp2_with fail
        have bTq := bTr.ext hq2
        have b6q := b6.ext hq2
        have s1 := hq2.cell q1
        have s2 := hq2.cell q2
        have s3 := hq2.cell q3
        have hP : Pool wb.heap.size wq [⟨38, 3, .slice a6 (hiddenE T k).length c6, (hiddenE T k).length, edgeCells (hiddenE T k)⟩] := ⟨fun s hs => by simp at hs; subst hs; exact hown.ext hq2, List.pairwise_singleton _ _⟩
        have hwq : Ext wb wq := hw.trans hq2
        clear bTr b6 q1 q2 q3 hown hw hxr CH
        have t0 := bTq.cell 0 rfl; have t1 := bTq.cell 1 rfl; have t2 := bTq.cell 2 rfl; have t3 := bTq.cell 3 rfl; have t4 := bTq.cell 4 rfl; have t5 := bTq.cell 5 rfl; have t6 := bTq.cell 6 rfl
        have e2 := b6q.cell 2 rfl
        have r2 := fun o => (b6q.ext (Ext.alloc wq o)).cell 2 rfl
        have x0 : Ext wq (wq.alloc (.cells #[.int .i64 src, .int .i64 letter, .int .i64 dst] 38)).drew := (Ext.alloc _ _).trans (Ext.drew _)
        have hP5 := hP.ext x0
        have hNC : ∀ (j : Nat) u, [Value.int .i64 src, .int .i64 letter, .int .i64 dst][j]? = some u → (wq.alloc (.cells #[.int .i64 src, .int .i64 letter, .int .i64 dst] 38)).drew.cell? ((⟨wq.heap.size, 0, none⟩ : Addr).add j) = some u := fun j u hu => by
          rw [add_none, Nat.zero_add]
          exact ((Blk.new wq #[.int .i64 src, .int .i64 letter, .int .i64 dst] 38).ext (Ext.drew _)).cell j (by simpa using hu)
        have h1c : ∀ u ∈ [Value.int .i64 src, .int .i64 letter, .int .i64 dst], u.oneCell' = true := fun u hu => by simp at hu; rcases hu with rfl | rfl | rfl <;> rfl
        have hbs : wb.heap.size ≤ (wq.alloc (.cells #[.int .i64 src, .int .i64 letter, .int .i64 dst] 38)).drew.heap.size := Nat.le_trans hwq.size x0.size
        go_region_law (first
          | (refine step_appPN (base := wb.heap.size) (l := []) (news := [Value.int .i64 src, .int .i64 letter, .int .i64 dst]) (by rfl) (by rfl) Tryz.underlying23 infoEdge (by rfl) (by decide) hP5 (by rfl) (by rfl) (by rfl) hNC h1c (by omega) (by decide) hbs ?_; intro v1 w7 hP1 hg1 hb1; have b67 := Blk.grown (b6q.ext x0) hP5.head hg1 (show 25 ≠ 38 by decide); have g2 := b67.cell 2 rfl; have f2 := b67.fr 2; obtain ⟨a1, c1, rfl⟩ := own_any' (Pool.hd hP1)))
        all_goals
          have hw8 : Ext wb (w7.setCell ⟨wb.heap.size, 2, none⟩ (.slice a1 ((hiddenE T k).length + 1) c1)) := Ext.setCell (Below.trans (hwq.trans x0) hb1) (Nat.le_refl _) _
          have b68 := b67.set 2 (.slice a1 ((hiddenE T k).length + 1) c1)
          have hP8 := hP1.set b67 (fun s hs => by simp at hs; subst hs; show 25 ≠ 38; decide) 2 (.slice a1 ((hiddenE T k).length + 1) c1)
          have hown8 := EdgesOwn.push (x := ⟨src, letter, dst⟩) (Pool.hd hP8) (HI1.out HHB.out)
          clear hP hP1 hP5 hP8 hg1 hb1 b67 g2 f2 b6q bTq e2 r2 x0 hNC h1c hbs t0 t1 t2 t3 t4 t5 t6 s1 s2 s3
          generalize w7.setCell ⟨wb.heap.size, 2, none⟩ (.slice a1 ((hiddenE T k).length + 1) c1) = w8 at hw8 b68 hown8 ⊢
          go_wp2_with fail
          exact ⟨⟨k + 1, _, by omega, by go_num, hw8, b68, hown8⟩, by simp [intOf]; omega⟩
      · refine wp_region_quiet_below (by kernel_rfl) (by kernel_rfl) ?_
        repeat (go_big_quiet_step ((go_at_call 13; exact Grows.quiet (CH.out _ (hxr.trans (below_regrown _ _ _))))))
        refine wpQuiet_nil ?_
        intro _ hw'
        obtain ⟨⟨dq, osq⟩, hw''⟩ := hw'
        subst hw''
        have hq2 : Ext wr (Go.Sort.grow (redrawn wr dq) osq) := below_regrown wr dq osq
        generalize Go.Sort.grow (redrawn wr dq) osq = wq at hq2 ⊢
        go_wp2_with fail
        exact ⟨⟨k + 1, _, by omega, by go_num, hw.trans hq2, b6.ext hq2, by rw [HI2.out HHB.out]; exact hown.ext hq2⟩, by simp [intOf]; omega⟩
    · obtain rfl : k = T.sys.edges.length := by omega
      have t0 := bTr.cell 0 rfl; have t1 := bTr.cell 1 rfl; have t2 := bTr.cell 2 rfl; have t3 := bTr.cell 3 rfl; have t4 := bTr.cell 4 rfl; have t5 := bTr.cell 5 rfl; have t6 := bTr.cell 6 rfl
      go_wp2_with fail
      clear t0 t1 t2 t3 t4 t5 t6
      have D0 := fun d os => cell_regrown (bTr.cell 0 rfl) d os; have D1 := fun d os => cell_regrown (bTr.cell 1 rfl) d os; have D2 := fun d os => cell_regrown (bTr.cell 2 rfl) d os; have D3 := fun d os => cell_regrown (bTr.cell 3 rfl) d os; have D4 := fun d os => cell_regrown (bTr.cell 4 rfl) d os; have D5 := fun d os => cell_regrown (bTr.cell 5 rfl) d os; have D6 := fun d os => cell_regrown (bTr.cell 6 rfl) d os
      have E0 := fun d os => cell_regrown (b6.cell 0 rfl) d os; have E1 := fun d os => cell_regrown (b6.cell 1 rfl) d os; have E2 := fun d os => cell_regrown (b6.cell 2 rfl) d os
      obtain ⟨kb, hkb⟩ : ∃ kb, keepsB [fewer T.sys fun e => !bit T.alphabet e.letter] T.prop = kb := ⟨_, rfl⟩
      have hsb : safeWord T ByteArray.empty = kb := by rw [safe_empty HTB.out]; exact hkb
      have HKB := Lib.hid hkb
      have HSB := Lib.hid hsb
      have hE6 := hown.edges
      have HS6 := Lib.hid (show ∀ w', Ext wr w' → SysV w' (.agg #[.int .i64 T.sys.alphabet, .int .i64 T.sys.states, .slice a6 (hiddenE T T.sys.edges.length).length c6]) (fewer T.sys fun e => !bit T.alphabet e.letter) from fun w' h => by rw [hiddenE_all]; exact ⟨_, rfl, hE6.mono h⟩)
      have heq3 : (kb == kb) = true := by simp
      clear hE6 hkb hsb
      have hzz : (ByteArray.empty).size ≤ 1048576 := Nat.zero_le _
      have CE := Lib.hid (show ∀ w', Ext w1 w' → Calls Tryz.prog 10 #[.agg #[.int .i64 T.sys.alphabet, .int .i64 T.sys.states, .slice aE1 T.sys.edges.length cE1, .int .i64 T.prop.alphabet, .slice aN1 T.prop.next.length cN1, .slice aA1 T.prop.accept.length cA1, .int .i64 T.alphabet], .string ByteArray.empty] w' (Grows (.bool kb) w') from fun w' h => by have := SafeWord_c _ T ByteArray.empty w' (HT.out _ h) hzz (HD.out _ h); rwa [HSB.out] at this)
      have CK := Lib.hid (show ∀ w', Ext wr w' → Calls Tryz.prog 14 #[.agg #[.int .i64 T.sys.alphabet, .int .i64 T.sys.states, .slice a6 (hiddenE T T.sys.edges.length).length c6], .agg #[.int .i64 T.prop.alphabet, .slice aN1 T.prop.next.length cN1, .slice aA1 T.prop.accept.length cA1]] w' (Grows (.bool kb) w') from fun w' h => by have := KeepsProperty_cd _ _ _ T.prop w' (HS6.out _ h) (HAU.out _ (hxr.trans h)) (HD.out _ (hxr.trans h)); rwa [HKB.out] at this)
      refine wp_region_quiet_below (by kernel_rfl) (by kernel_rfl) ?_
      repeat (go_big_quiet_step ((first | (go_at_call 10; exact Grows.quiet (CE.out _ (hxr.trans (below_regrown _ _ _)))) | (go_at_call 14; exact Grows.quiet (CK.out _ (below_regrown _ _ _))))))
      refine wpQuiet_nil ?_
      intro _ hw'
      obtain ⟨⟨dq, osq⟩, hw''⟩ := hw'
      subst hw''
      have hq2 : Ext wr (Go.Sort.grow (redrawn wr dq) osq) := below_regrown wr dq osq
      generalize Go.Sort.grow (redrawn wr dq) osq = wq at hq2 ⊢
      go_wp2_with fail
      go_ret
      exact Grows.mk rfl (he1.trans (hxr.trans hq2))

theorem own : ownKnob Tryz.prog.godebug = none := by kernel_rfl
theorem laidOut : laidOutB Tryz.prog = true := by kernel_rfl
theorem deb_of_laid {W : World} (h : laidMetH Tryz.prog Rows.fnSafeEmptyRow.laid W) : Deb W := debOfLaid h
theorem laid_met (os : Os) (args : Array Value) : laidMetH Tryz.prog Rows.fnSafeEmptyRow.laid ((laidWorld os).forCall (fun _ _ => 0) ⟨#[], args, []⟩).memory :=
  (LaidIn.of_run [0, 1] 8 (by kernel_rfl) (by kernel_rfl) (by kernel_rfl) (by kernel_rfl)).met
set_option maxRecDepth 100000 in
theorem lifted (os : Os) (started : os.Started) (H : Type) (enc : TypeId × Value → H) :
    ReturnsInHanded {} Tryz.checked os 3 .any (fun w args => (Rows.fnSafeEmptySpec.pre enc Tryz.prog Tryz.f3 [] false w args ∧ laidMetH Tryz.prog Rows.fnSafeEmptyRow.laid w) ∧ sizedMet enc Tryz.prog Tryz.f3 (OpenSpec.ofChange Rows.fnSafeEmptySpec) false w args)
      (Rows.fnSafeEmptySpec.post enc Tryz.prog Tryz.f3 false true false false) := by
  refine returnsInHanded_of_change_and (C := Tryz.checked) (X := fun w _ => laidMetH Tryz.prog Rows.fnSafeEmptyRow.laid w) (fun _ _ _ hh h => h.of_heap hh) own started (by kernel_rfl) Tryz.func3
    (ChangeSpec.witness_at (enc := enc) (C := Tryz.checked) (os := os) (X := fun w _ => laidMetH Tryz.prog Rows.fnSafeEmptyRow.laid w) false (laidWorld os) #[.slice none 0 0] 8 rfl (by kernel_rfl) (by kernel_rfl) (by kernel_rfl) (by kernel_rfl) (by kernel_rfl) (laid_met os _)) ?_
  intro W base args ds gs before hval0 hW _ _ hL _
  have hval : ∀ (j : Nat) t v, Tryz.f3.params[j]? = some t → args[j]? = some v → Value.okWide Tryz.prog W .any base t v := hval0
  have hW' := hW
  obtain ⟨p, q, hA0, hV, rfl, hfz, hnd⟩ := hW
  have hA : DataW.TrodAll enc Tryz.prog W 0 (fun _ => true) true Tryz.f3.params.toList args.toList ds p := hA0
  rw [Tryz.params3] at hA hval
  obtain ⟨v0, vs0, d0, ds0, p0, q0, hargs, rfl, rfl, h0, r0⟩ := trodAll_cons hA
  obtain ⟨rfl, rfl, rfl⟩ := trodAll_nil r0
  obtain rfl : args = #[v0] := by cases args; simp_all
  obtain ⟨rfl, rfl⟩ := trodVars_none hV
  have k0 := h0
  have lt0 : ∀ x ∈ p0, x.block < W.heap.size := by obtain ⟨m, hm⟩ := k0; exact DataW.trod_lt m _ _ _ hm
  obtain ⟨a0, len0, cap0, rfl⟩ := okWide_slice Tryz.underlying22 (hval 0 _ v0 rfl rfl)
  obtain ⟨t0, w0⟩ : ∃ t, BytesV W (.slice a0 len0 cap0) t := by
    obtain ⟨fuel, hf⟩ := h0
    obtain ⟨v, t, hv, ht⟩ := read_bytes hf
    simp [Value.cells] at hv
    subst hv
    exact ⟨t, ht⟩
  clear hA0 hval0
  refine (walk (.slice a0 len0 cap0) t0 W w0 (deb_of_laid hL)).mono fun e W' ⟨he, bel⟩ => ?_
  subst he
  exact ⟨_, rfl, _, _, _, [], _, [], hW', trodAll_mk1 (shut_bool Tryz.underlying4 _), (trodAll_cons_mk (Below.trod laidOut (by kernel_rfl) (of_decide_eq_true (by kernel_rfl)) k0 bel lt0) trodAll_mk0), rfl, bel.frame _, fun h => by cases h⟩

theorem over : Rows.fnSafeEmptyRow.holds Tryz.pinned (OpenSpec.ofChange Rows.fnSafeEmptySpec) :=
  OpenClaim.holds_of_wide 3 Tryz.f3 rfl rfl rfl rfl rfl rfl rfl ⟨rfl, rfl, rfl, rfl, rfl⟩ rfl rfl rfl rfl rfl (by kernel_rfl) Tryz.func3 (by kernel_rfl)
    (of_decide_eq_true (by kernel_rfl)) (by unfold Func.isWrapper; first | (rw [if_pos (by decide +kernel)]; kernel_rfl) | (rw [if_neg (by decide +kernel)]; exact ⟨rfl, rfl⟩))
    (fun os started H enc _ => lifted os started H enc)

theorem card_holds : Rows.FnSafeEmptyCardSaid :=
  Claim7.holds_tied_plain_at .later [] [.data, .data] true (true, "741764b550b8ab83034003a71969cfa28334938bba6d608f5e98862d6258d41e") false
    over (fun _ h => by cases h) (by kernel_rfl) (fun _ h => by cases h) fnSafeEmpty_row_tie rfl ⟨rfl, rfl⟩ (by kernel_rfl) rfl
    (fun f fn hf hfn => by
      obtain rfl : f = 3 := Option.some.inj ((show Tryz.prog.funcNamed "loop.example/assumeguarantee/laws.FnSafeEmpty" = some 3 by kernel_rfl).symm.trans hf) |>.symm
      obtain rfl : fn = Tryz.f3 := (Option.some.inj (Tryz.func3.symm.trans hfn)).symm
      refine ⟨by kernel_rfl, fun j t ht => ?_⟩
      rw [Tryz.params3] at ht
      match j, ht with
      | 0, ht =>
        have h0 : t = 22 := by simpa using ht.symm
        subst h0
        exact (show Tryz.prog.wantsStandIn 22 = false by kernel_rfl)
      | j + 1, ht => simp at ht)
    (by kernel_rfl)
#print axioms card_holds
end Go.Proofs.YtnahccghglglfaaGreatDoor.lawFnSafeEmpty
