/- FnSafeUnder: for all bytes, a word within the task's alphabet is safe exactly if the system keeps the property under the automaton of the word's prefixes: the law answers true. -/
import Derived.Test.YtnahccghglglfaaGreatDoorDrawU
import Derived.Test.YtnahccghglglfaaGreatDoorSafeS
import Derived.Test.YtnahccghglglfaaGreatDoorSafeN
import Derived.Test.YtnahccghglglfaaGreatDoorDet
import Derived.Test.YtnahccghglglfaaGreatDoorPool
import Derived.Test.YtnahccghglglfaaGreatDoorCard
import Derived.Test.YtnahccghglglfaaGreatDoorDrawL
namespace Go.Proofs.YtnahccghglglfaaGreatDoor.lawFnSafeUnder
open Go.ChangeShapes Go.WideShapes Go.ChangeAt Go.RowKit
open Go.Proofs.YtnahccghglglfaaGreatDoor
open Go.ChangeMaps (open_string shut_string)
set_option linter.unusedVariables false
set_option linter.unusedSimpArgs false
set_option maxHeartbeats 1600000
set_option maxRecDepth 100000

theorem agHas_c (s n : Int) (w : World) (hs : 0 ≤ s) (hs2 : s ≤ 9223372036854775807) (h : 0 ≤ n) (hn : n < 64) :
    Calls Tryz.prog 13 #[.int .i64 s, .int .i64 n] w (Same (.bool (bit s n)) w) := by
  go_enter Tryz.func13, Tryz.ntmps13
  go_wp2
  go_ret
  exact ⟨by rw [bit_nonneg h, ← has_bit s n hs hs2]; rfl, rfl⟩
/-- The first letters of a row of the prefixes' automaton. -/
def rowTo (a : Int) (u : List Int) (k q : Nat) : List Int := (lettersTo a q).map fun c => if u[k]? = some c then (k : Int) + 1 else (u.length : Int) + 1
theorem rowTo_out {a : Int} {u : List Int} {k q : Nat} (hb : bit a (q : Int) = false) : rowTo a u k (q + 1) = rowTo a u k q := by
  unfold rowTo; rw [lettersTo_succ, hb]; simp
theorem rowTo_in {a : Int} {u : List Int} {k q : Nat} (hb : bit a (q : Int) = true) : rowTo a u k (q + 1) = rowTo a u k q ++ [if u[k]? = some (q : Int) then (k : Int) + 1 else (u.length : Int) + 1] := by
  unfold rowTo; rw [lettersTo_succ, hb]; simp
theorem rowTo_len (a : Int) (u : List Int) (k q : Nat) : (rowTo a u k q).length ≤ q := by
  unfold rowTo; rw [List.length_map]; exact lettersTo_len a q
theorem perm_under (b n r : Slc) (R : List Slc) : (b :: n :: r :: R).Perm (n :: b :: (R ++ [r])) :=
  (List.Perm.swap n b (r :: R)).trans (((List.perm_append_singleton r R).symm.cons b).cons n)

theorem ne_under {n1 n2 n3 : Nat} {v1 v2 v3 : Value} {x1 x2 x3 : List Value} {vs : List Value} {rows : List (List Int)} : ∀ t ∈ (⟨52, 1, v1, n1, x1⟩ :: ⟨3, 1, v2, n2, x2⟩ :: ⟨4, 1, v3, n3, x3⟩ :: slRows 3 vs rows : List Slc), 29 ≠ t.e := fun t ht => by
  rcases List.mem_cons.1 ht with e | ht
  · rw [e]; dsimp only; decide
  rcases List.mem_cons.1 ht with e | ht
  · rw [e]; dsimp only; decide
  rcases List.mem_cons.1 ht with e | ht
  · rw [e]; dsimp only; decide
  · rw [slRows_e t ht]; decide
theorem ne_under2 {n1 n2 n3 : Nat} {v1 v2 v3 : Value} {x1 x2 x3 : List Value} {vs : List Value} {rows : List (List Int)} : ∀ t ∈ (⟨4, 1, v1, n1, x1⟩ :: ⟨52, 1, v2, n2, x2⟩ :: ⟨3, 1, v3, n3, x3⟩ :: slRows 3 vs rows : List Slc), 29 ≠ t.e := fun t ht => by
  rcases List.mem_cons.1 ht with e | ht
  · rw [e]; dsimp only; decide
  rcases List.mem_cons.1 ht with e | ht
  · rw [e]; dsimp only; decide
  rcases List.mem_cons.1 ht with e | ht
  · rw [e]; dsimp only; decide
  · rw [slRows_e t ht]; decide

theorem walk (v0 : Value) (t0 : List UInt8) (w : World) (hv0 : BytesV w v0 t0) (hD : Deb w) : Calls Tryz.prog 5 #[v0] w (Grows (.bool true) w) := by
  obtain ⟨aB, cB, rfl, hleB, -⟩ := hv0.open
  have HDb := Lib.hid hD
  clear hD
  by_cases hz0 : 1048576 < t0.length
  · go_enter Tryz.func5, Tryz.ntmps5
    go_wp2_with fail
    go_ret
    exact Grows.mk rfl (Ext.refl _)
  go_enter Tryz.func5, Tryz.ntmps5
  go_wp2_with fail
  refine (DrawSafeWord_t _ t0 _ hv0 (by omega)).mono ?_
  rintro e w1 ⟨vt, s, T, rfl, he1, hTV, hTe, hsz⟩
  obtain ⟨vE1, vN1, vA1, rfl, hE1, hN1, hA1⟩ := hTV
  obtain ⟨aE1, cE1, rfl, -, -⟩ := hE1.open
  obtain ⟨aN1, cN1, rfl, -, -⟩ := hN1.open
  obtain ⟨aA1, cA1, rfl, -, -⟩ := hA1.open
  have HT := Lib.hid (show ∀ w', Ext w1 w' → TaskV w' (.agg #[.int .i64 T.sys.alphabet, .int .i64 T.sys.states, .slice aE1 T.sys.edges.length cE1, .int .i64 T.prop.alphabet, .slice aN1 T.prop.next.length cN1, .slice aA1 T.prop.accept.length cA1, .int .i64 T.alphabet]) T from fun w' h => ⟨_, _, _, rfl, hE1.mono h, hN1.mono h, hA1.mono h⟩)
  have HSY := Lib.hid (show ∀ w', Ext w1 w' → SysV w' (.agg #[.int .i64 T.sys.alphabet, .int .i64 T.sys.states, .slice aE1 T.sys.edges.length cE1]) T.sys from fun w' h => ⟨_, rfl, hE1.mono h⟩)
  have HAU := Lib.hid (show ∀ w', Ext w1 w' → AutoV w' (.agg #[.int .i64 T.prop.alphabet, .slice aN1 T.prop.next.length cN1, .slice aA1 T.prop.accept.length cA1]) T.prop from fun w' h => ⟨_, _, rfl, hN1.mono h, hA1.mono h⟩)
  have HD := Lib.hid (show ∀ w', Ext w1 w' → Deb w' from fun w' h => HDb.out.ext (he1.trans h))
  obtain ⟨sw, hsw⟩ : ∃ sw, safeWord T s = sw := ⟨_, rfl⟩
  have HSW := Lib.hid hsw
  have C1 := Lib.hid (show ∀ w', Ext w1 w' → Calls Tryz.prog 10 #[.agg #[.int .i64 T.sys.alphabet, .int .i64 T.sys.states, .slice aE1 T.sys.edges.length cE1, .int .i64 T.prop.alphabet, .slice aN1 T.prop.next.length cN1, .slice aA1 T.prop.accept.length cA1, .int .i64 T.alphabet], .string s] w' (Grows (.bool sw) w') from fun w' h => by have := SafeWord_c _ T s w' (HT.out _ h) (by omega) (HD.out _ h); rwa [HSW.out] at this)
  have C2 := Lib.hid (show ∀ w', Ext w1 w' → Calls Tryz.prog 11 #[.agg #[.int .i64 T.sys.alphabet, .int .i64 T.sys.states, .slice aE1 T.sys.edges.length cE1, .int .i64 T.prop.alphabet, .slice aN1 T.prop.next.length cN1, .slice aA1 T.prop.accept.length cA1, .int .i64 T.alphabet], .string s] w' (Grows (.bool sw) w') from fun w' h => by have := SafeWord_s _ T s w' (HT.out _ h) (by omega) (by omega); rwa [HSW.out] at this)
  clear hE1 hN1 hA1 hsw
  have hx : Ext w1 (w1.alloc (.cells #[.int .i64 T.sys.alphabet, .int .i64 T.sys.states, .slice aE1 T.sys.edges.length cE1, .int .i64 T.prop.alphabet, .slice aN1 T.prop.next.length cN1, .slice aA1 T.prop.accept.length cA1, .int .i64 T.alphabet] 31)) := Ext.alloc _ _
  have bT : Blk (w1.alloc (.cells #[.int .i64 T.sys.alphabet, .int .i64 T.sys.states, .slice aE1 T.sys.edges.length cE1, .int .i64 T.prop.alphabet, .slice aN1 T.prop.next.length cN1, .slice aA1 T.prop.accept.length cA1, .int .i64 T.alphabet] 31)) w1.heap.size #[.int .i64 T.sys.alphabet, .int .i64 T.sys.states, .slice aE1 T.sys.edges.length cE1, .int .i64 T.prop.alphabet, .slice aN1 T.prop.next.length cN1, .slice aA1 T.prop.accept.length cA1, .int .i64 T.alphabet] 31 := Ext.blk (Ext.refl _)
  go_wp2_with fail
  generalize (w1.alloc (.cells #[.int .i64 T.sys.alphabet, .int .i64 T.sys.states, .slice aE1 T.sys.edges.length cE1, .int .i64 T.prop.alphabet, .slice aN1 T.prop.next.length cN1, .slice aA1 T.prop.accept.length cA1, .int .i64 T.alphabet] 31)) = w2 at hx bT ⊢
  have bT_0 := bT.cell 0 rfl; have bT_1 := bT.cell 1 rfl; have bT_2 := bT.cell 2 rfl; have bT_3 := bT.cell 3 rfl; have bT_4 := bT.cell 4 rfl; have bT_5 := bT.cell 5 rfl; have bT_6 := bT.cell 6 rfl
  go_wp2_with fail
  refine (C1.out _ hx).mono ?_
  rintro e wz1 ⟨rfl, hez1⟩
  clear bT_0 bT_1 bT_2 bT_3 bT_4 bT_5 bT_6
  replace bT := bT.ext hez1
  replace hx := hx.trans hez1
  have bT_0 := bT.cell 0 rfl; have bT_1 := bT.cell 1 rfl; have bT_2 := bT.cell 2 rfl; have bT_3 := bT.cell 3 rfl; have bT_4 := bT.cell 4 rfl; have bT_5 := bT.cell 5 rfl; have bT_6 := bT.cell 6 rfl
  go_wp2_with fail
  refine (C2.out _ hx).mono ?_
  rintro e wz2 ⟨rfl, hez2⟩
  clear bT_0 bT_1 bT_2 bT_3 bT_4 bT_5 bT_6
  replace bT := bT.ext hez2
  replace hx := hx.trans hez2
  have bT_0 := bT.cell 0 rfl; have bT_1 := bT.cell 1 rfl; have bT_2 := bT.cell 2 rfl; have bT_3 := bT.cell 3 rfl; have bT_4 := bT.cell 4 rfl; have bT_5 := bT.cell 5 rfl; have bT_6 := bT.cell 6 rfl
  have heq2 : (sw != sw) = false := by simp
  have heq3 : (sw == sw) = true := by simp
  obtain ⟨tb, htb⟩ : ∃ tb, taskValid T = tb := ⟨_, rfl⟩
  have HTB := Lib.hid htb
  have CT := Lib.hid (show ∀ w', Ext w1 w' → Calls Tryz.prog 12 #[.agg #[.int .i64 T.sys.alphabet, .int .i64 T.sys.states, .slice aE1 T.sys.edges.length cE1, .int .i64 T.prop.alphabet, .slice aN1 T.prop.next.length cN1, .slice aA1 T.prop.accept.length cA1, .int .i64 T.alphabet]] w' (Grows (.bool tb) w') from fun w' h => by have := TaskValid_c _ T w' (HT.out _ h); rwa [HTB.out] at this)
  obtain ⟨wv, hwv⟩ : ∃ wv, wordIn s T.alphabet = wv := ⟨_, rfl⟩
  have HWV := Lib.hid hwv
  have CWW := Lib.hid (show ∀ w', Calls Tryz.prog 22 #[.string s, .int .i64 T.alphabet] w' (Same (.bool wv) w') from fun w' => by have := WordWithin_c s T.alphabet w' (by omega); rwa [HWV.out] at this)
  clear htb hwv
  go_wp2_with fail
  refine (CT.out _ hx).mono ?_
  rintro e wz3 ⟨rfl, hez3⟩
  clear bT_0 bT_1 bT_2 bT_3 bT_4 bT_5 bT_6
  replace bT := bT.ext hez3
  replace hx := hx.trans hez3
  have bT_0 := bT.cell 0 rfl; have bT_1 := bT.cell 1 rfl; have bT_2 := bT.cell 2 rfl; have bT_3 := bT.cell 3 rfl; have bT_4 := bT.cell 4 rfl; have bT_5 := bT.cell 5 rfl; have bT_6 := bT.cell 6 rfl
  cases tb with
  | false =>
    go_wp2_with fail
    refine (C2.out _ hx).mono ?_
    rintro e wz4 ⟨rfl, hez4⟩
    clear bT_0 bT_1 bT_2 bT_3 bT_4 bT_5 bT_6
    replace bT := bT.ext hez4
    replace hx := hx.trans hez4
    have bT_0 := bT.cell 0 rfl; have bT_1 := bT.cell 1 rfl; have bT_2 := bT.cell 2 rfl; have bT_3 := bT.cell 3 rfl; have bT_4 := bT.cell 4 rfl; have bT_5 := bT.cell 5 rfl; have bT_6 := bT.cell 6 rfl
    go_wp2_with fail
    go_ret
    exact Grows.mk rfl (he1.trans hx)
  | true =>
  go_wp2_with fail
  refine (CWW.out _).mono ?_
  rintro e ww ⟨rfl, rfl⟩
  cases wv with
  | false =>
    go_wp2_with fail
    refine (C2.out _ hx).mono ?_
    rintro e wz5 ⟨rfl, hez5⟩
    clear bT_0 bT_1 bT_2 bT_3 bT_4 bT_5 bT_6
    replace bT := bT.ext hez5
    replace hx := hx.trans hez5
    have bT_0 := bT.cell 0 rfl; have bT_1 := bT.cell 1 rfl; have bT_2 := bT.cell 2 rfl; have bT_3 := bT.cell 3 rfl; have bT_4 := bT.cell 4 rfl; have bT_5 := bT.cell 5 rfl; have bT_6 := bT.cell 6 rfl
    go_wp2_with fail
    go_ret
    exact Grows.mk rfl (he1.trans hx)
  | true =>
  by_cases h12 : s.size + 2 ≤ 12
  case neg =>
    have h12' : (12 : Int) < (s.size : Int) + 2 := by omega
    go_wp2_with fail
    refine (C2.out _ hx).mono ?_
    rintro e wz6 ⟨rfl, hez6⟩
    clear bT_0 bT_1 bT_2 bT_3 bT_4 bT_5 bT_6
    replace bT := bT.ext hez6
    replace hx := hx.trans hez6
    have bT_0 := bT.cell 0 rfl; have bT_1 := bT.cell 1 rfl; have bT_2 := bT.cell 2 rfl; have bT_3 := bT.cell 3 rfl; have bT_4 := bT.cell 4 rfl; have bT_5 := bT.cell 5 rfl; have bT_6 := bT.cell 6 rfl
    go_wp2_with fail
    go_ret
    exact Grows.mk rfl (he1.trans hx)
  have h12' : ¬ ((12 : Int) < (s.size : Int) + 2) := by omega
  obtain ⟨-, -, hal⟩ := taskValid_facts HTB.out
  obtain ⟨ha0, ha1⟩ := alpha_facts hal
  have HAL := Lib.hid (And.intro ha0 ha1)
  have HPV := Lib.hid (prefA_valid hal (u := chars s) (by rw [chars_len]; exact h12))
  have HUN := Lib.hid (safeWord_under HTB.out HWV.out h12)
  clear C1 C2 CT CWW heq2 hal ha0 ha1
  clear bT_0 bT_1 bT_2 bT_3 bT_4 bT_5 bT_6
  generalize wz3 = wb at hx bT ⊢
  have bT_0 := bT.cell 0 rfl; have bT_1 := bT.cell 1 rfl; have bT_2 := bT.cell 2 rfl; have bT_3 := bT.cell 3 rfl; have bT_4 := bT.cell 4 rfl; have bT_5 := bT.cell 5 rfl; have bT_6 := bT.cell 6 rfl
  have hw : Ext wb (wb.alloc (.cells #[.int .i64 T.alphabet, .slice none 0 0, .slice none 0 0] 29)) := Ext.alloc _ _
  have b6 : Blk (wb.alloc (.cells #[.int .i64 T.alphabet, .slice none 0 0, .slice none 0 0] 29)) wb.heap.size #[.int .i64 T.alphabet, .slice none 0 0, .slice none 0 0] 29 := Blk.new _ _ _
  go_wp2_with fail
  generalize wb.alloc (.cells #[.int .i64 T.alphabet, .slice none 0 0, .slice none 0 0] 29) = wc at hw b6 ⊢
  have hP : Pool wb.heap.size wc [⟨52, 1, .slice none 0 0, 0, []⟩, ⟨4, 1, .slice none 0 0, 0, []⟩] := ((Pool.nil wb.heap.size wc).addNil 4 1).addNil 52 1
  clear bT_0 bT_1 bT_2 bT_3 bT_4 bT_5 bT_6
  go_loopw [7, 74, 75, 76, 77, 78, 79, 80] (fun i _ _ _ _ _ _ _ wr => ∃ (k : Nat) (vn va : Value) (vs : List Value) (rows : List (List Int)) (acc : List Bool), k ≤ s.size + 2 ∧ i = .int .i64 k ∧ Ext wb wr ∧ Blk wr wb.heap.size #[.int .i64 T.alphabet, vn, va] 29 ∧ Hid (vs.length = k ∧ rows.length = k ∧ rows = (List.range k).map (prefRow T.alphabet (chars s)) ∧ acc = (List.range k).map fun i => decide (i ≤ (chars s).length)) ∧ Pool wb.heap.size wr (⟨52, 1, vn, k, vs⟩ :: ⟨4, 1, va, k, acc.map Value.bool⟩ :: slRows 3 vs rows)) (fun i _ _ _ _ _ _ _ _ => s.size + 2 - (intOf i).toNat)
  case atStart => exact ⟨0, _, _, [], [], [], by omega, rfl, hw, b6, Lib.hid ⟨rfl, rfl, rfl, rfl⟩, hP⟩
  case round =>
    clear hw b6 hP
    obtain ⟨k, vn, va, vs, rows, acc, hk, rfl, hw, b6, HK, hP⟩ := hrel
    obtain ⟨aV, cV, rfl⟩ := own_any' (Pool.hd hP)
    obtain ⟨aW, cW, rfl⟩ := own_any' (Pool.hd2 hP)
    by_cases hlt : k < s.size + 2
    · have hlt' : (k : Int) < (s.size : Int) + 2 := by omega
      have hPL : Pool wb.heap.size (wr.alloc (.cells #[] 3)) (⟨3, 1, .slice (some ⟨wr.heap.size, 0, none⟩) 0 0, 0, ([] : List Int).map (Value.int .i64)⟩ :: ⟨52, 1, .slice aV k cV, k, vs⟩ :: ⟨4, 1, .slice aW k cW, k, acc.map Value.bool⟩ :: slRows 3 vs rows) := hP.addLit 3 1 (Nat.le_refl _) hw.size (Ext.alloc _ _) (Blk.new _ _ _)
      have hwl := hw.trans (Ext.alloc wr (.cells #[] 3))
      have b6l := b6.ext (Ext.alloc wr (.cells #[] 3))
      clear hP hw b6
      go_wp2_with fail
      go_loopw [8, 9, 74, 75, 76, 77, 78, 79, 80] (fun vR j _ _ _ _ _ _ _ wz => ∃ (q : Nat) (row : List Int), q ≤ 6 ∧ j = .int .i64 q ∧ Ext wb wz ∧ Blk wz wb.heap.size #[.int .i64 T.alphabet, .slice aV k cV, .slice aW k cW] 29 ∧ Hid (row = rowTo T.alphabet (chars s) k q) ∧ Pool wb.heap.size wz (⟨3, 1, vR, row.length, row.map (Value.int .i64)⟩ :: ⟨52, 1, .slice aV k cV, k, vs⟩ :: ⟨4, 1, .slice aW k cW, k, acc.map Value.bool⟩ :: slRows 3 vs rows)) (fun _ j _ _ _ _ _ _ _ _ => 6 - (intOf j).toNat)
      case atStart => exact ⟨0, [], by omega, rfl, hwl, b6l, Lib.hid rfl, hPL⟩
      case round =>
        clear hwl b6l hPL
        obtain ⟨q, row, hq, rfl, hw, b6, HROW, hP⟩ := hrel
        obtain ⟨aR, cR, rfl⟩ := own_any' (Pool.hd hP)
        have hrl : row.length ≤ 6 := by rw [HROW.out]; exact Nat.le_trans (rowTo_len _ _ _ _) hq
        have bTr := bT.ext hw
        by_cases hq6 : q < 6
        · have t0 := bTr.cell 0 rfl; have t1 := bTr.cell 1 rfl; have t2 := bTr.cell 2 rfl; have t3 := bTr.cell 3 rfl; have t4 := bTr.cell 4 rfl; have t5 := bTr.cell 5 rfl; have t6 := bTr.cell 6 rfl
          go_wp2_with fail
          obtain ⟨hb, hhb⟩ : ∃ hb, bit T.alphabet (q : Int) = hb := ⟨_, rfl⟩
          have HHB := Lib.hid hhb
          have CH := agHas_c T.alphabet q wr HAL.out.1 (by have := HAL.out.2; omega) (by omega) (by omega)
          rw [hhb] at CH
          clear hhb
          refine CH.mono ?_
          rintro e w9 ⟨rfl, rfl⟩
          clear CH
          cases hb with
          | false =>
            go_wp2_with fail
            exact ⟨⟨q + 1, row, by omega, by go_num, hw, b6, Lib.hid (by rw [rowTo_out HHB.out]; exact HROW.out), hP⟩, by simp [intOf]; omega⟩
          | true =>
            clear t0 t1 t2 t3 t4 t5 t6 bTr
            have HR1 := Lib.hid (rowTo_in (u := chars s) (k := k) HHB.out)
            by_cases hks : k < s.size
            · have hks' : (k : Int) < (s.size : Int) := by omega
              have h1 := chAt_get s k hks
              have h2 := chAt_lo s k
              have h3 := chAt_hi s k
              have HCH := Lib.hid (chars_at s k hks)
              by_cases hc : chAt s k = (q : Int)
              · have hcb : (chAt s k == (q : Int)) = true := by simp [hc]
                have HC := Lib.hid hc
                clear hc
                go_wp2_with (at_builtin; refine appP (news := [Value.int .i64 ((k : Int) + 1)]) rfl rfl Tryz.underlying52 infoInt rfl (by decide) hP rfl rfl rfl (by simp [Value.oneCell']) (by omega) (by decide) hw.size ?_; intro v1 w3 hP1 hg1 hb1)
                exact ⟨⟨q + 1, row ++ [(k : Int) + 1], by omega, by go_num, Below.trans hw hb1, b6.grown (Pool.hd hP) hg1 (by decide), Lib.hid (by rw [HR1.out, HCH.out, if_pos (by rw [HC.out]), HROW.out]), by simpa using hP1⟩, by simp [intOf]; omega⟩
              · have hcb : (chAt s k == (q : Int)) = false := by simp [hc]
                have HC := Lib.hid hc
                clear hc
                go_wp2_with (at_builtin; refine appP (news := [Value.int .i64 ((s.size : Int) + 1)]) rfl rfl Tryz.underlying52 infoInt rfl (by decide) hP rfl rfl rfl (by simp [Value.oneCell']) (by omega) (by decide) hw.size ?_; intro v1 w3 hP1 hg1 hb1)
                exact ⟨⟨q + 1, row ++ [(s.size : Int) + 1], by omega, by go_num, Below.trans hw hb1, b6.grown (Pool.hd hP) hg1 (by decide), Lib.hid (by rw [HR1.out, HCH.out, if_neg (fun e => HC.out (Option.some.inj e)), HROW.out, chars_len]), by simpa using hP1⟩, by simp [intOf]; omega⟩
            · have hks' : ¬ (k : Int) < (s.size : Int) := by omega
              go_wp2_with (at_builtin; refine appP (news := [Value.int .i64 ((s.size : Int) + 1)]) rfl rfl Tryz.underlying52 infoInt rfl (by decide) hP rfl rfl rfl (by simp [Value.oneCell']) (by omega) (by decide) hw.size ?_; intro v1 w3 hP1 hg1 hb1)
              exact ⟨⟨q + 1, row ++ [(s.size : Int) + 1], by omega, by go_num, Below.trans hw hb1, b6.grown (Pool.hd hP) hg1 (by decide), Lib.hid (by rw [HR1.out, List.getElem?_eq_none (by rw [chars_len]; omega), if_neg (by simp), HROW.out, chars_len]), by simpa using hP1⟩, by simp [intOf]; omega⟩
        · obtain rfl : q = 6 := by omega
          have hRE : row = prefRow T.alphabet (chars s) k := HROW.out
          have HRE := Lib.hid hRE
          clear hRE HROW bTr
          have hkk : k ≤ 12 := by omega
          have gc1 := b6.cell 1 rfl
          have hPN := hP.perm (List.Perm.swap _ _ _)
          go_wp2_with (first
            | (at_builtin; refine appP (news := [Value.slice aR row.length cR]) rfl rfl Tryz.underlying26 infoInts rfl (by decide) hPN rfl rfl rfl (by simp [Value.oneCell']) (by omega) (by decide) hw.size ?_; intro v1 w3 hP1 hg1 hb1; obtain ⟨a1, c1, rfl⟩ := own_any' (Pool.hd hP1); have hG1 := b6.grown (Pool.hd hPN) hg1 (by decide); have gd1 := hG1.cell 1 rfl; have gd2 := hG1.cell 2 rfl; have gf1 := hG1.fr 1; have hG2 := hG1.set 1 (.slice a1 (k + 1) c1); have hP2 := Pool.set hP1 hG1 (fun t ht => ne_under t ht) 1 (.slice a1 (k + 1) c1); have hx2 := (Below.trans hw hb1).setCell (p := ⟨wb.heap.size, 1, none⟩) (Nat.le_refl _) (.slice a1 (k + 1) c1); have hP3 := hP2.perm (((List.Perm.swap _ _ _).cons _).trans (List.Perm.swap _ _ _)))
            | (at_builtin; refine appP (news := [Value.bool (decide (k ≤ s.size))]) rfl rfl Tryz.underlying27 infoBool rfl (by decide) hP3 rfl (by first | rfl | exact Eq.trans (b := Value.slice (some ⟨w3.heap.size, 0, none⟩) 1 1) (by rfl) (by simp)) rfl (by simp [Value.oneCell']) (by omega) (by decide) hx2.size ?_; intro v2 w6 hP4 hg2 hb2; obtain ⟨a2, c2, rfl⟩ := own_any' (Pool.hd hP4); have hG3 := hG2.grown (Pool.hd hP3) hg2 (by decide); have gd3 := hG3.cell 2 rfl; have gf3 := hG3.fr 2))
          have hP5 := Pool.set hP4 hG3 (fun t ht => ne_under2 t ht) 2 (.slice a2 (k + 1) c2)
          have hx5 := (Below.trans hx2 hb2).setCell (p := ⟨wb.heap.size, 2, none⟩) (Nat.le_refl _) (.slice a2 (k + 1) c2)
          have hG5 := hG3.set 2 (.slice a2 (k + 1) c2)
          obtain ⟨f1, f2, f3, f4⟩ := HK.out
          refine ⟨⟨k + 1, _, _, vs ++ [.slice aR row.length cR], rows ++ [row], acc ++ [decide (k ≤ s.size)], by omega, by go_num, hx5, hG5, Lib.hid ⟨by rw [List.length_append, f1]; rfl, by rw [List.length_append, f2]; rfl, by rw [List.range_succ, List.map_append, ← f3, HRE.out]; rfl, ?_⟩, ?_⟩, by simp [intOf]; omega⟩
          · rw [List.range_succ, List.map_append, ← f4, chars_len]
            simp
          · have hp := hP5.perm (perm_under _ _ _ _)
            rw [slRows_push (by rw [f1, f2]), List.map_append]
            exact hp
    · obtain rfl : k = s.size + 2 := by omega
      have hlt' : ¬ ((s.size : Int) + 2 < (s.size : Int) + 2) := by omega
      obtain ⟨f1, f2, f3, f4⟩ := HK.out
      have hx1 : (prefA T.alphabet (chars s)).next = rows := by rw [f3]; unfold prefA; rw [chars_len]
      have hx2 : (prefA T.alphabet (chars s)).accept = acc := by rw [f4]; unfold prefA; rw [chars_len]
      have hAO : AutoOwn wb.heap.size wr (.agg #[.int .i64 T.alphabet, .slice aV (s.size + 2) cV, .slice aW (s.size + 2) cW]) (prefA T.alphabet (chars s)) := by
        refine Pool.auto (x := prefA T.alphabet (chars s)) (vs := vs) ?_ (by rw [hx1]; omega)
        rw [hx1, hx2, f2, show acc.length = s.size + 2 from by rw [f4]; simp]
        exact hP
      clear hP f1 f2 f3 f4 hx1 hx2
      have HAO := Lib.hid hAO
      clear hAO
      have bTr := bT.ext hw
      have hxr := hx.trans hw
      have t0 := bTr.cell 0 rfl; have t1 := bTr.cell 1 rfl; have t2 := bTr.cell 2 rfl; have t3 := bTr.cell 3 rfl; have t4 := bTr.cell 4 rfl; have t5 := bTr.cell 5 rfl; have t6 := bTr.cell 6 rfl
      have e0 := b6.cell 0 rfl; have e1 := b6.cell 1 rfl; have e2 := b6.cell 2 rfl
      go_wp2_with fail
      refine (AutomatonValid_b HPV.out HAO.out.auto).mono ?_
      rintro e w8 ⟨rfl, he8⟩
      clear t0 t1 t2 t3 t4 t5 t6 e0 e1 e2
      have bT8 := bTr.ext he8
      have b68 := b6.ext he8
      have hx8 := hxr.trans he8
      have CKU := KeepsUnder_cd _ _ _ T.sys (prefA T.alphabet (chars s)) T.prop w8 (HSY.out _ hx8) (HAO.out.ext he8).auto (HAU.out _ hx8) (HD.out _ hx8)
      rw [HUN.out, HSW.out] at CKU
      have t0 := bT8.cell 0 rfl; have t1 := bT8.cell 1 rfl; have t2 := bT8.cell 2 rfl; have t3 := bT8.cell 3 rfl; have t4 := bT8.cell 4 rfl; have t5 := bT8.cell 5 rfl; have t6 := bT8.cell 6 rfl
      have e0 := b68.cell 0 rfl; have e1 := b68.cell 1 rfl; have e2 := b68.cell 2 rfl
      go_wp2_with fail
      refine CKU.mono ?_
      rintro e w9 ⟨rfl, he9⟩
      clear CKU t0 t1 t2 t3 t4 t5 t6 e0 e1 e2
      go_wp2_with fail
      go_ret
      exact Grows.mk rfl (he1.trans (hx8.trans he9))

theorem own : ownKnob Tryz.prog.godebug = none := by kernel_rfl
theorem laidOut : laidOutB Tryz.prog = true := by kernel_rfl
theorem deb_of_laid {W : World} (h : laidMetH Tryz.prog Rows.fnSafeUnderRow.laid W) : Deb W := debOfLaid h
theorem laid_met (os : Os) (args : Array Value) : laidMetH Tryz.prog Rows.fnSafeUnderRow.laid ((laidWorld os).forCall (fun _ _ => 0) ⟨#[], args, []⟩).memory :=
  (LaidIn.of_run [0, 1] 8 (by kernel_rfl) (by kernel_rfl) (by kernel_rfl) (by kernel_rfl)).met
set_option maxRecDepth 100000 in
theorem lifted (os : Os) (started : os.Started) (H : Type) (enc : TypeId × Value → H) :
    ReturnsInHanded {} Tryz.checked os 5 .any (fun w args => (Rows.fnSafeUnderSpec.pre enc Tryz.prog Tryz.f5 [] false w args ∧ laidMetH Tryz.prog Rows.fnSafeUnderRow.laid w) ∧ sizedMet enc Tryz.prog Tryz.f5 (OpenSpec.ofChange Rows.fnSafeUnderSpec) false w args)
      (Rows.fnSafeUnderSpec.post enc Tryz.prog Tryz.f5 false true false false) := by
  refine returnsInHanded_of_change_and (C := Tryz.checked) (X := fun w _ => laidMetH Tryz.prog Rows.fnSafeUnderRow.laid w) (fun _ _ _ hh h => h.of_heap hh) own started (by kernel_rfl) Tryz.func5
    (ChangeSpec.witness_at (enc := enc) (C := Tryz.checked) (os := os) (X := fun w _ => laidMetH Tryz.prog Rows.fnSafeUnderRow.laid w) false (laidWorld os) #[.slice none 0 0] 8 rfl (by kernel_rfl) (by kernel_rfl) (by kernel_rfl) (by kernel_rfl) (by kernel_rfl) (laid_met os _)) ?_
  intro W base args ds gs before hval0 hW _ _ hL _
  have hval : ∀ (j : Nat) t v, Tryz.f5.params[j]? = some t → args[j]? = some v → Value.okWide Tryz.prog W .any base t v := hval0
  have hW' := hW
  obtain ⟨p, q, hA0, hV, rfl, hfz, hnd⟩ := hW
  have hA : DataW.TrodAll enc Tryz.prog W 0 (fun _ => true) true Tryz.f5.params.toList args.toList ds p := hA0
  rw [Tryz.params5] at hA hval
  obtain ⟨v0, vs0, d0, ds0, p0, q0, hargs, rfl, rfl, h0, r0⟩ := trodAll_cons hA
  obtain ⟨rfl, rfl, rfl⟩ := trodAll_nil r0
  obtain rfl : args = #[v0] := by cases args; simp_all
  obtain ⟨rfl, rfl⟩ := trodVars_none hV
  have k0 := h0
  have lt0 : ∀ x ∈ p0, x.block < W.heap.size := by obtain ⟨m, hm⟩ := k0; exact DataW.trod_lt m _ _ _ hm
  obtain ⟨a0, len0, cap0, rfl⟩ := okWide_slice Tryz.underlying22 (hval 0 _ v0 rfl rfl)
  obtain ⟨t0, w0⟩ : ∃ t, BytesV W (.slice a0 len0 cap0) t := by
    obtain ⟨fuel, hf⟩ := h0
    obtain ⟨v, t, hv, ht⟩ := read_bytes hf
    simp [Value.cells] at hv
    subst hv
    exact ⟨t, ht⟩
  clear hA0 hval0
  refine (walk (.slice a0 len0 cap0) t0 W w0 (deb_of_laid hL)).mono fun e W' ⟨he, bel⟩ => ?_
  subst he
  exact ⟨_, rfl, _, _, _, [], _, [], hW', trodAll_mk1 (shut_bool Tryz.underlying4 _), (trodAll_cons_mk (Below.trod laidOut (by kernel_rfl) (of_decide_eq_true (by kernel_rfl)) k0 bel lt0) trodAll_mk0), rfl, bel.frame _, fun h => by cases h⟩

theorem over : Rows.fnSafeUnderRow.holds Tryz.pinned (OpenSpec.ofChange Rows.fnSafeUnderSpec) :=
  OpenClaim.holds_of_wide 5 Tryz.f5 rfl rfl rfl rfl rfl rfl rfl ⟨rfl, rfl, rfl, rfl, rfl⟩ rfl rfl rfl rfl rfl (by kernel_rfl) Tryz.func5 (by kernel_rfl)
    (of_decide_eq_true (by kernel_rfl)) (by unfold Func.isWrapper; first | (rw [if_pos (by decide +kernel)]; kernel_rfl) | (rw [if_neg (by decide +kernel)]; exact ⟨rfl, rfl⟩))
    (fun os started H enc _ => lifted os started H enc)

theorem card_holds : Rows.FnSafeUnderCardSaid :=
  Claim7.holds_tied_plain_at .later [] [.data, .data] true (true, "741764b550b8ab83034003a71969cfa28334938bba6d608f5e98862d6258d41e") false
    over (fun _ h => by cases h) (by kernel_rfl) (fun _ h => by cases h) fnSafeUnder_row_tie rfl ⟨rfl, rfl⟩ (by kernel_rfl) rfl
    (fun f fn hf hfn => by
      obtain rfl : f = 5 := Option.some.inj ((show Tryz.prog.funcNamed "loop.example/assumeguarantee/laws.FnSafeUnder" = some 5 by kernel_rfl).symm.trans hf) |>.symm
      obtain rfl : fn = Tryz.f5 := (Option.some.inj (Tryz.func5.symm.trans hfn)).symm
      refine ⟨by kernel_rfl, fun j t ht => ?_⟩
      rw [Tryz.params5] at ht
      match j, ht with
      | 0, ht =>
        have h0 : t = 22 := by simpa using ht.symm
        subst h0
        exact (show Tryz.prog.wantsStandIn 22 = false by kernel_rfl)
      | j + 1, ht => simp at ht)
    (by kernel_rfl)
#print axioms card_holds
end Go.Proofs.YtnahccghglglfaaGreatDoor.lawFnSafeUnder
