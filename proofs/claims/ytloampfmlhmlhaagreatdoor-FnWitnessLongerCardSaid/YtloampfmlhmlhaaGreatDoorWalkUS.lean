/- The reference's UnsafeWitness: the prefixes' automaton, the search. -/
import Derived.Test.YtloampfmlhmlhaaGreatDoorSafeS
import Derived.Test.YtloampfmlhmlhaaGreatDoorWalkSI
import Derived.Test.YtloampfmlhmlhaaGreatDoorPlainW
import Derived.Test.YtloampfmlhmlhaaGreatDoorPool
import Derived.Lib.QuietBelow
namespace Go.Proofs.YtloampfmlhmlhaaGreatDoor
set_option linter.unusedSimpArgs false
set_option linter.unusedVariables false
open Go Go.RowKit
set_option maxHeartbeats 1600000
set_option maxRecDepth 100000

theorem prefRow_len (a : Int) (u : List Int) (k : Nat) : (prefRow a u k).length = (letters a).length := by unfold prefRow; rw [List.length_map]
theorem prefRow_take {a : Int} {u : List Int} {k q : Nat} {l : Int} (h : (letters a)[q]? = some l) : (prefRow a u k).take (q + 1) = (prefRow a u k).take q ++ [if u[k]? = some l then (k : Int) + 1 else (u.length : Int) + 1] := by
  rw [List.take_add_one]
  congr 1
  unfold prefRow
  rw [List.getElem?_map, h]; rfl
theorem perm_pref (b n r : Slc) (R : List Slc) : (b :: n :: r :: R).Perm (n :: b :: (R ++ [r])) :=
  (List.Perm.swap n b (r :: R)).trans (((List.perm_append_singleton r R).symm.cons b).cons n)
theorem ne_pref {n1 n2 n3 : Nat} {v1 v2 v3 : Value} {x1 x2 x3 : List Value} {vs : List Value} {rows : List (List Int)} : ∀ t ∈ (⟨93, 1, v1, n1, x1⟩ :: ⟨3, 1, v2, n2, x2⟩ :: ⟨4, 1, v3, n3, x3⟩ :: slRows 3 vs rows : List Slc), 26 ≠ t.e := fun t ht => by
  rcases List.mem_cons.1 ht with e | ht
  · rw [e]; dsimp only; decide
  rcases List.mem_cons.1 ht with e | ht
  · rw [e]; dsimp only; decide
  rcases List.mem_cons.1 ht with e | ht
  · rw [e]; dsimp only; decide
  · rw [slRows_e t ht]; decide
theorem ne_pref2 {n1 n2 n3 : Nat} {v1 v2 v3 : Value} {x1 x2 x3 : List Value} {vs : List Value} {rows : List (List Int)} : ∀ t ∈ (⟨4, 1, v1, n1, x1⟩ :: ⟨93, 1, v2, n2, x2⟩ :: ⟨3, 1, v3, n3, x3⟩ :: slRows 3 vs rows : List Slc), 26 ≠ t.e := fun t ht => by
  rcases List.mem_cons.1 ht with e | ht
  · rw [e]; dsimp only; decide
  rcases List.mem_cons.1 ht with e | ht
  · rw [e]; dsimp only; decide
  rcases List.mem_cons.1 ht with e | ht
  · rw [e]; dsimp only; decide
  · rw [slRows_e t ht]; decide

theorem l9Prefixes_s (a : Int) (s : ByteArray) (w : World) (hal : isAlpha a = true) (hsz : s.size ≤ 50000) :
    Calls Tryz.prog 81 #[.int .i64 a, .string s] w (Gives (fun v w' => AutoV w' v (prefA a (chars s))) w) := by
  obtain ⟨al0, al63⟩ := alpha_facts hal
  have he := Ext.alloc w (.cells #[.int .i64 0, .slice none 0 0, .slice none 0 0] 26)
  have b4 := Blk.new w #[.int .i64 0, .slice none 0 0, .slice none 0 0] 26
  go_enter Tryz.func81, Tryz.ntmps81
  go_wp2_with fail
  generalize w.alloc (.cells #[.int .i64 0, .slice none 0 0, .slice none 0 0] 26) = wo at he b4 ⊢
  refine (l1Letters_c a _ al0 al63).mono ?_
  rintro e wb ⟨vl, rfl, he1, hl⟩
  have hlv := hl
  obtain ⟨al, cl, rfl, hll, hlat⟩ := hlv.open
  have hx := he.trans he1
  replace b4 := b4.ext he1
  have hL6 : (letters a).length ≤ 6 := lettersTo_len a 6
  obtain ⟨L, hL⟩ : ∃ L, letters a = L := ⟨_, rfl⟩
  have HL := Lib.hid hL
  have HPL : Hid (∀ k, (prefRow a (chars s) k).length = L.length) := Lib.hid fun k => by rw [prefRow_len, hL]
  have HPT : Hid (∀ (k q : Nat) l, L[q]? = some l → (prefRow a (chars s) k).take (q + 1) = (prefRow a (chars s) k).take q ++ [if (chars s)[k]? = some l then (k : Int) + 1 else (s.size : Int) + 1]) := Lib.hid fun k q l h => by
    have := prefRow_take (u := chars s) (k := k) (show (letters a)[q]? = some l by rw [hL]; exact h)
    rwa [chars_len] at this
  rw [hL] at hlat hll hlv hL6 ⊢
  clear hL hl
  have HLAT := Lib.hid hlat
  have hB4lt := b4.lt
  have hwb := hx.size
  clear hlat hlv he he1
  have hw : Ext wb (wb.alloc (.cells #[.int .i64 a, .slice none 0 0, .slice none 0 0] 26)) := Ext.alloc _ _
  have b6 : Blk (wb.alloc (.cells #[.int .i64 a, .slice none 0 0, .slice none 0 0] 26)) wb.heap.size #[.int .i64 a, .slice none 0 0, .slice none 0 0] 26 := Blk.new _ _ _
  go_wp2_with fail
  generalize wb.alloc (.cells #[.int .i64 a, .slice none 0 0, .slice none 0 0] 26) = wc at hw b6 ⊢
  have hP : Pool wb.heap.size wc [⟨93, 1, .slice none 0 0, 0, []⟩, ⟨4, 1, .slice none 0 0, 0, []⟩] := ((Pool.nil wb.heap.size wc).addNil 4 1).addNil 93 1
  go_loopw [7, 37, 38, 39, 40, 41, 42, 43, 44] (fun i _ _ _ _ _ _ _ _ wr => ∃ (k : Nat) (vn va : Value) (vs : List Value) (rows : List (List Int)) (acc : List Bool), k ≤ s.size + 2 ∧ i = .int .i64 k ∧ Ext wb wr ∧ Blk wr wb.heap.size #[.int .i64 a, vn, va] 26 ∧ Hid (vs.length = k ∧ rows.length = k ∧ rows = (List.range k).map (prefRow a (chars s)) ∧ acc = (List.range k).map fun i => decide (i ≤ (chars s).length)) ∧ Pool wb.heap.size wr (⟨93, 1, vn, k, vs⟩ :: ⟨4, 1, va, k, acc.map Value.bool⟩ :: slRows 3 vs rows)) (fun i _ _ _ _ _ _ _ _ _ => s.size + 2 - (intOf i).toNat)
  case atStart => exact ⟨0, _, _, [], [], [], by omega, rfl, hw, b6, Lib.hid ⟨rfl, rfl, rfl, rfl⟩, hP⟩
  case round =>
    clear hw b6 hP
    obtain ⟨k, vn, va, vs, rows, acc, hk, rfl, hw, b6, HK, hP⟩ := hrel
    obtain ⟨aV, cV, rfl⟩ := own_any' (Pool.hd hP)
    obtain ⟨aW, cW, rfl⟩ := own_any' (Pool.hd2 hP)
    by_cases hlt : k < s.size + 2
    · have hlt' : (k : Int) < (s.size : Int) + 2 := by omega
      have hPL : Pool wb.heap.size (wr.alloc (.cells #[] 3)) (⟨3, 1, .slice (some ⟨wr.heap.size, 0, none⟩) 0 0, 0, ([] : List Int).map (Value.int .i64)⟩ :: ⟨93, 1, .slice aV k cV, k, vs⟩ :: ⟨4, 1, .slice aW k cW, k, acc.map Value.bool⟩ :: slRows 3 vs rows) := hP.addLit 3 1 (Nat.le_refl _) hw.size (Ext.alloc _ _) (Blk.new _ _ _)
      have hwl := hw.trans (Ext.alloc wr (.cells #[] 3))
      have b6l := b6.ext (Ext.alloc wr (.cells #[] 3))
      clear hP hw b6
      go_wp2_with fail
      go_loopw [8, 9, 37, 38, 39, 40, 41, 42, 43, 44] (fun vR j _ _ _ _ _ _ _ _ wz => ∃ (q : Nat) (row : List Int), q ≤ L.length ∧ j = .int .i64 q ∧ row.length = q ∧ Ext wb wz ∧ Blk wz wb.heap.size #[.int .i64 a, .slice aV k cV, .slice aW k cW] 26 ∧ Hid (row = (prefRow a (chars s) k).take q) ∧ Pool wb.heap.size wz (⟨3, 1, vR, q, row.map (Value.int .i64)⟩ :: ⟨93, 1, .slice aV k cV, k, vs⟩ :: ⟨4, 1, .slice aW k cW, k, acc.map Value.bool⟩ :: slRows 3 vs rows)) (fun _ j _ _ _ _ _ _ _ _ _ => L.length - (intOf j).toNat)
      case atStart => exact ⟨0, [], by omega, rfl, rfl, hwl, b6l, Lib.hid rfl, hPL⟩
      case round =>
        clear hwl b6l hPL
        obtain ⟨q, row, hq, rfl, hrl, hw, b6, HROW, hP⟩ := hrel
        obtain ⟨aR, cR, rfl⟩ := own_any' (Pool.hd hP)
        have HRLN := Lib.hid hrl
        clear hrl
        by_cases hql : q < L.length
        · obtain ⟨l, hl⟩ : ∃ l, L[q]? = some l := ⟨_, List.getElem?_eq_getElem hql⟩
          obtain ⟨bl, offl, rfl, -, hcl⟩ := HLAT.out q l hl
          have gl : wr.cell? ⟨bl, offl + q, none⟩ = some (.int .i64 l) := by have := hcl q l hl; rw [Nat.mul_one] at this; exact hw.cell this
          have HT1 := Lib.hid (HPT.out k q l hl)
          have hqi : (q : Int) < (L.length : Int) := by omega
          have hw1 : wrap64 ((s.size : Int) + 1) = (s.size : Int) + 1 := IntWalk.wrap64_in _ (by omega)
          clear hcl hl
          go_wp2_with fail
          by_cases hks : k < s.size
          · have hks' : (k : Int) < (s.size : Int) := by omega
            have HLA := Lib.hid (fun w' => l1At_c s k w' hks (by omega))
            have HCH := Lib.hid (chars_at s k hks)
            by_cases hc : chAt s k = l
            · have hcb : (chAt s k == l) = true := by simp [hc]
              have HC := Lib.hid hc
              clear hc
              have D0 := fun d os => cell_regrown gl d os
              refine wp_region_quiet_below (by kernel_rfl) (by kernel_rfl) ?_
              repeat (go_big_quiet_step ((go_at_call 119; exact Same.quiet (HLA.out _))))
              refine wpQuiet_nil ?_
              intro _ hw'
              obtain ⟨⟨dq, osq⟩, hw''⟩ := hw'
              subst hw''
              have hq2 : Ext wr (Go.Sort.grow (redrawn wr dq) osq) := below_regrown wr dq osq
              generalize Go.Sort.grow (redrawn wr dq) osq = wq at hq2 ⊢
              clear D0
              replace hw := hw.trans hq2
              replace b6 := b6.ext hq2
              replace hP := hP.ext hq2
              go_wp2_with (at_builtin; refine appP (news := [Value.int .i64 ((k : Int) + 1)]) rfl rfl Tryz.underlying93 infoInt rfl (by decide) hP rfl rfl rfl (by simp [Value.oneCell']) (by omega) (by decide) hw.size ?_; intro v1 w3 hP1 hg1 hb1)
              exact ⟨⟨q + 1, row ++ [(k : Int) + 1], by omega, by go_num, by rw [List.length_append, HRLN.out]; rfl, Below.trans hw hb1, b6.grown (Pool.hd hP) hg1 (by decide), Lib.hid (by rw [HT1.out, HCH.out, if_pos (by rw [HC.out]), ← HROW.out]), by simpa using hP1⟩, by simp [intOf]; omega⟩
            · have hcb : (chAt s k == l) = false := by simp [hc]
              have HC := Lib.hid hc
              clear hc
              have D0 := fun d os => cell_regrown gl d os
              refine wp_region_quiet_below (by kernel_rfl) (by kernel_rfl) ?_
              repeat (go_big_quiet_step ((go_at_call 119; exact Same.quiet (HLA.out _))))
              refine wpQuiet_nil ?_
              intro _ hw'
              obtain ⟨⟨dq, osq⟩, hw''⟩ := hw'
              subst hw''
              have hq2 : Ext wr (Go.Sort.grow (redrawn wr dq) osq) := below_regrown wr dq osq
              generalize Go.Sort.grow (redrawn wr dq) osq = wq at hq2 ⊢
              clear D0
              replace hw := hw.trans hq2
              replace b6 := b6.ext hq2
              replace hP := hP.ext hq2
              go_wp2_with (at_builtin; refine appP (news := [Value.int .i64 ((s.size : Int) + 1)]) rfl rfl Tryz.underlying93 infoInt rfl (by decide) hP rfl rfl rfl (by simp [Value.oneCell']) (by omega) (by decide) hw.size ?_; intro v1 w3 hP1 hg1 hb1)
              exact ⟨⟨q + 1, row ++ [(s.size : Int) + 1], by omega, by go_num, by rw [List.length_append, HRLN.out]; rfl, Below.trans hw hb1, b6.grown (Pool.hd hP) hg1 (by decide), Lib.hid (by rw [HT1.out, HCH.out, if_neg (fun e => HC.out (Option.some.inj e)), ← HROW.out]), by simpa using hP1⟩, by simp [intOf]; omega⟩
          · have hks' : ¬ (k : Int) < (s.size : Int) := by omega
            have HN : Hid ((chars s)[k]? = none) := Lib.hid (List.getElem?_eq_none (by rw [chars_len]; omega))
            have D0 := fun d os => cell_regrown gl d os
            refine wp_region_quiet_below (by kernel_rfl) (by kernel_rfl) ?_
            repeat (go_big_quiet_step ((fail)))
            refine wpQuiet_nil ?_
            intro _ hw'
            obtain ⟨⟨dq, osq⟩, hw''⟩ := hw'
            subst hw''
            have hq2 : Ext wr (Go.Sort.grow (redrawn wr dq) osq) := below_regrown wr dq osq
            generalize Go.Sort.grow (redrawn wr dq) osq = wq at hq2 ⊢
            clear D0
            replace hw := hw.trans hq2
            replace b6 := b6.ext hq2
            replace hP := hP.ext hq2
            go_wp2_with (at_builtin; refine appP (news := [Value.int .i64 ((s.size : Int) + 1)]) rfl rfl Tryz.underlying93 infoInt rfl (by decide) hP rfl rfl rfl (by simp [Value.oneCell']) (by omega) (by decide) hw.size ?_; intro v1 w3 hP1 hg1 hb1)
            exact ⟨⟨q + 1, row ++ [(s.size : Int) + 1], by omega, by go_num, by rw [List.length_append, HRLN.out]; rfl, Below.trans hw hb1, b6.grown (Pool.hd hP) hg1 (by decide), Lib.hid (by rw [HT1.out, HN.out, if_neg (by simp), ← HROW.out]), by simpa using hP1⟩, by simp [intOf]; omega⟩
        · obtain rfl : q = L.length := by omega
          have hRE : row = prefRow a (chars s) k := by rw [HROW.out, List.take_of_length_le (by rw [HPL.out]; exact Nat.le_refl _)]
          have HRE := Lib.hid hRE
          clear hRE HROW
          have gc1 := b6.cell 1 rfl
          have hPN := hP.perm (List.Perm.swap _ _ _)
          go_wp2_with (first
            | (at_builtin; refine appP (news := [Value.slice aR L.length cR]) rfl rfl Tryz.underlying23 infoInts rfl (by decide) hPN rfl rfl rfl (by simp [Value.oneCell']) (by omega) (by decide) hw.size ?_; intro v1 w3 hP1 hg1 hb1; obtain ⟨a1, c1, rfl⟩ := own_any' (Pool.hd hP1); have hG1 := b6.grown (Pool.hd hPN) hg1 (by decide); have gd1 := hG1.cell 1 rfl; have gd2 := hG1.cell 2 rfl; have gf1 := hG1.fr 1; have hG2 := hG1.set 1 (.slice a1 (k + 1) c1); have hP2 := Pool.set hP1 hG1 (fun t ht => ne_pref t ht) 1 (.slice a1 (k + 1) c1); have hx2 := (Below.trans hw hb1).setCell (p := ⟨wb.heap.size, 1, none⟩) (Nat.le_refl _) (.slice a1 (k + 1) c1); have hP3 := hP2.perm (((List.Perm.swap _ _ _).cons _).trans (List.Perm.swap _ _ _)))
            | (at_builtin; refine appP (news := [Value.bool (decide (k ≤ s.size))]) rfl rfl Tryz.underlying24 infoBool rfl (by decide) hP3 rfl (by first | rfl | exact Eq.trans (b := Value.slice (some ⟨w3.heap.size, 0, none⟩) 1 1) (by rfl) (by simp)) rfl (by simp [Value.oneCell']) (by omega) (by decide) hx2.size ?_; intro v2 w6 hP4 hg2 hb2; obtain ⟨a2, c2, rfl⟩ := own_any' (Pool.hd hP4); have hG3 := hG2.grown (Pool.hd hP3) hg2 (by decide); have gd3 := hG3.cell 2 rfl; have gf3 := hG3.fr 2))
          have hP5 := Pool.set hP4 hG3 (fun t ht => ne_pref2 t ht) 2 (.slice a2 (k + 1) c2)
          have hx5 := (Below.trans hx2 hb2).setCell (p := ⟨wb.heap.size, 2, none⟩) (Nat.le_refl _) (.slice a2 (k + 1) c2)
          have hG5 := hG3.set 2 (.slice a2 (k + 1) c2)
          obtain ⟨f1, f2, f3, f4⟩ := HK.out
          refine ⟨⟨k + 1, _, _, vs ++ [.slice aR L.length cR], rows ++ [row], acc ++ [decide (k ≤ s.size)], by omega, by go_num, hx5, hG5, Lib.hid ⟨by rw [List.length_append, f1]; rfl, by rw [List.length_append, f2]; rfl, by rw [List.range_succ, List.map_append, ← f3, HRE.out]; rfl, ?_⟩, ?_⟩, by simp [intOf]; omega⟩
          · rw [List.range_succ, List.map_append, ← f4, chars_len]
            simp
          · have hp := hP5.perm (perm_pref _ _ _ _)
            rw [slRows_push (by rw [f1, f2]), List.map_append]
            unfold slInts
            rw [HRLN.out]
            exact hp
    · obtain rfl : k = s.size + 2 := by omega
      have hlt' : ¬ ((s.size : Int) + 2 < (s.size : Int) + 2) := by omega
      obtain ⟨f1, f2, f3, f4⟩ := HK.out
      have hx1 : (prefA a (chars s)).next = rows := by rw [f3]; unfold prefA; rw [chars_len]
      have hx2 : (prefA a (chars s)).accept = acc := by rw [f4]; unfold prefA; rw [chars_len]
      have hAO : AutoOwn wb.heap.size wr (.agg #[.int .i64 a, .slice aV (s.size + 2) cV, .slice aW (s.size + 2) cW]) (prefA a (chars s)) := by
        refine Pool.auto (x := prefA a (chars s)) (vs := vs) ?_ (by rw [hx1]; omega)
        rw [hx1, hx2, f2, show acc.length = s.size + 2 from by rw [f4]; simp]
        exact hP
      clear hP f1 f2 f3 f4 hx1 hx2
      have HAO := Lib.hid hAO
      have b4r := b4.ext hw
      have hxr := hx.trans hw
      clear hAO
      have e0 := b6.cell 0 rfl; have e1 := b6.cell 1 rfl; have e2 := b6.cell 2 rfl
      have rc0 := b4r.cell 0 rfl; have rf0 := b4r.fr 0; have rc1 := b4r.cell 1 rfl; have rf1 := b4r.fr 1; have rc2 := b4r.cell 2 rfl; have rf2 := b4r.fr 2
      go_wp2_with fail
      refine bodyPost_ret (v := .agg #[.int .i64 a, .slice aV (s.size + 2) cV, .slice aW (s.size + 2) cW]) (by simp [results, Tryz.results81, go_sem, rc0, rc1, rc2, rf0, rf1, rf2]) rfl ?_
      refine Gives.mk rfl (((hxr.setCell (p := ⟨w.heap.size, 0, none⟩) (by simp only []; omega) _).setCell (p := ⟨w.heap.size, 1, none⟩) (by simp only []; omega) _).setCell (p := ⟨w.heap.size, 2, none⟩) (by simp only []; omega) _) ?_
      have hne : wb.heap.size ≠ w.heap.size := by omega
      exact (auto_store (auto_store (auto_store HAO.out b4r (by decide) (by decide) (by decide) 0 _) (b4r.set 0 _) (by decide) (by decide) (by decide) 1 _) ((b4r.set 0 _).set 1 _) (by decide) (by decide) (by decide) 2 _).auto

theorem witNet {t : Task} {s : ByteArray} {AL : Int} (ht : taskValid t = true) (hw : wordIn s t.alphabet = true) (h0 : 0 ≤ AL) (h63 : AL ≤ 63) (hel : t.sys.edges.length ≤ 1048576) : NetOk ⟨[t.sys], [prefA t.alphabet (chars s), t.prop], AL⟩ := by
  obtain ⟨hs, hp, hal⟩ := taskValid_facts ht
  have hl := wordIn_len hw
  refine ⟨by simpa using hs, fun a ha => ?_, by simp, by simp, ⟨h0, h63⟩, by simpa using hel, ?_⟩
  · have ha' : a = prefA t.alphabet (chars s) ∨ a = t.prop := by simpa using ha
    rcases ha' with rfl | rfl
    · exact prefA_fit hal (by omega)
    · exact AutoFit.of hp
  · have h1 := valid_alpha hs
    have h2 := autoValid_facts hp
    have e : (sizesOf ⟨[t.sys], [prefA t.alphabet (chars s), t.prop], AL⟩).prod = t.sys.states.toNat * (((chars s).length + 2) * t.prop.next.length) := by
      simp [sizesOf, prefA]
    rw [e]
    have h3 : ((chars s).length + 2) * t.prop.next.length ≤ 50002 * 12 := Nat.mul_le_mul (by omega) h2.2.2.2.1
    have h4 : t.sys.states.toNat * (((chars s).length + 2) * t.prop.next.length) ≤ 16 * (50002 * 12) := Nat.mul_le_mul (by omega) h3
    exact Nat.le_trans h4 (by decide)

theorem UnsafeWitness_s (v : Value) (t : Task) (s : ByteArray) (w : World) (hV : TaskV w v t) (hs : s.size ≤ 1048576) (hel : t.sys.edges.length ≤ 1048576) :
    Calls Tryz.prog 24 #[v, .string s] w (AnsEnd (UW t s) w) := by
  obtain ⟨ve, vn, va, rfl, h1, h2, h3⟩ := hV
  obtain ⟨ae, ce, rfl, -, -⟩ := h1.open
  obtain ⟨an, cn, rfl, -, -⟩ := h2.open
  obtain ⟨aa, ca, rfl, -, -⟩ := h3.open
  have HV := Lib.hid (show ∀ w', Ext w w' → TaskV w' (.agg #[.int .i64 t.sys.alphabet, .int .i64 t.sys.states, .slice ae t.sys.edges.length ce, .int .i64 t.prop.alphabet, .slice an t.prop.next.length cn, .slice aa t.prop.accept.length ca, .int .i64 t.alphabet]) t from fun w' h => ⟨_, _, _, rfl, h1.mono h, h2.mono h, h3.mono h⟩)
  have HE := Lib.hid (show ∀ w', Ext w w' → EdgesV w' (.slice ae t.sys.edges.length ce) t.sys.edges from fun w' h => h1.mono h)
  have HN := Lib.hid (show ∀ w', Ext w w' → IntssV w' (.slice an t.prop.next.length cn) t.prop.next from fun w' h => h2.mono h)
  have HA := Lib.hid (show ∀ w', Ext w w' → BoolsV w' (.slice aa t.prop.accept.length ca) t.prop.accept from fun w' h => h3.mono h)
  clear h1 h2 h3
  have HWW := Lib.hid (fun w' => WordWithin_s s t.alphabet w' hs)
  have HTV := Lib.hid (fun w' (h : Ext w w') => TaskValid_s _ t w' (HV.out w' h))
  by_cases ht : taskValid t = true
  case neg =>
    have ht : taskValid t = false := by simpa using ht
    have HU : Hid (UW t s none) := Lib.hid (by unfold UW; rw [ht]; rfl)
    rw [ht] at HTV
    go_enter Tryz.func24, Tryz.ntmps24
    go_wp2_with fail
    refine (HTV.out _ (Ext.alloc _ _)).mono ?_
    rintro e w1 ⟨rfl, he1⟩
    go_wp2_with fail
    go_ret2
    exact ⟨none, HU.out, rfl, he1.peel⟩
  rw [ht] at HTV
  by_cases hw : wordIn s t.alphabet = true
  case neg =>
    have hw : wordIn s t.alphabet = false := by simpa using hw
    have HU : Hid (UW t s none) := Lib.hid (by unfold UW; rw [ht, hw]; rfl)
    rw [hw] at HWW
    go_enter Tryz.func24, Tryz.ntmps24
    go_wp2_with fail
    refine (HTV.out _ (Ext.alloc _ _)).mono ?_
    rintro e w1 ⟨rfl, he1⟩
    have c6 := he1.blk.cell 6 rfl
    go_wp2_with (go_at_call 80; refine (HWW.out _).mono ?_; rintro e w' ⟨rfl, rfl⟩)
    go_ret2
    exact ⟨none, HU.out, rfl, he1.peel⟩
  rw [hw] at HWW
  have HT := Lib.hid ht
  have HW := Lib.hid hw
  obtain ⟨hsv, hpv, hal⟩ := taskValid_facts ht
  obtain ⟨al0, al63⟩ := alpha_facts hal
  obtain ⟨sa0, sa63, -, -⟩ := valid_alpha hsv
  have hsz : s.size ≤ 50000 := by simp only [wordIn, Bool.and_eq_true, decide_eq_true_eq] at hw; exact hw.1.2
  have HAL : bits .or .i64 t.sys.alphabet t.alphabet = ((t.sys.alphabet.toNat ||| t.alphabet.toNat : Nat) : Int) := by
    have h5 := i64_or_nat t.sys.alphabet.toNat t.alphabet.toNat (by omega) (by omega)
    rwa [Int.toNat_of_nonneg sa0, Int.toNat_of_nonneg al0] at h5
  have hAL63 : ((t.sys.alphabet.toNat ||| t.alphabet.toNat : Nat) : Int) ≤ 63 := by
    have : t.sys.alphabet.toNat ||| t.alphabet.toNat < 2 ^ 6 := Nat.or_lt_two_pow (by omega) (by omega)
    omega
  obtain ⟨AL, hAL⟩ : ∃ AL : Int, Hid (AL = ((t.sys.alphabet.toNat ||| t.alphabet.toNat : Nat) : Int)) := ⟨_, rfl⟩
  rw [← hAL.out] at HAL hAL63
  have hAL0 : 0 ≤ AL := by rw [hAL.out]; omega
  have HSV := Lib.hid hsv
  have HAL2 := Lib.hid hal
  clear ht hw hsv hpv hal al0 al63 sa0 sa63
  go_enter Tryz.func24, Tryz.ntmps24
  go_wp2_with fail
  refine (HTV.out _ (Ext.alloc _ _)).mono ?_
  rintro e w1 ⟨rfl, he1⟩
  have b2 := he1.blk
  have hx := he1.peel
  clear he1
  have cc0 := b2.cell 0 rfl; have cc1 := b2.cell 1 rfl; have cc2 := b2.cell 2 rfl; have cc3 := b2.cell 3 rfl; have cc4 := b2.cell 4 rfl; have cc5 := b2.cell 5 rfl; have cc6 := b2.cell 6 rfl
  go_wp2_with (go_at_call 80; refine (HWW.out _).mono ?_; rintro e w' ⟨rfl, rfl⟩)
  clear cc0 cc1 cc2 cc3 cc4 cc5 cc6
  have D0 := fun d os => cell_regrown (b2.cell 0 rfl) d os; have D1 := fun d os => cell_regrown (b2.cell 1 rfl) d os; have D2 := fun d os => cell_regrown (b2.cell 2 rfl) d os; have D3 := fun d os => cell_regrown (b2.cell 3 rfl) d os; have D4 := fun d os => cell_regrown (b2.cell 4 rfl) d os; have D5 := fun d os => cell_regrown (b2.cell 5 rfl) d os; have D6 := fun d os => cell_regrown (b2.cell 6 rfl) d os
  obtain ⟨Kc, HKc⟩ : ∃ Kc : FuncId → Array Value → World → Value → World → Prop, Hid (Kc = fun (f : FuncId) (_ : Array Value) (w0 : World) (v : Value) (w' : World) => Ext w0 w' ∧ (f = 81 → AutoV w' v (prefA t.alphabet (chars s)))) := ⟨_, rfl⟩
  refine wp_region_ext (Kc := Kc) 7 (by kernel_rfl) (by kernel_rfl) ?_
  simp only [List.take_succ_cons, List.take_zero]
  repeat (refine WalkE.pure rfl (fun K hK => ?_); simp only [PureDo]; go_simp; refine hK _ ?_; clear hK K)
  refine WalkE.step (fun K hK wc hwc hdc => ?_)
  simp only [OpDo, OpSafe, OpOut]
  go_simp
  refine ⟨(l9Prefixes_s t.alphabet s _ HAL2.out hsz).mono ?_, ?_⟩
  · rintro e w' ⟨v, rfl, he, hv⟩
    exact ⟨v, rfl, by rw [HKc.out]; exact ⟨he, fun _ => hv⟩⟩
  intro u4 w4 hk4
  rw [HKc.out] at hk4
  obtain ⟨hk4, hpf⟩ := hk4
  obtain ⟨vn1, va1, rfl, hN1, hA1⟩ := hpf rfl
  refine ⟨hk4, hK _ _ ?_⟩
  clear hK K hdc hpf
  repeat (refine WalkE.pure rfl (fun K hK => ?_); simp only [PureDo]; go_simp; refine hK _ ?_; clear hK K)
  refine WalkE.step (fun K hK wd hwd hdd => ?_)
  simp only [OpDo, OpSafe, OpOut]
  go_simp
  have j4 : Ext w4 wd := hdd ⟨3, .data⟩ (by simp) rfl
  have hxd := hx.trans ((Ext.drew _).trans hwd)
  have hat := AutosV.two (hN1.mono j4) (hA1.mono j4) (HN.out _ hxd) (HA.out _ hxd)
  refine ⟨Ext.alloc _ _, hK _ _ ?_⟩
  clear hK K hdd
  refine WalkE.nil (fun wn hwn hmn => ?_)
  simp only [List.drop_succ_cons, List.drop_zero, List.drop_nil]
  have hatn := hat.mono (hmn 6 (by omega))
  have hxn : Ext w1 wn := (Ext.drew _).trans hwn
  clear hmn HKc D0 D1 D2 D3 D4 D5 D6 hat hwn hwc hk4 j4 hxd hN1 hA1
  generalize wd.heap.size = bq at hatn ⊢
  replace b2 := b2.ext hxn
  replace hx := hx.trans hxn
  have q0 := fun o => (b2.ext (Ext.alloc wn o)).cell 0 rfl
  have q6 := fun o => (b2.ext (Ext.alloc wn o)).cell 6 rfl
  have r0 := fun o1 o2 => (b2.ext ((Ext.alloc wn o1).trans (Ext.alloc _ o2))).cell 0 rfl
  have r6 := fun o1 o2 => (b2.ext ((Ext.alloc wn o1).trans (Ext.alloc _ o2))).cell 6 rfl
  have cc0 := b2.cell 0 rfl; have cc1 := b2.cell 1 rfl; have cc2 := b2.cell 2 rfl; have cc3 := b2.cell 3 rfl; have cc4 := b2.cell 4 rfl; have cc5 := b2.cell 5 rfl; have cc6 := b2.cell 6 rfl
  have hso := SyssV.one (s := t.sys) (HE.out _ hx)
  go_wp2_with fail
  have x1 := Ext.alloc wn (.cells #[.int .i64 t.sys.alphabet, .int .i64 t.sys.states, .slice ae t.sys.edges.length ce] 29)
  have hz1 : (wn.alloc (.cells #[.int .i64 t.sys.alphabet, .int .i64 t.sys.states, .slice ae t.sys.edges.length ce] 29)).heap.size = wn.heap.size + 1 := by simp
  generalize wn.alloc (.cells #[.int .i64 t.sys.alphabet, .int .i64 t.sys.states, .slice ae t.sys.edges.length ce] 29) = wA at hso x1 hz1 ⊢
  have hzz := IntsV.three wA
  have x2 := Ext.alloc wA (.cells #[.int .i64 0, .int .i64 0, .int .i64 0] 3)
  generalize wA.alloc (.cells #[.int .i64 0, .int .i64 0, .int .i64 0] 3) = wC at hzz x2 ⊢
  rw [hz1] at hzz
  have HNO := Lib.hid (witNet (AL := AL) HT.out HW.out hAL0 hAL63 hel)
  have hsl : (sizesOf ⟨[t.sys], [prefA t.alphabet (chars s), t.prop], AL⟩).length = 3 := by simp [sizesOf]
  have HNV := Lib.hid (show NetV wC (.agg #[.slice (some ⟨wn.heap.size, 0, none⟩) 1 1, .slice (some ⟨bq, 0, none⟩) 2 2, .slice (some ⟨wn.heap.size + 1, 0, none⟩) 3 3, .int .i64 AL, .int .i64 2, .int .i64 0]) ⟨[t.sys], [prefA t.alphabet (chars s), t.prop], AL⟩ (List.replicate (sizesOf ⟨[t.sys], [prefA t.alphabet (chars s), t.prop], AL⟩).length 0) 2 0 from
    ⟨_, _, _, rfl, hso.mono x2, hatn.mono (x1.trans x2), by rw [hsl]; exact hzz⟩)
  have HFF := Lib.hid (fun (w' : World) (u vm v' : Value) (node : Nat) (_ : Ext wC w') (hn : NetV w' v' ⟨[t.sys], [prefA t.alphabet (chars s), t.prop], AL⟩ (List.replicate (sizesOf ⟨[t.sys], [prefA t.alphabet (chars s), t.prop], AL⟩).length 0) 2 0) (hu : IntsV w' u (ints (decode (sizesOf ⟨[t.sys], [prefA t.alphabet (chars s), t.prop], AL⟩) node))) => l4Found_2 v' u vm _ _ 0 node w' hn HNO.out hu rfl)
  clear q0 q6 r0 r6 cc0 cc1 cc2 cc3 cc4 cc5 cc6
  refine (l4First_c _ _ 2 0 (fun node => okAt ⟨[t.sys], [prefA t.alphabet (chars s), t.prop], AL⟩ node 0 && !okAt ⟨[t.sys], [prefA t.alphabet (chars s), t.prop], AL⟩ node 1) wC HNV.out HNO.out HFF.out).mono ?_
  rintro e w5 ⟨r, hr, rfl, he5⟩
  go_wp2_with fail
  go_ret2
  refine ⟨r, ?_, rfl, ((hx.trans x1).trans x2).trans he5⟩
  unfold UW
  rw [HT.out, HW.out]
  exact uw_net HSV.out AL hAL.out hr
theorem UnsafeWitness_sd (v : Value) (t : Task) (s : ByteArray) (w : World) (hV : TaskV w v t) (hs : s.size ≤ 1048576) (hel : t.sys.edges.length ≤ 1048576) :
    Calls Tryz.prog 24 #[v, .string s] w (Grows (.tuple #[.string (rtext (uwOf t s)), .bool (uwOf t s).isSome]) w) :=
  (UnsafeWitness_s v t s w hV hs hel).mono (by rintro e w' ⟨r, hr, rfl, he⟩; rw [hr.of]; exact Grows.mk rfl he)
end Go.Proofs.YtloampfmlhmlhaaGreatDoor
