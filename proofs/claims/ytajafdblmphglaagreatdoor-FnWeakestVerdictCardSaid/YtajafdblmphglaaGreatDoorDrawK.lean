/- Merged: DrawH, DrawJ, DrawK. -/
import Derived.Test.YtajafdblmphglaaGreatDoorDrawI
import Derived.Test.YtajafdblmphglaaGreatDoorDrawF

namespace Go.Proofs.YtajafdblmphglaaGreatDoor
set_option linter.unusedSimpArgs false
set_option linter.unusedVariables false
open Go.RowKit
set_option maxHeartbeats 1000000
set_option maxRecDepth 100000

/-- Some edge, and whether it is one. -/
def EdgeEnd (w : World) (e : Ending) (w' : World) : Prop := ∃ (x y z : Int) (b : Bool), e = .returned (.tuple #[.agg #[.int .i64 x, .int .i64 y, .int .i64 z], .bool b]) ∧ Ext w w'

theorem l2Parse_t (s : ByteArray) (w : World) (hs : s.size ≤ 1000) : Calls Tryz.prog 201 #[.string s] w (EdgeEnd w) := by
  have hB := Blk.new w #[.int .i64 0, .int .i64 0, .int .i64 0] 77
  have he := Ext.alloc w (.cells #[.int .i64 0, .int .i64 0, .int .i64 0] 77)
  go_enter Tryz.func201, Tryz.ntmps201
  go_wp2_with fail
  generalize w.alloc (.cells #[.int .i64 0, .int .i64 0, .int .i64 0] 77) = w1 at hB he ⊢
  have rc0 := hB.cell 0 rfl; have rf0 := hB.fr 0; have rc1 := hB.cell 1 rfl; have rf1 := hB.fr 1; have rc2 := hB.cell 2 rfl; have rf2 := hB.fr 2
  go_loopw [4, 20, 21, 22, 23, 48] (fun i _ _ _ _ _ wr => ∃ k : Nat, k ≤ s.size ∧ i = .int .i64 k ∧ wr = w1) (fun i _ _ _ _ _ _ => s.size - (intOf i).toNat)
  case atStart => exact ⟨0, by omega, rfl, rfl⟩
  case round =>
    obtain ⟨k, hk, rfl, rfl⟩ := hrel
    by_cases hlt : k < s.size
    · by_cases h1 : (97 : Int) ≤ (s[k].toNat : Int)
      · by_cases h2 : (s[k].toNat : Int) ≤ 102
        · go_wp2_with fail
          refine (l19Num_t (s.extract 0 k) wr (by rw [ByteArray.size_extract]; omega)).mono ?_
          rintro e w2 ⟨x, b1, rfl, rfl⟩
          go_wp2_with fail
          refine (l19Num_t (s.extract (k + 1) s.size) wr (by rw [ByteArray.size_extract]; omega)).mono ?_
          rintro e w2 ⟨z, b2, rfl, rfl⟩
          go_wp2_with fail
          refine (l1At_c s k wr hlt (by omega)).mono ?_
          rintro e w2 ⟨rfl, rfl⟩
          generalize chAt s k = y
          cases b1 <;> cases b2
          · go_wp2_with fail
            refine bodyPost_ret (v := .tuple #[.agg #[.int .i64 x, .int .i64 y, .int .i64 z], .bool false]) (by simp [results, Tryz.results201, go_sem, rc0, rc1, rc2, rf0, rf1, rf2]) rfl ?_
            exact ⟨_, _, _, _, rfl, ((he.setCell (p := ⟨w.heap.size, 0, none⟩) (by simp) _).setCell (p := ⟨w.heap.size, 1, none⟩) (by simp) _).setCell (p := ⟨w.heap.size, 2, none⟩) (by simp) _⟩
          · go_wp2_with fail
            refine bodyPost_ret (v := .tuple #[.agg #[.int .i64 x, .int .i64 y, .int .i64 z], .bool false]) (by simp [results, Tryz.results201, go_sem, rc0, rc1, rc2, rf0, rf1, rf2]) rfl ?_
            exact ⟨_, _, _, _, rfl, ((he.setCell (p := ⟨w.heap.size, 0, none⟩) (by simp) _).setCell (p := ⟨w.heap.size, 1, none⟩) (by simp) _).setCell (p := ⟨w.heap.size, 2, none⟩) (by simp) _⟩
          · go_wp2_with fail
            refine bodyPost_ret (v := .tuple #[.agg #[.int .i64 x, .int .i64 y, .int .i64 z], .bool false]) (by simp [results, Tryz.results201, go_sem, rc0, rc1, rc2, rf0, rf1, rf2]) rfl ?_
            exact ⟨_, _, _, _, rfl, ((he.setCell (p := ⟨w.heap.size, 0, none⟩) (by simp) _).setCell (p := ⟨w.heap.size, 1, none⟩) (by simp) _).setCell (p := ⟨w.heap.size, 2, none⟩) (by simp) _⟩
          · go_wp2_with fail
            refine bodyPost_ret (v := .tuple #[.agg #[.int .i64 x, .int .i64 y, .int .i64 z], .bool true]) (by simp [results, Tryz.results201, go_sem, rc0, rc1, rc2, rf0, rf1, rf2]) rfl ?_
            exact ⟨_, _, _, _, rfl, ((he.setCell (p := ⟨w.heap.size, 0, none⟩) (by simp) _).setCell (p := ⟨w.heap.size, 1, none⟩) (by simp) _).setCell (p := ⟨w.heap.size, 2, none⟩) (by simp) _⟩
        · go_wp2_with fail
          exact ⟨⟨k + 1, by omega, by go_num, trivial⟩, by simp [intOf]; omega⟩
      · go_wp2_with fail
        exact ⟨⟨k + 1, by omega, by go_num, trivial⟩, by simp [intOf]; omega⟩
    · obtain rfl : k = s.size := by omega
      go_wp2_with fail
      refine bodyPost_ret (v := .tuple #[.agg #[.int .i64 0, .int .i64 0, .int .i64 0], .bool false]) (by simp [results, Tryz.results201, go_sem, rc0, rc1, rc2, rf0, rf1, rf2]) rfl ?_
      exact ⟨_, _, _, _, rfl, ((he.setCell (p := ⟨w.heap.size, 0, none⟩) (by simp) _).setCell (p := ⟨w.heap.size, 1, none⟩) (by simp) _).setCell (p := ⟨w.heap.size, 2, none⟩) (by simp) _⟩

theorem infoStr : (Tryz.prog.info? 9).map (fun i => (i.zero, i.size, i.bytes)) = some (some (.string ByteArray.empty), 1, 16) := by kernel_rfl
section
variable {D D' : Nat → Prop} {g q q' : Nat} {w w' : World}
theorem zk_str : ∀ (D : Nat → Prop) q w, Kin D q w 9 (Value.string ByteArray.empty).cells.toList := fun D q w i u hu => by
  match i, hu with
  | 0, hu => exact ⟨.str, rfl, ByteArray.empty, by simpa [Value.cells] using hu.symm, by decide⟩
  | i + 1, hu => simp [Value.cells] at hu
theorem kin_str (x : ByteArray) (hx : x.size ≤ 1000) : Kin D q w 9 [.string x] := fun i u hu => by
  match i, hu with
  | 0, hu => exact ⟨.str, rfl, x, by simpa using hu.symm, hx⟩
  | i + 1, hu => simp at hu
theorem SlOk.str_at {n i : Nat} {v : Value} (hs : SlOk D w 9 1 v n) (hT : Typed D q w) (hi : i < n) : ∃ b cap x, v = .slice (some ⟨b, 0, none⟩) n cap ∧ D b ∧ w.cell? ⟨b, i, none⟩ = some (.string x) ∧ x.size ≤ 1000 := by
  obtain ⟨b, cap, cs, u, k, rfl, hb, hh, h1, -, h2, h3⟩ := hs.at hT hi (j := 0) (by omega)
  have h2' : CK.str = k := Option.some.inj h2
  subst h2'
  obtain ⟨x, rfl, hx⟩ := h3
  exact ⟨b, cap, x, rfl, hb, by simpa using h1, hx⟩

theorem l19Cut_t (s : ByteArray) (c : Int) (hs : s.size ≤ 200) (h : St D g q w) (hq : q + 201 ≤ 1000000) :
    Calls Tryz.prog 198 #[.string s, .int .u8 c] w (Drawn D g q 201 w fun D' _ w' v => ∃ n, 1 ≤ n ∧ n ≤ 201 ∧ SlOk D' w' 9 1 v n) := by
  obtain ⟨i3, s3, t3, l3⟩ := SlOk.lit h 9 1
  go_enter Tryz.func198, Tryz.ntmps198
  go_wp2_with fail
  go_loopw [5, 6, 7, 20, 21, 22, 23, 24] (fun v f i _ _ _ _ _ wr => ∃ (k fr n : Nat) (D' : Nat → Prop), k ≤ s.size + 1 ∧ i = .int .i64 k ∧ f = .int .i64 fr ∧ fr ≤ k ∧ SlOk D' wr 9 1 v n ∧ n ≤ k ∧ (k = s.size + 1 → 1 ≤ n) ∧ Inc D D' w ∧ St D' g (q + k) wr ∧ Tr D g w wr) (fun _ _ i _ _ _ _ _ _ => s.size + 1 - (intOf i).toNat)
  case atStart => exact ⟨0, 0, 0, _, by omega, rfl, rfl, by omega, l3, by omega, fun h => by omega, i3, s3, t3⟩
  case round =>
    clear i3 s3 t3 l3
    obtain ⟨k, fr, n, D1, hk, rfl, rfl, hf, hv, hn, hn1, hi, hst, htr⟩ := hrel
    obtain ⟨av, cv, rfl⟩ := hv.shape
    by_cases hle : k ≤ s.size
    · have hpc : (s.extract fr k).size ≤ 1000 := by rw [ByteArray.size_extract]; omega
      by_cases he : k = s.size
      · subst he
        go_wp2_with (at_builtin; refine app1_t (q + (s.size + 1)) rfl rfl Tryz.underlying113 infoStr rfl (by decide) per_str zk_str hst hv rfl rfl rfl (by simp [Value.oneCell']) (kin_str _ hpc) (by omega) (by decide) (by omega) ?_; intro v1 w1 D2 hi1 hst1 htr1 hs1)
        exact ⟨⟨s.size + 1, s.size + 1, n + 1, D2, by omega, by go_num, by go_num, by omega, hs1, by omega, fun _ => Nat.le_add_left 1 n, hi.trans htr.size hi1, hst1, htr.trans hi htr1⟩, by simp [intOf]⟩
      · have hlt : k < s.size := by omega
        have he' : ((k : Int) == (s.size : Int)) = false := beq_eq_false_iff_ne.2 (by omega)
        cases hb : ((s[k].toNat : Int) == c)
        · go_wp2_with fail
          exact ⟨⟨k + 1, fr, n, D1, by omega, by go_num, by go_num, by omega, hv, by omega, fun h => by omega, hi, hst.up (by omega), htr⟩, by simp [intOf]; omega⟩
        · go_wp2_with (at_builtin; refine app1_t (q + (k + 1)) rfl rfl Tryz.underlying113 infoStr rfl (by decide) per_str zk_str hst hv rfl rfl rfl (by simp [Value.oneCell']) (kin_str _ hpc) (by omega) (by decide) (by omega) ?_; intro v1 w1 D2 hi1 hst1 htr1 hs1)
          exact ⟨⟨k + 1, k + 1, n + 1, D2, by omega, by go_num, by go_num, by omega, hs1, by omega, fun _ => by omega, hi.trans htr.size hi1, hst1, htr.trans hi htr1⟩, by simp [intOf]; omega⟩
    · obtain rfl : k = s.size + 1 := by omega
      go_wp2_with fail
      go_ret
      exact ⟨_, D1, rfl, hi, hst.up (by omega), htr, n, hn1 trivial, by omega, hv⟩
end
end Go.Proofs.YtajafdblmphglaaGreatDoor

namespace Go.Proofs.YtajafdblmphglaaGreatDoor
set_option linter.unusedSimpArgs false
set_option linter.unusedVariables false
open Go.RowKit
set_option maxHeartbeats 1000000
set_option maxRecDepth 100000

variable {D D' : Nat → Prop} {g q q' : Nat} {w w' : World}

def StrAt (w : World) (b o : Nat) (x : ByteArray) : Prop := w.cell? ⟨b, o, none⟩ = some (.string x)
def shortStr (B : Nat) : Value → Bool
  | .string s => decide (s.size ≤ B)
  | _ => false
def strOf : Value → ByteArray
  | .string s => s
  | _ => ByteArray.empty
theorem strs_lit (w : World) (cs : Array Value) (hc : cs.size ≤ 100) (hs : cs.toList.all (shortStr 200) = true) :
    ∃ l : List ByteArray, l.length = cs.size ∧ (∀ x ∈ l, x.size ≤ 200) ∧ SlV StrAt 1 (w.alloc (.cells cs 9)) (.slice (some ⟨w.heap.size, 0, none⟩) cs.size cs.size) l := by
  refine ⟨cs.toList.map strOf, by simp, fun x hx => ?_, _, cs.size, by simp, by simp, by unfold maxLen; omega, fun _ => ⟨w.heap.size, 0, rfl, by simp, fun i x hx => ?_⟩⟩
  · obtain ⟨v, hv, rfl⟩ := List.mem_map.1 hx
    have := List.all_eq_true.1 hs v hv
    cases v <;> simp [shortStr] at this
    exact this
  · rw [List.getElem?_map, Option.map_eq_some_iff] at hx
    obtain ⟨v, hv, rfl⟩ := hx
    have := List.all_eq_true.1 hs v (List.mem_of_getElem? hv)
    unfold StrAt
    refine new_cell w _ _ _ _ ?_
    rw [Nat.zero_add, Nat.mul_one, ← Array.getElem?_toList, hv]
    cases v <;> simp [shortStr] at this
    rfl

/-- The end of a list of texts. -/
def TextsEnd (w : World) (e : Ending) (w' : World) : Prop := ∃ (c : Nat) (l : List ByteArray), e = .returned (.slice (some ⟨w.heap.size, 0, none⟩) l.length c) ∧ 0 < l.length ∧ l.length ≤ 100 ∧ (∀ x ∈ l, x.size ≤ 200) ∧ SlV StrAt 1 w' (.slice (some ⟨w.heap.size, 0, none⟩) l.length c) l ∧ Ext w w'

theorem TextsEnd.mk (w : World) (cs : Array Value) {n : Nat} (hn : n = cs.size) (h0 : 0 < n) (hc : n ≤ 100) (hs : cs.toList.all (shortStr 200) = true) : TextsEnd w (.returned (.slice (some ⟨w.heap.size, 0, none⟩) n n)) (w.alloc (.cells cs 9)) := by
  subst hn
  obtain ⟨l, h1, h2, h3⟩ := strs_lit w cs hc hs
  refine ⟨cs.size, l, ?_, by omega, by omega, h2, ?_, Ext.alloc _ _⟩
  · rw [h1]
  · rw [h1]; exact h3
theorem l2Texts_t (w : World) : Calls Tryz.prog 169 #[] w (TextsEnd w) := by
  go_enter Tryz.func169, Tryz.ntmps169
  go_wp2_with fail
  go_ret
  refine TextsEnd.mk w _ rfl ?_ ?_ ?_
  all_goals decide

theorem of_t (v : Value) (l : List ByteArray) (c b : Nat) (hv' : v = .slice (some ⟨b, 0, none⟩) l.length c) (h : St D g q w) (hq : q + 1 ≤ 1000000) (hv : SlV StrAt 1 w v l) (hb : g < b) (h0 : 0 < l.length) (hl : l.length ≤ 100) :
    Calls Tryz.prog 134 #[.pointer (some ⟨g, 0, none⟩), v] w (fun e w' => ∃ x ∈ l, e = .returned (.string x) ∧ St D g (q + 1) w' ∧ Kept g w w') := by
  subst hv'
  obtain ⟨a, c', hsl, -, ho⟩ := hv.open
  obtain ⟨b', off, ha, hb', hc⟩ := ho 0 l[0] (List.getElem?_eq_getElem h0)
  cases hsl
  cases ha
  have HC := Lib.hid hc
  clear hc ho hv
  go_enter Tryz.func134, Tryz.ntmps134
  go_wp2_with fail
  refine (pick_t l.length h (by omega) (by omega)).mono ?_
  rintro e w1 ⟨x, rfl, hx, -, hs1, hk1⟩
  have hx' : x < l.length := by have := hx (by omega); omega
  have hx1 : (0 : Int) ≤ (x : Int) := by omega
  have hx2 : (x : Int) < (l.length : Int) := by omega
  have c0 := hk1.cell (p := ⟨b, 0 + x * 1, none⟩) (by simp only []; omega) (HC.out x l[x] (List.getElem?_eq_getElem hx'))
  rw [Nat.mul_one, Nat.zero_add] at c0
  generalize hy : l[x] = y at c0
  have hm : y ∈ l := by rw [← hy]; exact List.getElem_mem _
  clear hy hx
  go_wp2_with fail
  go_ret
  exact ⟨y, hm, rfl, hs1, hk1⟩

theorem ParseSystem_t (s : ByteArray) (hs : s.size ≤ 200) (h : St D g q w) (hq : q + 500 ≤ 1000000) :
    Calls Tryz.prog 133 #[.string s] w (Drawn D g q 500 w fun D' q' w' v => ∃ u b, v = .tuple #[u, .bool b] ∧ SysT D' q' w' u) := by
  have hg := h.g_lt
  have hd := fun x hx => (h.dom x hx).2
  have B0 := Box.new h #[.int .i64 0, .int .i64 0, .slice none 0 0] 25
  go_enter Tryz.func133, Tryz.ntmps133
  go_wp2_with fail
  generalize w.alloc (.cells #[.int .i64 0, .int .i64 0, .slice none 0 0] 25) = w1 at B0 ⊢
  refine (l19Cut_t s 32 hs B0.st (by omega)).mono ?_
  rintro e w2 ⟨v2, D2, rfl, hi2, hs2, ht2, n, hn1, hn2, hp⟩
  have B0 := B0.drawn hg hi2 ht2 (c' := 201) (hs2.up (by omega))
  clear hs2 ht2 hi2
  obtain ⟨ap, cp, rfl⟩ := hp.shape
  by_cases hn : n < 2
  · have rc0 := B0.blk.cell 0 rfl; have rf0 := B0.blk.fr 0; have rc1 := B0.blk.cell 1 rfl; have rf1 := B0.blk.fr 1; have rc2 := B0.blk.cell 2 rfl; have rf2 := B0.blk.fr 2
    go_wp2_with fail
    clear rc0 rc1 rc2 rf0 rf1 rf2
    have zc0 := B0.blk.cell 0 rfl; have zf0 := B0.blk.fr 0; have zc1 := B0.blk.cell 1 rfl; have zf1 := B0.blk.fr 1; have zc2 := B0.blk.cell 2 rfl; have zf2 := B0.blk.fr 2
    refine bodyPost_ret (v := .tuple #[.agg #[.int .i64 0, .int .i64 0, .slice none 0 0], .bool false]) (by simp [results, Tryz.results133, go_sem, zc0, zc1, zc2, zf0, zf1, zf2]) rfl ?_
    have BZ := ((B0.set hg hd (Nat.le_refl _) 0 (.int .i64 0)).set hg hd (Nat.le_refl _) 1 (.int .i64 0)).set hg hd (Nat.le_refl _) 2 (.slice none 0 0)
    exact ⟨_, _, rfl, BZ.inc, BZ.st.up (by omega), BZ.tr, _, _, rfl, _, _, _, 0, rfl, by omega, SlOk.nil⟩
  obtain ⟨b, cap, p0, hv, hb, hc0, hp0⟩ := hp.str_at B0.st.typ (i := 0) (by omega)
  cases hv
  obtain ⟨b1, cap1, p1, hv1, hb1, hc1, hp1⟩ := hp.str_at B0.st.typ (i := 1) (by omega)
  cases hv1
  have hi0 : (0 : Int) < (n : Int) := by omega
  have hi1 : (1 : Int) < (n : Int) := by omega
  go_wp2_with fail
  refine (ParseAlphabet_t p0 w2).mono ?_
  rintro e w3 ⟨al, b0, hal, rfl, he3⟩
  have hc1 := he3.cell hc1
  have hp := hp.tr' (Inc.refl _ _) (Tr.ext B0.st he3)
  have B0 := B0.ext he3
  clear hc0 he3
  go_wp2_with fail
  refine (l19Num_t p1 w3 hp1).mono ?_
  rintro e w4 ⟨st, b2, rfl, rfl⟩
  clear hc1 hi1
  cases b0
  case false =>
    have rc0 := B0.blk.cell 0 rfl; have rf0 := B0.blk.fr 0; have rc1 := B0.blk.cell 1 rfl; have rf1 := B0.blk.fr 1; have rc2 := B0.blk.cell 2 rfl; have rf2 := B0.blk.fr 2
    go_wp2_with fail
    clear rc0 rc1 rc2 rf0 rf1 rf2
    have zc0 := B0.blk.cell 0 rfl; have zf0 := B0.blk.fr 0; have zc1 := B0.blk.cell 1 rfl; have zf1 := B0.blk.fr 1; have zc2 := B0.blk.cell 2 rfl; have zf2 := B0.blk.fr 2
    refine bodyPost_ret (v := .tuple #[.agg #[.int .i64 0, .int .i64 0, .slice none 0 0], .bool false]) (by simp [results, Tryz.results133, go_sem, zc0, zc1, zc2, zf0, zf1, zf2]) rfl ?_
    have BZ := ((B0.set hg hd (Nat.le_refl _) 0 (.int .i64 0)).set hg hd (Nat.le_refl _) 1 (.int .i64 0)).set hg hd (Nat.le_refl _) 2 (.slice none 0 0)
    exact ⟨_, _, rfl, BZ.inc, BZ.st.up (by omega), BZ.tr, _, _, rfl, _, _, _, 0, rfl, by omega, SlOk.nil⟩
  cases b2
  case false =>
    have rc0 := B0.blk.cell 0 rfl; have rf0 := B0.blk.fr 0; have rc1 := B0.blk.cell 1 rfl; have rf1 := B0.blk.fr 1; have rc2 := B0.blk.cell 2 rfl; have rf2 := B0.blk.fr 2
    go_wp2_with fail
    clear rc0 rc1 rc2 rf0 rf1 rf2
    have zc0 := B0.blk.cell 0 rfl; have zf0 := B0.blk.fr 0; have zc1 := B0.blk.cell 1 rfl; have zf1 := B0.blk.fr 1; have zc2 := B0.blk.cell 2 rfl; have zf2 := B0.blk.fr 2
    refine bodyPost_ret (v := .tuple #[.agg #[.int .i64 0, .int .i64 0, .slice none 0 0], .bool false]) (by simp [results, Tryz.results133, go_sem, zc0, zc1, zc2, zf0, zf1, zf2]) rfl ?_
    have BZ := ((B0.set hg hd (Nat.le_refl _) 0 (.int .i64 0)).set hg hd (Nat.le_refl _) 1 (.int .i64 0)).set hg hd (Nat.le_refl _) 2 (.slice none 0 0)
    exact ⟨_, _, rfl, BZ.inc, BZ.st.up (by omega), BZ.tr, _, _, rfl, _, _, _, 0, rfl, by omega, SlOk.nil⟩
  go_wp2_with fail
  have he := Ext.alloc w3 (.cells #[.int .i64 al, .int .i64 st, .slice none 0 0] 25)
  have BG : Box D g q w w3.heap.size 201 #[.int .i64 al, .int .i64 st, .slice none 0 0] 25 _ D2 := ⟨B0.inc, (B0.ext he).st, (B0.ext he).tr, Blk.new _ _ _, B0.st.out (Nat.le_refl _)⟩
  have hp := hp.tr' (Inc.refl _ _) (Tr.ext B0.st he)
  have hGs : w.heap.size < w3.heap.size := B0.blk.lt
  have BR := B0.ext he
  clear he B0
  generalize w3.alloc (.cells #[.int .i64 al, .int .i64 st, .slice none 0 0] 25) = w4 at BG BR hp ⊢
  generalize w3.heap.size = G at BG hGs ⊢
  have hne1 : w.heap.size ≠ G := by omega
  have hne2 : G ≠ w.heap.size := by omega
  go_loopw [10] (fun i wr => ∃ (k : Nat) (D' : Nat → Prop) (vE : Value), 2 + k ≤ n ∧ i = .int .i64 ((2 + k : Nat) : Int) ∧ Box D g q w w.heap.size (201 + k) #[.int .i64 0, .int .i64 0, .slice none 0 0] 25 wr D' ∧ Box D g q w G (201 + k) #[.int .i64 al, .int .i64 st, vE] 25 wr D' ∧ SlOk D' wr 9 1 (.slice (some ⟨b, 0, none⟩) n cp) n ∧ SlOk D' wr 77 3 vE k) (fun i _ => n - (intOf i).toNat)
  case atStart => exact ⟨0, D2, _, by omega, rfl, BR, BG, hp, SlOk.nil⟩
  case round =>
    clear BR BG hp
    obtain ⟨k, D3, vE, hk, rfl, BR, BG, hp, hE⟩ := hrel
    obtain ⟨aE, cE, rfl⟩ := hE.shape
    by_cases hlt : 2 + k < n
    · obtain ⟨b5, cap5, p5, hv5, hb5, hc5, hp5⟩ := hp.str_at BG.st.typ hlt
      cases hv5
      have hk1 : (0 : Int) ≤ 2 + (k : Int) := by omega
      have hk2 : 2 + (k : Int) < (n : Int) := by omega
      go_wp2_with fail
      refine (l2Parse_t p5 wr hp5).mono ?_
      rintro e w5 ⟨x, y, z, b6, rfl, he5⟩
      have hx5 := Ext.alloc w5 (.cells #[.int .i64 x, .int .i64 y, .int .i64 z] 77)
      have hx := he5.trans hx5
      have hp := hp.tr' (Inc.refl _ _) (Tr.ext BG.st hx)
      have hE := hE.tr' (Inc.refl _ _) (Tr.ext BG.st hx)
      have BR5 := BR.ext he5
      have BG5 := BG.ext he5
      have BR := BR.ext hx
      have BG := BG.ext hx
      cases b6
      case false =>
        have rc0 := fun o => (Ext.alloc w5 o).cell (BR5.blk.cell 0 rfl)
        have rc1 := fun o => (Ext.alloc w5 o).cell (BR5.blk.cell 1 rfl)
        have rc2 := fun o => (Ext.alloc w5 o).cell (BR5.blk.cell 2 rfl)
        have rf0 := fun cs t => (BR5.blk.ext (Ext.alloc w5 (.cells cs t))).fr 0
        have rf1 := fun cs t => (BR5.blk.ext (Ext.alloc w5 (.cells cs t))).fr 1
        have rf2 := fun cs t => (BR5.blk.ext (Ext.alloc w5 (.cells cs t))).fr 2
        go_wp2_with fail
        clear rc0 rc1 rc2 rf0 rf1 rf2
        have zc0 := BR.blk.cell 0 rfl; have zf0 := BR.blk.fr 0; have zc1 := BR.blk.cell 1 rfl; have zf1 := BR.blk.fr 1; have zc2 := BR.blk.cell 2 rfl; have zf2 := BR.blk.fr 2
        refine bodyPost_ret (v := .tuple #[.agg #[.int .i64 0, .int .i64 0, .slice none 0 0], .bool false]) (by simp [results, Tryz.results133, go_sem, zc0, zc1, zc2, zf0, zf1, zf2]) rfl ?_
        have BZ := ((BR.set hg hd (Nat.le_refl _) 0 (.int .i64 0)).set hg hd (Nat.le_refl _) 1 (.int .i64 0)).set hg hd (Nat.le_refl _) 2 (.slice none 0 0)
        exact ⟨_, _, rfl, BZ.inc, BZ.st.up (by omega), BZ.tr, _, _, rfl, _, _, _, 0, rfl, by omega, SlOk.nil⟩
      have ec := Blk.new w5 #[.int .i64 x, .int .i64 y, .int .i64 z] 77
      go_upto_region 15 with fail
      generalize w5.alloc (.cells #[.int .i64 x, .int .i64 y, .int .i64 z] 77) = w6 at BG BR hp hE ec ⊢
      generalize w5.heap.size = E5 at ec ⊢
      have ec0 := ec.cell 0 rfl
      have ec1 := ec.cell 1 rfl
      have ec2 := ec.cell 2 rfl
      have gc2 := BG.blk.cell 2 rfl
      go_wp2_with (at_builtin; refine app1_t (q + (201 + (k + 1))) rfl rfl Tryz.underlying23 infoEdge rfl (by decide) per_edge zk_edge BG.st hE rfl rfl rfl (by simp [Value.oneCell']) (kin_edge _ _ _) (by omega) (by decide) (by omega) ?_; intro v1 w7 D7 hi7 hs7 ht7 hE7; obtain ⟨a7, c7, rfl⟩ := hE7.shape; have BG7 := BG.drawn (by omega) hi7 ht7 (c' := 201 + (k + 1)) hs7; have BR7 := BR.drawn hg hi7 ht7 (c' := 201 + (k + 1)) hs7; have gd2 := BG7.blk.cell 2 rfl; have ge2 := BG7.blk.fr 2)
      have o7 := BG7.out
      exact ⟨⟨k + 1, D7, _, by omega, by go_num, BR7.other (b' := G) (by omega) hd (by omega) (by omega) o7 2 _, BG7.set (by omega) hd (by omega) 2 _, (hp.tr' hi7 ht7).tr (fun _ h => h) (Shp.box o7), hE7.tr (fun _ h => h) (Shp.box o7)⟩, by simp [intOf]; omega⟩
    · have hkn : n ≤ 2 + k := by omega
      clear hlt
      have hST : SysT D3 (q + (201 + k)) wr (.agg #[.int .i64 al, .int .i64 st, .slice aE k cE]) := ⟨_, _, _, _, rfl, by omega, hE⟩
      obtain ⟨S, hS1, hS2⟩ := hST.sys BG.st.typ
      have gc0 := BG.blk.cell 0 rfl; have gf0 := BG.blk.fr 0; have gc1 := BG.blk.cell 1 rfl; have gf1 := BG.blk.fr 1; have gc2 := BG.blk.cell 2 rfl; have gf2 := BG.blk.fr 2
      go_wp2_with fail
      refine (FormatSystem_t _ S wr hS2 (by omega)).mono ?_
      rintro e w5 ⟨t, rfl, ht, he5⟩
      clear gc0 gc1 gc2 gf0 gf1 gf2
      have hE := hE.tr' (Inc.refl _ _) (Tr.ext BG.st he5)
      have BR := BR.ext he5
      have BG := BG.ext he5
      have gc0 := BG.blk.cell 0 rfl; have gf0 := BG.blk.fr 0; have gc1 := BG.blk.cell 1 rfl; have gf1 := BG.blk.fr 1; have gc2 := BG.blk.cell 2 rfl; have gf2 := BG.blk.fr 2; have rc0 := BR.blk.cell 0 rfl; have rf0 := BR.blk.fr 0; have rc1 := BR.blk.cell 1 rfl; have rf1 := BR.blk.fr 1; have rc2 := BR.blk.cell 2 rfl; have rf2 := BR.blk.fr 2
      cases hb : (t.toList == s.toList)
      · go_wp2_with fail
        clear gc0 gc1 gc2 gf0 gf1 gf2 rc0 rc1 rc2 rf0 rf1 rf2
        have zc0 := BR.blk.cell 0 rfl; have zf0 := BR.blk.fr 0; have zc1 := BR.blk.cell 1 rfl; have zf1 := BR.blk.fr 1; have zc2 := BR.blk.cell 2 rfl; have zf2 := BR.blk.fr 2
        refine bodyPost_ret (v := .tuple #[.agg #[.int .i64 0, .int .i64 0, .slice none 0 0], .bool false]) (by simp [results, Tryz.results133, go_sem, zc0, zc1, zc2, zf0, zf1, zf2]) rfl ?_
        have BZ := ((BR.set hg hd (Nat.le_refl _) 0 (.int .i64 0)).set hg hd (Nat.le_refl _) 1 (.int .i64 0)).set hg hd (Nat.le_refl _) 2 (.slice none 0 0)
        exact ⟨_, _, rfl, BZ.inc, BZ.st.up (by omega), BZ.tr, _, _, rfl, _, _, _, 0, rfl, by omega, SlOk.nil⟩
      · go_wp2_with fail
        clear gc0 gc1 gc2 gf0 gf1 gf2 rc0 rc1 rc2 rf0 rf1 rf2
        have zc0 := BR.blk.cell 0 rfl; have zf0 := BR.blk.fr 0; have zc1 := BR.blk.cell 1 rfl; have zf1 := BR.blk.fr 1; have zc2 := BR.blk.cell 2 rfl; have zf2 := BR.blk.fr 2
        refine bodyPost_ret (v := .tuple #[.agg #[.int .i64 al, .int .i64 st, .slice aE k cE], .bool true]) (by simp [results, Tryz.results133, go_sem, zc0, zc1, zc2, zf0, zf1, zf2]) rfl ?_
        have BZ := ((BR.set hg hd (Nat.le_refl _) 0 (.int .i64 al)).set hg hd (Nat.le_refl _) 1 (.int .i64 st)).set hg hd (Nat.le_refl _) 2 (.slice aE k cE)
        have oZ := BR.out
        exact ⟨_, D3, rfl, BZ.inc, BZ.st.up (by omega), BZ.tr, _, _, rfl, _, _, _, k, rfl, by omega, (((hE.tr (fun _ h => h) (Shp.box oZ)).tr (fun _ h => h) (Shp.box oZ)).tr (fun _ h => h) (Shp.box oZ))⟩
end Go.Proofs.YtajafdblmphglaaGreatDoor

namespace Go.Proofs.YtajafdblmphglaaGreatDoor
set_option linter.unusedSimpArgs false
set_option linter.unusedVariables false
open Go.RowKit
set_option maxHeartbeats 1000000
set_option maxRecDepth 100000

variable {D D' : Nat → Prop} {g q q' : Nat} {w w' : World}

theorem l2Draw_t (h : St D g q w) (hq : q + 4600 ≤ 1000000) :
    Calls Tryz.prog 100 #[.pointer (some ⟨g, 0, none⟩)] w (Drawn D g q 4600 w SysT) := by
  have hg := h.g_lt
  have hd := fun x hx => (h.dom x hx).2
  have B0 := Box.new h #[.int .i64 0, .int .i64 0, .slice none 0 0] 25
  go_enter Tryz.func100, Tryz.ntmps100
  go_wp2_with fail
  generalize w.alloc (.cells #[.int .i64 0, .int .i64 0, .slice none 0 0] 25) = w1 at B0 ⊢
  refine (pick_t 3 B0.st (by omega) (by omega)).mono ?_
  rintro e w2 ⟨x, rfl, -, -, hs2, hk2⟩
  have B1 := B0.kept hg hk2 (c' := 1) hs2
  clear hs2 hk2 B0
  by_cases hx : x = 0
  · subst hx
    go_wp2_with fail
    refine (l2Texts_t w2).mono ?_
    rintro e w3 ⟨c3, l, rfl, hl0, hl1, hls, hv3, he3⟩
    have B2 := B1.ext he3
    go_wp2_with fail
    refine (of_t _ l c3 w2.heap.size rfl B2.st (by omega) hv3 B1.st.g_lt hl0 hl1).mono ?_
    rintro e w4 ⟨t, ht, rfl, hs4, hk4⟩
    have B3 := B2.kept hg hk4 (c' := 2) hs4
    have ht2 := hls t ht
    clear hs4 hk4 hv3 hls he3
    go_wp2_with fail
    refine (ParseSystem_t t ht2 B3.st (by omega)).mono ?_
    rintro e w5 ⟨v5, D5, rfl, hi5, hs5, ht5, u5, b5, rfl, hS⟩
    have B4 := B3.drawn hg hi5 ht5 (c' := 502) (hs5.up (by omega))
    obtain ⟨al, st, n, aE, cE, rfl, hn, hE⟩ := hS.boxed
    have he := Ext.alloc w5 (.cells #[.int .i64 al, .int .i64 st, .slice aE n cE] 25)
    have hE := hE.tr' (Inc.refl _ _) (Tr.ext B4.st he)
    have ec := Blk.new w5 #[.int .i64 al, .int .i64 st, .slice aE n cE] 25
    have B5 := B4.ext he
    have hne : w.heap.size < w5.heap.size := B4.blk.lt
    clear hs5 ht5 hi5
    go_upto_if 15 with fail
    generalize w5.alloc (.cells #[.int .i64 al, .int .i64 st, .slice aE n cE] 25) = w6 at B5 hE ec ⊢
    generalize w5.heap.size = G at ec hne ⊢
    have ec0 := ec.cell 0 rfl
    have ec1 := ec.cell 1 rfl
    have ec2 := ec.cell 2 rfl
    cases b5
    · go_wp2_with fail
      refine (num_t [3, 6, 7, 5, 1, 0, 12] rfl B5.st (by omega) (by decide) (by decide)).mono ?_
      rintro e wa ⟨xa, hxa, rfl, hsa, hka⟩
      obtain ⟨al, rfl, hal⟩ := nat_of_mem (B := 63) hxa (by decide)
      have Ba := B5.kept hg hka (c' := 503) (hsa.up (by omega))
      go_wp2_with fail
      refine (num_t [3, 2, 4, 1, 5] rfl Ba.st (by omega) (by decide) (by decide)).mono ?_
      rintro e wb ⟨xb, hxb, rfl, hsb, hkb⟩
      obtain ⟨st, rfl, hst⟩ := nat_of_mem (B := 5) hxb (by decide)
      have Bb := Ba.kept hg hkb (c' := 504) (hsb.up (by omega))
      go_wp2_with fail
      refine (num_t [3, 2, 4, 6] rfl Bb.st (by omega) (by decide) (by decide)).mono ?_
      rintro e wc ⟨xc, hxc, rfl, hsc, hkc⟩
      obtain ⟨fw, rfl, hfw⟩ := nat_of_mem (B := 6) hxc (by decide)
      have Bc := Bb.kept hg hkc (c' := 505) (hsc.up (by omega))
      go_wp2_with fail
      refine (l2Random_t al fw st (by omega) (by omega) Bc.st (by omega)).mono ?_
      rintro e wd ⟨vd, Dd, rfl, hid, hsd, htd, ve, n, rfl, hn, hE⟩
      have Bd := Bc.drawn hg hid htd (c' := 4600) (hsd.up (by omega))
      obtain ⟨aE, cE, rfl⟩ := hE.shape
      have rc0 := Bd.blk.cell 0 rfl; have rf0 := Bd.blk.fr 0; have rc1 := Bd.blk.cell 1 rfl; have rf1 := Bd.blk.fr 1; have rc2 := Bd.blk.cell 2 rfl; have rf2 := Bd.blk.fr 2
      go_wp2_with fail
      refine bodyPost_ret (v := .agg #[.int .i64 al, .int .i64 st, .slice aE n cE]) (by simp [results, Tryz.results100, go_sem, rc0, rc1, rc2, rf0, rf1, rf2]) rfl ?_
      have BZ := ((Bd.set (by omega) hd (by omega) 0 (.int .i64 al)).set (by omega) hd (by omega) 1 (.int .i64 st)).set (by omega) hd (by omega) 2 (.slice aE n cE)
      have oZ := Bd.out
      exact ⟨_, Dd, rfl, BZ.inc, BZ.st.up (by omega), BZ.tr, _, _, _, _, rfl, by omega, (((hE.tr (fun _ h => h) (Shp.box oZ)).tr (fun _ h => h) (Shp.box oZ)).tr (fun _ h => h) (Shp.box oZ))⟩
    · have rc0 := B5.blk.cell 0 rfl; have rf0 := B5.blk.fr 0; have rc1 := B5.blk.cell 1 rfl; have rf1 := B5.blk.fr 1; have rc2 := B5.blk.cell 2 rfl; have rf2 := B5.blk.fr 2
      go_wp2_with fail
      refine bodyPost_ret (v := .agg #[.int .i64 al, .int .i64 st, .slice aE n cE]) (by simp [results, Tryz.results100, go_sem, rc0, rc1, rc2, rf0, rf1, rf2]) rfl ?_
      have BZ := ((B5.set (by omega) hd (by omega) 0 (.int .i64 al)).set (by omega) hd (by omega) 1 (.int .i64 st)).set (by omega) hd (by omega) 2 (.slice aE n cE)
      have oZ := B5.out
      exact ⟨_, _, rfl, BZ.inc, BZ.st.up (by omega), BZ.tr, _, _, _, _, rfl, by omega, (((hE.tr (fun _ h => h) (Shp.box oZ)).tr (fun _ h => h) (Shp.box oZ)).tr (fun _ h => h) (Shp.box oZ))⟩
  · have hx' : ((x : Int) == 0) = false := beq_eq_false_iff_ne.2 (by omega)
    go_wp2_with fail
    refine (num_t [3, 6, 7, 5, 1, 0, 12] rfl B1.st (by omega) (by decide) (by decide)).mono ?_
    rintro e wa ⟨xa, hxa, rfl, hsa, hka⟩
    obtain ⟨al, rfl, hal⟩ := nat_of_mem (B := 63) hxa (by decide)
    have Ba := B1.kept hg hka (c' := 2) (hsa.up (by omega))
    go_wp2_with fail
    refine (num_t [3, 2, 4, 1, 5] rfl Ba.st (by omega) (by decide) (by decide)).mono ?_
    rintro e wb ⟨xb, hxb, rfl, hsb, hkb⟩
    obtain ⟨st, rfl, hst⟩ := nat_of_mem (B := 5) hxb (by decide)
    have Bb := Ba.kept hg hkb (c' := 3) (hsb.up (by omega))
    go_wp2_with fail
    refine (num_t [3, 2, 4, 6] rfl Bb.st (by omega) (by decide) (by decide)).mono ?_
    rintro e wc ⟨xc, hxc, rfl, hsc, hkc⟩
    obtain ⟨fw, rfl, hfw⟩ := nat_of_mem (B := 6) hxc (by decide)
    have Bc := Bb.kept hg hkc (c' := 4) (hsc.up (by omega))
    go_wp2_with fail
    refine (l2Random_t al fw st (by omega) (by omega) Bc.st (by omega)).mono ?_
    rintro e wd ⟨vd, Dd, rfl, hid, hsd, htd, ve, n, rfl, hn, hE⟩
    have Bd := Bc.drawn hg hid htd (c' := 4600) (hsd.up (by omega))
    obtain ⟨aE, cE, rfl⟩ := hE.shape
    have rc0 := Bd.blk.cell 0 rfl; have rf0 := Bd.blk.fr 0; have rc1 := Bd.blk.cell 1 rfl; have rf1 := Bd.blk.fr 1; have rc2 := Bd.blk.cell 2 rfl; have rf2 := Bd.blk.fr 2
    go_wp2_with fail
    refine bodyPost_ret (v := .agg #[.int .i64 al, .int .i64 st, .slice aE n cE]) (by simp [results, Tryz.results100, go_sem, rc0, rc1, rc2, rf0, rf1, rf2]) rfl ?_
    have BZ := ((Bd.set (by omega) hd (by omega) 0 (.int .i64 al)).set (by omega) hd (by omega) 1 (.int .i64 st)).set (by omega) hd (by omega) 2 (.slice aE n cE)
    have oZ := Bd.out
    exact ⟨_, Dd, rfl, BZ.inc, BZ.st.up (by omega), BZ.tr, _, _, _, _, rfl, by omega, (((hE.tr (fun _ h => h) (Shp.box oZ)).tr (fun _ h => h) (Shp.box oZ)).tr (fun _ h => h) (Shp.box oZ))⟩
end Go.Proofs.YtajafdblmphglaaGreatDoor
