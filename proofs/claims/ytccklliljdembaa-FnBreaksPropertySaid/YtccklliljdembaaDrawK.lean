/- Merged: DrawI, DrawK. -/
import Derived.Test.YtccklliljdembaaDrawA
import Derived.Test.YtccklliljdembaaWalkK
import Derived.Deep.DeepCutAuto
import Derived.Test.YtccklliljdembaaRegion
import Derived.Test.YtccklliljdembaaWalkH
import Derived.Test.YtccklliljdembaaDrawF

namespace Go.Proofs.Ytccklliljdembaa
set_option linter.unusedSimpArgs false
set_option linter.unusedVariables false
open Go.RowKit
set_option maxHeartbeats 1000000
set_option maxRecDepth 100000

/-- The end of a call that hands back some text, and only makes memory. -/
def Text (B : Nat) (w : World) (e : Ending) (w' : World) : Prop := ∃ s, e = .returned (.string s) ∧ s.size ≤ B ∧ Ext w w'

theorem one_byte (w : World) (b : UInt8) : BytesOwn 5 w.heap.size (w.alloc (.cells #[byteVal b] 5)) (.slice (some ⟨w.heap.size, 0, none⟩) 1 1) [b] :=
  ⟨by simp, .inr ⟨w.heap.size, 1, #[byteVal b], rfl, Nat.le_refl _, heap_alloc_new w _, Nat.le_refl _, by unfold maxLen; omega, by simp, by simp⟩⟩
/-- One byte read as a text, whatever number stands for it. -/
theorem conv_byte (w : World) (y : Int) (h0 : 0 ≤ y) (h1 : y < 256) : ∃ s : ByteArray, s.size = 1 ∧ (convert 22 9 (.slice (some ⟨w.heap.size, 0, none⟩) 1 1)).run Try.prog (w.alloc (.cells #[.int .u8 y] 5)) = .ok (.string s) (w.alloc (.cells #[.int .u8 y] 5)) := by
  have hb := (one_byte w (UInt8.ofNat y.toNat)).string
  have e : byteVal (UInt8.ofNat y.toNat) = .int .u8 y := by
    unfold byteVal
    congr 1
    simp
    omega
  rw [e] at hb
  exact ⟨_, rfl, hb⟩

theorem l1Text_t (x : Int) (w : World) : Calls Try.prog 34 #[.int .i64 x] w (Text 1 w) := by
  obtain ⟨s, hz, hs⟩ := conv_byte w (wrap64 (97 + x) % 256) (by omega) (by omega)
  go_enter Try.func34, Try.ntmps34
  go_wp2_with fail
  go_ret
  exact ⟨_, rfl, by omega, Ext.alloc _ _⟩

theorem FormatAlphabet_t (a : Nat) (w : World) (ha : a ≤ 63) : Calls Try.prog 53 #[.int .i64 a] w (Text 6 w) := by
  have hal : isAlpha (a : Int) = true := by unfold isAlpha; simp; omega
  by_cases h0 : a = 0
  · subst h0
    have hal0 : isAlpha 0 = true := by decide
    go_enter Try.func53, Try.ntmps53
    go_wp2_with (go_at_call 37; refine (l1Alphabet_c _ _).mono ?_; rintro e w' ⟨rfl, rfl⟩)
    go_ret
    exact ⟨_, rfl, by decide, Ext.refl _⟩
  have h0' : ((a : Int) == 0) = false := beq_eq_false_iff_ne.2 (by omega)
  go_enter Try.func53, Try.ntmps53
  go_wp2_with (go_at_call 37; refine (l1Alphabet_c _ _).mono ?_; rintro e w' ⟨rfl, rfl⟩)
  refine (l1Letters_c a w (by omega) (by omega)).mono ?_
  rintro e w1 ⟨v, rfl, he, hv⟩
  obtain ⟨av, cv, rfl, -, hc⟩ := hv.open
  have HC := Lib.hid hc
  have hlen : (letters (a : Int)).length ≤ 6 := lettersTo_len a 6
  generalize letters (a : Int) = ls at HC hlen ⊢
  clear hc hv
  go_wp2_with fail
  go_loopw [3, 5] (fun t i wr => ∃ (k : Nat) (s : ByteArray), k ≤ ls.length ∧ i = .int .i64 k ∧ t = .string s ∧ s.size ≤ k ∧ Ext w1 wr) (fun _ i _ => ls.length - (intOf i).toNat)
  case atStart => exact ⟨0, _, by omega, rfl, rfl, by decide, Ext.refl _⟩
  case round =>
    obtain ⟨k, s, hk, rfl, rfl, hsz, hx⟩ := hrel
    by_cases hlt : k < ls.length
    · obtain ⟨b, off, rfl, hb, hc⟩ := HC.out k ls[k] (List.getElem?_eq_getElem hlt)
      have c0 := hx.cell (hc k ls[k] (List.getElem?_eq_getElem hlt))
      rw [Nat.mul_one] at c0
      generalize ls[k] = l at c0
      clear hc
      go_wp2_with fail
      refine (l1Text_t l wr).mono ?_
      rintro e w2 ⟨s2, rfl, hs2, he2⟩
      have hb1 : s.size + s2.size ≤ 9223372036854775807 := by omega
      go_wp2_with fail
      exact ⟨⟨k + 1, _, by omega, by go_num, rfl, by rw [ByteArray.size_append]; omega, hx.trans he2⟩, by simp [intOf]; omega⟩
    · obtain rfl : k = ls.length := by omega
      go_wp2_with fail
      go_ret
      exact ⟨_, rfl, by omega, he.trans hx⟩

theorem ParseAlphabet_t (s : ByteArray) (w : World) : Calls Try.prog 48 #[.string s] w (fun e w' => ∃ (a : Nat) (b : Bool), a ≤ 63 ∧ e = .returned (.tuple #[.int .i64 a, .bool b]) ∧ Ext w w') := by
  go_enter Try.func48, Try.ntmps48
  go_wp2_with fail
  go_loopw [4] (fun i wr => ∃ k : Nat, k ≤ 64 ∧ i = .int .i64 k ∧ Ext w wr) (fun i _ => 64 - (intOf i).toNat)
  case atStart => exact ⟨0, by omega, rfl, Ext.refl _⟩
  case round =>
    obtain ⟨k, hk, rfl, hx⟩ := hrel
    by_cases hlt : k < 64
    · go_wp2_with fail
      refine (FormatAlphabet_t k wr (by omega)).mono ?_
      rintro e w2 ⟨s2, rfl, hs2, he2⟩
      by_cases hb : (s2.toList == s.toList) = true
      · go_wp2_with fail
        go_ret2
        exact ⟨k, true, by omega, rfl, hx.trans he2⟩
      · have hb : (s2.toList == s.toList) = false := by cases h : (s2.toList == s.toList); rfl; exact absurd h hb
        go_wp2_with fail
        exact ⟨⟨k + 1, by omega, by go_num, hx.trans he2⟩, by simp [intOf]; omega⟩
    · obtain rfl : k = 64 := by omega
      go_wp2_with fail
      go_ret2
      exact ⟨0, false, by omega, rfl, hx⟩

theorem pow_small {t n : Nat} (h : n * 10 ^ t ≤ 9223372036854775807) (hn : 1 ≤ n) : t ≤ 18 := by
  rcases Nat.lt_or_ge 18 t with h1 | h1
  · have h2 : 10 ^ 19 ≤ 10 ^ t := Nat.pow_le_pow_right (by omega) (by omega)
    have h3 : 1 * 10 ^ t ≤ n * 10 ^ t := Nat.mul_le_mul_right _ hn
    omega
  · exact h1

theorem l19Dec_p (n : Nat) (w : World) (hn : n ≤ 9223372036854775807) : Calls Try.prog 55 #[.int .i64 n] w (Text 20 w) := by
  go_enter Try.func55, Try.ntmps55
  go_wp2_with fail
  go_loopw [0, 3] (fun i s wr => ∃ (k : Nat) (t : ByteArray), i = .int .i64 k ∧ s = .string t ∧ k * 10 ^ t.size ≤ 9223372036854775807 ∧ (1 ≤ k ∨ t.size = 0) ∧ Ext w wr) (fun i _ _ => (intOf i).toNat)
  case atStart => exact ⟨n, _, rfl, rfl, by show n * 10 ^ 0 ≤ _; omega, .inr rfl, Ext.refl _⟩
  case round =>
    obtain ⟨k, t, rfl, rfl, hk, h1, hx⟩ := hrel
    have ht : t.size ≤ 18 := by rcases h1 with h1 | h1; exact pow_small hk h1; omega
    by_cases hlt : 9 < k
    · obtain ⟨s1, hz1, hs1⟩ := conv_byte wr (48 + ((k : Int) % 10)) (by omega) (by omega)
      have hk8 : k ≤ 9223372036854775807 := Nat.le_trans (Nat.le_mul_of_pos_right _ (Nat.pow_pos (by omega))) hk
      have hb1 : s1.size + t.size ≤ 9223372036854775807 := by omega
      go_wp2_with fail
      refine ⟨⟨k / 10, _, rfl, rfl, ?_, .inl (by omega), hx.trans (Ext.alloc _ _)⟩, ?_⟩
      · rw [ByteArray.size_append, hz1, Nat.add_comm 1, Nat.pow_succ, Nat.mul_comm (10 ^ t.size), ← Nat.mul_assoc]
        exact Nat.le_trans (Nat.mul_le_mul_right _ (Nat.div_mul_le_self k 10)) hk
      · simp only [intOf]; omega
    · have hk9 : k ≤ 9 := by omega
      obtain ⟨s1, hz1, hs1⟩ := conv_byte wr (48 + (k : Int)) (by omega) (by omega)
      have hb1 : s1.size + t.size ≤ 9223372036854775807 := by omega
      go_wp2_with fail
      go_ret
      exact ⟨_, rfl, by rw [ByteArray.size_append]; omega, hx.trans (Ext.alloc _ _)⟩

/-- Some number, and whether it is one. -/
def NumEnd (w : World) (e : Ending) (w' : World) : Prop := ∃ (x : Int) (b : Bool), e = .returned (.tuple #[.int .i64 x, .bool b]) ∧ w = w'
theorem NumEnd.mk {x : Int} {b : Bool} {w : World} : NumEnd w (.returned (.tuple #[.int .i64 x, .bool b])) w := ⟨x, b, rfl, rfl⟩
theorem empty_text {t : ByteArray} (h : t.size = 0) : t = ByteArray.empty := ByteArray.ext (Array.eq_empty_of_size_eq_zero h)
theorem l19Num_t (s : ByteArray) (w : World) (hs : s.size ≤ 1000) : Calls Try.prog 54 #[.string s] w (NumEnd w) := by
  go_enter Try.func54, Try.ntmps54
  go_upto_if 15 with fail
  all_goals go_cut [0, 4] from 5 (fun a b wc => ∃ t bb, a = .string t ∧ t.size ≤ 1000 ∧ b = .bool bb ∧ wc = w)
  all_goals first
    | (go_wp2_with fail; (all_goals (go_meet; case rel => first | exact ⟨_, _, rfl, hs, rfl, rfl⟩ | exact ⟨_, _, rfl, by rw [ByteArray.size_extract]; omega, rfl, rfl⟩)); done)
    | skip
  all_goals
    obtain ⟨t, bb, rfl, ht, rfl, rfl⟩ := hcut
    clear hs
    cases bb
  all_goals rcases Nat.eq_zero_or_pos t.size with h0 | h0
  all_goals first
    | (have h1 := empty_text h0; subst h1; go_wp2_with fail; go_ret2; exact NumEnd.mk)
    | skip
  all_goals go_upto_region 6 with fail
  all_goals first
    | (go_ret2; exact NumEnd.mk)
    | skip
  all_goals go_cut [5] from 6 (fun n wd => n = .int .i64 0 ∧ wd = wc)
  all_goals first
    | (go_wp2_with fail; (all_goals (go_meet; case rel => exact ⟨rfl, rfl⟩)); done)
    | skip
  all_goals
    obtain ⟨rfl, rfl⟩ := hcut
    go_wp2_with fail
  all_goals go_loopw [5, 6] (fun n i wr => ∃ (k : Nat) (x : Int), k ≤ t.size ∧ i = .int .i64 k ∧ n = .int .i64 x ∧ wr = wc) (fun _ i _ => t.size - (intOf i).toNat)
  all_goals first
    | exact ⟨0, 0, by omega, rfl, rfl, rfl⟩
    | skip
  all_goals
    obtain ⟨k, x, hk, rfl, rfl, rfl⟩ := hrel
    go_wp2_with fail
  all_goals first
    | (go_ret2; exact NumEnd.mk)
    | exact ⟨⟨k + 1, _, by omega, by go_num, rfl, trivial⟩, by simp [intOf]; omega⟩
end Go.Proofs.Ytccklliljdembaa

namespace Go.Proofs.Ytccklliljdembaa
set_option linter.unusedSimpArgs false
set_option linter.unusedVariables false
open Go.RowKit
set_option maxHeartbeats 1000000
set_option maxRecDepth 100000

theorem valid_edge {s : Sys} (h : sysValid s = true) {k : Nat} {e : Edge} (hk : s.edges[k]? = some e) : 0 ≤ e.src ∧ e.src ≤ 16 ∧ 0 ≤ e.dst ∧ e.dst ≤ 16 := by
  obtain ⟨hi, rfl⟩ := List.getElem?_eq_some_iff.1 hk
  simp only [sysValid, Bool.and_eq_true, decide_eq_true_eq, List.all_eq_true] at h
  have h4 := h.2 k (List.mem_range.2 hi)
  unfold edgeAt at h4
  rw [List.getElem?_eq_getElem hi] at h4
  simp only [Bool.and_eq_true, edgeOk, decide_eq_true_eq] at h4
  omega

end Go.Proofs.Ytccklliljdembaa

namespace Go.Proofs.Ytccklliljdembaa
set_option linter.unusedSimpArgs false
set_option linter.unusedVariables false
open Go.RowKit
set_option maxHeartbeats 1000000
set_option maxRecDepth 100000

/-- Some edge, and whether it is one. -/
def EdgeEnd (w : World) (e : Ending) (w' : World) : Prop := ∃ (x y z : Int) (b : Bool), e = .returned (.tuple #[.agg #[.int .i64 x, .int .i64 y, .int .i64 z], .bool b]) ∧ Ext w w'

theorem infoStr : (Try.prog.info? 9).map (fun i => (i.zero, i.size, i.bytes)) = some (some (.string ByteArray.empty), 1, 16) := by kernel_rfl
section
variable {D D' : Nat → Prop} {g q q' : Nat} {w w' : World}
theorem zk_str : ∀ (D : Nat → Prop) q w, Kin D q w 9 (Value.string ByteArray.empty).cells.toList := fun D q w i u hu => by
  match i, hu with
  | 0, hu => exact ⟨.str, rfl, ByteArray.empty, by simpa [Value.cells] using hu.symm, by decide⟩
  | i + 1, hu => simp [Value.cells] at hu
theorem kin_str (x : ByteArray) (hx : x.size ≤ 1000) : Kin D q w 9 [.string x] := fun i u hu => by
  match i, hu with
  | 0, hu => exact ⟨.str, rfl, x, by simpa using hu.symm, hx⟩
  | i + 1, hu => simp at hu
theorem SlOk.str_at {n i : Nat} {v : Value} (hs : SlOk D w 9 1 v n) (hT : Typed D q w) (hi : i < n) : ∃ b cap x, v = .slice (some ⟨b, 0, none⟩) n cap ∧ D b ∧ w.cell? ⟨b, i, none⟩ = some (.string x) ∧ x.size ≤ 1000 := by
  obtain ⟨b, cap, cs, u, k, rfl, hb, hh, h1, -, h2, h3⟩ := hs.at hT hi (j := 0) (by omega)
  have h2' : CK.str = k := Option.some.inj h2
  subst h2'
  obtain ⟨x, rfl, hx⟩ := h3
  exact ⟨b, cap, x, rfl, hb, by simpa using h1, hx⟩

theorem l19Cut_t (s : ByteArray) (c : Int) (hs : s.size ≤ 200) (h : St D g q w) (hq : q + 201 ≤ 1000000) :
    Calls Try.prog 47 #[.string s, .int .u8 c] w (Drawn D g q 201 w fun D' _ w' v => ∃ n, 1 ≤ n ∧ n ≤ 201 ∧ SlOk D' w' 9 1 v n) := by
  obtain ⟨i3, s3, t3, l3⟩ := SlOk.lit h 9 1
  go_enter Try.func47, Try.ntmps47
  go_wp2_with fail
  go_loopw [5, 6, 7, 20, 21, 22, 23, 24] (fun v f i _ _ _ _ _ wr => ∃ (k fr n : Nat) (D' : Nat → Prop), k ≤ s.size + 1 ∧ i = .int .i64 k ∧ f = .int .i64 fr ∧ fr ≤ k ∧ SlOk D' wr 9 1 v n ∧ n ≤ k ∧ (k = s.size + 1 → 1 ≤ n) ∧ Inc D D' w ∧ St D' g (q + k) wr ∧ Tr D g w wr) (fun _ _ i _ _ _ _ _ _ => s.size + 1 - (intOf i).toNat)
  case atStart => exact ⟨0, 0, 0, _, by omega, rfl, rfl, by omega, l3, by omega, fun h => by omega, i3, s3, t3⟩
  case round =>
    clear i3 s3 t3 l3
    obtain ⟨k, fr, n, D1, hk, rfl, rfl, hf, hv, hn, hn1, hi, hst, htr⟩ := hrel
    obtain ⟨av, cv, rfl⟩ := hv.shape
    by_cases hle : k ≤ s.size
    · have hpc : (s.extract fr k).size ≤ 1000 := by rw [ByteArray.size_extract]; omega
      by_cases he : k = s.size
      · subst he
        go_wp2_with (at_builtin; refine app1_t (q + (s.size + 1)) rfl rfl Try.underlying56 infoStr rfl (by decide) per_str zk_str hst hv rfl rfl rfl (by simp [Value.oneCell']) (kin_str _ hpc) (by omega) (by decide) (by omega) ?_; intro v1 w1 D2 hi1 hst1 htr1 hs1)
        exact ⟨⟨s.size + 1, s.size + 1, n + 1, D2, by omega, by go_num, by go_num, by omega, hs1, by omega, fun _ => Nat.le_add_left 1 n, hi.trans htr.size hi1, hst1, htr.trans hi htr1⟩, by simp [intOf]⟩
      · have hlt : k < s.size := by omega
        have he' : ((k : Int) == (s.size : Int)) = false := beq_eq_false_iff_ne.2 (by omega)
        cases hb : ((s[k].toNat : Int) == c)
        · go_wp2_with fail
          exact ⟨⟨k + 1, fr, n, D1, by omega, by go_num, by go_num, by omega, hv, by omega, fun h => by omega, hi, hst.up (by omega), htr⟩, by simp [intOf]; omega⟩
        · go_wp2_with (at_builtin; refine app1_t (q + (k + 1)) rfl rfl Try.underlying56 infoStr rfl (by decide) per_str zk_str hst hv rfl rfl rfl (by simp [Value.oneCell']) (kin_str _ hpc) (by omega) (by decide) (by omega) ?_; intro v1 w1 D2 hi1 hst1 htr1 hs1)
          exact ⟨⟨k + 1, k + 1, n + 1, D2, by omega, by go_num, by go_num, by omega, hs1, by omega, fun _ => by omega, hi.trans htr.size hi1, hst1, htr.trans hi htr1⟩, by simp [intOf]; omega⟩
    · obtain rfl : k = s.size + 1 := by omega
      go_wp2_with fail
      go_ret
      exact ⟨_, D1, rfl, hi, hst.up (by omega), htr, n, hn1 trivial, by omega, hv⟩
end
end Go.Proofs.Ytccklliljdembaa

namespace Go.Proofs.Ytccklliljdembaa
set_option linter.unusedSimpArgs false
set_option linter.unusedVariables false
open Go.RowKit
set_option maxHeartbeats 1000000
set_option maxRecDepth 100000

variable {D D' : Nat → Prop} {g q q' : Nat} {w w' : World}

def StrAt (w : World) (b o : Nat) (x : ByteArray) : Prop := w.cell? ⟨b, o, none⟩ = some (.string x)
def shortStr (B : Nat) : Value → Bool
  | .string s => decide (s.size ≤ B)
  | _ => false
def strOf : Value → ByteArray
  | .string s => s
  | _ => ByteArray.empty
theorem strs_lit (w : World) (cs : Array Value) (hc : cs.size ≤ 100) (hs : cs.toList.all (shortStr 200) = true) :
    ∃ l : List ByteArray, l.length = cs.size ∧ (∀ x ∈ l, x.size ≤ 200) ∧ SlV StrAt 1 (w.alloc (.cells cs 9)) (.slice (some ⟨w.heap.size, 0, none⟩) cs.size cs.size) l := by
  refine ⟨cs.toList.map strOf, by simp, fun x hx => ?_, _, cs.size, by simp, by simp, by unfold maxLen; omega, fun _ => ⟨w.heap.size, 0, rfl, by simp, fun i x hx => ?_⟩⟩
  · obtain ⟨v, hv, rfl⟩ := List.mem_map.1 hx
    have := List.all_eq_true.1 hs v hv
    cases v <;> simp [shortStr] at this
    exact this
  · rw [List.getElem?_map, Option.map_eq_some_iff] at hx
    obtain ⟨v, hv, rfl⟩ := hx
    have := List.all_eq_true.1 hs v (List.mem_of_getElem? hv)
    unfold StrAt
    refine new_cell w _ _ _ _ ?_
    rw [Nat.zero_add, Nat.mul_one, ← Array.getElem?_toList, hv]
    cases v <;> simp [shortStr] at this
    rfl

/-- The end of a list of texts. -/
def TextsEnd (w : World) (e : Ending) (w' : World) : Prop := ∃ (c : Nat) (l : List ByteArray), e = .returned (.slice (some ⟨w.heap.size, 0, none⟩) l.length c) ∧ 0 < l.length ∧ l.length ≤ 100 ∧ (∀ x ∈ l, x.size ≤ 200) ∧ SlV StrAt 1 w' (.slice (some ⟨w.heap.size, 0, none⟩) l.length c) l ∧ Ext w w'

theorem TextsEnd.mk (w : World) (cs : Array Value) {n : Nat} (hn : n = cs.size) (h0 : 0 < n) (hc : n ≤ 100) (hs : cs.toList.all (shortStr 200) = true) : TextsEnd w (.returned (.slice (some ⟨w.heap.size, 0, none⟩) n n)) (w.alloc (.cells cs 9)) := by
  subst hn
  obtain ⟨l, h1, h2, h3⟩ := strs_lit w cs hc hs
  refine ⟨cs.size, l, ?_, by omega, by omega, h2, ?_, Ext.alloc _ _⟩
  · rw [h1]
  · rw [h1]; exact h3
theorem of_t (v : Value) (l : List ByteArray) (c b : Nat) (hv' : v = .slice (some ⟨b, 0, none⟩) l.length c) (h : St D g q w) (hq : q + 1 ≤ 1000000) (hv : SlV StrAt 1 w v l) (hb : g < b) (h0 : 0 < l.length) (hl : l.length ≤ 100) :
    Calls Try.prog 30 #[.pointer (some ⟨g, 0, none⟩), v] w (fun e w' => ∃ x ∈ l, e = .returned (.string x) ∧ St D g (q + 1) w' ∧ Kept g w w') := by
  subst hv'
  obtain ⟨a, c', hsl, -, ho⟩ := hv.open
  obtain ⟨b', off, ha, hb', hc⟩ := ho 0 l[0] (List.getElem?_eq_getElem h0)
  cases hsl
  cases ha
  have HC := Lib.hid hc
  clear hc ho hv
  go_enter Try.func30, Try.ntmps30
  go_wp2_with fail
  refine (pick_t l.length h (by omega) (by omega)).mono ?_
  rintro e w1 ⟨x, rfl, hx, -, hs1, hk1⟩
  have hx' : x < l.length := by have := hx (by omega); omega
  have hx1 : (0 : Int) ≤ (x : Int) := by omega
  have hx2 : (x : Int) < (l.length : Int) := by omega
  have c0 := hk1.cell (p := ⟨b, 0 + x * 1, none⟩) (by simp only []; omega) (HC.out x l[x] (List.getElem?_eq_getElem hx'))
  rw [Nat.mul_one, Nat.zero_add] at c0
  generalize hy : l[x] = y at c0
  have hm : y ∈ l := by rw [← hy]; exact List.getElem_mem _
  clear hy hx
  go_wp2_with fail
  go_ret
  exact ⟨y, hm, rfl, hs1, hk1⟩

end Go.Proofs.Ytccklliljdembaa

namespace Go.Proofs.Ytccklliljdembaa
set_option linter.unusedSimpArgs false
set_option linter.unusedVariables false
open Go.RowKit
set_option maxHeartbeats 1000000
set_option maxRecDepth 100000

variable {D D' : Nat → Prop} {g q q' : Nat} {w w' : World}

end Go.Proofs.Ytccklliljdembaa
