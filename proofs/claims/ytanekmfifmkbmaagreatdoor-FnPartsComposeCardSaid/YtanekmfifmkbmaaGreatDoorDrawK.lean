/- Part of this seat's proofs, cut to what its law needs. -/

import Derived.Test.YtanekmfifmkbmaaGreatDoorDrawA
import Derived.Test.YtanekmfifmkbmaaGreatDoorWalkK
import Derived.Deep.DeepCutAuto
import Derived.Test.YtanekmfifmkbmaaGreatDoorRegion
import Derived.Test.YtanekmfifmkbmaaGreatDoorWalkH
import Derived.Test.YtanekmfifmkbmaaGreatDoorDrawF

namespace Go.Proofs.YtanekmfifmkbmaaGreatDoor
set_option linter.unusedSimpArgs false
set_option linter.unusedVariables false
open Go.RowKit
set_option maxHeartbeats 1000000
set_option maxRecDepth 100000

def Text (B : Nat) (w : World) (e : Ending) (w' : World) : Prop := ∃ s, e = .returned (.string s) ∧ s.size ≤ B ∧ Ext w w'

theorem one_byte (w : World) (b : UInt8) : BytesOwn 5 w.heap.size (w.alloc (.cells #[byteVal b] 5)) (.slice (some ⟨w.heap.size, 0, none⟩) 1 1) [b] :=
  ⟨by simp, .inr ⟨w.heap.size, 1, #[byteVal b], rfl, Nat.le_refl _, heap_alloc_new w _, Nat.le_refl _, by unfold maxLen; omega, by simp, by simp⟩⟩
theorem conv_byte (w : World) (y : Int) (h0 : 0 ≤ y) (h1 : y < 256) : ∃ s : ByteArray, s.size = 1 ∧ (convert 22 9 (.slice (some ⟨w.heap.size, 0, none⟩) 1 1)).run Tryz.prog (w.alloc (.cells #[.int .u8 y] 5)) = .ok (.string s) (w.alloc (.cells #[.int .u8 y] 5)) := by
  have hb := (one_byte w (UInt8.ofNat y.toNat)).string
  have e : byteVal (UInt8.ofNat y.toNat) = .int .u8 y := by
    unfold byteVal
    congr 1
    simp
    omega
  rw [e] at hb
  exact ⟨_, rfl, hb⟩

theorem l1Text_t (x : Int) (w : World) : Calls Tryz.prog 159 #[.int .i64 x] w (Text 1 w) := by
  obtain ⟨s, hz, hs⟩ := conv_byte w (wrap64 (97 + x) % 256) (by omega) (by omega)
  go_enter Tryz.func159, Tryz.ntmps159
  go_wp2_with fail
  go_ret
  exact ⟨_, rfl, by omega, Ext.alloc _ _⟩

theorem FormatAlphabet_t (a : Nat) (w : World) (ha : a ≤ 63) : Calls Tryz.prog 173 #[.int .i64 a] w (Text 6 w) := by
  have hal : isAlpha (a : Int) = true := by unfold isAlpha; simp; omega
  by_cases h0 : a = 0
  · subst h0
    have hal0 : isAlpha 0 = true := by decide
    go_enter Tryz.func173, Tryz.ntmps173
    go_wp2_with (go_at_call 83; refine (l1Alphabet_c _ _).mono ?_; rintro e w' ⟨rfl, rfl⟩)
    go_ret
    exact ⟨_, rfl, by decide, Ext.refl _⟩
  have h0' : ((a : Int) == 0) = false := beq_eq_false_iff_ne.2 (by omega)
  go_enter Tryz.func173, Tryz.ntmps173
  go_wp2_with (go_at_call 83; refine (l1Alphabet_c _ _).mono ?_; rintro e w' ⟨rfl, rfl⟩)
  refine (l1Letters_c a w (by omega) (by omega)).mono ?_
  rintro e w1 ⟨v, rfl, he, hv⟩
  obtain ⟨av, cv, rfl, -, hc⟩ := hv.open
  have HC := Lib.hid hc
  have hlen : (letters (a : Int)).length ≤ 6 := lettersTo_len a 6
  generalize letters (a : Int) = ls at HC hlen ⊢
  clear hc hv
  go_wp2_with fail
  go_loopw [3, 5] (fun t i wr => ∃ (k : Nat) (s : ByteArray), k ≤ ls.length ∧ i = .int .i64 k ∧ t = .string s ∧ s.size ≤ k ∧ Ext w1 wr) (fun _ i _ => ls.length - (intOf i).toNat)
  case atStart => exact ⟨0, _, by omega, rfl, rfl, by decide, Ext.refl _⟩
  case round =>
    obtain ⟨k, s, hk, rfl, rfl, hsz, hx⟩ := hrel
    by_cases hlt : k < ls.length
    · obtain ⟨b, off, rfl, hb, hc⟩ := HC.out k ls[k] (List.getElem?_eq_getElem hlt)
      have c0 := hx.cell (hc k ls[k] (List.getElem?_eq_getElem hlt))
      rw [Nat.mul_one] at c0
      generalize ls[k] = l at c0
      clear hc
      go_wp2_with fail
      refine (l1Text_t l wr).mono ?_
      rintro e w2 ⟨s2, rfl, hs2, he2⟩
      have hb1 : s.size + s2.size ≤ 9223372036854775807 := by omega
      go_wp2_with fail
      exact ⟨⟨k + 1, _, by omega, by go_num, rfl, by rw [ByteArray.size_append]; omega, hx.trans he2⟩, by simp [intOf]; omega⟩
    · obtain rfl : k = ls.length := by omega
      go_wp2_with fail
      go_ret
      exact ⟨_, rfl, by omega, he.trans hx⟩

theorem ParseAlphabet_t (s : ByteArray) (w : World) : Calls Tryz.prog 117 #[.string s] w (fun e w' => ∃ (a : Nat) (b : Bool), a ≤ 63 ∧ e = .returned (.tuple #[.int .i64 a, .bool b]) ∧ Ext w w') := by
  go_enter Tryz.func117, Tryz.ntmps117
  go_wp2_with fail
  go_loopw [4] (fun i wr => ∃ k : Nat, k ≤ 64 ∧ i = .int .i64 k ∧ Ext w wr) (fun i _ => 64 - (intOf i).toNat)
  case atStart => exact ⟨0, by omega, rfl, Ext.refl _⟩
  case round =>
    obtain ⟨k, hk, rfl, hx⟩ := hrel
    by_cases hlt : k < 64
    · go_wp2_with fail
      refine (FormatAlphabet_t k wr (by omega)).mono ?_
      rintro e w2 ⟨s2, rfl, hs2, he2⟩
      by_cases hb : (s2.toList == s.toList) = true
      · go_wp2_with fail
        go_ret2
        exact ⟨k, true, by omega, rfl, hx.trans he2⟩
      · have hb : (s2.toList == s.toList) = false := by cases h : (s2.toList == s.toList); rfl; exact absurd h hb
        go_wp2_with fail
        exact ⟨⟨k + 1, by omega, by go_num, hx.trans he2⟩, by simp [intOf]; omega⟩
    · obtain rfl : k = 64 := by omega
      go_wp2_with fail
      go_ret2
      exact ⟨0, false, by omega, rfl, hx⟩

theorem pow_small {t n : Nat} (h : n * 10 ^ t ≤ 9223372036854775807) (hn : 1 ≤ n) : t ≤ 18 := by
  rcases Nat.lt_or_ge 18 t with h1 | h1
  · have h2 : 10 ^ 19 ≤ 10 ^ t := Nat.pow_le_pow_right (by omega) (by omega)
    have h3 : 1 * 10 ^ t ≤ n * 10 ^ t := Nat.mul_le_mul_right _ hn
    omega
  · exact h1

theorem l19Dec_p (n : Nat) (w : World) (hn : n ≤ 9223372036854775807) : Calls Tryz.prog 175 #[.int .i64 n] w (Text 20 w) := by
  go_enter Tryz.func175, Tryz.ntmps175
  go_wp2_with fail
  go_loopw [0, 3] (fun i s wr => ∃ (k : Nat) (t : ByteArray), i = .int .i64 k ∧ s = .string t ∧ k * 10 ^ t.size ≤ 9223372036854775807 ∧ (1 ≤ k ∨ t.size = 0) ∧ Ext w wr) (fun i _ _ => (intOf i).toNat)
  case atStart => exact ⟨n, _, rfl, rfl, by show n * 10 ^ 0 ≤ _; omega, .inr rfl, Ext.refl _⟩
  case round =>
    obtain ⟨k, t, rfl, rfl, hk, h1, hx⟩ := hrel
    have ht : t.size ≤ 18 := by rcases h1 with h1 | h1; exact pow_small hk h1; omega
    by_cases hlt : 9 < k
    · obtain ⟨s1, hz1, hs1⟩ := conv_byte wr (48 + ((k : Int) % 10)) (by omega) (by omega)
      have hk8 : k ≤ 9223372036854775807 := Nat.le_trans (Nat.le_mul_of_pos_right _ (Nat.pow_pos (by omega))) hk
      have hb1 : s1.size + t.size ≤ 9223372036854775807 := by omega
      go_wp2_with fail
      refine ⟨⟨k / 10, _, rfl, rfl, ?_, .inl (by omega), hx.trans (Ext.alloc _ _)⟩, ?_⟩
      · rw [ByteArray.size_append, hz1, Nat.add_comm 1, Nat.pow_succ, Nat.mul_comm (10 ^ t.size), ← Nat.mul_assoc]
        exact Nat.le_trans (Nat.mul_le_mul_right _ (Nat.div_mul_le_self k 10)) hk
      · simp only [intOf]; omega
    · have hk9 : k ≤ 9 := by omega
      obtain ⟨s1, hz1, hs1⟩ := conv_byte wr (48 + (k : Int)) (by omega) (by omega)
      have hb1 : s1.size + t.size ≤ 9223372036854775807 := by omega
      go_wp2_with fail
      go_ret
      exact ⟨_, rfl, by rw [ByteArray.size_append]; omega, hx.trans (Ext.alloc _ _)⟩

def NumEnd (w : World) (e : Ending) (w' : World) : Prop := ∃ (x : Int) (b : Bool), e = .returned (.tuple #[.int .i64 x, .bool b]) ∧ w = w'
theorem NumEnd.mk {x : Int} {b : Bool} {w : World} : NumEnd w (.returned (.tuple #[.int .i64 x, .bool b])) w := ⟨x, b, rfl, rfl⟩
theorem empty_text {t : ByteArray} (h : t.size = 0) : t = ByteArray.empty := ByteArray.ext (Array.eq_empty_of_size_eq_zero h)
theorem l19Num_t (s : ByteArray) (w : World) (hs : s.size ≤ 1000) : Calls Tryz.prog 118 #[.string s] w (NumEnd w) := by
  go_enter Tryz.func118, Tryz.ntmps118
  go_upto_if 15 with fail
  all_goals go_cut [0, 4] from 5 (fun a b wc => ∃ t bb, a = .string t ∧ t.size ≤ 1000 ∧ b = .bool bb ∧ wc = w)
  all_goals first
    | (go_wp2_with fail; (all_goals (go_meet; case rel => first | exact ⟨_, _, rfl, hs, rfl, rfl⟩ | exact ⟨_, _, rfl, by rw [ByteArray.size_extract]; omega, rfl, rfl⟩)); done)
    | skip
  all_goals
    obtain ⟨t, bb, rfl, ht, rfl, rfl⟩ := hcut
    clear hs
    cases bb
  all_goals rcases Nat.eq_zero_or_pos t.size with h0 | h0
  all_goals first
    | (have h1 := empty_text h0; subst h1; go_wp2_with fail; go_ret2; exact NumEnd.mk)
    | skip
  all_goals go_upto_region 6 with fail
  all_goals first
    | (go_ret2; exact NumEnd.mk)
    | skip
  all_goals go_cut [5] from 6 (fun n wd => n = .int .i64 0 ∧ wd = wc)
  all_goals first
    | (go_wp2_with fail; (all_goals (go_meet; case rel => exact ⟨rfl, rfl⟩)); done)
    | skip
  all_goals
    obtain ⟨rfl, rfl⟩ := hcut
    go_wp2_with fail
  all_goals go_loopw [5, 6] (fun n i wr => ∃ (k : Nat) (x : Int), k ≤ t.size ∧ i = .int .i64 k ∧ n = .int .i64 x ∧ wr = wc) (fun _ i _ => t.size - (intOf i).toNat)
  all_goals first
    | exact ⟨0, 0, by omega, rfl, rfl, rfl⟩
    | skip
  all_goals
    obtain ⟨k, x, hk, rfl, rfl, rfl⟩ := hrel
    go_wp2_with fail
  all_goals first
    | (go_ret2; exact NumEnd.mk)
    | exact ⟨⟨k + 1, _, by omega, by go_num, rfl, trivial⟩, by simp [intOf]; omega⟩
end Go.Proofs.YtanekmfifmkbmaaGreatDoor

namespace Go.Proofs.YtanekmfifmkbmaaGreatDoor
set_option linter.unusedSimpArgs false
set_option linter.unusedVariables false
open Go.RowKit
set_option maxHeartbeats 1000000
set_option maxRecDepth 100000

theorem SystemValid_t {v : Value} {x : Sys} {w : World} {b : Bool} (hb : sysValid x = b) (hv : SysV w v x) : Calls Tryz.prog 38 #[v] w (Grows (.bool b) w) := by
  rw [← hb]; exact SystemValid_s v x w hv

theorem valid_edge {s : Sys} (h : sysValid s = true) {k : Nat} {e : Edge} (hk : s.edges[k]? = some e) : 0 ≤ e.src ∧ e.src ≤ 16 ∧ 0 ≤ e.dst ∧ e.dst ≤ 16 := by
  obtain ⟨hi, rfl⟩ := List.getElem?_eq_some_iff.1 hk
  simp only [sysValid, Bool.and_eq_true, decide_eq_true_eq, List.all_eq_true] at h
  have h4 := h.2 k (List.mem_range.2 hi)
  unfold edgeAt at h4
  rw [List.getElem?_eq_getElem hi] at h4
  simp only [Bool.and_eq_true, edgeOk, decide_eq_true_eq] at h4
  omega

theorem FormatSystem_t (v : Value) (s : Sys) (w : World) (hv : SysV w v s) (hl : s.edges.length ≤ 1000000) : Calls Tryz.prog 120 #[v] w (Text 70000000 w) := by
  obtain ⟨ve, rfl, h1⟩ := hv
  have HV := Lib.hid (show ∀ w', Ext w w' → SysV w' (.agg #[.int .i64 s.alphabet, .int .i64 s.states, ve]) s from fun w' he => ⟨ve, rfl, h1.mono he⟩)
  obtain ⟨ae, ce, rfl, -, hc⟩ := h1.open
  have HC := Lib.hid hc
  clear hc h1
  have he := Ext.alloc w (.cells #[.int .i64 s.alphabet, .int .i64 s.states, .slice ae s.edges.length ce] 25)
  have hB := Blk.new w #[.int .i64 s.alphabet, .int .i64 s.states, .slice ae s.edges.length ce] 25
  go_enter Tryz.func120, Tryz.ntmps120
  go_wp2_with fail
  generalize w.alloc (.cells #[.int .i64 s.alphabet, .int .i64 s.states, .slice ae s.edges.length ce] 25) = w1 at he hB ⊢
  by_cases hval : sysValid s = true
  case neg =>
    have hval' : sysValid s = false := by simpa using hval
    refine (SystemValid_t hval' (HV.out _ he)).mono ?_
    rintro e w2 ⟨rfl, he2⟩
    go_wp2_with fail
    go_ret
    exact ⟨_, rfl, by decide, he.trans he2⟩
  refine (SystemValid_t hval (HV.out _ he)).mono ?_
  rintro e w2 ⟨rfl, he2⟩
  have hB := hB.ext he2
  have he := he.trans he2
  have hal : ∃ al : Nat, s.alphabet = al ∧ al ≤ 63 := by
    have := hval
    simp only [sysValid, Bool.and_eq_true, isAlpha, decide_eq_true_eq] at this
    exact ⟨s.alphabet.toNat, by omega, by omega⟩
  have hst : ∃ st : Nat, s.states = st ∧ st ≤ 16 := by
    have := hval
    simp only [sysValid, Bool.and_eq_true, decide_eq_true_eq] at this
    exact ⟨s.states.toNat, by omega, by omega⟩
  obtain ⟨al, hal1, hal2⟩ := hal
  obtain ⟨st, hst1, hst2⟩ := hst
  have HE := Lib.hid (fun k e hk => valid_edge hval (k := k) (e := e) hk)
  clear hval he2
  rw [hal1, hst1] at hB ⊢
  clear HV hal1 hst1
  generalize s.edges = es at HC HE hl hB ⊢
  go_wp2_with fail
  have D0 := fun d os => cell_regrown (hB.cell 0 rfl) d os
  have D1 := fun d os => cell_regrown (hB.cell 1 rfl) d os
  obtain ⟨Kc, HKc⟩ : ∃ Kc : FuncId → Array Value → World → Value → World → Prop, Hid (Kc = fun _ _ w0 v w' => Ext w0 w' ∧ ∃ t : ByteArray, v = .string t ∧ t.size ≤ 20) := ⟨_, rfl⟩
  refine wp_region_ext (Kc := Kc) 8 (by kernel_rfl) (by kernel_rfl) ?_
  simp only [List.take_succ_cons, List.take_zero]
  repeat (refine WalkE.pure rfl (fun K hK => ?_); simp only [PureDo]; go_simp; refine hK _ ?_; clear hK K)
  refine WalkE.step (fun K hK wc hwc hdc => ?_)
  simp only [OpDo, OpSafe, OpOut]
  go_simp
  refine ⟨(FormatAlphabet_t al _ hal2).mono ?_, ?_⟩
  · rintro e w' ⟨t, rfl, ht, he⟩
    exact ⟨_, rfl, by rw [HKc.out]; exact ⟨he, _, rfl, by omega⟩⟩
  intro u4 w4 hk4
  rw [HKc.out] at hk4
  obtain ⟨hk4, t4, rfl, ht4⟩ := hk4
  refine ⟨hk4, hK _ _ ?_⟩
  clear hK K hdc hk4
  have hz1 : ¬ (9223372036854775807 < t4.size + 1) := by omega
  repeat (refine WalkE.pure rfl (fun K hK => ?_); simp only [PureDo]; go_simp; refine hK _ ?_; clear hK K)
  refine WalkE.step (fun K hK wd hwd hdd => ?_)
  simp only [OpDo, OpSafe, OpOut]
  go_simp
  refine ⟨(l19Dec_p st _ (by omega)).mono ?_, ?_⟩
  · rintro e w' ⟨t, rfl, ht, he⟩
    exact ⟨_, rfl, by rw [HKc.out]; exact ⟨he, _, rfl, by omega⟩⟩
  intro u5 w5 hk5
  rw [HKc.out] at hk5
  obtain ⟨hk5, t5, rfl, ht5⟩ := hk5
  refine ⟨hk5, hK _ _ ?_⟩
  clear hK K hdd hk5
  have hz2 : ¬ (9223372036854775807 < t4.size + 1 + t5.size) := by omega
  repeat (refine WalkE.pure rfl (fun K hK => ?_); simp only [PureDo]; go_simp; refine hK _ ?_; clear hK K)
  refine WalkE.nil (fun wn hwn hmn => ?_)
  simp only [List.drop_succ_cons, List.drop_zero, List.drop_nil]
  have hx := (Ext.drew _).trans hwn
  have hB := hB.ext hx
  have he := he.trans hx
  clear hmn HKc D0 D1 hwn hwc hwd hx
  have hsz : (t4 ++ { data := #[32] } ++ t5 : ByteArray).size ≤ 41 := by
    rw [ByteArray.size_append, ByteArray.size_append]
    have : ({ data := #[32] } : ByteArray).size = 1 := rfl
    omega
  generalize (t4 ++ { data := #[32] } ++ t5 : ByteArray) = t0 at hsz ⊢
  clear hz1 hz2 ht4 ht5
  go_wp2_with fail
  go_loopw [3, 4] (fun t i wr => ∃ (k : Nat) (u : ByteArray), k ≤ es.length ∧ i = .int .i64 k ∧ t = .string u ∧ u.size ≤ 41 + k * 65 ∧ Blk wr w.heap.size #[.int .i64 al, .int .i64 st, .slice ae es.length ce] 25 ∧ Ext w wr) (fun _ i _ => es.length - (intOf i).toNat)
  case atStart => exact ⟨0, t0, by omega, rfl, rfl, by omega, hB, he⟩
  case round =>
    clear hB he
    obtain ⟨k, u, hk, rfl, rfl, hu, hB, he⟩ := hrel
    have gc2 := hB.cell 2 rfl
    by_cases hlt : k < es.length
    · obtain ⟨b, off, rfl, hb, hc⟩ := HC.out k es[k] (List.getElem?_eq_getElem hlt)
      obtain ⟨c0, c1, c2⟩ := (hc k es[k] (List.getElem?_eq_getElem hlt)).mono he
      obtain ⟨v1, v2, v3, v4⟩ := HE.out k es[k] (List.getElem?_eq_getElem hlt)
      obtain ⟨src, hsrc, hs16⟩ : ∃ n : Nat, es[k].src = n ∧ n ≤ 16 := ⟨es[k].src.toNat, by omega, by omega⟩
      obtain ⟨dst, hdst, hd16⟩ : ∃ n : Nat, es[k].dst = n ∧ n ≤ 16 := ⟨es[k].dst.toNat, by omega, by omega⟩
      rw [hsrc] at c0
      rw [hdst] at c2
      generalize es[k].letter = l at c1
      have hk1 : (0 : Int) ≤ (k : Int) := by omega
      have hk2 : (k : Int) < (es.length : Int) := by omega
      clear hc v1 v2 v3 v4 hsrc hdst
      go_wp2_with fail
      have hx1 := Ext.alloc wr (.cells #[.int .i64 src, .int .i64 l, .int .i64 dst] 87)
      have hG := Blk.new wr #[.int .i64 src, .int .i64 l, .int .i64 dst] 87
      have hB2 := hB.ext hx1
      generalize wr.alloc (.cells #[.int .i64 src, .int .i64 l, .int .i64 dst] 87) = w3 at hx1 hG hB2 ⊢
      generalize wr.heap.size = G at hG ⊢
      clear c0 c1 c2 gc2 hB
      have D0 := fun d os => cell_regrown (hG.cell 0 rfl) d os
      have D1 := fun d os => cell_regrown (hG.cell 1 rfl) d os
      have D2 := fun d os => cell_regrown (hG.cell 2 rfl) d os
      have hz0 : ¬ (9223372036854775807 < u.size + 1) := by omega
      obtain ⟨Kc, HKc⟩ : ∃ Kc : FuncId → Array Value → World → Value → World → Prop, Hid (Kc = fun _ _ w0 v w' => Ext w0 w' ∧ ∃ t : ByteArray, v = .string t ∧ t.size ≤ 20) := ⟨_, rfl⟩
      refine wp_region_ext (Kc := Kc) 14 (by kernel_rfl) (by kernel_rfl) ?_
      simp only [List.take_succ_cons, List.take_zero]
      repeat (refine WalkE.pure rfl (fun K hK => ?_); simp only [PureDo]; go_simp; refine hK _ ?_; clear hK K)
      refine WalkE.step (fun K hK we1 hwe1 hde1 => ?_)
      simp only [OpDo, OpSafe, OpOut]
      go_simp
      refine ⟨(l19Dec_p src _ (by omega)).mono ?_, ?_⟩
      · rintro e w' ⟨t, rfl, ht, he⟩
        exact ⟨_, rfl, by rw [HKc.out]; exact ⟨he, _, rfl, by omega⟩⟩
      intro u1 w41 hk1
      rw [HKc.out] at hk1
      obtain ⟨hk1, t1, rfl, ht1⟩ := hk1
      refine ⟨hk1, hK _ _ ?_⟩
      clear hK K hde1 hk1
      have hz1 : ¬ (9223372036854775807 < u.size + 1 + t1.size) := by omega
      repeat (refine WalkE.pure rfl (fun K hK => ?_); simp only [PureDo]; go_simp; refine hK _ ?_; clear hK K)
      refine WalkE.step (fun K hK we2 hwe2 hde2 => ?_)
      simp only [OpDo, OpSafe, OpOut]
      go_simp
      refine ⟨(l1Text_t l _).mono ?_, ?_⟩
      · rintro e w' ⟨t, rfl, ht, he⟩
        exact ⟨_, rfl, by rw [HKc.out]; exact ⟨he, _, rfl, by omega⟩⟩
      intro u2 w42 hk2
      rw [HKc.out] at hk2
      obtain ⟨hk2, t2, rfl, ht2⟩ := hk2
      refine ⟨hk2, hK _ _ ?_⟩
      clear hK K hde2 hk2
      have hz2 : ¬ (9223372036854775807 < u.size + 1 + t1.size + t2.size) := by omega
      repeat (refine WalkE.pure rfl (fun K hK => ?_); simp only [PureDo]; go_simp; refine hK _ ?_; clear hK K)
      refine WalkE.step (fun K hK we3 hwe3 hde3 => ?_)
      simp only [OpDo, OpSafe, OpOut]
      go_simp
      refine ⟨(l19Dec_p dst _ (by omega)).mono ?_, ?_⟩
      · rintro e w' ⟨t, rfl, ht, he⟩
        exact ⟨_, rfl, by rw [HKc.out]; exact ⟨he, _, rfl, by omega⟩⟩
      intro u3 w43 hk3
      rw [HKc.out] at hk3
      obtain ⟨hk3, t3, rfl, ht3⟩ := hk3
      refine ⟨hk3, hK _ _ ?_⟩
      clear hK K hde3 hk3
      have hz3 : ¬ (9223372036854775807 < u.size + 1 + t1.size + t2.size + t3.size) := by omega
      repeat (refine WalkE.pure rfl (fun K hK => ?_); simp only [PureDo]; go_simp; refine hK _ ?_; clear hK K)
      refine WalkE.nil (fun wn5 hwn5 hmn5 => ?_)
      simp only [List.drop_succ_cons, List.drop_zero, List.drop_nil]
      have hx5 := hx1.trans ((Ext.drew _).trans hwn5)
      clear hmn5 HKc D0 D1 D2
      go_wp2_with fail
      refine ⟨⟨k + 1, _, by omega, by go_num, rfl, ?_, hB2.ext ((Ext.drew _).trans hwn5), he.trans hx5⟩, by simp [intOf]; omega⟩
      simp only [ByteArray.size_append]
      have : ({ data := #[32] } : ByteArray).size = 1 := rfl
      omega
    · obtain rfl : k = es.length := by omega
      go_wp2_with fail
      go_ret
      exact ⟨_, rfl, by omega, he⟩
end Go.Proofs.YtanekmfifmkbmaaGreatDoor

namespace Go.Proofs.YtanekmfifmkbmaaGreatDoor
set_option linter.unusedSimpArgs false
set_option linter.unusedVariables false
open Go.RowKit
set_option maxHeartbeats 1000000
set_option maxRecDepth 100000

def EdgeEnd (w : World) (e : Ending) (w' : World) : Prop := ∃ (x y z : Int) (b : Bool), e = .returned (.tuple #[.agg #[.int .i64 x, .int .i64 y, .int .i64 z], .bool b]) ∧ Ext w w'

theorem l2Parse_t (s : ByteArray) (w : World) (hs : s.size ≤ 1000) : Calls Tryz.prog 119 #[.string s] w (EdgeEnd w) := by
  have hB := Blk.new w #[.int .i64 0, .int .i64 0, .int .i64 0] 87
  have he := Ext.alloc w (.cells #[.int .i64 0, .int .i64 0, .int .i64 0] 87)
  go_enter Tryz.func119, Tryz.ntmps119
  go_wp2_with fail
  generalize w.alloc (.cells #[.int .i64 0, .int .i64 0, .int .i64 0] 87) = w1 at hB he ⊢
  have rc0 := hB.cell 0 rfl; have rf0 := hB.fr 0; have rc1 := hB.cell 1 rfl; have rf1 := hB.fr 1; have rc2 := hB.cell 2 rfl; have rf2 := hB.fr 2
  go_loopw [4, 20, 21, 22, 23, 48] (fun i _ _ _ _ _ wr => ∃ k : Nat, k ≤ s.size ∧ i = .int .i64 k ∧ wr = w1) (fun i _ _ _ _ _ _ => s.size - (intOf i).toNat)
  case atStart => exact ⟨0, by omega, rfl, rfl⟩
  case round =>
    obtain ⟨k, hk, rfl, rfl⟩ := hrel
    by_cases hlt : k < s.size
    · by_cases h1 : (97 : Int) ≤ (s[k].toNat : Int)
      · by_cases h2 : (s[k].toNat : Int) ≤ 102
        · go_wp2_with fail
          refine (l19Num_t (s.extract 0 k) wr (by rw [ByteArray.size_extract]; omega)).mono ?_
          rintro e w2 ⟨x, b1, rfl, rfl⟩
          go_wp2_with fail
          refine (l19Num_t (s.extract (k + 1) s.size) wr (by rw [ByteArray.size_extract]; omega)).mono ?_
          rintro e w2 ⟨z, b2, rfl, rfl⟩
          go_wp2_with fail
          refine (l1At_c s k wr hlt (by omega)).mono ?_
          rintro e w2 ⟨rfl, rfl⟩
          generalize chAt s k = y
          cases b1 <;> cases b2
          · go_wp2_with fail
            refine bodyPost_ret (v := .tuple #[.agg #[.int .i64 x, .int .i64 y, .int .i64 z], .bool false]) (by simp [results, Tryz.results119, go_sem, rc0, rc1, rc2, rf0, rf1, rf2]) rfl ?_
            exact ⟨_, _, _, _, rfl, ((he.setCell (p := ⟨w.heap.size, 0, none⟩) (by simp) _).setCell (p := ⟨w.heap.size, 1, none⟩) (by simp) _).setCell (p := ⟨w.heap.size, 2, none⟩) (by simp) _⟩
          · go_wp2_with fail
            refine bodyPost_ret (v := .tuple #[.agg #[.int .i64 x, .int .i64 y, .int .i64 z], .bool false]) (by simp [results, Tryz.results119, go_sem, rc0, rc1, rc2, rf0, rf1, rf2]) rfl ?_
            exact ⟨_, _, _, _, rfl, ((he.setCell (p := ⟨w.heap.size, 0, none⟩) (by simp) _).setCell (p := ⟨w.heap.size, 1, none⟩) (by simp) _).setCell (p := ⟨w.heap.size, 2, none⟩) (by simp) _⟩
          · go_wp2_with fail
            refine bodyPost_ret (v := .tuple #[.agg #[.int .i64 x, .int .i64 y, .int .i64 z], .bool false]) (by simp [results, Tryz.results119, go_sem, rc0, rc1, rc2, rf0, rf1, rf2]) rfl ?_
            exact ⟨_, _, _, _, rfl, ((he.setCell (p := ⟨w.heap.size, 0, none⟩) (by simp) _).setCell (p := ⟨w.heap.size, 1, none⟩) (by simp) _).setCell (p := ⟨w.heap.size, 2, none⟩) (by simp) _⟩
          · go_wp2_with fail
            refine bodyPost_ret (v := .tuple #[.agg #[.int .i64 x, .int .i64 y, .int .i64 z], .bool true]) (by simp [results, Tryz.results119, go_sem, rc0, rc1, rc2, rf0, rf1, rf2]) rfl ?_
            exact ⟨_, _, _, _, rfl, ((he.setCell (p := ⟨w.heap.size, 0, none⟩) (by simp) _).setCell (p := ⟨w.heap.size, 1, none⟩) (by simp) _).setCell (p := ⟨w.heap.size, 2, none⟩) (by simp) _⟩
        · go_wp2_with fail
          exact ⟨⟨k + 1, by omega, by go_num, trivial⟩, by simp [intOf]; omega⟩
      · go_wp2_with fail
        exact ⟨⟨k + 1, by omega, by go_num, trivial⟩, by simp [intOf]; omega⟩
    · obtain rfl : k = s.size := by omega
      go_wp2_with fail
      refine bodyPost_ret (v := .tuple #[.agg #[.int .i64 0, .int .i64 0, .int .i64 0], .bool false]) (by simp [results, Tryz.results119, go_sem, rc0, rc1, rc2, rf0, rf1, rf2]) rfl ?_
      exact ⟨_, _, _, _, rfl, ((he.setCell (p := ⟨w.heap.size, 0, none⟩) (by simp) _).setCell (p := ⟨w.heap.size, 1, none⟩) (by simp) _).setCell (p := ⟨w.heap.size, 2, none⟩) (by simp) _⟩

theorem infoStr : (Tryz.prog.info? 9).map (fun i => (i.zero, i.size, i.bytes)) = some (some (.string ByteArray.empty), 1, 16) := by kernel_rfl
section
variable {D D' : Nat → Prop} {g q q' : Nat} {w w' : World}
theorem zk_str : ∀ (D : Nat → Prop) q w, Kin D q w 9 (Value.string ByteArray.empty).cells.toList := fun D q w i u hu => by
  match i, hu with
  | 0, hu => exact ⟨.str, rfl, ByteArray.empty, by simpa [Value.cells] using hu.symm, by decide⟩
  | i + 1, hu => simp [Value.cells] at hu
theorem kin_str (x : ByteArray) (hx : x.size ≤ 1000) : Kin D q w 9 [.string x] := fun i u hu => by
  match i, hu with
  | 0, hu => exact ⟨.str, rfl, x, by simpa using hu.symm, hx⟩
  | i + 1, hu => simp at hu
theorem SlOk.str_at {n i : Nat} {v : Value} (hs : SlOk D w 9 1 v n) (hT : Typed D q w) (hi : i < n) : ∃ b cap x, v = .slice (some ⟨b, 0, none⟩) n cap ∧ D b ∧ w.cell? ⟨b, i, none⟩ = some (.string x) ∧ x.size ≤ 1000 := by
  obtain ⟨b, cap, cs, u, k, rfl, hb, hh, h1, -, h2, h3⟩ := hs.at hT hi (j := 0) (by omega)
  have h2' : CK.str = k := Option.some.inj h2
  subst h2'
  obtain ⟨x, rfl, hx⟩ := h3
  exact ⟨b, cap, x, rfl, hb, by simpa using h1, hx⟩

theorem l19Cut_t (s : ByteArray) (c : Int) (hs : s.size ≤ 200) (h : St D g q w) (hq : q + 201 ≤ 1000000) :
    Calls Tryz.prog 116 #[.string s, .int .u8 c] w (Drawn D g q 201 w fun D' _ w' v => ∃ n, 1 ≤ n ∧ n ≤ 201 ∧ SlOk D' w' 9 1 v n) := by
  obtain ⟨i3, s3, t3, l3⟩ := SlOk.lit h 9 1
  go_enter Tryz.func116, Tryz.ntmps116
  go_wp2_with fail
  go_loopw [5, 6, 7, 20, 21, 22, 23, 24] (fun v f i _ _ _ _ _ wr => ∃ (k fr n : Nat) (D' : Nat → Prop), k ≤ s.size + 1 ∧ i = .int .i64 k ∧ f = .int .i64 fr ∧ fr ≤ k ∧ SlOk D' wr 9 1 v n ∧ n ≤ k ∧ (k = s.size + 1 → 1 ≤ n) ∧ Inc D D' w ∧ St D' g (q + k) wr ∧ Tr D g w wr) (fun _ _ i _ _ _ _ _ _ => s.size + 1 - (intOf i).toNat)
  case atStart => exact ⟨0, 0, 0, _, by omega, rfl, rfl, by omega, l3, by omega, fun h => by omega, i3, s3, t3⟩
  case round =>
    clear i3 s3 t3 l3
    obtain ⟨k, fr, n, D1, hk, rfl, rfl, hf, hv, hn, hn1, hi, hst, htr⟩ := hrel
    obtain ⟨av, cv, rfl⟩ := hv.shape
    by_cases hle : k ≤ s.size
    · have hpc : (s.extract fr k).size ≤ 1000 := by rw [ByteArray.size_extract]; omega
      by_cases he : k = s.size
      · subst he
        go_wp2_with (at_builtin; refine app1_t (q + (s.size + 1)) rfl rfl Tryz.underlying51 infoStr rfl (by decide) per_str zk_str hst hv rfl rfl rfl (by simp [Value.oneCell']) (kin_str _ hpc) (by omega) (by decide) (by omega) ?_; intro v1 w1 D2 hi1 hst1 htr1 hs1)
        exact ⟨⟨s.size + 1, s.size + 1, n + 1, D2, by omega, by go_num, by go_num, by omega, hs1, by omega, fun _ => Nat.le_add_left 1 n, hi.trans htr.size hi1, hst1, htr.trans hi htr1⟩, by simp [intOf]⟩
      · have hlt : k < s.size := by omega
        have he' : ((k : Int) == (s.size : Int)) = false := beq_eq_false_iff_ne.2 (by omega)
        cases hb : ((s[k].toNat : Int) == c)
        · go_wp2_with fail
          exact ⟨⟨k + 1, fr, n, D1, by omega, by go_num, by go_num, by omega, hv, by omega, fun h => by omega, hi, hst.up (by omega), htr⟩, by simp [intOf]; omega⟩
        · go_wp2_with (at_builtin; refine app1_t (q + (k + 1)) rfl rfl Tryz.underlying51 infoStr rfl (by decide) per_str zk_str hst hv rfl rfl rfl (by simp [Value.oneCell']) (kin_str _ hpc) (by omega) (by decide) (by omega) ?_; intro v1 w1 D2 hi1 hst1 htr1 hs1)
          exact ⟨⟨k + 1, k + 1, n + 1, D2, by omega, by go_num, by go_num, by omega, hs1, by omega, fun _ => by omega, hi.trans htr.size hi1, hst1, htr.trans hi htr1⟩, by simp [intOf]; omega⟩
    · obtain rfl : k = s.size + 1 := by omega
      go_wp2_with fail
      go_ret
      exact ⟨_, D1, rfl, hi, hst.up (by omega), htr, n, hn1 trivial, by omega, hv⟩
end
end Go.Proofs.YtanekmfifmkbmaaGreatDoor

namespace Go.Proofs.YtanekmfifmkbmaaGreatDoor
set_option linter.unusedSimpArgs false
set_option linter.unusedVariables false
open Go.RowKit
set_option maxHeartbeats 1000000
set_option maxRecDepth 100000

variable {D D' : Nat → Prop} {g q q' : Nat} {w w' : World}

def StrAt (w : World) (b o : Nat) (x : ByteArray) : Prop := w.cell? ⟨b, o, none⟩ = some (.string x)
def shortStr (B : Nat) : Value → Bool
  | .string s => decide (s.size ≤ B)
  | _ => false
def strOf : Value → ByteArray
  | .string s => s
  | _ => ByteArray.empty
theorem strs_lit (w : World) (cs : Array Value) (hc : cs.size ≤ 100) (hs : cs.toList.all (shortStr 200) = true) :
    ∃ l : List ByteArray, l.length = cs.size ∧ (∀ x ∈ l, x.size ≤ 200) ∧ SlV StrAt 1 (w.alloc (.cells cs 9)) (.slice (some ⟨w.heap.size, 0, none⟩) cs.size cs.size) l := by
  refine ⟨cs.toList.map strOf, by simp, fun x hx => ?_, _, cs.size, by simp, by simp, by unfold maxLen; omega, fun _ => ⟨w.heap.size, 0, rfl, by simp, fun i x hx => ?_⟩⟩
  · obtain ⟨v, hv, rfl⟩ := List.mem_map.1 hx
    have := List.all_eq_true.1 hs v hv
    cases v <;> simp [shortStr] at this
    exact this
  · rw [List.getElem?_map, Option.map_eq_some_iff] at hx
    obtain ⟨v, hv, rfl⟩ := hx
    have := List.all_eq_true.1 hs v (List.mem_of_getElem? hv)
    unfold StrAt
    refine new_cell w _ _ _ _ ?_
    rw [Nat.zero_add, Nat.mul_one, ← Array.getElem?_toList, hv]
    cases v <;> simp [shortStr] at this
    rfl

def TextsEnd (w : World) (e : Ending) (w' : World) : Prop := ∃ (c : Nat) (l : List ByteArray), e = .returned (.slice (some ⟨w.heap.size, 0, none⟩) l.length c) ∧ 0 < l.length ∧ l.length ≤ 100 ∧ (∀ x ∈ l, x.size ≤ 200) ∧ SlV StrAt 1 w' (.slice (some ⟨w.heap.size, 0, none⟩) l.length c) l ∧ Ext w w'

theorem TextsEnd.mk (w : World) (cs : Array Value) {n : Nat} (hn : n = cs.size) (h0 : 0 < n) (hc : n ≤ 100) (hs : cs.toList.all (shortStr 200) = true) : TextsEnd w (.returned (.slice (some ⟨w.heap.size, 0, none⟩) n n)) (w.alloc (.cells cs 9)) := by
  subst hn
  obtain ⟨l, h1, h2, h3⟩ := strs_lit w cs hc hs
  refine ⟨cs.size, l, ?_, by omega, by omega, h2, ?_, Ext.alloc _ _⟩
  · rw [h1]
  · rw [h1]; exact h3
theorem l2Texts_t (w : World) : Calls Tryz.prog 66 #[] w (TextsEnd w) := by
  go_enter Tryz.func66, Tryz.ntmps66
  go_wp2_with fail
  go_ret
  refine TextsEnd.mk w _ rfl ?_ ?_ ?_
  all_goals decide

theorem of_t (v : Value) (l : List ByteArray) (c b : Nat) (hv' : v = .slice (some ⟨b, 0, none⟩) l.length c) (h : St D g q w) (hq : q + 1 ≤ 1000000) (hv : SlV StrAt 1 w v l) (hb : g < b) (h0 : 0 < l.length) (hl : l.length ≤ 100) :
    Calls Tryz.prog 65 #[.pointer (some ⟨g, 0, none⟩), v] w (fun e w' => ∃ x ∈ l, e = .returned (.string x) ∧ St D g (q + 1) w' ∧ Kept g w w') := by
  subst hv'
  obtain ⟨a, c', hsl, -, ho⟩ := hv.open
  obtain ⟨b', off, ha, hb', hc⟩ := ho 0 l[0] (List.getElem?_eq_getElem h0)
  cases hsl
  cases ha
  have HC := Lib.hid hc
  clear hc ho hv
  go_enter Tryz.func65, Tryz.ntmps65
  go_wp2_with fail
  refine (pick_t l.length h (by omega) (by omega)).mono ?_
  rintro e w1 ⟨x, rfl, hx, -, hs1, hk1⟩
  have hx' : x < l.length := by have := hx (by omega); omega
  have hx1 : (0 : Int) ≤ (x : Int) := by omega
  have hx2 : (x : Int) < (l.length : Int) := by omega
  have c0 := hk1.cell (p := ⟨b, 0 + x * 1, none⟩) (by simp only []; omega) (HC.out x l[x] (List.getElem?_eq_getElem hx'))
  rw [Nat.mul_one, Nat.zero_add] at c0
  generalize hy : l[x] = y at c0
  have hm : y ∈ l := by rw [← hy]; exact List.getElem_mem _
  clear hy hx
  go_wp2_with fail
  go_ret
  exact ⟨y, hm, rfl, hs1, hk1⟩

theorem ParseSystem_t (s : ByteArray) (hs : s.size ≤ 200) (h : St D g q w) (hq : q + 500 ≤ 1000000) :
    Calls Tryz.prog 64 #[.string s] w (Drawn D g q 500 w fun D' q' w' v => ∃ u b, v = .tuple #[u, .bool b] ∧ SysT D' q' w' u) := by
  have hg := h.g_lt
  have hd := fun x hx => (h.dom x hx).2
  have B0 := Box.new h #[.int .i64 0, .int .i64 0, .slice none 0 0] 25
  go_enter Tryz.func64, Tryz.ntmps64
  go_wp2_with fail
  generalize w.alloc (.cells #[.int .i64 0, .int .i64 0, .slice none 0 0] 25) = w1 at B0 ⊢
  refine (l19Cut_t s 32 hs B0.st (by omega)).mono ?_
  rintro e w2 ⟨v2, D2, rfl, hi2, hs2, ht2, n, hn1, hn2, hp⟩
  have B0 := B0.drawn hg hi2 ht2 (c' := 201) (hs2.up (by omega))
  clear hs2 ht2 hi2
  obtain ⟨ap, cp, rfl⟩ := hp.shape
  by_cases hn : n < 2
  · have rc0 := B0.blk.cell 0 rfl; have rf0 := B0.blk.fr 0; have rc1 := B0.blk.cell 1 rfl; have rf1 := B0.blk.fr 1; have rc2 := B0.blk.cell 2 rfl; have rf2 := B0.blk.fr 2
    go_wp2_with fail
    clear rc0 rc1 rc2 rf0 rf1 rf2
    have zc0 := B0.blk.cell 0 rfl; have zf0 := B0.blk.fr 0; have zc1 := B0.blk.cell 1 rfl; have zf1 := B0.blk.fr 1; have zc2 := B0.blk.cell 2 rfl; have zf2 := B0.blk.fr 2
    refine bodyPost_ret (v := .tuple #[.agg #[.int .i64 0, .int .i64 0, .slice none 0 0], .bool false]) (by simp [results, Tryz.results64, go_sem, zc0, zc1, zc2, zf0, zf1, zf2]) rfl ?_
    have BZ := ((B0.set hg hd (Nat.le_refl _) 0 (.int .i64 0)).set hg hd (Nat.le_refl _) 1 (.int .i64 0)).set hg hd (Nat.le_refl _) 2 (.slice none 0 0)
    exact ⟨_, _, rfl, BZ.inc, BZ.st.up (by omega), BZ.tr, _, _, rfl, _, _, _, 0, rfl, by omega, SlOk.nil⟩
  obtain ⟨b, cap, p0, hv, hb, hc0, hp0⟩ := hp.str_at B0.st.typ (i := 0) (by omega)
  cases hv
  obtain ⟨b1, cap1, p1, hv1, hb1, hc1, hp1⟩ := hp.str_at B0.st.typ (i := 1) (by omega)
  cases hv1
  have hi0 : (0 : Int) < (n : Int) := by omega
  have hi1 : (1 : Int) < (n : Int) := by omega
  go_wp2_with fail
  refine (ParseAlphabet_t p0 w2).mono ?_
  rintro e w3 ⟨al, b0, hal, rfl, he3⟩
  have hc1 := he3.cell hc1
  have hp := hp.tr' (Inc.refl _ _) (Tr.ext B0.st he3)
  have B0 := B0.ext he3
  clear hc0 he3
  go_wp2_with fail
  refine (l19Num_t p1 w3 hp1).mono ?_
  rintro e w4 ⟨st, b2, rfl, rfl⟩
  clear hc1 hi1
  cases b0
  case false =>
    have rc0 := B0.blk.cell 0 rfl; have rf0 := B0.blk.fr 0; have rc1 := B0.blk.cell 1 rfl; have rf1 := B0.blk.fr 1; have rc2 := B0.blk.cell 2 rfl; have rf2 := B0.blk.fr 2
    go_wp2_with fail
    clear rc0 rc1 rc2 rf0 rf1 rf2
    have zc0 := B0.blk.cell 0 rfl; have zf0 := B0.blk.fr 0; have zc1 := B0.blk.cell 1 rfl; have zf1 := B0.blk.fr 1; have zc2 := B0.blk.cell 2 rfl; have zf2 := B0.blk.fr 2
    refine bodyPost_ret (v := .tuple #[.agg #[.int .i64 0, .int .i64 0, .slice none 0 0], .bool false]) (by simp [results, Tryz.results64, go_sem, zc0, zc1, zc2, zf0, zf1, zf2]) rfl ?_
    have BZ := ((B0.set hg hd (Nat.le_refl _) 0 (.int .i64 0)).set hg hd (Nat.le_refl _) 1 (.int .i64 0)).set hg hd (Nat.le_refl _) 2 (.slice none 0 0)
    exact ⟨_, _, rfl, BZ.inc, BZ.st.up (by omega), BZ.tr, _, _, rfl, _, _, _, 0, rfl, by omega, SlOk.nil⟩
  cases b2
  case false =>
    have rc0 := B0.blk.cell 0 rfl; have rf0 := B0.blk.fr 0; have rc1 := B0.blk.cell 1 rfl; have rf1 := B0.blk.fr 1; have rc2 := B0.blk.cell 2 rfl; have rf2 := B0.blk.fr 2
    go_wp2_with fail
    clear rc0 rc1 rc2 rf0 rf1 rf2
    have zc0 := B0.blk.cell 0 rfl; have zf0 := B0.blk.fr 0; have zc1 := B0.blk.cell 1 rfl; have zf1 := B0.blk.fr 1; have zc2 := B0.blk.cell 2 rfl; have zf2 := B0.blk.fr 2
    refine bodyPost_ret (v := .tuple #[.agg #[.int .i64 0, .int .i64 0, .slice none 0 0], .bool false]) (by simp [results, Tryz.results64, go_sem, zc0, zc1, zc2, zf0, zf1, zf2]) rfl ?_
    have BZ := ((B0.set hg hd (Nat.le_refl _) 0 (.int .i64 0)).set hg hd (Nat.le_refl _) 1 (.int .i64 0)).set hg hd (Nat.le_refl _) 2 (.slice none 0 0)
    exact ⟨_, _, rfl, BZ.inc, BZ.st.up (by omega), BZ.tr, _, _, rfl, _, _, _, 0, rfl, by omega, SlOk.nil⟩
  go_wp2_with fail
  have he := Ext.alloc w3 (.cells #[.int .i64 al, .int .i64 st, .slice none 0 0] 25)
  have BG : Box D g q w w3.heap.size 201 #[.int .i64 al, .int .i64 st, .slice none 0 0] 25 _ D2 := ⟨B0.inc, (B0.ext he).st, (B0.ext he).tr, Blk.new _ _ _, B0.st.out (Nat.le_refl _)⟩
  have hp := hp.tr' (Inc.refl _ _) (Tr.ext B0.st he)
  have hGs : w.heap.size < w3.heap.size := B0.blk.lt
  have BR := B0.ext he
  clear he B0
  generalize w3.alloc (.cells #[.int .i64 al, .int .i64 st, .slice none 0 0] 25) = w4 at BG BR hp ⊢
  generalize w3.heap.size = G at BG hGs ⊢
  have hne1 : w.heap.size ≠ G := by omega
  have hne2 : G ≠ w.heap.size := by omega
  go_loopw [10] (fun i wr => ∃ (k : Nat) (D' : Nat → Prop) (vE : Value), 2 + k ≤ n ∧ i = .int .i64 ((2 + k : Nat) : Int) ∧ Box D g q w w.heap.size (201 + k) #[.int .i64 0, .int .i64 0, .slice none 0 0] 25 wr D' ∧ Box D g q w G (201 + k) #[.int .i64 al, .int .i64 st, vE] 25 wr D' ∧ SlOk D' wr 9 1 (.slice (some ⟨b, 0, none⟩) n cp) n ∧ SlOk D' wr 87 3 vE k) (fun i _ => n - (intOf i).toNat)
  case atStart => exact ⟨0, D2, _, by omega, rfl, BR, BG, hp, SlOk.nil⟩
  case round =>
    clear BR BG hp
    obtain ⟨k, D3, vE, hk, rfl, BR, BG, hp, hE⟩ := hrel
    obtain ⟨aE, cE, rfl⟩ := hE.shape
    by_cases hlt : 2 + k < n
    · obtain ⟨b5, cap5, p5, hv5, hb5, hc5, hp5⟩ := hp.str_at BG.st.typ hlt
      cases hv5
      have hk1 : (0 : Int) ≤ 2 + (k : Int) := by omega
      have hk2 : 2 + (k : Int) < (n : Int) := by omega
      go_wp2_with fail
      refine (l2Parse_t p5 wr hp5).mono ?_
      rintro e w5 ⟨x, y, z, b6, rfl, he5⟩
      have hx5 := Ext.alloc w5 (.cells #[.int .i64 x, .int .i64 y, .int .i64 z] 87)
      have hx := he5.trans hx5
      have hp := hp.tr' (Inc.refl _ _) (Tr.ext BG.st hx)
      have hE := hE.tr' (Inc.refl _ _) (Tr.ext BG.st hx)
      have BR5 := BR.ext he5
      have BG5 := BG.ext he5
      have BR := BR.ext hx
      have BG := BG.ext hx
      cases b6
      case false =>
        have rc0 := fun o => (Ext.alloc w5 o).cell (BR5.blk.cell 0 rfl)
        have rc1 := fun o => (Ext.alloc w5 o).cell (BR5.blk.cell 1 rfl)
        have rc2 := fun o => (Ext.alloc w5 o).cell (BR5.blk.cell 2 rfl)
        have rf0 := fun cs t => (BR5.blk.ext (Ext.alloc w5 (.cells cs t))).fr 0
        have rf1 := fun cs t => (BR5.blk.ext (Ext.alloc w5 (.cells cs t))).fr 1
        have rf2 := fun cs t => (BR5.blk.ext (Ext.alloc w5 (.cells cs t))).fr 2
        go_wp2_with fail
        clear rc0 rc1 rc2 rf0 rf1 rf2
        have zc0 := BR.blk.cell 0 rfl; have zf0 := BR.blk.fr 0; have zc1 := BR.blk.cell 1 rfl; have zf1 := BR.blk.fr 1; have zc2 := BR.blk.cell 2 rfl; have zf2 := BR.blk.fr 2
        refine bodyPost_ret (v := .tuple #[.agg #[.int .i64 0, .int .i64 0, .slice none 0 0], .bool false]) (by simp [results, Tryz.results64, go_sem, zc0, zc1, zc2, zf0, zf1, zf2]) rfl ?_
        have BZ := ((BR.set hg hd (Nat.le_refl _) 0 (.int .i64 0)).set hg hd (Nat.le_refl _) 1 (.int .i64 0)).set hg hd (Nat.le_refl _) 2 (.slice none 0 0)
        exact ⟨_, _, rfl, BZ.inc, BZ.st.up (by omega), BZ.tr, _, _, rfl, _, _, _, 0, rfl, by omega, SlOk.nil⟩
      have ec := Blk.new w5 #[.int .i64 x, .int .i64 y, .int .i64 z] 87
      go_upto_region 15 with fail
      generalize w5.alloc (.cells #[.int .i64 x, .int .i64 y, .int .i64 z] 87) = w6 at BG BR hp hE ec ⊢
      generalize w5.heap.size = E5 at ec ⊢
      have ec0 := ec.cell 0 rfl
      have ec1 := ec.cell 1 rfl
      have ec2 := ec.cell 2 rfl
      have gc2 := BG.blk.cell 2 rfl
      go_wp2_with (at_builtin; refine app1_t (q + (201 + (k + 1))) rfl rfl Tryz.underlying23 infoEdge rfl (by decide) per_edge zk_edge BG.st hE rfl rfl rfl (by simp [Value.oneCell']) (kin_edge _ _ _) (by omega) (by decide) (by omega) ?_; intro v1 w7 D7 hi7 hs7 ht7 hE7; obtain ⟨a7, c7, rfl⟩ := hE7.shape; have BG7 := BG.drawn (by omega) hi7 ht7 (c' := 201 + (k + 1)) hs7; have BR7 := BR.drawn hg hi7 ht7 (c' := 201 + (k + 1)) hs7; have gd2 := BG7.blk.cell 2 rfl; have ge2 := BG7.blk.fr 2)
      have o7 := BG7.out
      exact ⟨⟨k + 1, D7, _, by omega, by go_num, BR7.other (b' := G) (by omega) hd (by omega) (by omega) o7 2 _, BG7.set (by omega) hd (by omega) 2 _, (hp.tr' hi7 ht7).tr (fun _ h => h) (Shp.box o7), hE7.tr (fun _ h => h) (Shp.box o7)⟩, by simp [intOf]; omega⟩
    · have hkn : n ≤ 2 + k := by omega
      clear hlt
      have hST : SysT D3 (q + (201 + k)) wr (.agg #[.int .i64 al, .int .i64 st, .slice aE k cE]) := ⟨_, _, _, _, rfl, by omega, hE⟩
      obtain ⟨S, hS1, hS2⟩ := hST.sys BG.st.typ
      have gc0 := BG.blk.cell 0 rfl; have gf0 := BG.blk.fr 0; have gc1 := BG.blk.cell 1 rfl; have gf1 := BG.blk.fr 1; have gc2 := BG.blk.cell 2 rfl; have gf2 := BG.blk.fr 2
      go_wp2_with fail
      refine (FormatSystem_t _ S wr hS2 (by omega)).mono ?_
      rintro e w5 ⟨t, rfl, ht, he5⟩
      clear gc0 gc1 gc2 gf0 gf1 gf2
      have hE := hE.tr' (Inc.refl _ _) (Tr.ext BG.st he5)
      have BR := BR.ext he5
      have BG := BG.ext he5
      have gc0 := BG.blk.cell 0 rfl; have gf0 := BG.blk.fr 0; have gc1 := BG.blk.cell 1 rfl; have gf1 := BG.blk.fr 1; have gc2 := BG.blk.cell 2 rfl; have gf2 := BG.blk.fr 2; have rc0 := BR.blk.cell 0 rfl; have rf0 := BR.blk.fr 0; have rc1 := BR.blk.cell 1 rfl; have rf1 := BR.blk.fr 1; have rc2 := BR.blk.cell 2 rfl; have rf2 := BR.blk.fr 2
      cases hb : (t.toList == s.toList)
      · go_wp2_with fail
        clear gc0 gc1 gc2 gf0 gf1 gf2 rc0 rc1 rc2 rf0 rf1 rf2
        have zc0 := BR.blk.cell 0 rfl; have zf0 := BR.blk.fr 0; have zc1 := BR.blk.cell 1 rfl; have zf1 := BR.blk.fr 1; have zc2 := BR.blk.cell 2 rfl; have zf2 := BR.blk.fr 2
        refine bodyPost_ret (v := .tuple #[.agg #[.int .i64 0, .int .i64 0, .slice none 0 0], .bool false]) (by simp [results, Tryz.results64, go_sem, zc0, zc1, zc2, zf0, zf1, zf2]) rfl ?_
        have BZ := ((BR.set hg hd (Nat.le_refl _) 0 (.int .i64 0)).set hg hd (Nat.le_refl _) 1 (.int .i64 0)).set hg hd (Nat.le_refl _) 2 (.slice none 0 0)
        exact ⟨_, _, rfl, BZ.inc, BZ.st.up (by omega), BZ.tr, _, _, rfl, _, _, _, 0, rfl, by omega, SlOk.nil⟩
      · go_wp2_with fail
        clear gc0 gc1 gc2 gf0 gf1 gf2 rc0 rc1 rc2 rf0 rf1 rf2
        have zc0 := BR.blk.cell 0 rfl; have zf0 := BR.blk.fr 0; have zc1 := BR.blk.cell 1 rfl; have zf1 := BR.blk.fr 1; have zc2 := BR.blk.cell 2 rfl; have zf2 := BR.blk.fr 2
        refine bodyPost_ret (v := .tuple #[.agg #[.int .i64 al, .int .i64 st, .slice aE k cE], .bool true]) (by simp [results, Tryz.results64, go_sem, zc0, zc1, zc2, zf0, zf1, zf2]) rfl ?_
        have BZ := ((BR.set hg hd (Nat.le_refl _) 0 (.int .i64 al)).set hg hd (Nat.le_refl _) 1 (.int .i64 st)).set hg hd (Nat.le_refl _) 2 (.slice aE k cE)
        have oZ := BR.out
        exact ⟨_, D3, rfl, BZ.inc, BZ.st.up (by omega), BZ.tr, _, _, rfl, _, _, _, k, rfl, by omega, (((hE.tr (fun _ h => h) (Shp.box oZ)).tr (fun _ h => h) (Shp.box oZ)).tr (fun _ h => h) (Shp.box oZ))⟩
end Go.Proofs.YtanekmfifmkbmaaGreatDoor

namespace Go.Proofs.YtanekmfifmkbmaaGreatDoor
set_option linter.unusedSimpArgs false
set_option linter.unusedVariables false
open Go.RowKit
set_option maxHeartbeats 1000000
set_option maxRecDepth 100000

variable {D D' : Nat → Prop} {g q q' : Nat} {w w' : World}

theorem l2Draw_t (h : St D g q w) (hq : q + 4600 ≤ 1000000) :
    Calls Tryz.prog 24 #[.pointer (some ⟨g, 0, none⟩)] w (Drawn D g q 4600 w SysT) := by
  have hg := h.g_lt
  have hd := fun x hx => (h.dom x hx).2
  have B0 := Box.new h #[.int .i64 0, .int .i64 0, .slice none 0 0] 25
  go_enter Tryz.func24, Tryz.ntmps24
  go_wp2_with fail
  generalize w.alloc (.cells #[.int .i64 0, .int .i64 0, .slice none 0 0] 25) = w1 at B0 ⊢
  refine (pick_t 3 B0.st (by omega) (by omega)).mono ?_
  rintro e w2 ⟨x, rfl, -, -, hs2, hk2⟩
  have B1 := B0.kept hg hk2 (c' := 1) hs2
  clear hs2 hk2 B0
  by_cases hx : x = 0
  · subst hx
    go_wp2_with fail
    refine (l2Texts_t w2).mono ?_
    rintro e w3 ⟨c3, l, rfl, hl0, hl1, hls, hv3, he3⟩
    have B2 := B1.ext he3
    go_wp2_with fail
    refine (of_t _ l c3 w2.heap.size rfl B2.st (by omega) hv3 B1.st.g_lt hl0 hl1).mono ?_
    rintro e w4 ⟨t, ht, rfl, hs4, hk4⟩
    have B3 := B2.kept hg hk4 (c' := 2) hs4
    have ht2 := hls t ht
    clear hs4 hk4 hv3 hls he3
    go_wp2_with fail
    refine (ParseSystem_t t ht2 B3.st (by omega)).mono ?_
    rintro e w5 ⟨v5, D5, rfl, hi5, hs5, ht5, u5, b5, rfl, hS⟩
    have B4 := B3.drawn hg hi5 ht5 (c' := 502) (hs5.up (by omega))
    obtain ⟨al, st, n, aE, cE, rfl, hn, hE⟩ := hS.boxed
    have he := Ext.alloc w5 (.cells #[.int .i64 al, .int .i64 st, .slice aE n cE] 25)
    have hE := hE.tr' (Inc.refl _ _) (Tr.ext B4.st he)
    have ec := Blk.new w5 #[.int .i64 al, .int .i64 st, .slice aE n cE] 25
    have B5 := B4.ext he
    have hne : w.heap.size < w5.heap.size := B4.blk.lt
    clear hs5 ht5 hi5
    go_upto_if 15 with fail
    generalize w5.alloc (.cells #[.int .i64 al, .int .i64 st, .slice aE n cE] 25) = w6 at B5 hE ec ⊢
    generalize w5.heap.size = G at ec hne ⊢
    have ec0 := ec.cell 0 rfl
    have ec1 := ec.cell 1 rfl
    have ec2 := ec.cell 2 rfl
    cases b5
    · go_wp2_with fail
      refine (num_t [3, 6, 7, 5, 1, 0, 12] rfl B5.st (by omega) (by decide) (by decide)).mono ?_
      rintro e wa ⟨xa, hxa, rfl, hsa, hka⟩
      obtain ⟨al, rfl, hal⟩ := nat_of_mem (B := 63) hxa (by decide)
      have Ba := B5.kept hg hka (c' := 503) (hsa.up (by omega))
      go_wp2_with fail
      refine (num_t [3, 2, 4, 1, 5] rfl Ba.st (by omega) (by decide) (by decide)).mono ?_
      rintro e wb ⟨xb, hxb, rfl, hsb, hkb⟩
      obtain ⟨st, rfl, hst⟩ := nat_of_mem (B := 5) hxb (by decide)
      have Bb := Ba.kept hg hkb (c' := 504) (hsb.up (by omega))
      go_wp2_with fail
      refine (num_t [3, 2, 4, 6] rfl Bb.st (by omega) (by decide) (by decide)).mono ?_
      rintro e wc ⟨xc, hxc, rfl, hsc, hkc⟩
      obtain ⟨fw, rfl, hfw⟩ := nat_of_mem (B := 6) hxc (by decide)
      have Bc := Bb.kept hg hkc (c' := 505) (hsc.up (by omega))
      go_wp2_with fail
      refine (l2Random_t al fw st (by omega) (by omega) Bc.st (by omega)).mono ?_
      rintro e wd ⟨vd, Dd, rfl, hid, hsd, htd, ve, n, rfl, hn, hE⟩
      have Bd := Bc.drawn hg hid htd (c' := 4600) (hsd.up (by omega))
      obtain ⟨aE, cE, rfl⟩ := hE.shape
      have rc0 := Bd.blk.cell 0 rfl; have rf0 := Bd.blk.fr 0; have rc1 := Bd.blk.cell 1 rfl; have rf1 := Bd.blk.fr 1; have rc2 := Bd.blk.cell 2 rfl; have rf2 := Bd.blk.fr 2
      go_wp2_with fail
      refine bodyPost_ret (v := .agg #[.int .i64 al, .int .i64 st, .slice aE n cE]) (by simp [results, Tryz.results24, go_sem, rc0, rc1, rc2, rf0, rf1, rf2]) rfl ?_
      have BZ := ((Bd.set (by omega) hd (by omega) 0 (.int .i64 al)).set (by omega) hd (by omega) 1 (.int .i64 st)).set (by omega) hd (by omega) 2 (.slice aE n cE)
      have oZ := Bd.out
      exact ⟨_, Dd, rfl, BZ.inc, BZ.st.up (by omega), BZ.tr, _, _, _, _, rfl, by omega, (((hE.tr (fun _ h => h) (Shp.box oZ)).tr (fun _ h => h) (Shp.box oZ)).tr (fun _ h => h) (Shp.box oZ))⟩
    · have rc0 := B5.blk.cell 0 rfl; have rf0 := B5.blk.fr 0; have rc1 := B5.blk.cell 1 rfl; have rf1 := B5.blk.fr 1; have rc2 := B5.blk.cell 2 rfl; have rf2 := B5.blk.fr 2
      go_wp2_with fail
      refine bodyPost_ret (v := .agg #[.int .i64 al, .int .i64 st, .slice aE n cE]) (by simp [results, Tryz.results24, go_sem, rc0, rc1, rc2, rf0, rf1, rf2]) rfl ?_
      have BZ := ((B5.set (by omega) hd (by omega) 0 (.int .i64 al)).set (by omega) hd (by omega) 1 (.int .i64 st)).set (by omega) hd (by omega) 2 (.slice aE n cE)
      have oZ := B5.out
      exact ⟨_, _, rfl, BZ.inc, BZ.st.up (by omega), BZ.tr, _, _, _, _, rfl, by omega, (((hE.tr (fun _ h => h) (Shp.box oZ)).tr (fun _ h => h) (Shp.box oZ)).tr (fun _ h => h) (Shp.box oZ))⟩
  · have hx' : ((x : Int) == 0) = false := beq_eq_false_iff_ne.2 (by omega)
    go_wp2_with fail
    refine (num_t [3, 6, 7, 5, 1, 0, 12] rfl B1.st (by omega) (by decide) (by decide)).mono ?_
    rintro e wa ⟨xa, hxa, rfl, hsa, hka⟩
    obtain ⟨al, rfl, hal⟩ := nat_of_mem (B := 63) hxa (by decide)
    have Ba := B1.kept hg hka (c' := 2) (hsa.up (by omega))
    go_wp2_with fail
    refine (num_t [3, 2, 4, 1, 5] rfl Ba.st (by omega) (by decide) (by decide)).mono ?_
    rintro e wb ⟨xb, hxb, rfl, hsb, hkb⟩
    obtain ⟨st, rfl, hst⟩ := nat_of_mem (B := 5) hxb (by decide)
    have Bb := Ba.kept hg hkb (c' := 3) (hsb.up (by omega))
    go_wp2_with fail
    refine (num_t [3, 2, 4, 6] rfl Bb.st (by omega) (by decide) (by decide)).mono ?_
    rintro e wc ⟨xc, hxc, rfl, hsc, hkc⟩
    obtain ⟨fw, rfl, hfw⟩ := nat_of_mem (B := 6) hxc (by decide)
    have Bc := Bb.kept hg hkc (c' := 4) (hsc.up (by omega))
    go_wp2_with fail
    refine (l2Random_t al fw st (by omega) (by omega) Bc.st (by omega)).mono ?_
    rintro e wd ⟨vd, Dd, rfl, hid, hsd, htd, ve, n, rfl, hn, hE⟩
    have Bd := Bc.drawn hg hid htd (c' := 4600) (hsd.up (by omega))
    obtain ⟨aE, cE, rfl⟩ := hE.shape
    have rc0 := Bd.blk.cell 0 rfl; have rf0 := Bd.blk.fr 0; have rc1 := Bd.blk.cell 1 rfl; have rf1 := Bd.blk.fr 1; have rc2 := Bd.blk.cell 2 rfl; have rf2 := Bd.blk.fr 2
    go_wp2_with fail
    refine bodyPost_ret (v := .agg #[.int .i64 al, .int .i64 st, .slice aE n cE]) (by simp [results, Tryz.results24, go_sem, rc0, rc1, rc2, rf0, rf1, rf2]) rfl ?_
    have BZ := ((Bd.set (by omega) hd (by omega) 0 (.int .i64 al)).set (by omega) hd (by omega) 1 (.int .i64 st)).set (by omega) hd (by omega) 2 (.slice aE n cE)
    have oZ := Bd.out
    exact ⟨_, Dd, rfl, BZ.inc, BZ.st.up (by omega), BZ.tr, _, _, _, _, rfl, by omega, (((hE.tr (fun _ h => h) (Shp.box oZ)).tr (fun _ h => h) (Shp.box oZ)).tr (fun _ h => h) (Shp.box oZ))⟩
end Go.Proofs.YtanekmfifmkbmaaGreatDoor
