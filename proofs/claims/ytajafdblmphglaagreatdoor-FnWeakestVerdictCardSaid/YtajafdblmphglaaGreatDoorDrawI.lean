/- Merged: DrawG, DrawI. -/
import Derived.Test.YtajafdblmphglaaGreatDoorDrawA
import Derived.Test.YtajafdblmphglaaGreatDoorWalkK
import Derived.Deep.DeepCutAuto
import Derived.Test.YtajafdblmphglaaGreatDoorRegion
import Derived.Test.YtajafdblmphglaaGreatDoorWalkH

namespace Go.Proofs.YtajafdblmphglaaGreatDoor
set_option linter.unusedSimpArgs false
set_option linter.unusedVariables false
open Go.RowKit
set_option maxHeartbeats 1000000
set_option maxRecDepth 100000

/-- The end of a call that hands back some text, and only makes memory. -/
def Text (B : Nat) (w : World) (e : Ending) (w' : World) : Prop := ∃ s, e = .returned (.string s) ∧ s.size ≤ B ∧ Ext w w'

theorem one_byte (w : World) (b : UInt8) : BytesOwn 5 w.heap.size (w.alloc (.cells #[byteVal b] 5)) (.slice (some ⟨w.heap.size, 0, none⟩) 1 1) [b] :=
  ⟨by simp, .inr ⟨w.heap.size, 1, #[byteVal b], rfl, Nat.le_refl _, heap_alloc_new w _, Nat.le_refl _, by unfold maxLen; omega, by simp, by simp⟩⟩
/-- One byte read as a text, whatever number stands for it. -/
theorem conv_byte (w : World) (y : Int) (h0 : 0 ≤ y) (h1 : y < 256) : ∃ s : ByteArray, s.size = 1 ∧ (convert 22 9 (.slice (some ⟨w.heap.size, 0, none⟩) 1 1)).run Tryz.prog (w.alloc (.cells #[.int .u8 y] 5)) = .ok (.string s) (w.alloc (.cells #[.int .u8 y] 5)) := by
  have hb := (one_byte w (UInt8.ofNat y.toNat)).string
  have e : byteVal (UInt8.ofNat y.toNat) = .int .u8 y := by
    unfold byteVal
    congr 1
    simp
    omega
  rw [e] at hb
  exact ⟨_, rfl, hb⟩

theorem l1Text_t (x : Int) (w : World) : Calls Tryz.prog 188 #[.int .i64 x] w (Text 1 w) := by
  obtain ⟨s, hz, hs⟩ := conv_byte w (wrap64 (97 + x) % 256) (by omega) (by omega)
  go_enter Tryz.func188, Tryz.ntmps188
  go_wp2_with fail
  go_ret
  exact ⟨_, rfl, by omega, Ext.alloc _ _⟩

theorem FormatAlphabet_t (a : Nat) (w : World) (ha : a ≤ 63) : Calls Tryz.prog 234 #[.int .i64 a] w (Text 6 w) := by
  have hal : isAlpha (a : Int) = true := by unfold isAlpha; simp; omega
  by_cases h0 : a = 0
  · subst h0
    have hal0 : isAlpha 0 = true := by decide
    go_enter Tryz.func234, Tryz.ntmps234
    go_wp2_with (go_at_call 137; refine (l1Alphabet_c _ _).mono ?_; rintro e w' ⟨rfl, rfl⟩)
    go_ret
    exact ⟨_, rfl, by decide, Ext.refl _⟩
  have h0' : ((a : Int) == 0) = false := beq_eq_false_iff_ne.2 (by omega)
  go_enter Tryz.func234, Tryz.ntmps234
  go_wp2_with (go_at_call 137; refine (l1Alphabet_c _ _).mono ?_; rintro e w' ⟨rfl, rfl⟩)
  refine (l1Letters_c a w (by omega) (by omega)).mono ?_
  rintro e w1 ⟨v, rfl, he, hv⟩
  obtain ⟨av, cv, rfl, -, hc⟩ := hv.open
  have HC := Lib.hid hc
  have hlen : (letters (a : Int)).length ≤ 6 := lettersTo_len a 6
  generalize letters (a : Int) = ls at HC hlen ⊢
  clear hc hv
  go_wp2_with fail
  go_loopw [3, 5] (fun t i wr => ∃ (k : Nat) (s : ByteArray), k ≤ ls.length ∧ i = .int .i64 k ∧ t = .string s ∧ s.size ≤ k ∧ Ext w1 wr) (fun _ i _ => ls.length - (intOf i).toNat)
  case atStart => exact ⟨0, _, by omega, rfl, rfl, by decide, Ext.refl _⟩
  case round =>
    obtain ⟨k, s, hk, rfl, rfl, hsz, hx⟩ := hrel
    by_cases hlt : k < ls.length
    · obtain ⟨b, off, rfl, hb, hc⟩ := HC.out k ls[k] (List.getElem?_eq_getElem hlt)
      have c0 := hx.cell (hc k ls[k] (List.getElem?_eq_getElem hlt))
      rw [Nat.mul_one] at c0
      generalize ls[k] = l at c0
      clear hc
      go_wp2_with fail
      refine (l1Text_t l wr).mono ?_
      rintro e w2 ⟨s2, rfl, hs2, he2⟩
      have hb1 : s.size + s2.size ≤ 9223372036854775807 := by omega
      go_wp2_with fail
      exact ⟨⟨k + 1, _, by omega, by go_num, rfl, by rw [ByteArray.size_append]; omega, hx.trans he2⟩, by simp [intOf]; omega⟩
    · obtain rfl : k = ls.length := by omega
      go_wp2_with fail
      go_ret
      exact ⟨_, rfl, by omega, he.trans hx⟩

theorem ParseAlphabet_t (s : ByteArray) (w : World) : Calls Tryz.prog 199 #[.string s] w (fun e w' => ∃ (a : Nat) (b : Bool), a ≤ 63 ∧ e = .returned (.tuple #[.int .i64 a, .bool b]) ∧ Ext w w') := by
  go_enter Tryz.func199, Tryz.ntmps199
  go_wp2_with fail
  go_loopw [4] (fun i wr => ∃ k : Nat, k ≤ 64 ∧ i = .int .i64 k ∧ Ext w wr) (fun i _ => 64 - (intOf i).toNat)
  case atStart => exact ⟨0, by omega, rfl, Ext.refl _⟩
  case round =>
    obtain ⟨k, hk, rfl, hx⟩ := hrel
    by_cases hlt : k < 64
    · go_wp2_with fail
      refine (FormatAlphabet_t k wr (by omega)).mono ?_
      rintro e w2 ⟨s2, rfl, hs2, he2⟩
      by_cases hb : (s2.toList == s.toList) = true
      · go_wp2_with fail
        go_ret2
        exact ⟨k, true, by omega, rfl, hx.trans he2⟩
      · have hb : (s2.toList == s.toList) = false := by cases h : (s2.toList == s.toList); rfl; exact absurd h hb
        go_wp2_with fail
        exact ⟨⟨k + 1, by omega, by go_num, hx.trans he2⟩, by simp [intOf]; omega⟩
    · obtain rfl : k = 64 := by omega
      go_wp2_with fail
      go_ret2
      exact ⟨0, false, by omega, rfl, hx⟩

theorem pow_small {t n : Nat} (h : n * 10 ^ t ≤ 9223372036854775807) (hn : 1 ≤ n) : t ≤ 18 := by
  rcases Nat.lt_or_ge 18 t with h1 | h1
  · have h2 : 10 ^ 19 ≤ 10 ^ t := Nat.pow_le_pow_right (by omega) (by omega)
    have h3 : 1 * 10 ^ t ≤ n * 10 ^ t := Nat.mul_le_mul_right _ hn
    omega
  · exact h1

theorem l19Dec_p (n : Nat) (w : World) (hn : n ≤ 9223372036854775807) : Calls Tryz.prog 236 #[.int .i64 n] w (Text 20 w) := by
  go_enter Tryz.func236, Tryz.ntmps236
  go_wp2_with fail
  go_loopw [0, 3] (fun i s wr => ∃ (k : Nat) (t : ByteArray), i = .int .i64 k ∧ s = .string t ∧ k * 10 ^ t.size ≤ 9223372036854775807 ∧ (1 ≤ k ∨ t.size = 0) ∧ Ext w wr) (fun i _ _ => (intOf i).toNat)
  case atStart => exact ⟨n, _, rfl, rfl, by show n * 10 ^ 0 ≤ _; omega, .inr rfl, Ext.refl _⟩
  case round =>
    obtain ⟨k, t, rfl, rfl, hk, h1, hx⟩ := hrel
    have ht : t.size ≤ 18 := by rcases h1 with h1 | h1; exact pow_small hk h1; omega
    by_cases hlt : 9 < k
    · obtain ⟨s1, hz1, hs1⟩ := conv_byte wr (48 + ((k : Int) % 10)) (by omega) (by omega)
      have hk8 : k ≤ 9223372036854775807 := Nat.le_trans (Nat.le_mul_of_pos_right _ (Nat.pow_pos (by omega))) hk
      have hb1 : s1.size + t.size ≤ 9223372036854775807 := by omega
      go_wp2_with fail
      refine ⟨⟨k / 10, _, rfl, rfl, ?_, .inl (by omega), hx.trans (Ext.alloc _ _)⟩, ?_⟩
      · rw [ByteArray.size_append, hz1, Nat.add_comm 1, Nat.pow_succ, Nat.mul_comm (10 ^ t.size), ← Nat.mul_assoc]
        exact Nat.le_trans (Nat.mul_le_mul_right _ (Nat.div_mul_le_self k 10)) hk
      · simp only [intOf]; omega
    · have hk9 : k ≤ 9 := by omega
      obtain ⟨s1, hz1, hs1⟩ := conv_byte wr (48 + (k : Int)) (by omega) (by omega)
      have hb1 : s1.size + t.size ≤ 9223372036854775807 := by omega
      go_wp2_with fail
      go_ret
      exact ⟨_, rfl, by rw [ByteArray.size_append]; omega, hx.trans (Ext.alloc _ _)⟩

/-- Some number, and whether it is one. -/
def NumEnd (w : World) (e : Ending) (w' : World) : Prop := ∃ (x : Int) (b : Bool), e = .returned (.tuple #[.int .i64 x, .bool b]) ∧ w = w'
theorem NumEnd.mk {x : Int} {b : Bool} {w : World} : NumEnd w (.returned (.tuple #[.int .i64 x, .bool b])) w := ⟨x, b, rfl, rfl⟩
theorem empty_text {t : ByteArray} (h : t.size = 0) : t = ByteArray.empty := ByteArray.ext (Array.eq_empty_of_size_eq_zero h)
theorem l19Num_t (s : ByteArray) (w : World) (hs : s.size ≤ 1000) : Calls Tryz.prog 200 #[.string s] w (NumEnd w) := by
  go_enter Tryz.func200, Tryz.ntmps200
  go_upto_if 15 with fail
  all_goals go_cut [0, 4] from 5 (fun a b wc => ∃ t bb, a = .string t ∧ t.size ≤ 1000 ∧ b = .bool bb ∧ wc = w)
  all_goals first
    | (go_wp2_with fail
       all_goals (go_meet; case rel => first | exact ⟨_, _, rfl, hs, rfl, rfl⟩ | exact ⟨_, _, rfl, by rw [ByteArray.size_extract]; omega, rfl, rfl⟩)
       done)
    | skip
  all_goals
    obtain ⟨t, bb, rfl, ht, rfl, rfl⟩ := hcut
    clear hs
    cases bb
  all_goals rcases Nat.eq_zero_or_pos t.size with h0 | h0
  all_goals first
    | (have h1 := empty_text h0
       subst h1
       go_wp2_with fail
       go_ret2
       exact NumEnd.mk)
    | skip
  all_goals go_upto_region 6 with fail
  all_goals first
    | (go_ret2; exact NumEnd.mk)
    | skip
  all_goals go_cut [5] from 6 (fun n wd => n = .int .i64 0 ∧ wd = wc)
  all_goals first
    | (go_wp2_with fail
       all_goals (go_meet; case rel => exact ⟨rfl, rfl⟩)
       done)
    | skip
  all_goals
    obtain ⟨rfl, rfl⟩ := hcut
    go_wp2_with fail
  all_goals go_loopw [5, 6] (fun n i wr => ∃ (k : Nat) (x : Int), k ≤ t.size ∧ i = .int .i64 k ∧ n = .int .i64 x ∧ wr = wc) (fun _ i _ => t.size - (intOf i).toNat)
  all_goals first
    | exact ⟨0, 0, by omega, rfl, rfl, rfl⟩
    | skip
  all_goals
    obtain ⟨k, x, hk, rfl, rfl, rfl⟩ := hrel
    go_wp2_with fail
  all_goals first
    | (go_ret2; exact NumEnd.mk)
    | exact ⟨⟨k + 1, _, by omega, by go_num, rfl, trivial⟩, by simp [intOf]; omega⟩
end Go.Proofs.YtajafdblmphglaaGreatDoor

namespace Go.Proofs.YtajafdblmphglaaGreatDoor
set_option linter.unusedSimpArgs false
set_option linter.unusedVariables false
open Go.RowKit
set_option maxHeartbeats 1000000
set_option maxRecDepth 100000

theorem SystemValid_t {v : Value} {x : Sys} {w : World} {b : Bool} (hb : sysValid x = b) (hv : SysV w v x) : Calls Tryz.prog 122 #[v] w (Grows (.bool b) w) := by
  rw [← hb]; exact SystemValid_s v x w hv

theorem valid_edge {s : Sys} (h : sysValid s = true) {k : Nat} {e : Edge} (hk : s.edges[k]? = some e) : 0 ≤ e.src ∧ e.src ≤ 16 ∧ 0 ≤ e.dst ∧ e.dst ≤ 16 := by
  obtain ⟨hi, rfl⟩ := List.getElem?_eq_some_iff.1 hk
  simp only [sysValid, Bool.and_eq_true, decide_eq_true_eq, List.all_eq_true] at h
  have h4 := h.2 k (List.mem_range.2 hi)
  unfold edgeAt at h4
  rw [List.getElem?_eq_getElem hi] at h4
  simp only [Bool.and_eq_true, edgeOk, decide_eq_true_eq] at h4
  omega

theorem FormatSystem_t (v : Value) (s : Sys) (w : World) (hv : SysV w v s) (hl : s.edges.length ≤ 1000000) : Calls Tryz.prog 202 #[v] w (Text 70000000 w) := by
  obtain ⟨ve, rfl, h1⟩ := hv
  have HV := Lib.hid (show ∀ w', Ext w w' → SysV w' (.agg #[.int .i64 s.alphabet, .int .i64 s.states, ve]) s from fun w' he => ⟨ve, rfl, h1.mono he⟩)
  obtain ⟨ae, ce, rfl, -, hc⟩ := h1.open
  have HC := Lib.hid hc
  clear hc h1
  have he := Ext.alloc w (.cells #[.int .i64 s.alphabet, .int .i64 s.states, .slice ae s.edges.length ce] 25)
  have hB := Blk.new w #[.int .i64 s.alphabet, .int .i64 s.states, .slice ae s.edges.length ce] 25
  go_enter Tryz.func202, Tryz.ntmps202
  go_wp2_with fail
  generalize w.alloc (.cells #[.int .i64 s.alphabet, .int .i64 s.states, .slice ae s.edges.length ce] 25) = w1 at he hB ⊢
  by_cases hval : sysValid s = true
  case neg =>
    have hval' : sysValid s = false := by simpa using hval
    refine (SystemValid_t hval' (HV.out _ he)).mono ?_
    rintro e w2 ⟨rfl, he2⟩
    go_wp2_with fail
    go_ret
    exact ⟨_, rfl, by decide, he.trans he2⟩
  refine (SystemValid_t hval (HV.out _ he)).mono ?_
  rintro e w2 ⟨rfl, he2⟩
  have hB := hB.ext he2
  have he := he.trans he2
  have hal : ∃ al : Nat, s.alphabet = al ∧ al ≤ 63 := by
    have := hval
    simp only [sysValid, Bool.and_eq_true, isAlpha, decide_eq_true_eq] at this
    exact ⟨s.alphabet.toNat, by omega, by omega⟩
  have hst : ∃ st : Nat, s.states = st ∧ st ≤ 16 := by
    have := hval
    simp only [sysValid, Bool.and_eq_true, decide_eq_true_eq] at this
    exact ⟨s.states.toNat, by omega, by omega⟩
  obtain ⟨al, hal1, hal2⟩ := hal
  obtain ⟨st, hst1, hst2⟩ := hst
  have HE := Lib.hid (fun k e hk => valid_edge hval (k := k) (e := e) hk)
  clear hval he2
  rw [hal1, hst1] at hB ⊢
  clear HV hal1 hst1
  generalize s.edges = es at HC HE hl hB ⊢
  go_wp2_with fail
  have D0 := fun d os => cell_regrown (hB.cell 0 rfl) d os
  have D1 := fun d os => cell_regrown (hB.cell 1 rfl) d os
  obtain ⟨Kc, HKc⟩ : ∃ Kc : FuncId → Array Value → World → Value → World → Prop, Hid (Kc = fun _ _ w0 v w' => Ext w0 w' ∧ ∃ t : ByteArray, v = .string t ∧ t.size ≤ 20) := ⟨_, rfl⟩
  refine wp_region_ext (Kc := Kc) 8 (by kernel_rfl) (by kernel_rfl) ?_
  simp only [List.take_succ_cons, List.take_zero]
  repeat (refine WalkE.pure rfl (fun K hK => ?_); simp only [PureDo]; go_simp; refine hK _ ?_; clear hK K)
  refine WalkE.step (fun K hK wc hwc hdc => ?_)
  simp only [OpDo, OpSafe, OpOut]
  go_simp
  refine ⟨(FormatAlphabet_t al _ hal2).mono ?_, ?_⟩
  · rintro e w' ⟨t, rfl, ht, he⟩
    exact ⟨_, rfl, by rw [HKc.out]; exact ⟨he, _, rfl, by omega⟩⟩
  intro u4 w4 hk4
  rw [HKc.out] at hk4
  obtain ⟨hk4, t4, rfl, ht4⟩ := hk4
  refine ⟨hk4, hK _ _ ?_⟩
  clear hK K hdc hk4
  have hz1 : ¬ (9223372036854775807 < t4.size + 1) := by omega
  repeat (refine WalkE.pure rfl (fun K hK => ?_); simp only [PureDo]; go_simp; refine hK _ ?_; clear hK K)
  refine WalkE.step (fun K hK wd hwd hdd => ?_)
  simp only [OpDo, OpSafe, OpOut]
  go_simp
  refine ⟨(l19Dec_p st _ (by omega)).mono ?_, ?_⟩
  · rintro e w' ⟨t, rfl, ht, he⟩
    exact ⟨_, rfl, by rw [HKc.out]; exact ⟨he, _, rfl, by omega⟩⟩
  intro u5 w5 hk5
  rw [HKc.out] at hk5
  obtain ⟨hk5, t5, rfl, ht5⟩ := hk5
  refine ⟨hk5, hK _ _ ?_⟩
  clear hK K hdd hk5
  have hz2 : ¬ (9223372036854775807 < t4.size + 1 + t5.size) := by omega
  repeat (refine WalkE.pure rfl (fun K hK => ?_); simp only [PureDo]; go_simp; refine hK _ ?_; clear hK K)
  refine WalkE.nil (fun wn hwn hmn => ?_)
  simp only [List.drop_succ_cons, List.drop_zero, List.drop_nil]
  have hx := (Ext.drew _).trans hwn
  have hB := hB.ext hx
  have he := he.trans hx
  clear hmn HKc D0 D1 hwn hwc hwd hx
  have hsz : (t4 ++ { data := #[32] } ++ t5 : ByteArray).size ≤ 41 := by
    rw [ByteArray.size_append, ByteArray.size_append]
    have : ({ data := #[32] } : ByteArray).size = 1 := rfl
    omega
  generalize (t4 ++ { data := #[32] } ++ t5 : ByteArray) = t0 at hsz ⊢
  clear hz1 hz2 ht4 ht5
  go_wp2_with fail
  go_loopw [3, 4] (fun t i wr => ∃ (k : Nat) (u : ByteArray), k ≤ es.length ∧ i = .int .i64 k ∧ t = .string u ∧ u.size ≤ 41 + k * 65 ∧ Blk wr w.heap.size #[.int .i64 al, .int .i64 st, .slice ae es.length ce] 25 ∧ Ext w wr) (fun _ i _ => es.length - (intOf i).toNat)
  case atStart => exact ⟨0, t0, by omega, rfl, rfl, by omega, hB, he⟩
  case round =>
    clear hB he
    obtain ⟨k, u, hk, rfl, rfl, hu, hB, he⟩ := hrel
    have gc2 := hB.cell 2 rfl
    by_cases hlt : k < es.length
    · obtain ⟨b, off, rfl, hb, hc⟩ := HC.out k es[k] (List.getElem?_eq_getElem hlt)
      obtain ⟨c0, c1, c2⟩ := (hc k es[k] (List.getElem?_eq_getElem hlt)).mono he
      obtain ⟨v1, v2, v3, v4⟩ := HE.out k es[k] (List.getElem?_eq_getElem hlt)
      obtain ⟨src, hsrc, hs16⟩ : ∃ n : Nat, es[k].src = n ∧ n ≤ 16 := ⟨es[k].src.toNat, by omega, by omega⟩
      obtain ⟨dst, hdst, hd16⟩ : ∃ n : Nat, es[k].dst = n ∧ n ≤ 16 := ⟨es[k].dst.toNat, by omega, by omega⟩
      rw [hsrc] at c0
      rw [hdst] at c2
      generalize es[k].letter = l at c1
      have hk1 : (0 : Int) ≤ (k : Int) := by omega
      have hk2 : (k : Int) < (es.length : Int) := by omega
      clear hc v1 v2 v3 v4 hsrc hdst
      go_wp2_with fail
      have hx1 := Ext.alloc wr (.cells #[.int .i64 src, .int .i64 l, .int .i64 dst] 77)
      have hG := Blk.new wr #[.int .i64 src, .int .i64 l, .int .i64 dst] 77
      have hB2 := hB.ext hx1
      generalize wr.alloc (.cells #[.int .i64 src, .int .i64 l, .int .i64 dst] 77) = w3 at hx1 hG hB2 ⊢
      generalize wr.heap.size = G at hG ⊢
      clear c0 c1 c2 gc2 hB
      have D0 := fun d os => cell_regrown (hG.cell 0 rfl) d os
      have D1 := fun d os => cell_regrown (hG.cell 1 rfl) d os
      have D2 := fun d os => cell_regrown (hG.cell 2 rfl) d os
      have hz0 : ¬ (9223372036854775807 < u.size + 1) := by omega
      obtain ⟨Kc, HKc⟩ : ∃ Kc : FuncId → Array Value → World → Value → World → Prop, Hid (Kc = fun _ _ w0 v w' => Ext w0 w' ∧ ∃ t : ByteArray, v = .string t ∧ t.size ≤ 20) := ⟨_, rfl⟩
      refine wp_region_ext (Kc := Kc) 14 (by kernel_rfl) (by kernel_rfl) ?_
      simp only [List.take_succ_cons, List.take_zero]
      repeat (refine WalkE.pure rfl (fun K hK => ?_); simp only [PureDo]; go_simp; refine hK _ ?_; clear hK K)
      refine WalkE.step (fun K hK we1 hwe1 hde1 => ?_)
      simp only [OpDo, OpSafe, OpOut]
      go_simp
      refine ⟨(l19Dec_p src _ (by omega)).mono ?_, ?_⟩
      · rintro e w' ⟨t, rfl, ht, he⟩
        exact ⟨_, rfl, by rw [HKc.out]; exact ⟨he, _, rfl, by omega⟩⟩
      intro u1 w41 hk1
      rw [HKc.out] at hk1
      obtain ⟨hk1, t1, rfl, ht1⟩ := hk1
      refine ⟨hk1, hK _ _ ?_⟩
      clear hK K hde1 hk1
      have hz1 : ¬ (9223372036854775807 < u.size + 1 + t1.size) := by omega
      repeat (refine WalkE.pure rfl (fun K hK => ?_); simp only [PureDo]; go_simp; refine hK _ ?_; clear hK K)
      refine WalkE.step (fun K hK we2 hwe2 hde2 => ?_)
      simp only [OpDo, OpSafe, OpOut]
      go_simp
      refine ⟨(l1Text_t l _).mono ?_, ?_⟩
      · rintro e w' ⟨t, rfl, ht, he⟩
        exact ⟨_, rfl, by rw [HKc.out]; exact ⟨he, _, rfl, by omega⟩⟩
      intro u2 w42 hk2
      rw [HKc.out] at hk2
      obtain ⟨hk2, t2, rfl, ht2⟩ := hk2
      refine ⟨hk2, hK _ _ ?_⟩
      clear hK K hde2 hk2
      have hz2 : ¬ (9223372036854775807 < u.size + 1 + t1.size + t2.size) := by omega
      repeat (refine WalkE.pure rfl (fun K hK => ?_); simp only [PureDo]; go_simp; refine hK _ ?_; clear hK K)
      refine WalkE.step (fun K hK we3 hwe3 hde3 => ?_)
      simp only [OpDo, OpSafe, OpOut]
      go_simp
      refine ⟨(l19Dec_p dst _ (by omega)).mono ?_, ?_⟩
      · rintro e w' ⟨t, rfl, ht, he⟩
        exact ⟨_, rfl, by rw [HKc.out]; exact ⟨he, _, rfl, by omega⟩⟩
      intro u3 w43 hk3
      rw [HKc.out] at hk3
      obtain ⟨hk3, t3, rfl, ht3⟩ := hk3
      refine ⟨hk3, hK _ _ ?_⟩
      clear hK K hde3 hk3
      have hz3 : ¬ (9223372036854775807 < u.size + 1 + t1.size + t2.size + t3.size) := by omega
      repeat (refine WalkE.pure rfl (fun K hK => ?_); simp only [PureDo]; go_simp; refine hK _ ?_; clear hK K)
      refine WalkE.nil (fun wn5 hwn5 hmn5 => ?_)
      simp only [List.drop_succ_cons, List.drop_zero, List.drop_nil]
      have hx5 := hx1.trans ((Ext.drew _).trans hwn5)
      clear hmn5 HKc D0 D1 D2
      go_wp2_with fail
      refine ⟨⟨k + 1, _, by omega, by go_num, rfl, ?_, hB2.ext ((Ext.drew _).trans hwn5), he.trans hx5⟩, by simp [intOf]; omega⟩
      simp only [ByteArray.size_append]
      have : ({ data := #[32] } : ByteArray).size = 1 := rfl
      omega
    · obtain rfl : k = es.length := by omega
      go_wp2_with fail
      go_ret
      exact ⟨_, rfl, by omega, he⟩
end Go.Proofs.YtajafdblmphglaaGreatDoor
