/- The laws' own test of a witness. -/
import Derived.Test.YtloampfmlhmlhaaGreatDoorWalkT
import Derived.Test.YtloampfmlhmlhaaGreatDoorPlainW
import Derived.Lib.QuietBelow
namespace Go.Proofs.YtloampfmlhmlhaaGreatDoor
set_option linter.unusedSimpArgs false
set_option linter.unusedVariables false
open Go Go.RowKit
set_option maxHeartbeats 1600000
set_option maxRecDepth 100000

/-- Does a text begin with another? -/
def prefB (v r : ByteArray) : Bool := decide (r.size ≤ v.size) && ((v.extract 0 r.size).toList == r.toList)
theorem agPrefix_c (v r : ByteArray) (w : World) (hv : v.size ≤ 1048576) (hr : r.size ≤ 1048576) :
    Calls Tryz.prog 86 #[.string v, .string r] w (Same (.bool (prefB v r)) w) := by
  by_cases h : r.size ≤ v.size
  · have h1 : (r.size : Int) ≤ (v.size : Int) := by omega
    have h2 : Hid (prefB v r = ((v.extract 0 r.size).toList == r.toList)) := Lib.hid (by unfold prefB; simp [h])
    rw [h2.out]
    go_enter Tryz.func86, Tryz.ntmps86
    go_wp2_with fail
    go_ret
    exact Same.mk rfl
  · have h1 : ¬ (r.size : Int) ≤ (v.size : Int) := by omega
    have h2 : Hid (prefB v r = false) := Lib.hid (by unfold prefB; simp [h])
    rw [h2.out]
    go_enter Tryz.func86, Tryz.ntmps86
    go_wp2_with fail
    go_ret
    exact Same.mk rfl
theorem toList_loop (bs : ByteArray) : ∀ (n i : Nat) (r : List UInt8), bs.size - i = n → ByteArray.toList.loop bs i r = r.reverse ++ bs.data.toList.drop i := by
  intro n
  induction n with
  | zero =>
    intro i r h
    have hs : bs.data.toList.length = bs.size := by simp
    rw [ByteArray.toList.loop, if_neg (by omega), List.drop_of_length_le (by omega), List.append_nil]
  | succ n ih =>
    intro i r h
    have hi : i < bs.size := by omega
    have hs : bs.data.toList.length = bs.size := by simp
    have hd : i < bs.data.size := hi
    have hg : bs.get! i = bs.data[i] := by
      unfold ByteArray.get!
      exact getElem!_pos bs.data i hd
    rw [ByteArray.toList.loop, if_pos hi, ih (i + 1) _ (by omega), List.drop_eq_getElem_cons (i := i) (by omega), hg]
    simp
theorem toList_data (bs : ByteArray) : bs.toList = bs.data.toList := by
  unfold ByteArray.toList
  rw [toList_loop bs _ 0 [] rfl]; rfl
theorem toList_inj {a b : ByteArray} (h : a.toList = b.toList) : a = b := by
  rw [toList_data, toList_data] at h
  exact ByteArray.ext (Array.toList_inj.1 h)
theorem chars_inj {a b : ByteArray} (h : chars a = chars b) : a = b := by
  unfold chars at h
  refine ByteArray.ext (Array.toList_inj.1 ?_)
  refine List.map_inj_right (f := fun b : UInt8 => (b.toNat : Int) - 97) (fun x y hxy => ?_) |>.1 h
  have : x.toNat = y.toNat := by omega
  exact UInt8.toNat_inj.1 this
theorem prefB_iff (v r : ByteArray) : prefB v r = true ↔ chars r <+: chars v := by
  unfold prefB
  rw [Bool.and_eq_true, decide_eq_true_eq, beq_iff_eq]
  constructor
  · rintro ⟨h1, h2⟩
    have := toList_inj h2
    rw [← this, chars_extract]
    exact List.take_prefix _ _
  · intro h
    have hl := h.length_le
    rw [chars_len, chars_len] at hl
    refine ⟨hl, ?_⟩
    have : v.extract 0 r.size = r := chars_inj (by
      rw [chars_extract]
      obtain ⟨z, hz⟩ := h
      rw [← hz, List.take_left' (by rw [chars_len])])
    rw [this]

/-- Is a text a witness? -/
noncomputable def witB (t : Task) (s u : ByteArray) : Bool := hasTrace t.sys (restrictW u t.sys.alphabet) && prefB s (restrictW u t.alphabet) && breaks t.prop u
theorem witB_iff {t : Task} {s : ByteArray} {u : List Int} (ht : taskValid t = true) (hu : ∀ x ∈ u, inT t x) (hl : u.length ≤ 50000) : witB t s (wtext u) = true ↔ WitW t (chars s) u := by
  obtain ⟨hs, hp, hal⟩ := taskValid_facts ht
  obtain ⟨a0, a63⟩ := alpha_facts hal
  obtain ⟨s0, s63⟩ := sys_alpha hs
  have h6 : ∀ x ∈ u, 0 ≤ x ∧ x < 6 := fun x hx => by
    rcases hu x hx with h | h
    · exact bit_range s63 h
    · exact bit_range a63 h
  have e := chars_wtext h6
  have hv : wordValid (wtext u) = true := by
    simp only [wordValid, wordIn, isAlpha, Bool.and_eq_true, decide_eq_true_eq, size_wtext, e, List.all_eq_true]
    exact ⟨⟨⟨by omega, by omega⟩, hl⟩, fun x hx => by rw [bit63]; have := h6 x hx; simp; omega⟩
  have r1 : restrictW (wtext u) t.sys.alphabet = restrict (wtext u) t.sys.alphabet := by unfold restrictW; rw [if_pos (by rw [hv]; simp [isAlpha]; exact ⟨s0, s63⟩)]
  have r2 : restrictW (wtext u) t.alphabet = restrict (wtext u) t.alphabet := by unfold restrictW; rw [if_pos (by rw [hv, hal]; rfl)]
  unfold witB WitW
  rw [r1, r2, Bool.and_eq_true, Bool.and_eq_true, hasTrace_restrict hs (by rw [size_wtext]; omega), prefB_iff, chars_restrict, e]
  unfold breaks
  rw [hp, hv, e]
  simp only [Bool.and_true, Bool.true_and, Bool.not_eq_true']
  constructor
  · rintro ⟨⟨h1, h2⟩, h3⟩; exact ⟨hu, h1, h2, h3⟩
  · rintro ⟨-, h1, h2, h3⟩; exact ⟨⟨h1, h2⟩, h3⟩

theorem agWitness_c (v : Value) (t : Task) (s u : ByteArray) (w : World) (hV : TaskV w v t) (hs : s.size ≤ 1048576) (hu : u.size ≤ 1048576) (hT : Deb w) :
    Calls Tryz.prog 30 #[v, .string s, .string u] w (Grows (.bool (witB t s u)) w) := by
  have HDb := Lib.hid hT
  obtain ⟨ve, vn, va, rfl, h1, h2, h3⟩ := hV
  obtain ⟨ae, ce, rfl, -, -⟩ := h1.open
  obtain ⟨an, cn, rfl, -, -⟩ := h2.open
  obtain ⟨aa, ca, rfl, -, -⟩ := h3.open
  obtain ⟨R1, hR1⟩ : ∃ R, restrictW u t.sys.alphabet = R := ⟨_, rfl⟩
  obtain ⟨R2, hR2⟩ : ∃ R, restrictW u t.alphabet = R := ⟨_, rfl⟩
  have hz1 : R1.size ≤ 1048576 := by have := restrictW_size u t.sys.alphabet; rw [hR1] at this; omega
  have hz2 : R2.size ≤ 1048576 := by have := restrictW_size u t.alphabet; rw [hR2] at this; omega
  obtain ⟨ht, hht⟩ : ∃ b, hasTrace t.sys R1 = b := ⟨_, rfl⟩
  obtain ⟨pb, hpb⟩ : ∃ b, prefB s R2 = b := ⟨_, rfl⟩
  obtain ⟨bp, hbp⟩ : ∃ b, breaks t.prop u = b := ⟨_, rfl⟩
  have CR1 := Lib.hid (show ∀ w', Calls Tryz.prog 85 #[.string u, .int .i64 t.sys.alphabet] w' (Grows (.string R1) w') from fun w' => by have := RestrictWord_c u t.sys.alphabet w' hu; rwa [hR1] at this)
  have CR2 := Lib.hid (show ∀ w', Calls Tryz.prog 85 #[.string u, .int .i64 t.alphabet] w' (Grows (.string R2) w') from fun w' => by have := RestrictWord_c u t.alphabet w' hu; rwa [hR2] at this)
  have CH := Lib.hid (show ∀ w', Ext w w' → Calls Tryz.prog 84 #[.agg #[.int .i64 t.sys.alphabet, .int .i64 t.sys.states, .slice ae t.sys.edges.length ce], .string R1] w' (Grows (.bool ht) w') from fun w' h => by have := HasTrace_c _ t.sys R1 w' ⟨_, rfl, h1.mono h⟩ hz1 (HDb.out.ext h); rwa [hht] at this)
  have CP := Lib.hid (show ∀ w', Calls Tryz.prog 86 #[.string s, .string R2] w' (Same (.bool pb) w') from fun w' => by have := agPrefix_c s R2 w' hs hz2; rwa [hpb] at this)
  have CB := Lib.hid (show ∀ w', Ext w w' → Calls Tryz.prog 87 #[.agg #[.int .i64 t.prop.alphabet, .slice an t.prop.next.length cn, .slice aa t.prop.accept.length ca], .string u] w' (Grows (.bool bp) w') from fun w' h => by have := BreaksProperty_c _ t.prop u w' ⟨_, _, rfl, h2.mono h, h3.mono h⟩ hu; rwa [hbp] at this)
  have HV : Hid (witB t s u = (ht && pb && bp)) := Lib.hid (by unfold witB; rw [hR1, hR2, hht, hpb, hbp])
  rw [HV.out]
  have he := Ext.alloc w (.cells #[.int .i64 t.sys.alphabet, .int .i64 t.sys.states, .slice ae t.sys.edges.length ce, .int .i64 t.prop.alphabet, .slice an t.prop.next.length cn, .slice aa t.prop.accept.length ca, .int .i64 t.alphabet] 31)
  have b3 := Blk.new w #[.int .i64 t.sys.alphabet, .int .i64 t.sys.states, .slice ae t.sys.edges.length ce, .int .i64 t.prop.alphabet, .slice an t.prop.next.length cn, .slice aa t.prop.accept.length ca, .int .i64 t.alphabet] 31
  clear h1 h2 h3 hT hR1 hR2 hht hpb hbp hz1 hz2
  go_enter Tryz.func30, Tryz.ntmps30
  go_wp2_with fail
  generalize w.alloc (.cells #[.int .i64 t.sys.alphabet, .int .i64 t.sys.states, .slice ae t.sys.edges.length ce, .int .i64 t.prop.alphabet, .slice an t.prop.next.length cn, .slice aa t.prop.accept.length ca, .int .i64 t.alphabet] 31) = wo at he b3 ⊢
  have D0 := fun d os => cell_regrown (b3.cell 0 rfl) d os; have D1 := fun d os => cell_regrown (b3.cell 1 rfl) d os; have D2 := fun d os => cell_regrown (b3.cell 2 rfl) d os; have D3 := fun d os => cell_regrown (b3.cell 3 rfl) d os; have D4 := fun d os => cell_regrown (b3.cell 4 rfl) d os; have D5 := fun d os => cell_regrown (b3.cell 5 rfl) d os; have D6 := fun d os => cell_regrown (b3.cell 6 rfl) d os
  have HTR := Lib.hid (show ∀ d os, Ext w (Go.Sort.grow (redrawn wo d) os) from fun d os => he.trans (below_regrown wo d os))
  cases ht with
  | false =>
    refine wp_region_quiet_below (by kernel_rfl) (by kernel_rfl) ?_
    repeat (go_big_quiet_step ((first | (go_at_call 85; with_reducible exact Grows.quiet (CR1.out _)) | (go_at_call 84; exact Grows.quiet (CH.out _ (HTR.out _ _))))))
    refine wpQuiet_nil ?_
    intro _ hw'
    obtain ⟨⟨dq, osq⟩, hw''⟩ := hw'
    subst hw''
    have hq2 : Ext wo (Go.Sort.grow (redrawn wo dq) osq) := below_regrown wo dq osq
    generalize Go.Sort.grow (redrawn wo dq) osq = wq at hq2 ⊢
    go_wp2_with fail
    go_ret
    exact Grows.mk rfl (he.trans hq2)
  | true =>
    cases pb with
    | false =>
      refine wp_region_quiet_below (by kernel_rfl) (by kernel_rfl) ?_
      repeat (go_big_quiet_step ((first | (go_at_call 85; with_reducible exact Grows.quiet (CR1.out _)) | (go_at_call 85; with_reducible exact Grows.quiet (CR2.out _)) | (go_at_call 84; exact Grows.quiet (CH.out _ (HTR.out _ _))) | (go_at_call 86; exact Same.quiet (CP.out _)))))
      refine wpQuiet_nil ?_
      intro _ hw'
      obtain ⟨⟨dq, osq⟩, hw''⟩ := hw'
      subst hw''
      have hq2 : Ext wo (Go.Sort.grow (redrawn wo dq) osq) := below_regrown wo dq osq
      generalize Go.Sort.grow (redrawn wo dq) osq = wq at hq2 ⊢
      go_wp2_with fail
      go_ret
      exact Grows.mk rfl (he.trans hq2)
    | true =>
      refine wp_region_quiet_below (by kernel_rfl) (by kernel_rfl) ?_
      repeat (go_big_quiet_step ((first | (go_at_call 85; with_reducible exact Grows.quiet (CR1.out _)) | (go_at_call 85; with_reducible exact Grows.quiet (CR2.out _)) | (go_at_call 84; exact Grows.quiet (CH.out _ (HTR.out _ _))) | (go_at_call 86; exact Same.quiet (CP.out _)) | (go_at_call 87; exact Grows.quiet (CB.out _ (HTR.out _ _))))))
      refine wpQuiet_nil ?_
      intro _ hw'
      obtain ⟨⟨dq, osq⟩, hw''⟩ := hw'
      subst hw''
      have hq2 : Ext wo (Go.Sort.grow (redrawn wo dq) osq) := below_regrown wo dq osq
      generalize Go.Sort.grow (redrawn wo dq) osq = wq at hq2 ⊢
      go_wp2_with fail
      go_ret
      exact Grows.mk rfl (he.trans hq2)

/-! ### What a first witness is -/
theorem uw_some {t : Task} {s : ByteArray} {u : List Int} (hs205 : s.size ≤ 206) (h : uwOf t s = some u) :
    taskValid t = true ∧ wordIn s t.alphabet = true ∧ WitW t (chars s) u ∧ u.length ≤ 50000 ∧ ∀ v, WitW t (chars s) v → slexLe u v := by
  rcases uw_cases t s with ⟨-, e⟩ | ⟨h1, h2⟩
  · rw [h] at e; cases e
  · rw [h] at h2
    have h2' := h2
    obtain ⟨hw, hmin⟩ := h2
    simp only [Bool.and_eq_true] at h1
    obtain ⟨hv, hp, hal⟩ := taskValid_facts h1.1
    obtain ⟨a0, a63⟩ := alpha_facts hal
    obtain ⟨s0, s63⟩ := sys_alpha hv
    refine ⟨h1.1, h1.2, hw, ?_, hmin⟩
    have hAL63 : ((t.sys.alphabet.toNat ||| t.alphabet.toNat : Nat) : Int) ≤ 63 := by
      have : t.sys.alphabet.toNat ||| t.alphabet.toNat < 2 ^ 6 := Nat.or_lt_two_pow (by omega) (by omega)
      omega
    have hcl : (chars s).length ≤ 206 := by rw [chars_len]; exact hs205
    have h3 : FirstIs (Wins (witN t.sys t.prop t.alphabet (chars s)) (letters ((t.sys.alphabet.toNat ||| t.alphabet.toNat : Nat) : Int)) [0] (witG t.prop)) (some u) := h2'.congr fun v => by
      rw [wit_iff hv hp hal (by omega) (fun l => by rw [letters_iff l hAL63, bit_or, bit_toNat s0, bit_toNat a0, Bool.or_eq_true]) v, broken_wit h1.1 (by omega)]
    have k1 := sys_states hv
    have k2 := autoValid_facts hp
    have h4 := first_short (B := ((chars s).length + 1) * t.sys.states.toNat * t.prop.next.length) (fun x hx => by
      rw [List.mem_singleton] at hx; subst hx
      exact Nat.mul_pos (Nat.mul_pos (by omega) (by omega)) (by omega)) (fun k l hk => wit_lt hv hp t.alphabet (chars s) hk l) h3
    have h5 : ((chars s).length + 1) * t.sys.states.toNat ≤ 207 * 16 := Nat.mul_le_mul (by omega) (by omega)
    have h6 := Nat.mul_le_mul h5 k2.2.2.2.1
    omega
theorem wit_letters {t : Task} (ht : taskValid t = true) {u : List Int} (h : ∀ x ∈ u, inT t x) : ∀ x ∈ u, 0 ≤ x ∧ x < 6 := fun x hx => by
  obtain ⟨hs, hp, hal⟩ := taskValid_facts ht
  rcases h x hx with h | h
  · exact bit_range (sys_alpha hs).2 h
  · exact bit_range (alpha_facts hal).2 h
/-- The letters of a task. -/
theorem task_letters {t : Task} (ht : taskValid t = true) : ∃ al : Int, bits .or .i64 t.sys.alphabet t.alphabet = al ∧ 0 ≤ al ∧ al ≤ 63 ∧ ∀ l, bit al l = true ↔ inT t l := by
  obtain ⟨hs, -, hal⟩ := taskValid_facts ht
  obtain ⟨a0, a63⟩ := alpha_facts hal
  obtain ⟨s0, s63⟩ := sys_alpha hs
  refine ⟨((t.sys.alphabet.toNat ||| t.alphabet.toNat : Nat) : Int), ?_, by omega, ?_, fun l => by rw [bit_or, bit_toNat s0, bit_toNat a0, Bool.or_eq_true]; exact Iff.rfl⟩
  · have h5 := i64_or_nat t.sys.alphabet.toNat t.alphabet.toNat (by omega) (by omega)
    rwa [Int.toNat_of_nonneg s0, Int.toNat_of_nonneg a0] at h5
  · have : t.sys.alphabet.toNat ||| t.alphabet.toNat < 2 ^ 6 := Nat.or_lt_two_pow (by omega) (by omega)
    omega
theorem uw_invalid {t : Task} {s : ByteArray} (h : (taskValid t && wordIn s t.alphabet) = false) : uwOf t s = none ∧ safeWord t s = false := by
  constructor
  · rcases uw_cases t s with ⟨-, e⟩ | ⟨h1, -⟩
    · exact e
    · rw [h] at h1; cases h1
  · cases hs : safeWord t s with
    | false => rfl
    | true =>
      obtain ⟨h1, h2, -⟩ := safeWord_iff.1 hs
      rw [h1, h2] at h; cases h
end Go.Proofs.YtloampfmlhmlhaaGreatDoor
