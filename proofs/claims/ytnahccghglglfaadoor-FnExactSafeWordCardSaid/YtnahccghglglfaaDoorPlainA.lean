/- Plain laws of checks: violations are traces, the order of parts, one part for all, assumptions under themselves. -/
import Derived.Test.YtnahccghglglfaaDoorPlain9
namespace Go.Proofs.YtnahccghglglfaaDoor
set_option linter.unusedSimpArgs false
set_option linter.unusedVariables false
open Go

/-! ### Words and texts -/
theorem chars_wtext {u : List Int} (h : ∀ x ∈ u, 0 ≤ x ∧ x < 6) : chars (wtext u) = u := by
  unfold chars wtext
  simp only [List.map_map]
  have : ∀ x ∈ u, ((fun b : UInt8 => (b.toNat : Int) - 97) ∘ lb) x = x := by
    intro x hx
    obtain ⟨h0, h6⟩ := h x hx
    have : x = 0 ∨ x = 1 ∨ x = 2 ∨ x = 3 ∨ x = 4 ∨ x = 5 := by omega
    rcases this with rfl | rfl | rfl | rfl | rfl | rfl <;> rfl
  rw [List.map_congr_left this, List.map_id'']
  intro x; rfl
theorem size_wtext (u : List Int) : (wtext u).size = u.length := by simp [wtext, ByteArray.size]
theorem wordIn_wtext {u : List Int} {a : Int} (ha : 0 ≤ a) (ha2 : a ≤ 63) (hu : ∀ x ∈ u, bit a x = true) (hl : u.length ≤ 50000) : wordIn (wtext u) a = true := by
  have h6 : ∀ x ∈ u, 0 ≤ x ∧ x < 6 := fun x hx => bit_range ha2 (hu x hx)
  simp only [wordIn, isAlpha, Bool.and_eq_true, decide_eq_true_eq, size_wtext, chars_wtext h6, List.all_eq_true]
  exact ⟨⟨⟨ha, ha2⟩, hl⟩, hu⟩

/-! ### Traces -/
/-- The states behind a word. -/
def setAfter (s : Sys) (v : List Int) : Nat := v.foldl (stepM s) 1
def hasTrace (s : Sys) (w : ByteArray) : Bool := sysValid s && wordIn w s.alphabet && decide (setAfter s (chars w) ≠ 0)
theorem ch_bit {s : Sys} (h : sysValid s = true) {l : Int} (hb : bit s.alphabet l = true) (q r : Nat) : r ∈ sysCh s q l ↔ ∃ e ∈ s.edges, e.letter = l ∧ e.src.toNat = q ∧ e.dst.toNat = r := by
  unfold sysCh
  rw [if_pos hb]
  simp only [List.mem_map, List.mem_filter, Bool.and_eq_true, decide_eq_true_eq]
  constructor
  · rintro ⟨e, ⟨he, h1, h2⟩, h3⟩; exact ⟨e, he, h2, by omega, h3⟩
  · rintro ⟨e, he, h1, h2, h3⟩; have := (edges_in h he).2.2.1; exact ⟨e, ⟨he, by omega, h1⟩, h3⟩
theorem foldl_step_bit {s : Sys} (h : sysValid s = true) (v : List Int) (hv : ∀ x ∈ v, bit s.alphabet x = true) : ∀ set r, (v.foldl (stepM s) set).testBit r = true ↔ ∃ q, set.testBit q = true ∧ Leads (sysCh s) q v r := by
  induction v with
  | nil =>
    intro set r
    simp only [List.foldl_nil, Leads]
    exact ⟨fun h => ⟨r, h, rfl⟩, fun ⟨q, h, e⟩ => e ▸ h⟩
  | cons l v ih =>
    intro set r
    rw [List.foldl_cons, ih (fun x hx => hv x (by simp [hx]))]
    simp only [Leads, ch_bit h (hv l (by simp)), stepM_bit]
    constructor
    · rintro ⟨q, ⟨e, he, h1, h2, h3⟩, h4⟩; exact ⟨_, h2, q, ⟨e, he, h1, rfl, h3⟩, h4⟩
    · rintro ⟨q, hq, b, ⟨e, he, h1, rfl, h3⟩, h4⟩; exact ⟨b, ⟨e, he, h1, hq, h3⟩, h4⟩
theorem nat_ne_zero_bit {n : Nat} : n ≠ 0 ↔ ∃ i, n.testBit i = true := by
  constructor
  · intro h; obtain ⟨i, hi⟩ := Nat.exists_testBit_of_ne_zero h; exact ⟨i, hi⟩
  · rintro ⟨i, hi⟩ rfl; simp at hi
theorem setAfter_ne {s : Sys} (h : sysValid s = true) {v : List Int} (hv : ∀ x ∈ v, bit s.alphabet x = true) : setAfter s v ≠ 0 ↔ TraceV s v := by
  rw [nat_ne_zero_bit]
  unfold setAfter TraceV
  simp only [foldl_step_bit h v hv]
  constructor
  · rintro ⟨i, q, hq, h1⟩
    obtain rfl : q = 0 := by
      rw [show (1 : Nat) = 2 ^ 0 from rfl, Nat.testBit_two_pow] at hq
      simp at hq; omega
    exact ⟨i, h1⟩
  · rintro ⟨i, h1⟩; exact ⟨i, 0, by decide, h1⟩
theorem leads_filter (s : Sys) (v : List Int) : ∀ q r, Leads (sysCh s) q (v.filter (bit s.alphabet)) r ↔ Leads (sysCh s) q v r := by
  induction v with
  | nil => intro q r; exact Iff.rfl
  | cons l v ih =>
    intro q r
    by_cases hb : bit s.alphabet l = true
    · rw [List.filter_cons_of_pos hb]; simp only [Leads, ih]
    · rw [List.filter_cons_of_neg hb, ih]
      have : sysCh s q l = [q] := by unfold sysCh; rw [if_neg hb]
      simp only [Leads, this, List.mem_singleton, exists_eq_left]
theorem trace_filter (s : Sys) (v : List Int) : TraceV s (v.filter (bit s.alphabet)) ↔ TraceV s v := by unfold TraceV; simp only [leads_filter]
theorem trace_take {s : Sys} {v : List Int} (h : TraceV s v) (k : Nat) : TraceV s (v.take k) := by
  obtain ⟨q, h⟩ := h
  rw [← List.take_append_drop k v, leads_append] at h
  exact ⟨_, h.choose_spec.1⟩
theorem hasTrace_iff {s : Sys} {w : ByteArray} : hasTrace s w = true ↔ sysValid s = true ∧ wordIn w s.alphabet = true ∧ TraceV s (chars w) := by
  unfold hasTrace
  simp only [Bool.and_eq_true, decide_eq_true_eq, and_assoc]
  constructor
  · rintro ⟨h1, h2, h3⟩
    refine ⟨h1, h2, (setAfter_ne h1 fun x hx => ?_).1 h3⟩
    simp only [wordIn, Bool.and_eq_true, List.all_eq_true] at h2; exact h2.2 x hx
  · rintro ⟨h1, h2, h3⟩
    refine ⟨h1, h2, (setAfter_ne h1 fun x hx => ?_).2 h3⟩
    simp only [wordIn, Bool.and_eq_true, List.all_eq_true] at h2; exact h2.2 x hx
theorem hasTrace_restrict {s : Sys} {w : ByteArray} (hs : sysValid s = true) (hw : w.size ≤ 50000) : hasTrace s (restrict w s.alphabet) = true ↔ TraceV s (chars w) := by
  have ha : 0 ≤ s.alphabet ∧ s.alphabet ≤ 63 := by simp only [sysValid, isAlpha, Bool.and_eq_true, decide_eq_true_eq] at hs; omega
  rw [hasTrace_iff, chars_restrict, trace_filter]
  exact ⟨fun h => h.2.2, fun h => ⟨hs, wordIn_restrict ha.1 ha.2 hw, h⟩⟩

/-! ### Violations of parts -/
/-- How long a first violation may be. -/
theorem broken_short {parts : List Sys} {a p : Auto} (hv : ∀ s ∈ parts, sysValid s = true) (ha : autoValid a = true) (hp : autoValid p = true) {u : List Int} (h : FirstIs (BrokenW parts a p) (some u)) :
    u.length < (partSizes parts).prod * a.next.length * p.next.length := by
  have fa := autoValid_facts ha
  have fp := autoValid_facts hp
  have hpos : 0 < (partSizes parts).prod := by
    have : ∀ l : List Sys, (∀ s ∈ l, sysValid s = true) → 0 < (partSizes l).prod := by
      intro l
      induction l with
      | nil => intro _; decide
      | cons s l ih => intro hl; simp only [partSizes, List.map_cons, List.prod_cons]; exact Nat.mul_pos (sys_states (hl s (by simp))).1 (ih fun x hx => hl x (by simp [hx]))
    exact this parts hv
  exact first_short (B := (partSizes parts).prod * a.next.length * p.next.length) (fun s hs => by
    rw [List.mem_singleton] at hs; subst hs
    exact Nat.mul_pos (Nat.mul_pos hpos (by omega)) (by omega)) (fun k l _ => brokenN_lt hv (TabOk.valid ha) (TabOk.valid hp) k l) h
theorem parts_4096 {parts : List Sys} (h : areParts parts = true) : (partSizes parts).prod ≤ 4096 := (prod_4096 h).1
theorem pv_cases (parts : List Sys) (p : Auto) :
    ((areParts parts && autoValid p) = false ∧ pvOf parts p = none) ∨ ((areParts parts && autoValid p) = true ∧ FirstIs (BrokenW parts trivAuto p) (pvOf parts p)) := by
  have h := pv_spec parts p
  unfold PV at h
  by_cases hc : (areParts parts && autoValid p) = true
  · rw [if_pos hc] at h; exact .inr ⟨hc, h⟩
  · rw [if_neg hc] at h; exact .inl ⟨by simpa using hc, h⟩
/-- A violation of parts, said of its text. -/
structure PVSome (parts : List Sys) (p : Auto) (w : ByteArray) : Prop where
  okp : areParts parts = true
  prop : autoValid p = true
  size : w.size < (partSizes parts).prod * p.next.length
  size5 : w.size ≤ 50000
  word : wordIn w (partsAlphabet parts) = true
  valid : wordValid w = true
  trace : ∀ s ∈ parts, TraceV s (chars w)
  brk : accepts p (run p 0 (chars w)) = false
theorem triv_accepts (v : List Int) : accepts trivAuto (run trivAuto 0 v) = true := by
  have : run trivAuto 0 v = 0 := by
    have : ∀ (v : List Int) q, run trivAuto q v = q := by
      intro v
      induction v with
      | nil => intro q; rfl
      | cons l v ih => intro q; show run trivAuto (step trivAuto q l) v = q; rw [triv_step, ih]
    exact this v 0
  rw [this]; rfl
theorem inAll_triv {parts : List Sys} {l : Int} : inAll parts trivAuto l ↔ ∃ s ∈ parts, bit s.alphabet l = true := by
  unfold inAll
  have : bit trivAuto.alphabet l = false := by simp [trivAuto, bit]
  rw [this]; simp
theorem partsAlphabet_facts {parts : List Sys} (h : areParts parts = true) : 0 ≤ partsAlphabet parts ∧ partsAlphabet parts ≤ 63 ∧ ∀ l, bit (partsAlphabet parts) l = true ↔ ∃ s ∈ parts, bit s.alphabet l = true := by
  have e : partsAlphabet parts = (orTo parts parts.length : Nat) := by unfold partsAlphabet; rw [if_pos h]
  have hv := areParts_all h
  have h1 := orTo_lt hv parts.length
  refine ⟨by omega, by omega, fun l => ?_⟩
  rw [e, orTo_bit hv, List.take_length]
theorem wordIn_more {w : ByteArray} {a b : Int} (hb : 0 ≤ b) (hb2 : b ≤ 63) (h : wordIn w a = true) (hab : ∀ l, bit a l = true → bit b l = true) : wordIn w b = true := by
  simp only [wordIn, isAlpha, Bool.and_eq_true, decide_eq_true_eq, List.all_eq_true] at h ⊢
  exact ⟨⟨⟨hb, hb2⟩, h.1.2⟩, fun x hx => hab x (h.2 x hx)⟩
theorem pv_some {parts : List Sys} {p : Auto} {u : List Int} (h : pvOf parts p = some u) : PVSome parts p (wtext u) ∧ chars (wtext u) = u := by
  rcases pv_cases parts p with ⟨_, h1⟩ | ⟨hc, h1⟩
  · rw [h1] at h; cases h
  rw [h] at h1
  rw [Bool.and_eq_true] at hc
  have hv := areParts_all hc.1
  obtain ⟨g0, g1, g2⟩ := partsAlphabet_facts hc.1
  have h2 := (brokenW_iff hv trivAuto_valid hc.2 u).1 h1.1
  have h3 := broken_short hv trivAuto_valid hc.2 h1
  rw [show trivAuto.next.length = 1 from rfl, Nat.mul_one] at h3
  have h4 := parts_4096 hc.1
  have h5 : (partSizes parts).prod * p.next.length ≤ 4096 * 12 := Nat.mul_le_mul h4 (autoValid_facts hc.2).2.2.2.1
  have hin : ∀ x ∈ u, bit (partsAlphabet parts) x = true := fun x hx => (g2 x).2 (inAll_triv.1 (h2.1 x hx))
  have e := chars_wtext (u := u) fun x hx => bit_range g1 (hin x hx)
  have hw := wordIn_wtext g0 g1 hin (by omega)
  exact ⟨⟨hc.1, hc.2, by rw [size_wtext]; exact h3, by rw [size_wtext]; omega, hw,
    wordIn_more (a := partsAlphabet parts) (by omega) (by omega) hw fun l hl => by
      have := bit_range g1 hl; rw [bit63]; simp; omega, by rw [e]; exact h2.2.1, by rw [e]; exact h2.2.2.2⟩, e⟩
theorem PVSome.breaks {parts : List Sys} {p : Auto} {w : ByteArray} (h : PVSome parts p w) : breaks p w = true := by
  unfold Go.Proofs.YtnahccghglglfaaDoor.breaks; rw [h.prop, h.valid, h.brk]; rfl
theorem PVSome.hasTrace {s : Sys} {p : Auto} {w : ByteArray} (h : PVSome [s] p w) : hasTrace s w = true := by
  have h1 := h.okp
  simp only [areParts, List.all_cons, List.all_nil, Bool.and_true, Bool.and_eq_true] at h1
  have e : partsAlphabet [s] = s.alphabet := by
    unfold partsAlphabet; rw [if_pos h.okp]
    have : 0 ≤ s.alphabet := by have h2 := h1.2; simp only [sysValid, isAlpha, Bool.and_eq_true, decide_eq_true_eq] at h2; omega
    simp [orTo]; omega
  have h3 := h.word; rw [e] at h3
  exact hasTrace_iff.2 ⟨h1.2, h3, h.trace s (by simp)⟩
theorem one_areParts (s : Sys) : areParts [s] = sysValid s := by simp [areParts]
theorem keepsB_valid {parts : List Sys} {p : Auto} (h : areParts parts = true) (hp : autoValid p = true) : keepsB parts p = !(pvOf parts p).isSome := by unfold keepsB; rw [h, hp]; rfl
theorem keepsB_wrong {parts : List Sys} {p : Auto} (h : (areParts parts && autoValid p) = false) : keepsB parts p = false ∧ pvOf parts p = none := by
  refine ⟨by unfold keepsB; rw [h]; rfl, ?_⟩
  rcases pv_cases parts p with h1 | h1
  · exact h1.2
  · rw [h] at h1; cases h1.1
/-- A set of words that break a property along the parts. -/
theorem pv_isSome {parts : List Sys} {p : Auto} (h : areParts parts = true) (hp : autoValid p = true) : (pvOf parts p).isSome = true ↔ ∃ v, BrokenW parts trivAuto p v := by
  rcases pv_cases parts p with h1 | ⟨_, h1⟩
  · rw [h, hp] at h1; cases h1.1
  · cases hr : pvOf parts p with
    | none => rw [hr] at h1; exact ⟨fun h => (by cases h), fun ⟨v, hv⟩ => absurd hv (h1 v)⟩
    | some u => rw [hr] at h1; exact ⟨fun _ => ⟨u, h1.1⟩, fun _ => rfl⟩

/-! ### The order of parts -/
theorem pv_perm {parts parts' : List Sys} {p : Auto} (hm : ∀ s, s ∈ parts ↔ s ∈ parts') (hl : areParts parts = areParts parts') : pvOf parts p = pvOf parts' p := by
  rcases pv_cases parts p with ⟨h1, h2⟩ | ⟨h1, h2⟩
  · rw [hl] at h1; rw [h2, (keepsB_wrong h1).2]
  · have h1' := h1
    rw [hl] at h1'
    rcases pv_cases parts' p with ⟨h3, _⟩ | ⟨_, h4⟩
    · rw [h3] at h1'; cases h1'
    · rw [Bool.and_eq_true] at h1 h1'
      refine h2.unique (h4.congr fun v => ?_)
      rw [brokenW_iff (areParts_all h1'.1) trivAuto_valid h1.2, brokenW_iff (areParts_all h1.1) trivAuto_valid h1.2]
      unfold inAll
      simp only [hm]
theorem areParts_reverse (l : List Sys) : areParts l.reverse = areParts l := by
  unfold areParts; rw [List.length_reverse, List.all_reverse]
theorem pv_reverse (l : List Sys) (p : Auto) : pvOf l.reverse p = pvOf l p := pv_perm (fun s => List.mem_reverse) (areParts_reverse l)

/-! ### One part for all -/
theorem run_drop (x : Auto) (f : Int → Bool) (ls : List Int) (h : ∀ l ∈ ls, f l = false → bit x.alphabet l = false) (q : Nat) : run x q (ls.filter f) = run x q ls := by
  induction ls generalizing q with
  | nil => rfl
  | cons l ls ih =>
    by_cases hf : f l = true
    · rw [List.filter_cons_of_pos hf]; exact ih (fun y hy => h y (by simp [hy])) _
    · rw [List.filter_cons_of_neg hf, ih fun y hy => h y (by simp [hy])]
      show run x q ls = run x (step x q l) ls
      have := h l (by simp) (by simpa using hf)
      unfold step
      rw [if_neg (by rw [this]; simp)]
theorem parts_one {parts : List Sys} {s : Sys} {p : Auto} (h : areParts parts = true) (hs : s ∈ parts) (hin : ∀ l, bit (partsAlphabet parts) l = true → bit p.alphabet l = true → bit s.alphabet l = true) (hk : keepsB [s] p = true) : keepsB parts p = true := by
  have hk' := hk
  unfold keepsB at hk
  simp only [Bool.and_eq_true, Bool.not_eq_true'] at hk
  obtain ⟨⟨k1, k2⟩, k3⟩ := hk
  rw [keepsB_valid h k2]
  by_cases hv : (pvOf parts p).isSome = true
  · obtain ⟨v, hv⟩ := (pv_isSome h k2).1 hv
    obtain ⟨h1, h2, h3, h4⟩ := (brokenW_iff (areParts_all h) trivAuto_valid k2 v).1 hv
    obtain ⟨g0, g1, g2⟩ := partsAlphabet_facts h
    have : BrokenW [s] trivAuto p (v.filter (bit s.alphabet)) := by
      rw [brokenW_iff (areParts_all k1) trivAuto_valid k2]
      refine ⟨fun x hx => inAll_triv.2 ⟨s, by simp, (List.mem_filter.1 hx).2⟩, fun t ht => ?_, triv_accepts _, ?_⟩
      · rw [List.mem_singleton] at ht; subst ht; rw [trace_filter]; exact h2 _ hs
      · rw [run_drop p (bit s.alphabet) v fun l hl hf => ?_]
        · exact h4
        · cases hb : bit p.alphabet l with
          | false => rfl
          | true => rw [hin l ((g2 l).2 (inAll_triv.1 (h1 l hl))) hb] at hf; cases hf
    rw [(pv_isSome k1 k2).2 ⟨_, this⟩] at k3; cases k3
  · simpa using hv

/-! ### Assumptions -/
theorem vu_cases (s : Sys) (a p : Auto) :
    ((sysValid s && autoValid a && autoValid p) = false ∧ vuOf s a p = none) ∨ ((sysValid s && autoValid a && autoValid p) = true ∧ FirstIs (BrokenW [s] a p) (vuOf s a p)) := by
  have h := vu_spec s a p
  unfold VU at h
  by_cases hc : (sysValid s && autoValid a && autoValid p) = true
  · rw [if_pos hc] at h; exact .inr ⟨hc, h⟩
  · rw [if_neg hc] at h; exact .inl ⟨by simpa using hc, h⟩
theorem under_itself {s : Sys} {a : Auto} (hs : sysValid s = true) (ha : autoValid a = true) : underB s a a = true := by
  unfold underB
  rw [hs, ha]
  rcases vu_cases s a a with ⟨h, _⟩ | ⟨_, h⟩
  · rw [hs, ha] at h; cases h
  · cases hr : vuOf s a a with
    | none => rfl
    | some u =>
      rw [hr] at h
      obtain ⟨-, -, h1, h2⟩ := (brokenW_iff (by simpa using hs) ha ha u).1 h.1
      rw [h1] at h2; cases h2
structure VUSome (s : Sys) (a p : Auto) (w : ByteArray) : Prop where
  sys : sysValid s = true
  assum : autoValid a = true
  prop : autoValid p = true
  size5 : w.size ≤ 50000
  word : wordIn w (allLetters [s] a) = true
  valid : wordValid w = true
  trace : TraceV s (chars w)
  acc : accepts a (run a 0 (chars w)) = true
  brk : accepts p (run p 0 (chars w)) = false
theorem vu_some {s : Sys} {a p : Auto} {u : List Int} (h : vuOf s a p = some u) : VUSome s a p (wtext u) ∧ chars (wtext u) = u := by
  rcases vu_cases s a p with ⟨_, h1⟩ | ⟨hc, h1⟩
  · rw [h1] at h; cases h
  rw [h] at h1
  simp only [Bool.and_eq_true] at hc
  have hv : ∀ x ∈ [s], sysValid x = true := by simpa using hc.1.1
  obtain ⟨g1, g2⟩ := allLetters_facts hv hc.1.2
  have h2 := (brokenW_iff hv hc.1.2 hc.2 u).1 h1.1
  have h3 := broken_short hv hc.1.2 hc.2 h1
  have h4 : (partSizes [s]).prod ≤ 16 := by simp [partSizes]; have := sys_states hc.1.1; omega
  have h5 : (partSizes [s]).prod * a.next.length * p.next.length ≤ 16 * 12 * 12 := Nat.mul_le_mul (Nat.mul_le_mul h4 (autoValid_facts hc.1.2).2.2.2.1) (autoValid_facts hc.2).2.2.2.1
  have hin : ∀ x ∈ u, bit (allLetters [s] a) x = true := fun x hx => (g2 x).2 (h2.1 x hx)
  have g0 : 0 ≤ allLetters [s] a := by unfold allLetters; omega
  have e := chars_wtext (u := u) fun x hx => bit_range g1 (hin x hx)
  have hw := wordIn_wtext g0 g1 hin (by omega)
  exact ⟨⟨hc.1.1, hc.1.2, hc.2, by rw [size_wtext]; omega, hw, wordIn_more (a := allLetters [s] a) (by omega) (by omega) hw fun l hl => by
      have := bit_range g1 hl; rw [bit63]; simp; omega, by rw [e]; exact h2.2.1 s (by simp), by rw [e]; exact h2.2.2.1, by rw [e]; exact h2.2.2.2⟩, e⟩
theorem VUSome.hasTrace {s : Sys} {a p : Auto} {w : ByteArray} (h : VUSome s a p w) : Go.Proofs.YtnahccghglglfaaDoor.hasTrace s (restrict w s.alphabet) = true := (hasTrace_restrict h.sys h.size5).2 h.trace
theorem VUSome.breaks {s : Sys} {a p : Auto} {w : ByteArray} (h : VUSome s a p w) : Go.Proofs.YtnahccghglglfaaDoor.breaks p w = true ∧ Go.Proofs.YtnahccghglglfaaDoor.breaks a w = false := by
  unfold Go.Proofs.YtnahccghglglfaaDoor.breaks; rw [h.prop, h.valid, h.brk, h.assum, h.acc]; exact ⟨rfl, rfl⟩
end Go.Proofs.YtnahccghglglfaaDoor
