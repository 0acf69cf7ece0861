/- Merged: Plain9, PlainA, PlainB. -/
import Derived.Test.YtccklliljdembaaDet

namespace Go.Proofs.Ytccklliljdembaa
set_option linter.unusedSimpArgs false
set_option linter.unusedVariables false
open Go

theorem div_pair {o n q : Nat} (hq : q < n) : (o * n + q) / n = o := by rw [Nat.mul_comm, Nat.mul_add_div (by omega), Nat.div_eq_of_lt hq, Nat.add_zero]
theorem mod_pair {o n q : Nat} (hq : q < n) : (o * n + q) % n = q := by rw [Nat.mul_comm, Nat.mul_add_mod, Nat.mod_eq_of_lt hq]

/-- Two nodes in one number. -/
theorem leads_prod {N N1 N2 : Nat → Int → List Nat} {n : Nat} (hn : 0 < n) (h : ∀ node l r, r ∈ N node l ↔ ∃ o ∈ N1 (node / n) l, ∃ q ∈ N2 (node % n) l, r = o * n + q)
    (hlt : ∀ k l q, k < n → q ∈ N2 k l → q < n) (v : List Int) : ∀ node r, Leads N node v r ↔ Leads N1 (node / n) v (r / n) ∧ Leads N2 (node % n) v (r % n) := by
  induction v with
  | nil =>
    intro node r
    simp only [Leads]
    constructor
    · rintro rfl; exact ⟨rfl, rfl⟩
    · rintro ⟨h1, h2⟩
      have e1 := Nat.div_add_mod node n
      have e2 := Nat.div_add_mod r n
      rw [h1, h2] at e1
      omega
  | cons l v ih =>
    intro node r
    simp only [Leads]
    constructor
    · rintro ⟨b, hb, hr⟩
      obtain ⟨o, ho, q, hq, rfl⟩ := (h node l b).1 hb
      have hqn := hlt _ _ _ (Nat.mod_lt _ hn) hq
      have hr' := (ih _ _).1 hr
      rw [div_pair hqn, mod_pair hqn] at hr'
      exact ⟨⟨o, ho, hr'.1⟩, q, hq, hr'.2⟩
    · rintro ⟨⟨o, ho, h1⟩, q, hq, h2⟩
      have hqn := hlt _ _ _ (Nat.mod_lt _ hn) hq
      refine ⟨o * n + q, (h node l _).2 ⟨o, ho, q, hq, rfl⟩, (ih _ _).2 ?_⟩
      rw [div_pair hqn, mod_pair hqn]
      exact ⟨h1, h2⟩
theorem leads_run (p : Auto) (v : List Int) : ∀ q r, Leads (fun q l => [step p q l]) q v r ↔ r = run p q v := by
  induction v with
  | nil => intro q r; simp only [Leads, run, List.foldl_nil]; exact eq_comm
  | cons l v ih =>
    intro q r
    simp only [Leads, List.mem_singleton, exists_eq_left]
    rw [ih]; rfl
theorem broken_leads' {parts : List Sys} {a p : Auto} (ha : AutoFit a) (hp : autoValid p = true) (v : List Int) (node r : Nat) :
    Leads (brokenN parts a p) node v r ↔ Leads (partsNext parts) (node / p.next.length / a.next.length) v (r / p.next.length / a.next.length) ∧ r / p.next.length % a.next.length = run a (node / p.next.length % a.next.length) v ∧ r % p.next.length = run p (node % p.next.length) v := by
  have fa : 0 ≤ a.alphabet ∧ a.alphabet ≤ 63 ∧ 1 ≤ a.next.length := ⟨ha.a0, ha.a63, ha.n1⟩
  have fp := autoValid_facts hp
  rw [leads_prod (N1 := fun m l => (partsNext parts (m / a.next.length) l).map fun x => x * a.next.length + step a (m % a.next.length) l) (N2 := fun q l => [step p q l]) (n := p.next.length) (by omega) (fun node l r => by
      unfold brokenN
      simp only [List.mem_map, List.mem_singleton]
      constructor
      · rintro ⟨x, hx, rfl⟩; exact ⟨_, ⟨x, hx, rfl⟩, _, rfl, by rw [Nat.add_mul]; omega⟩
      · rintro ⟨_, ⟨x, hx, rfl⟩, _, rfl, rfl⟩; exact ⟨x, hx, by rw [Nat.add_mul]; omega⟩) (fun k l q hk hq => by simp at hq; subst hq; exact step_lt hp hk l), leads_run,
    leads_prod (N1 := partsNext parts) (N2 := fun q l => [step a q l]) (n := a.next.length) (by omega) (fun node l r => by
      simp only [List.mem_map, List.mem_singleton]
      constructor
      · rintro ⟨x, hx, rfl⟩; exact ⟨x, hx, _, rfl, rfl⟩
      · rintro ⟨x, hx, _, rfl, rfl⟩; exact ⟨x, hx, rfl⟩) (fun k l q hk hq => by simp at hq; subst hq; exact ha.step_lt hk l), leads_run, and_assoc]
theorem broken_leads {parts : List Sys} {a p : Auto} (ha : autoValid a = true) (hp : autoValid p = true) (v : List Int) (node r : Nat) :
    Leads (brokenN parts a p) node v r ↔ Leads (partsNext parts) (node / p.next.length / a.next.length) v (r / p.next.length / a.next.length) ∧ r / p.next.length % a.next.length = run a (node / p.next.length % a.next.length) v ∧ r % p.next.length = run p (node % p.next.length) v := broken_leads' (AutoFit.of ha) hp v node r

/-- A word leads from the first state of a system somewhere, letters of others left alone. -/
def TraceV (s : Sys) (v : List Int) : Prop := ∃ q, Leads (sysCh s) 0 v q
theorem combos_snoc (ps : List (Nat × List Nat)) (p : Nat × List Nat) (out : List Nat) (r : Nat) : r ∈ combos (ps ++ [p]) out ↔ ∃ o ∈ combos ps out, ∃ q ∈ p.2, r = o * p.1 + q := by
  rw [combos_append]
  simp only [combos, List.mem_flatMap, List.mem_map]
  constructor
  · rintro ⟨o, ho, q, hq, rfl⟩; exact ⟨o, ho, q, hq, rfl⟩
  · rintro ⟨o, ho, q, hq, rfl⟩; exact ⟨o, ho, q, hq, rfl⟩
theorem sys_states {s : Sys} (h : sysValid s = true) : 1 ≤ s.states.toNat ∧ s.states.toNat ≤ 16 := by
  simp only [sysValid, Bool.and_eq_true, decide_eq_true_eq] at h; omega
theorem trace_go (rs : List Sys) (hv : ∀ s ∈ rs, sysValid s = true) (v : List Int) :
    (∃ r, Leads (fun node l => combos (partPairs rs.reverse (decode (partSizes rs.reverse) node) l) [0]) 0 v r) ↔ ∀ s ∈ rs, TraceV s v := by
  induction rs with
  | nil =>
    simp only [List.not_mem_nil, false_implies, implies_true, iff_true]
    refine ⟨0, ?_⟩
    induction v with
    | nil => rfl
    | cons l v ih => exact ⟨0, by simp [partPairs, combos], ih⟩
  | cons s rs ih =>
    have hs := sys_states (hv s (by simp))
    have e1 : partSizes (s :: rs).reverse = partSizes rs.reverse ++ [s.states.toNat] := by simp [partSizes]
    have key : ∀ node l r, r ∈ combos (partPairs (s :: rs).reverse (decode (partSizes (s :: rs).reverse) node) l) [0] ↔ ∃ o ∈ combos (partPairs rs.reverse (decode (partSizes rs.reverse) (node / s.states.toNat)) l) [0], ∃ q ∈ sysCh s (node % s.states.toNat) l, r = o * s.states.toNat + q := fun node l r => by
      rw [e1, decode_snoc, List.reverse_cons, partPairs_snoc _ _ _ _ _ (by rw [decode_len]; simp [partSizes]), combos_snoc]
    have hl := fun node r => leads_prod (N := fun node l => combos (partPairs (s :: rs).reverse (decode (partSizes (s :: rs).reverse) node) l) [0]) (N1 := fun node l => combos (partPairs rs.reverse (decode (partSizes rs.reverse) node) l) [0]) (N2 := sysCh s) (n := s.states.toNat) (by omega) key (fun k l q hk hq => ch_lt (hv s (by simp)) hk l q hq) v node r
    simp only [hl, Nat.zero_div, Nat.zero_mod, List.mem_cons, forall_eq_or_imp]
    rw [← ih fun x hx => hv x (by simp [hx])]
    constructor
    · rintro ⟨r, h1, h2⟩; exact ⟨⟨_, h2⟩, _, h1⟩
    · rintro ⟨⟨q, h2⟩, o, h1⟩
      have hq : q < s.states.toNat := by
        have : ∀ (v : List Int) k, k < s.states.toNat → ∀ r, Leads (sysCh s) k v r → r < s.states.toNat := by
          intro v
          induction v with
          | nil => intro k hk r hr; simp only [Leads] at hr; omega
          | cons l v ih => intro k hk r hr; obtain ⟨b, hb, hr⟩ := hr; exact ih _ (ch_lt (hv s (by simp)) hk l b hb) r hr
        exact this v 0 (by omega) q h2
      refine ⟨o * s.states.toNat + q, ?_⟩
      rw [div_pair hq, mod_pair hq]
      exact ⟨h1, h2⟩
theorem leads_congr' {N N' : Nat → Int → List Nat} (h : ∀ node l r, r ∈ N node l ↔ r ∈ N' node l) (v : List Int) : ∀ s g, Leads N s v g ↔ Leads N' s v g := by
  induction v with
  | nil => intro s g; exact Iff.rfl
  | cons l v ih =>
    intro s g
    simp only [Leads, h, ih]
theorem trace_parts {parts : List Sys} (hv : ∀ s ∈ parts, sysValid s = true) (v : List Int) : (∃ r, Leads (partsNext parts) 0 v r) ↔ ∀ s ∈ parts, TraceV s v := by
  have h := trace_go parts.reverse (fun s hs => hv s (by simpa using hs)) v
  rw [List.reverse_reverse] at h
  simp only [List.mem_reverse] at h
  rw [← h]
  have := leads_congr' (N := partsNext parts) (N' := fun node l => combos (partPairs parts (decode (partSizes parts) node) l) [0]) (fun node l r => partsNext_mem parts hv node l r) v 0
  simp only [this]

theorem letters_iff {a : Int} (l : Int) (h : a ≤ 63) : l ∈ letters a ↔ bit a l = true := by
  constructor
  · intro hl; unfold letters lettersTo at hl; exact (List.mem_filter.1 hl).2
  · intro hb
    obtain ⟨h1, h2⟩ := bit_range h hb
    unfold letters lettersTo
    exact List.mem_filter.2 ⟨List.mem_map.2 ⟨l.toNat, List.mem_range.2 (by omega), by simp; omega⟩, hb⟩

/-- The letters of the parts and of the assumption. -/
def inAll (parts : List Sys) (a : Auto) (l : Int) : Prop := (∃ s ∈ parts, bit s.alphabet l = true) ∨ bit a.alphabet l = true
theorem bit_or (x y : Nat) (l : Int) : bit ((x ||| y : Nat) : Int) l = (bit (x : Int) l || bit (y : Int) l) := by
  simp only [bit, Int.toNat_natCast, Nat.testBit_or]
  cases decide (0 ≤ l) <;> simp
theorem bit_toNat {a : Int} (h : 0 ≤ a) (l : Int) : bit (a.toNat : Int) l = bit a l := by rw [Int.toNat_of_nonneg h]
theorem orTo_bit {l : List Sys} (h : ∀ s ∈ l, sysValid s = true) (k : Nat) (c : Int) : bit (orTo l k : Int) c = true ↔ ∃ s ∈ l.take k, bit s.alphabet c = true := by
  induction k with
  | zero => simp [orTo, bit]
  | succ k ih =>
    by_cases hk : k < l.length
    · obtain ⟨s, hs⟩ : ∃ s, l[k]? = some s := ⟨_, List.getElem?_eq_getElem hk⟩
      have hs0 := h s (List.mem_of_getElem? hs)
      simp only [sysValid, isAlpha, Bool.and_eq_true, decide_eq_true_eq] at hs0
      rw [orTo_succ hs, bit_or, bit_toNat (by omega), Bool.or_eq_true, ih, List.take_add_one, hs]
      simp only [Option.toList_some, List.mem_append, List.mem_singleton]
      constructor
      · rintro (⟨x, hx, h1⟩ | h1)
        · exact ⟨x, .inl hx, h1⟩
        · exact ⟨s, .inr rfl, h1⟩
      · rintro ⟨x, hx | rfl, h1⟩
        · exact .inl ⟨x, hx, h1⟩
        · exact .inr h1
    · have e1 : orTo l (k + 1) = orTo l k := by unfold orTo; rw [List.take_of_length_le (by omega), List.take_of_length_le (by omega)]
      rw [e1, ih, List.take_of_length_le (by omega), List.take_of_length_le (by omega)]
theorem allLetters_facts' {parts : List Sys} {a : Auto} (hv : ∀ s ∈ parts, sysValid s = true) (ha : AutoFit a) :
    allLetters parts a ≤ 63 ∧ ∀ l, bit (allLetters parts a) l = true ↔ inAll parts a l := by
  have fa : 0 ≤ a.alphabet ∧ a.alphabet ≤ 63 ∧ 1 ≤ a.next.length := ⟨ha.a0, ha.a63, ha.n1⟩
  have h1 := orTo_lt hv parts.length
  have h2 : orTo parts parts.length ||| a.alphabet.toNat < 2 ^ 6 := Nat.or_lt_two_pow (by omega) (by omega)
  refine ⟨by unfold allLetters; omega, fun l => ?_⟩
  unfold allLetters inAll
  rw [bit_or, bit_toNat fa.1, Bool.or_eq_true, orTo_bit hv, List.take_length]
theorem allLetters_facts {parts : List Sys} {a : Auto} (hv : ∀ s ∈ parts, sysValid s = true) (ha : autoValid a = true) :
    allLetters parts a ≤ 63 ∧ ∀ l, bit (allLetters parts a) l = true ↔ inAll parts a l := allLetters_facts' hv (AutoFit.of ha)

/-- What a search looks for. -/
theorem brokenW_iff' {parts : List Sys} {a p : Auto} (hv : ∀ s ∈ parts, sysValid s = true) (ha : AutoFit a) (hp : autoValid p = true) (v : List Int) :
    BrokenW parts a p v ↔ (∀ x ∈ v, inAll parts a x) ∧ (∀ s ∈ parts, TraceV s v) ∧ accepts a (run a 0 v) = true ∧ accepts p (run p 0 v) = false := by
  have fa : 0 ≤ a.alphabet ∧ a.alphabet ≤ 63 ∧ 1 ≤ a.next.length := ⟨ha.a0, ha.a63, ha.n1⟩
  have fp := autoValid_facts hp
  obtain ⟨hal, hin⟩ := allLetters_facts' hv ha
  unfold BrokenW Wins Gets
  simp only [letters_iff _ hal, hin, List.mem_singleton, exists_eq_left, ← trace_parts hv, broken_leads' ha hp, Nat.zero_div, Nat.zero_mod, brokenG, Bool.and_eq_true, Bool.not_eq_true']
  constructor
  · rintro ⟨n, ⟨h1, h2, h3, h4⟩, h5, h6⟩
    rw [h3] at h5; rw [h4] at h6
    exact ⟨h1, ⟨_, h2⟩, h5, h6⟩
  · rintro ⟨h1, ⟨r, h2⟩, h5, h6⟩
    have l1 := ha.run_lt v (q := 0) (by omega)
    have l2 := run_lt hp v (q := 0) (by omega)
    refine ⟨(r * a.next.length + run a 0 v) * p.next.length + run p 0 v, ?_⟩
    rw [div_pair l2, mod_pair l2, div_pair l1, mod_pair l1]
    exact ⟨⟨h1, h2, rfl, rfl⟩, h5, h6⟩
theorem brokenW_iff {parts : List Sys} {a p : Auto} (hv : ∀ s ∈ parts, sysValid s = true) (ha : autoValid a = true) (hp : autoValid p = true) (v : List Int) :
    BrokenW parts a p v ↔ (∀ x ∈ v, inAll parts a x) ∧ (∀ s ∈ parts, TraceV s v) ∧ accepts a (run a 0 v) = true ∧ accepts p (run p 0 v) = false := brokenW_iff' hv (AutoFit.of ha) hp v

/-! ### First words exist -/
theorem lex_first (n : Nat) : ∀ W : List Int → Prop, (∀ v, W v → ∀ x ∈ v, 0 ≤ x) → (∃ v, W v ∧ v.length = n) → ∃ u, W u ∧ u.length = n ∧ ∀ v, W v → v.length = n → lexLe u v := by
  induction n with
  | zero =>
    rintro W _ ⟨v, hv, hl⟩
    obtain rfl := List.eq_nil_of_length_eq_zero hl
    exact ⟨[], hv, rfl, fun v _ _ => trivial⟩
  | succ n ih =>
    rintro W h0 ⟨v, hv, hl⟩
    have hex : ∃ k : Nat, ∃ v, W ((k : Int) :: v) ∧ v.length = n := by
      cases v with
      | nil => simp at hl
      | cons x v =>
        have hx := h0 _ hv x (by simp)
        exact ⟨x.toNat, v, by rw [Int.toNat_of_nonneg hx]; exact hv, by simpa using hl⟩
    obtain ⟨k, ⟨v, hv, hl⟩, hmin⟩ : ∃ k : Nat, (∃ v, W ((k : Int) :: v) ∧ v.length = n) ∧ ∀ j : Nat, j < k → ¬ ∃ v, W ((j : Int) :: v) ∧ v.length = n := by
      obtain ⟨k, hk⟩ := hex
      induction k using Nat.strongRecOn with
      | ind k ihk =>
        by_cases hj : ∃ j, j < k ∧ ∃ v, W ((j : Int) :: v) ∧ v.length = n
        · obtain ⟨j, hj, hv⟩ := hj; exact ihk j hj hv
        · exact ⟨k, hk, fun j hjk hv => hj ⟨j, hjk, hv⟩⟩
    obtain ⟨u, hu, hul, hu2⟩ := ih (fun v => W ((k : Int) :: v)) (fun v hv x hx => h0 _ hv x (by simp [hx])) ⟨v, hv, hl⟩
    refine ⟨(k : Int) :: u, hu, by simp [hul], fun x hx hxl => ?_⟩
    cases x with
    | nil => simp at hxl
    | cons y x =>
      have hy := h0 _ hx y (by simp)
      obtain ⟨j, rfl⟩ := Int.eq_ofNat_of_zero_le hy
      by_cases hj : j < k
      · exact absurd ⟨x, hx, by simpa using hxl⟩ (hmin j hj)
      · by_cases hjk : j = k
        · subst hjk; exact .inr ⟨rfl, hu2 x hx (by simpa using hxl)⟩
        · exact .inl (by omega)
theorem first_exists (W : List Int → Prop) (h0 : ∀ v, W v → ∀ x ∈ v, 0 ≤ x) : ∃ r, FirstIs W r := by
  by_cases h : ∃ n : Nat, ∃ v, W v ∧ v.length = n
  · obtain ⟨n, hn, hmin⟩ : ∃ n : Nat, (∃ v, W v ∧ v.length = n) ∧ ∀ m, m < n → ¬ ∃ v, W v ∧ v.length = m := by
      obtain ⟨n, hn⟩ := h
      induction n using Nat.strongRecOn with
      | ind n ih =>
        by_cases hj : ∃ j, j < n ∧ ∃ v, W v ∧ v.length = j
        · obtain ⟨j, hj, hv⟩ := hj; exact ih j hj hv
        · exact ⟨n, hn, fun j hjk hv => hj ⟨j, hjk, hv⟩⟩
    obtain ⟨u, h1, h2, h3⟩ := lex_first n W h0 hn
    refine ⟨some u, h1, fun v hv => ?_⟩
    by_cases hl : v.length < n
    · exact absurd ⟨v, hv, rfl⟩ (hmin _ hl)
    · by_cases he : v.length = n
      · exact .inr ⟨by omega, h3 v hv he⟩
      · exact .inl (by omega)
  · exact ⟨none, fun v hv => h ⟨_, v, hv, rfl⟩⟩
theorem broken_nonneg {parts : List Sys} {a p : Auto} (hv : ∀ s ∈ parts, sysValid s = true) (ha : autoValid a = true) (v : List Int) (h : BrokenW parts a p v) : ∀ x ∈ v, 0 ≤ x ∧ x < 6 := by
  obtain ⟨hal, -⟩ := allLetters_facts hv ha
  obtain ⟨n, ⟨h1, -⟩, -⟩ := h
  intro x hx
  exact bit_range hal ((letters_iff _ hal).1 (h1 x hx))
theorem areParts_all {parts : List Sys} (h : areParts parts = true) : ∀ s ∈ parts, sysValid s = true := by
  simp only [areParts, Bool.and_eq_true, List.all_eq_true] at h; exact h.2
theorem pv_spec (parts : List Sys) (p : Auto) : PV parts p (pvOf parts p) := by
  have : ∃ r, PV parts p r := by
    unfold PV
    by_cases h : (areParts parts && autoValid p) = true
    · simp only [if_pos h]
      rw [Bool.and_eq_true] at h
      exact first_exists _ fun v hv x hx => (broken_nonneg (areParts_all h.1) trivAuto_valid v hv x hx).1
    · simp only [if_neg h]; exact ⟨_, rfl⟩
  obtain ⟨r, hr⟩ := this
  rw [hr.of]; exact hr
theorem vu_spec (s : Sys) (a p : Auto) : VU s a p (vuOf s a p) := by
  have : ∃ r, VU s a p r := by
    unfold VU
    by_cases h : (sysValid s && autoValid a && autoValid p) = true
    · simp only [if_pos h]
      simp only [Bool.and_eq_true] at h
      exact first_exists _ fun v hv x hx => (broken_nonneg (by simpa using h.1.1) h.1.2 v hv x hx).1
    · simp only [if_neg h]; exact ⟨_, rfl⟩
  obtain ⟨r, hr⟩ := this
  rw [hr.of]; exact hr

/-! ### First words are short -/
theorem exists_nodes (n : Nat) (P : Nat → Nat → Prop) (h : ∀ i, i < n → ∃ a, P i a) : ∃ l : List Nat, l.length = n ∧ ∀ (i : Nat) a, l[i]? = some a → P i a := by
  induction n with
  | zero => exact ⟨[], rfl, fun i a h => by simp at h⟩
  | succ n ih =>
    obtain ⟨l, h1, h2⟩ := ih fun i hi => h i (by omega)
    obtain ⟨a, ha⟩ := h n (by omega)
    refine ⟨l ++ [a], by simp [h1], fun i b hb => ?_⟩
    by_cases hi : i < n
    · rw [List.getElem?_append_left (by omega)] at hb; exact h2 i b hb
    · have := (List.getElem?_eq_some_iff.1 hb).1
      obtain rfl : i = n := by simp at this; omega
      rw [← h1, List.getElem?_concat_length] at hb
      cases hb; exact ha
theorem pigeon (l : List Nat) (n : Nat) (h : l.Nodup) (hb : ∀ x ∈ l, x < n) : l.length ≤ n := by
  induction n generalizing l with
  | zero =>
    cases l with
    | nil => simp
    | cons a l => have := hb a (by simp); omega
  | succ n ih =>
    have h1 := ih (l.erase n) (h.erase n) fun x hx => by
      obtain ⟨h2, h3⟩ := (List.Nodup.mem_erase_iff h).1 hx
      have := hb x h3
      omega
    by_cases hm : n ∈ l
    · rw [List.length_erase_of_mem hm] at h1; omega
    · rw [List.erase_of_not_mem hm] at h1; omega
theorem gets_lt {N : Nat → Int → List Nat} {B : Nat} (hN : ∀ k l, k < B → ∀ x ∈ N k l, x < B) (v : List Int) : ∀ k r, k < B → Leads N k v r → r < B := by
  induction v with
  | nil => intro k r hk hr; simp only [Leads] at hr; omega
  | cons l v ih => intro k r hk hr; obtain ⟨b, hb, hr⟩ := hr; exact ih _ _ (hN k l hk b hb) hr
theorem first_short {N : Nat → Int → List Nat} {L : List Int} {S : List Nat} {G : Nat → Bool} {B : Nat} (hS : ∀ s ∈ S, s < B) (hN : ∀ k l, k < B → ∀ x ∈ N k l, x < B) {u : List Int} (h : FirstIs (Wins N L S G) (some u)) : u.length < B := by
  obtain ⟨⟨n, ⟨hL, s, hs, hn⟩, hG⟩, hmin⟩ := h
  refine Nat.lt_of_not_le fun hB => ?_
  obtain ⟨ns, hlen, hns⟩ := exists_nodes (u.length + 1) (fun i m => Leads N s (u.take i) m ∧ Leads N m (u.drop i) n) fun i _ => by
    have := hn; rw [← List.take_append_drop i u, leads_append] at this; exact this
  have hlt : ∀ x ∈ ns, x < B := fun x hx => by
    obtain ⟨i, hi⟩ := List.getElem?_of_mem hx
    exact gets_lt hN _ _ _ (hS s hs) (hns i x hi).1
  have hnd : ¬ ns.Nodup := fun hd => by have := pigeon ns B hd hlt; omega
  apply hnd
  unfold List.Nodup
  rw [List.pairwise_iff_getElem]
  intro i j hi hj hij he
  have h1 := hns i _ (List.getElem?_eq_getElem hi)
  have h2 := hns j _ (List.getElem?_eq_getElem hj)
  have hw : Wins N L S G (u.take i ++ u.drop j) := by
    refine ⟨n, ⟨fun x hx => ?_, s, hs, (leads_append N s _ _ n).2 ⟨_, h1.1, by rw [he]; exact h2.2⟩⟩, hG⟩
    rcases List.mem_append.1 hx with hx | hx
    · exact hL x (List.mem_of_mem_take hx)
    · exact hL x (List.mem_of_mem_drop hx)
  have h3 : (u.take i ++ u.drop j).length < u.length := by simp only [List.length_append, List.length_take, List.length_drop]; omega
  rcases hmin _ hw with h4 | ⟨h4, _⟩ <;> omega
end Go.Proofs.Ytccklliljdembaa

namespace Go.Proofs.Ytccklliljdembaa
set_option linter.unusedSimpArgs false
set_option linter.unusedVariables false
open Go

/-! ### Words and texts -/
theorem chars_wtext {u : List Int} (h : ∀ x ∈ u, 0 ≤ x ∧ x < 6) : chars (wtext u) = u := by
  unfold chars wtext
  simp only [List.map_map]
  have : ∀ x ∈ u, ((fun b : UInt8 => (b.toNat : Int) - 97) ∘ lb) x = x := by
    intro x hx
    obtain ⟨h0, h6⟩ := h x hx
    have : x = 0 ∨ x = 1 ∨ x = 2 ∨ x = 3 ∨ x = 4 ∨ x = 5 := by omega
    rcases this with rfl | rfl | rfl | rfl | rfl | rfl <;> rfl
  rw [List.map_congr_left this, List.map_id'']
  intro x; rfl
theorem size_wtext (u : List Int) : (wtext u).size = u.length := by simp [wtext, ByteArray.size]
theorem wordIn_wtext {u : List Int} {a : Int} (ha : 0 ≤ a) (ha2 : a ≤ 63) (hu : ∀ x ∈ u, bit a x = true) (hl : u.length ≤ 50000) : wordIn (wtext u) a = true := by
  have h6 : ∀ x ∈ u, 0 ≤ x ∧ x < 6 := fun x hx => bit_range ha2 (hu x hx)
  simp only [wordIn, isAlpha, Bool.and_eq_true, decide_eq_true_eq, size_wtext, chars_wtext h6, List.all_eq_true]
  exact ⟨⟨⟨ha, ha2⟩, hl⟩, hu⟩

/-! ### Traces -/
/-- The states behind a word. -/
def setAfter (s : Sys) (v : List Int) : Nat := v.foldl (stepM s) 1
def hasTrace (s : Sys) (w : ByteArray) : Bool := sysValid s && wordIn w s.alphabet && decide (setAfter s (chars w) ≠ 0)
theorem ch_bit {s : Sys} (h : sysValid s = true) {l : Int} (hb : bit s.alphabet l = true) (q r : Nat) : r ∈ sysCh s q l ↔ ∃ e ∈ s.edges, e.letter = l ∧ e.src.toNat = q ∧ e.dst.toNat = r := by
  unfold sysCh
  rw [if_pos hb]
  simp only [List.mem_map, List.mem_filter, Bool.and_eq_true, decide_eq_true_eq]
  constructor
  · rintro ⟨e, ⟨he, h1, h2⟩, h3⟩; exact ⟨e, he, h2, by omega, h3⟩
  · rintro ⟨e, he, h1, h2, h3⟩; have := (edges_in h he).2.2.1; exact ⟨e, ⟨he, by omega, h1⟩, h3⟩
theorem foldl_step_bit {s : Sys} (h : sysValid s = true) (v : List Int) (hv : ∀ x ∈ v, bit s.alphabet x = true) : ∀ set r, (v.foldl (stepM s) set).testBit r = true ↔ ∃ q, set.testBit q = true ∧ Leads (sysCh s) q v r := by
  induction v with
  | nil =>
    intro set r
    simp only [List.foldl_nil, Leads]
    exact ⟨fun h => ⟨r, h, rfl⟩, fun ⟨q, h, e⟩ => e ▸ h⟩
  | cons l v ih =>
    intro set r
    rw [List.foldl_cons, ih (fun x hx => hv x (by simp [hx]))]
    simp only [Leads, ch_bit h (hv l (by simp)), stepM_bit]
    constructor
    · rintro ⟨q, ⟨e, he, h1, h2, h3⟩, h4⟩; exact ⟨_, h2, q, ⟨e, he, h1, rfl, h3⟩, h4⟩
    · rintro ⟨q, hq, b, ⟨e, he, h1, rfl, h3⟩, h4⟩; exact ⟨b, ⟨e, he, h1, hq, h3⟩, h4⟩
theorem nat_ne_zero_bit {n : Nat} : n ≠ 0 ↔ ∃ i, n.testBit i = true := by
  constructor
  · intro h; obtain ⟨i, hi⟩ := Nat.exists_testBit_of_ne_zero h; exact ⟨i, hi⟩
  · rintro ⟨i, hi⟩ rfl; simp at hi
theorem setAfter_ne {s : Sys} (h : sysValid s = true) {v : List Int} (hv : ∀ x ∈ v, bit s.alphabet x = true) : setAfter s v ≠ 0 ↔ TraceV s v := by
  rw [nat_ne_zero_bit]
  unfold setAfter TraceV
  simp only [foldl_step_bit h v hv]
  constructor
  · rintro ⟨i, q, hq, h1⟩
    obtain rfl : q = 0 := by
      rw [show (1 : Nat) = 2 ^ 0 from rfl, Nat.testBit_two_pow] at hq
      simp at hq; omega
    exact ⟨i, h1⟩
  · rintro ⟨i, h1⟩; exact ⟨i, 0, by decide, h1⟩
theorem leads_filter (s : Sys) (v : List Int) : ∀ q r, Leads (sysCh s) q (v.filter (bit s.alphabet)) r ↔ Leads (sysCh s) q v r := by
  induction v with
  | nil => intro q r; exact Iff.rfl
  | cons l v ih =>
    intro q r
    by_cases hb : bit s.alphabet l = true
    · rw [List.filter_cons_of_pos hb]; simp only [Leads, ih]
    · rw [List.filter_cons_of_neg hb, ih]
      have : sysCh s q l = [q] := by unfold sysCh; rw [if_neg hb]
      simp only [Leads, this, List.mem_singleton, exists_eq_left]
theorem trace_filter (s : Sys) (v : List Int) : TraceV s (v.filter (bit s.alphabet)) ↔ TraceV s v := by unfold TraceV; simp only [leads_filter]
theorem trace_take {s : Sys} {v : List Int} (h : TraceV s v) (k : Nat) : TraceV s (v.take k) := by
  obtain ⟨q, h⟩ := h
  rw [← List.take_append_drop k v, leads_append] at h
  exact ⟨_, h.choose_spec.1⟩
theorem hasTrace_iff {s : Sys} {w : ByteArray} : hasTrace s w = true ↔ sysValid s = true ∧ wordIn w s.alphabet = true ∧ TraceV s (chars w) := by
  unfold hasTrace
  simp only [Bool.and_eq_true, decide_eq_true_eq, and_assoc]
  constructor
  · rintro ⟨h1, h2, h3⟩
    refine ⟨h1, h2, (setAfter_ne h1 fun x hx => ?_).1 h3⟩
    simp only [wordIn, Bool.and_eq_true, List.all_eq_true] at h2; exact h2.2 x hx
  · rintro ⟨h1, h2, h3⟩
    refine ⟨h1, h2, (setAfter_ne h1 fun x hx => ?_).2 h3⟩
    simp only [wordIn, Bool.and_eq_true, List.all_eq_true] at h2; exact h2.2 x hx
theorem hasTrace_restrict {s : Sys} {w : ByteArray} (hs : sysValid s = true) (hw : w.size ≤ 50000) : hasTrace s (restrict w s.alphabet) = true ↔ TraceV s (chars w) := by
  have ha : 0 ≤ s.alphabet ∧ s.alphabet ≤ 63 := by simp only [sysValid, isAlpha, Bool.and_eq_true, decide_eq_true_eq] at hs; omega
  rw [hasTrace_iff, chars_restrict, trace_filter]
  exact ⟨fun h => h.2.2, fun h => ⟨hs, wordIn_restrict ha.1 ha.2 hw, h⟩⟩

/-! ### Violations of parts -/
/-- How long a first violation may be. -/
theorem broken_short {parts : List Sys} {a p : Auto} (hv : ∀ s ∈ parts, sysValid s = true) (ha : autoValid a = true) (hp : autoValid p = true) {u : List Int} (h : FirstIs (BrokenW parts a p) (some u)) :
    u.length < (partSizes parts).prod * a.next.length * p.next.length := by
  have fa := autoValid_facts ha
  have fp := autoValid_facts hp
  have hpos : 0 < (partSizes parts).prod := by
    have : ∀ l : List Sys, (∀ s ∈ l, sysValid s = true) → 0 < (partSizes l).prod := by
      intro l
      induction l with
      | nil => intro _; decide
      | cons s l ih => intro hl; simp only [partSizes, List.map_cons, List.prod_cons]; exact Nat.mul_pos (sys_states (hl s (by simp))).1 (ih fun x hx => hl x (by simp [hx]))
    exact this parts hv
  exact first_short (B := (partSizes parts).prod * a.next.length * p.next.length) (fun s hs => by
    rw [List.mem_singleton] at hs; subst hs
    exact Nat.mul_pos (Nat.mul_pos hpos (by omega)) (by omega)) (fun k l _ => brokenN_lt hv (TabOk.valid ha) (TabOk.valid hp) k l) h
theorem parts_4096 {parts : List Sys} (h : areParts parts = true) : (partSizes parts).prod ≤ 4096 := (prod_4096 h).1
theorem pv_cases (parts : List Sys) (p : Auto) :
    ((areParts parts && autoValid p) = false ∧ pvOf parts p = none) ∨ ((areParts parts && autoValid p) = true ∧ FirstIs (BrokenW parts trivAuto p) (pvOf parts p)) := by
  have h := pv_spec parts p
  unfold PV at h
  by_cases hc : (areParts parts && autoValid p) = true
  · rw [if_pos hc] at h; exact .inr ⟨hc, h⟩
  · rw [if_neg hc] at h; exact .inl ⟨by simpa using hc, h⟩
/-- A violation of parts, said of its text. -/
structure PVSome (parts : List Sys) (p : Auto) (w : ByteArray) : Prop where
  okp : areParts parts = true
  prop : autoValid p = true
  size : w.size < (partSizes parts).prod * p.next.length
  size5 : w.size ≤ 50000
  word : wordIn w (partsAlphabet parts) = true
  valid : wordValid w = true
  trace : ∀ s ∈ parts, TraceV s (chars w)
  brk : accepts p (run p 0 (chars w)) = false
theorem triv_accepts (v : List Int) : accepts trivAuto (run trivAuto 0 v) = true := by
  have : run trivAuto 0 v = 0 := by
    have : ∀ (v : List Int) q, run trivAuto q v = q := by
      intro v
      induction v with
      | nil => intro q; rfl
      | cons l v ih => intro q; show run trivAuto (step trivAuto q l) v = q; rw [triv_step, ih]
    exact this v 0
  rw [this]; rfl
theorem inAll_triv {parts : List Sys} {l : Int} : inAll parts trivAuto l ↔ ∃ s ∈ parts, bit s.alphabet l = true := by
  unfold inAll
  have : bit trivAuto.alphabet l = false := by simp [trivAuto, bit]
  rw [this]; simp
theorem partsAlphabet_facts {parts : List Sys} (h : areParts parts = true) : 0 ≤ partsAlphabet parts ∧ partsAlphabet parts ≤ 63 ∧ ∀ l, bit (partsAlphabet parts) l = true ↔ ∃ s ∈ parts, bit s.alphabet l = true := by
  have e : partsAlphabet parts = (orTo parts parts.length : Nat) := by unfold partsAlphabet; rw [if_pos h]
  have hv := areParts_all h
  have h1 := orTo_lt hv parts.length
  refine ⟨by omega, by omega, fun l => ?_⟩
  rw [e, orTo_bit hv, List.take_length]
theorem wordIn_more {w : ByteArray} {a b : Int} (hb : 0 ≤ b) (hb2 : b ≤ 63) (h : wordIn w a = true) (hab : ∀ l, bit a l = true → bit b l = true) : wordIn w b = true := by
  simp only [wordIn, isAlpha, Bool.and_eq_true, decide_eq_true_eq, List.all_eq_true] at h ⊢
  exact ⟨⟨⟨hb, hb2⟩, h.1.2⟩, fun x hx => hab x (h.2 x hx)⟩
theorem pv_some {parts : List Sys} {p : Auto} {u : List Int} (h : pvOf parts p = some u) : PVSome parts p (wtext u) ∧ chars (wtext u) = u := by
  rcases pv_cases parts p with ⟨_, h1⟩ | ⟨hc, h1⟩
  · rw [h1] at h; cases h
  rw [h] at h1
  rw [Bool.and_eq_true] at hc
  have hv := areParts_all hc.1
  obtain ⟨g0, g1, g2⟩ := partsAlphabet_facts hc.1
  have h2 := (brokenW_iff hv trivAuto_valid hc.2 u).1 h1.1
  have h3 := broken_short hv trivAuto_valid hc.2 h1
  rw [show trivAuto.next.length = 1 from rfl, Nat.mul_one] at h3
  have h4 := parts_4096 hc.1
  have h5 : (partSizes parts).prod * p.next.length ≤ 4096 * 12 := Nat.mul_le_mul h4 (autoValid_facts hc.2).2.2.2.1
  have hin : ∀ x ∈ u, bit (partsAlphabet parts) x = true := fun x hx => (g2 x).2 (inAll_triv.1 (h2.1 x hx))
  have e := chars_wtext (u := u) fun x hx => bit_range g1 (hin x hx)
  have hw := wordIn_wtext g0 g1 hin (by omega)
  exact ⟨⟨hc.1, hc.2, by rw [size_wtext]; exact h3, by rw [size_wtext]; omega, hw,
    wordIn_more (a := partsAlphabet parts) (by omega) (by omega) hw fun l hl => by
      have := bit_range g1 hl; rw [bit63]; simp; omega, by rw [e]; exact h2.2.1, by rw [e]; exact h2.2.2.2⟩, e⟩
theorem PVSome.breaks {parts : List Sys} {p : Auto} {w : ByteArray} (h : PVSome parts p w) : breaks p w = true := by
  unfold Go.Proofs.Ytccklliljdembaa.breaks; rw [h.prop, h.valid, h.brk]; rfl
theorem PVSome.hasTrace {s : Sys} {p : Auto} {w : ByteArray} (h : PVSome [s] p w) : hasTrace s w = true := by
  have h1 := h.okp
  simp only [areParts, List.all_cons, List.all_nil, Bool.and_true, Bool.and_eq_true] at h1
  have e : partsAlphabet [s] = s.alphabet := by
    unfold partsAlphabet; rw [if_pos h.okp]
    have : 0 ≤ s.alphabet := by have h2 := h1.2; simp only [sysValid, isAlpha, Bool.and_eq_true, decide_eq_true_eq] at h2; omega
    simp [orTo]; omega
  have h3 := h.word; rw [e] at h3
  exact hasTrace_iff.2 ⟨h1.2, h3, h.trace s (by simp)⟩
theorem one_areParts (s : Sys) : areParts [s] = sysValid s := by simp [areParts]
theorem keepsB_valid {parts : List Sys} {p : Auto} (h : areParts parts = true) (hp : autoValid p = true) : keepsB parts p = !(pvOf parts p).isSome := by unfold keepsB; rw [h, hp]; rfl
theorem keepsB_wrong {parts : List Sys} {p : Auto} (h : (areParts parts && autoValid p) = false) : keepsB parts p = false ∧ pvOf parts p = none := by
  refine ⟨by unfold keepsB; rw [h]; rfl, ?_⟩
  rcases pv_cases parts p with h1 | h1
  · exact h1.2
  · rw [h] at h1; cases h1.1
/-- A set of words that break a property along the parts. -/
theorem pv_isSome {parts : List Sys} {p : Auto} (h : areParts parts = true) (hp : autoValid p = true) : (pvOf parts p).isSome = true ↔ ∃ v, BrokenW parts trivAuto p v := by
  rcases pv_cases parts p with h1 | ⟨_, h1⟩
  · rw [h, hp] at h1; cases h1.1
  · cases hr : pvOf parts p with
    | none => rw [hr] at h1; exact ⟨fun h => (by cases h), fun ⟨v, hv⟩ => absurd hv (h1 v)⟩
    | some u => rw [hr] at h1; exact ⟨fun _ => ⟨u, h1.1⟩, fun _ => rfl⟩

/-! ### The order of parts -/
theorem pv_perm {parts parts' : List Sys} {p : Auto} (hm : ∀ s, s ∈ parts ↔ s ∈ parts') (hl : areParts parts = areParts parts') : pvOf parts p = pvOf parts' p := by
  rcases pv_cases parts p with ⟨h1, h2⟩ | ⟨h1, h2⟩
  · rw [hl] at h1; rw [h2, (keepsB_wrong h1).2]
  · have h1' := h1
    rw [hl] at h1'
    rcases pv_cases parts' p with ⟨h3, _⟩ | ⟨_, h4⟩
    · rw [h3] at h1'; cases h1'
    · rw [Bool.and_eq_true] at h1 h1'
      refine h2.unique (h4.congr fun v => ?_)
      rw [brokenW_iff (areParts_all h1'.1) trivAuto_valid h1.2, brokenW_iff (areParts_all h1.1) trivAuto_valid h1.2]
      unfold inAll
      simp only [hm]
theorem areParts_reverse (l : List Sys) : areParts l.reverse = areParts l := by
  unfold areParts; rw [List.length_reverse, List.all_reverse]
theorem pv_reverse (l : List Sys) (p : Auto) : pvOf l.reverse p = pvOf l p := pv_perm (fun s => List.mem_reverse) (areParts_reverse l)

/-! ### One part for all -/
theorem run_drop (x : Auto) (f : Int → Bool) (ls : List Int) (h : ∀ l ∈ ls, f l = false → bit x.alphabet l = false) (q : Nat) : run x q (ls.filter f) = run x q ls := by
  induction ls generalizing q with
  | nil => rfl
  | cons l ls ih =>
    by_cases hf : f l = true
    · rw [List.filter_cons_of_pos hf]; exact ih (fun y hy => h y (by simp [hy])) _
    · rw [List.filter_cons_of_neg hf, ih fun y hy => h y (by simp [hy])]
      show run x q ls = run x (step x q l) ls
      have := h l (by simp) (by simpa using hf)
      unfold step
      rw [if_neg (by rw [this]; simp)]
theorem parts_one {parts : List Sys} {s : Sys} {p : Auto} (h : areParts parts = true) (hs : s ∈ parts) (hin : ∀ l, bit (partsAlphabet parts) l = true → bit p.alphabet l = true → bit s.alphabet l = true) (hk : keepsB [s] p = true) : keepsB parts p = true := by
  have hk' := hk
  unfold keepsB at hk
  simp only [Bool.and_eq_true, Bool.not_eq_true'] at hk
  obtain ⟨⟨k1, k2⟩, k3⟩ := hk
  rw [keepsB_valid h k2]
  by_cases hv : (pvOf parts p).isSome = true
  · obtain ⟨v, hv⟩ := (pv_isSome h k2).1 hv
    obtain ⟨h1, h2, h3, h4⟩ := (brokenW_iff (areParts_all h) trivAuto_valid k2 v).1 hv
    obtain ⟨g0, g1, g2⟩ := partsAlphabet_facts h
    have : BrokenW [s] trivAuto p (v.filter (bit s.alphabet)) := by
      rw [brokenW_iff (areParts_all k1) trivAuto_valid k2]
      refine ⟨fun x hx => inAll_triv.2 ⟨s, by simp, (List.mem_filter.1 hx).2⟩, fun t ht => ?_, triv_accepts _, ?_⟩
      · rw [List.mem_singleton] at ht; subst ht; rw [trace_filter]; exact h2 _ hs
      · rw [run_drop p (bit s.alphabet) v fun l hl hf => ?_]
        · exact h4
        · cases hb : bit p.alphabet l with
          | false => rfl
          | true => rw [hin l ((g2 l).2 (inAll_triv.1 (h1 l hl))) hb] at hf; cases hf
    rw [(pv_isSome k1 k2).2 ⟨_, this⟩] at k3; cases k3
  · simpa using hv

/-! ### Assumptions -/
theorem vu_cases (s : Sys) (a p : Auto) :
    ((sysValid s && autoValid a && autoValid p) = false ∧ vuOf s a p = none) ∨ ((sysValid s && autoValid a && autoValid p) = true ∧ FirstIs (BrokenW [s] a p) (vuOf s a p)) := by
  have h := vu_spec s a p
  unfold VU at h
  by_cases hc : (sysValid s && autoValid a && autoValid p) = true
  · rw [if_pos hc] at h; exact .inr ⟨hc, h⟩
  · rw [if_neg hc] at h; exact .inl ⟨by simpa using hc, h⟩
theorem under_itself {s : Sys} {a : Auto} (hs : sysValid s = true) (ha : autoValid a = true) : underB s a a = true := by
  unfold underB
  rw [hs, ha]
  rcases vu_cases s a a with ⟨h, _⟩ | ⟨_, h⟩
  · rw [hs, ha] at h; cases h
  · cases hr : vuOf s a a with
    | none => rfl
    | some u =>
      rw [hr] at h
      obtain ⟨-, -, h1, h2⟩ := (brokenW_iff (by simpa using hs) ha ha u).1 h.1
      rw [h1] at h2; cases h2
structure VUSome (s : Sys) (a p : Auto) (w : ByteArray) : Prop where
  sys : sysValid s = true
  assum : autoValid a = true
  prop : autoValid p = true
  size5 : w.size ≤ 50000
  word : wordIn w (allLetters [s] a) = true
  valid : wordValid w = true
  trace : TraceV s (chars w)
  acc : accepts a (run a 0 (chars w)) = true
  brk : accepts p (run p 0 (chars w)) = false
theorem vu_some {s : Sys} {a p : Auto} {u : List Int} (h : vuOf s a p = some u) : VUSome s a p (wtext u) ∧ chars (wtext u) = u := by
  rcases vu_cases s a p with ⟨_, h1⟩ | ⟨hc, h1⟩
  · rw [h1] at h; cases h
  rw [h] at h1
  simp only [Bool.and_eq_true] at hc
  have hv : ∀ x ∈ [s], sysValid x = true := by simpa using hc.1.1
  obtain ⟨g1, g2⟩ := allLetters_facts hv hc.1.2
  have h2 := (brokenW_iff hv hc.1.2 hc.2 u).1 h1.1
  have h3 := broken_short hv hc.1.2 hc.2 h1
  have h4 : (partSizes [s]).prod ≤ 16 := by simp [partSizes]; have := sys_states hc.1.1; omega
  have h5 : (partSizes [s]).prod * a.next.length * p.next.length ≤ 16 * 12 * 12 := Nat.mul_le_mul (Nat.mul_le_mul h4 (autoValid_facts hc.1.2).2.2.2.1) (autoValid_facts hc.2).2.2.2.1
  have hin : ∀ x ∈ u, bit (allLetters [s] a) x = true := fun x hx => (g2 x).2 (h2.1 x hx)
  have g0 : 0 ≤ allLetters [s] a := by unfold allLetters; omega
  have e := chars_wtext (u := u) fun x hx => bit_range g1 (hin x hx)
  have hw := wordIn_wtext g0 g1 hin (by omega)
  exact ⟨⟨hc.1.1, hc.1.2, hc.2, by rw [size_wtext]; omega, hw, wordIn_more (a := allLetters [s] a) (by omega) (by omega) hw fun l hl => by
      have := bit_range g1 hl; rw [bit63]; simp; omega, by rw [e]; exact h2.2.1 s (by simp), by rw [e]; exact h2.2.2.1, by rw [e]; exact h2.2.2.2⟩, e⟩
theorem VUSome.hasTrace {s : Sys} {a p : Auto} {w : ByteArray} (h : VUSome s a p w) : Go.Proofs.Ytccklliljdembaa.hasTrace s (restrict w s.alphabet) = true := (hasTrace_restrict h.sys h.size5).2 h.trace
theorem VUSome.breaks {s : Sys} {a p : Auto} {w : ByteArray} (h : VUSome s a p w) : Go.Proofs.Ytccklliljdembaa.breaks p w = true ∧ Go.Proofs.Ytccklliljdembaa.breaks a w = false := by
  unfold Go.Proofs.Ytccklliljdembaa.breaks; rw [h.prop, h.valid, h.brk, h.assum, h.acc]; exact ⟨rfl, rfl⟩
end Go.Proofs.Ytccklliljdembaa

namespace Go.Proofs.Ytccklliljdembaa
set_option linter.unusedSimpArgs false
set_option linter.unusedVariables false
open Go

def idxFrom (a : Int) (n : Nat) (u : List Int) : Nat := u.foldl (fun n x => n * nletters a + place a x + 1) n
/-- The word number n over an alphabet. -/
def WordOf (a : Int) (n : Nat) (u : List Int) : Prop := (∀ x ∈ u, bit a x = true) ∧ idxFrom a 0 u = n
theorem place_mono_all : ∀ a ∈ List.range 64, ∀ x ∈ List.range 6, ∀ y ∈ List.range 6, x < y → bit (Int.ofNat a) (Int.ofNat x) = true → place (Int.ofNat a) (Int.ofNat x) < place (Int.ofNat a) (Int.ofNat y) := by decide +kernel
theorem place_mono {a x y : Int} (ha : 0 ≤ a) (ha2 : a ≤ 63) (hx : bit a x = true) (hy : bit a y = true) (h : x < y) : place a x < place a y := by
  obtain ⟨hx0, hx1⟩ := bit_range ha2 hx
  obtain ⟨hy0, hy1⟩ := bit_range ha2 hy
  obtain ⟨a, rfl⟩ := Int.eq_ofNat_of_zero_le ha
  obtain ⟨x, rfl⟩ := Int.eq_ofNat_of_zero_le hx0
  obtain ⟨y, rfl⟩ := Int.eq_ofNat_of_zero_le hy0
  exact place_mono_all a (List.mem_range.2 (by omega)) x (List.mem_range.2 (by omega)) y (List.mem_range.2 (by omega)) (by omega) hx
section
variable {a : Int} (ha : 0 ≤ a) (ha2 : a ≤ 63)
include ha ha2
theorem idx_lt {u v : List Int} (hu : ∀ x ∈ u, bit a x = true) (hl : u.length = v.length) : ∀ {n m : Nat}, n < m → idxFrom a n u < idxFrom a m v := by
  induction u generalizing v with
  | nil => intro n m h; cases v with
    | nil => exact h
    | cons y v => simp at hl
  | cons x u ih =>
    intro n m h
    cases v with
    | nil => simp at hl
    | cons y v =>
      refine ih (v := v) (fun z hz => hu z (by simp [hz])) (by simpa using hl) ?_
      have hp := place_lt a x ha ha2 (hu x (by simp))
      have h1 : (n + 1) * nletters a ≤ m * nletters a := Nat.mul_le_mul_right _ h
      rw [Nat.add_mul] at h1
      show n * nletters a + place a x + 1 < m * nletters a + place a y + 1
      omega
theorem idx_lex {u v : List Int} (hu : ∀ x ∈ u, bit a x = true) (hv : ∀ x ∈ v, bit a x = true) (hl : u.length = v.length) (h : lexLe u v) (hne : u ≠ v) (n : Nat) : idxFrom a n u < idxFrom a n v := by
  induction u generalizing v n with
  | nil => cases v with
    | nil => exact absurd rfl hne
    | cons y v => simp at hl
  | cons x u ih =>
    cases v with
    | nil => simp at hl
    | cons y v =>
      rcases h with h | ⟨rfl, h⟩
      · have := place_mono ha ha2 (hu x (by simp)) (hv y (by simp)) h
        exact idx_lt ha ha2 (u := u) (v := v) (fun z hz => hu z (by simp [hz])) (by simpa using hl) (show n * nletters a + place a x + 1 < n * nletters a + place a y + 1 by omega)
      · exact ih (v := v) (fun z hz => hu z (by simp [hz])) (fun z hz => hv z (by simp [hz])) (by simpa using hl) h (fun e => hne (by rw [e])) _
theorem idx_short {u v : List Int} (hu : ∀ x ∈ u, bit a x = true) (h : u.length < v.length) (n : Nat) : idxFrom a 0 u < idxFrom a n v := by
  induction v generalizing n with
  | nil => simp at h
  | cons y v ih =>
    show _ < idxFrom a _ v
    by_cases he : u.length = v.length
    · exact idx_lt ha ha2 hu he (show 0 < n * nletters a + place a y + 1 by omega)
    · exact ih (by simp at h; omega) _
theorem idx_slex {u v : List Int} (hu : ∀ x ∈ u, bit a x = true) (hv : ∀ x ∈ v, bit a x = true) (h : slexLt u v) : idxFrom a 0 u < idxFrom a 0 v := by
  obtain ⟨h1 | ⟨h1, h2⟩, hne⟩ := h
  · exact idx_short ha ha2 hu h1 0
  · exact idx_lex ha ha2 hu hv h1 h2 hne 0
/-- No word of a lesser number is in W: then the word in W of number n is the first. -/
theorem first_of_word {W : List Int → Prop} {r : Option (List Int)} (hW : FirstIs W r) (hin : ∀ v, W v → ∀ x ∈ v, bit a x = true) {n : Nat} {v : List Int} (hv : WordOf a n v) (hw : W v) (hno : ∀ j u, j < n → WordOf a j u → ¬ W u) : r = some v := by
  cases r with
  | none => exact absurd hw (hW v)
  | some u =>
    by_cases he : u = v
    · rw [he]
    · have := idx_slex ha ha2 (hin u hW.1) hv.1 ⟨hW.2 v hw, he⟩
      rw [hv.2] at this
      exact absurd hW.1 (hno _ u this ⟨hin u hW.1, rfl⟩)
end
/-- A letter more at the end. -/
theorem idx_push (a : Int) (n : Nat) (u : List Int) (x : Int) : idxFrom a n (u ++ [x]) = idxFrom a n u * nletters a + place a x + 1 := by unfold idxFrom; rw [List.foldl_append]; rfl
end Go.Proofs.Ytccklliljdembaa
