/- Part of this seat's proofs, cut to what its law needs. -/

import Derived.Test.YtanekmfifmkbmaaGreatDoorDet

namespace Go.Proofs.YtanekmfifmkbmaaGreatDoor
set_option linter.unusedSimpArgs false
set_option linter.unusedVariables false
open Go

theorem div_pair {o n q : Nat} (hq : q < n) : (o * n + q) / n = o := by rw [Nat.mul_comm, Nat.mul_add_div (by omega), Nat.div_eq_of_lt hq, Nat.add_zero]
theorem mod_pair {o n q : Nat} (hq : q < n) : (o * n + q) % n = q := by rw [Nat.mul_comm, Nat.mul_add_mod, Nat.mod_eq_of_lt hq]

theorem leads_prod {N N1 N2 : Nat → Int → List Nat} {n : Nat} (hn : 0 < n) (h : ∀ node l r, r ∈ N node l ↔ ∃ o ∈ N1 (node / n) l, ∃ q ∈ N2 (node % n) l, r = o * n + q)
    (hlt : ∀ k l q, k < n → q ∈ N2 k l → q < n) (v : List Int) : ∀ node r, Leads N node v r ↔ Leads N1 (node / n) v (r / n) ∧ Leads N2 (node % n) v (r % n) := by
  induction v with
  | nil =>
    intro node r
    simp only [Leads]
    constructor
    · rintro rfl; exact ⟨rfl, rfl⟩
    · rintro ⟨h1, h2⟩
      have e1 := Nat.div_add_mod node n
      have e2 := Nat.div_add_mod r n
      rw [h1, h2] at e1
      omega
  | cons l v ih =>
    intro node r
    simp only [Leads]
    constructor
    · rintro ⟨b, hb, hr⟩
      obtain ⟨o, ho, q, hq, rfl⟩ := (h node l b).1 hb
      have hqn := hlt _ _ _ (Nat.mod_lt _ hn) hq
      have hr' := (ih _ _).1 hr
      rw [div_pair hqn, mod_pair hqn] at hr'
      exact ⟨⟨o, ho, hr'.1⟩, q, hq, hr'.2⟩
    · rintro ⟨⟨o, ho, h1⟩, q, hq, h2⟩
      have hqn := hlt _ _ _ (Nat.mod_lt _ hn) hq
      refine ⟨o * n + q, (h node l _).2 ⟨o, ho, q, hq, rfl⟩, (ih _ _).2 ?_⟩
      rw [div_pair hqn, mod_pair hqn]
      exact ⟨h1, h2⟩
theorem leads_run (p : Auto) (v : List Int) : ∀ q r, Leads (fun q l => [step p q l]) q v r ↔ r = run p q v := by
  induction v with
  | nil => intro q r; simp only [Leads, run, List.foldl_nil]; exact eq_comm
  | cons l v ih =>
    intro q r
    simp only [Leads, List.mem_singleton, exists_eq_left]
    rw [ih]; rfl
theorem broken_leads' {parts : List Sys} {a p : Auto} (ha : AutoFit a) (hp : autoValid p = true) (v : List Int) (node r : Nat) :
    Leads (brokenN parts a p) node v r ↔ Leads (partsNext parts) (node / p.next.length / a.next.length) v (r / p.next.length / a.next.length) ∧ r / p.next.length % a.next.length = run a (node / p.next.length % a.next.length) v ∧ r % p.next.length = run p (node % p.next.length) v := by
  have fa : 0 ≤ a.alphabet ∧ a.alphabet ≤ 63 ∧ 1 ≤ a.next.length := ⟨ha.a0, ha.a63, ha.n1⟩
  have fp := autoValid_facts hp
  rw [leads_prod (N1 := fun m l => (partsNext parts (m / a.next.length) l).map fun x => x * a.next.length + step a (m % a.next.length) l) (N2 := fun q l => [step p q l]) (n := p.next.length) (by omega) (fun node l r => by
      unfold brokenN
      simp only [List.mem_map, List.mem_singleton]
      constructor
      · rintro ⟨x, hx, rfl⟩; exact ⟨_, ⟨x, hx, rfl⟩, _, rfl, by rw [Nat.add_mul]; omega⟩
      · rintro ⟨_, ⟨x, hx, rfl⟩, _, rfl, rfl⟩; exact ⟨x, hx, by rw [Nat.add_mul]; omega⟩) (fun k l q hk hq => by simp at hq; subst hq; exact step_lt hp hk l), leads_run,
    leads_prod (N1 := partsNext parts) (N2 := fun q l => [step a q l]) (n := a.next.length) (by omega) (fun node l r => by
      simp only [List.mem_map, List.mem_singleton]
      constructor
      · rintro ⟨x, hx, rfl⟩; exact ⟨x, hx, _, rfl, rfl⟩
      · rintro ⟨x, hx, _, rfl, rfl⟩; exact ⟨x, hx, rfl⟩) (fun k l q hk hq => by simp at hq; subst hq; exact ha.step_lt hk l), leads_run, and_assoc]
def TraceV (s : Sys) (v : List Int) : Prop := ∃ q, Leads (sysCh s) 0 v q
theorem combos_snoc (ps : List (Nat × List Nat)) (p : Nat × List Nat) (out : List Nat) (r : Nat) : r ∈ combos (ps ++ [p]) out ↔ ∃ o ∈ combos ps out, ∃ q ∈ p.2, r = o * p.1 + q := by
  rw [combos_append]
  simp only [combos, List.mem_flatMap, List.mem_map]
  constructor
  · rintro ⟨o, ho, q, hq, rfl⟩; exact ⟨o, ho, q, hq, rfl⟩
  · rintro ⟨o, ho, q, hq, rfl⟩; exact ⟨o, ho, q, hq, rfl⟩
theorem sys_states {s : Sys} (h : sysValid s = true) : 1 ≤ s.states.toNat ∧ s.states.toNat ≤ 16 := by
  simp only [sysValid, Bool.and_eq_true, decide_eq_true_eq] at h; omega
theorem trace_go (rs : List Sys) (hv : ∀ s ∈ rs, sysValid s = true) (v : List Int) :
    (∃ r, Leads (fun node l => combos (partPairs rs.reverse (decode (partSizes rs.reverse) node) l) [0]) 0 v r) ↔ ∀ s ∈ rs, TraceV s v := by
  induction rs with
  | nil =>
    simp only [List.not_mem_nil, false_implies, implies_true, iff_true]
    refine ⟨0, ?_⟩
    induction v with
    | nil => rfl
    | cons l v ih => exact ⟨0, by simp [partPairs, combos], ih⟩
  | cons s rs ih =>
    have hs := sys_states (hv s (by simp))
    have e1 : partSizes (s :: rs).reverse = partSizes rs.reverse ++ [s.states.toNat] := by simp [partSizes]
    have key : ∀ node l r, r ∈ combos (partPairs (s :: rs).reverse (decode (partSizes (s :: rs).reverse) node) l) [0] ↔ ∃ o ∈ combos (partPairs rs.reverse (decode (partSizes rs.reverse) (node / s.states.toNat)) l) [0], ∃ q ∈ sysCh s (node % s.states.toNat) l, r = o * s.states.toNat + q := fun node l r => by
      rw [e1, decode_snoc, List.reverse_cons, partPairs_snoc _ _ _ _ _ (by rw [decode_len]; simp [partSizes]), combos_snoc]
    have hl := fun node r => leads_prod (N := fun node l => combos (partPairs (s :: rs).reverse (decode (partSizes (s :: rs).reverse) node) l) [0]) (N1 := fun node l => combos (partPairs rs.reverse (decode (partSizes rs.reverse) node) l) [0]) (N2 := sysCh s) (n := s.states.toNat) (by omega) key (fun k l q hk hq => ch_lt (hv s (by simp)) hk l q hq) v node r
    simp only [hl, Nat.zero_div, Nat.zero_mod, List.mem_cons, forall_eq_or_imp]
    rw [← ih fun x hx => hv x (by simp [hx])]
    constructor
    · rintro ⟨r, h1, h2⟩; exact ⟨⟨_, h2⟩, _, h1⟩
    · rintro ⟨⟨q, h2⟩, o, h1⟩
      have hq : q < s.states.toNat := by
        have : ∀ (v : List Int) k, k < s.states.toNat → ∀ r, Leads (sysCh s) k v r → r < s.states.toNat := by
          intro v
          induction v with
          | nil => intro k hk r hr; simp only [Leads] at hr; omega
          | cons l v ih => intro k hk r hr; obtain ⟨b, hb, hr⟩ := hr; exact ih _ (ch_lt (hv s (by simp)) hk l b hb) r hr
        exact this v 0 (by omega) q h2
      refine ⟨o * s.states.toNat + q, ?_⟩
      rw [div_pair hq, mod_pair hq]
      exact ⟨h1, h2⟩
theorem leads_congr' {N N' : Nat → Int → List Nat} (h : ∀ node l r, r ∈ N node l ↔ r ∈ N' node l) (v : List Int) : ∀ s g, Leads N s v g ↔ Leads N' s v g := by
  induction v with
  | nil => intro s g; exact Iff.rfl
  | cons l v ih =>
    intro s g
    simp only [Leads, h, ih]
theorem trace_parts {parts : List Sys} (hv : ∀ s ∈ parts, sysValid s = true) (v : List Int) : (∃ r, Leads (partsNext parts) 0 v r) ↔ ∀ s ∈ parts, TraceV s v := by
  have h := trace_go parts.reverse (fun s hs => hv s (by simpa using hs)) v
  rw [List.reverse_reverse] at h
  simp only [List.mem_reverse] at h
  rw [← h]
  have := leads_congr' (N := partsNext parts) (N' := fun node l => combos (partPairs parts (decode (partSizes parts) node) l) [0]) (fun node l r => partsNext_mem parts hv node l r) v 0
  simp only [this]

theorem letters_iff {a : Int} (l : Int) (h : a ≤ 63) : l ∈ letters a ↔ bit a l = true := by
  constructor
  · intro hl; unfold letters lettersTo at hl; exact (List.mem_filter.1 hl).2
  · intro hb
    obtain ⟨h1, h2⟩ := bit_range h hb
    unfold letters lettersTo
    exact List.mem_filter.2 ⟨List.mem_map.2 ⟨l.toNat, List.mem_range.2 (by omega), by simp; omega⟩, hb⟩

def inAll (parts : List Sys) (a : Auto) (l : Int) : Prop := (∃ s ∈ parts, bit s.alphabet l = true) ∨ bit a.alphabet l = true
theorem bit_or (x y : Nat) (l : Int) : bit ((x ||| y : Nat) : Int) l = (bit (x : Int) l || bit (y : Int) l) := by
  simp only [bit, Int.toNat_natCast, Nat.testBit_or]
  cases decide (0 ≤ l) <;> simp
theorem bit_toNat {a : Int} (h : 0 ≤ a) (l : Int) : bit (a.toNat : Int) l = bit a l := by rw [Int.toNat_of_nonneg h]
theorem orTo_bit {l : List Sys} (h : ∀ s ∈ l, sysValid s = true) (k : Nat) (c : Int) : bit (orTo l k : Int) c = true ↔ ∃ s ∈ l.take k, bit s.alphabet c = true := by
  induction k with
  | zero => simp [orTo, bit]
  | succ k ih =>
    by_cases hk : k < l.length
    · obtain ⟨s, hs⟩ : ∃ s, l[k]? = some s := ⟨_, List.getElem?_eq_getElem hk⟩
      have hs0 := h s (List.mem_of_getElem? hs)
      simp only [sysValid, isAlpha, Bool.and_eq_true, decide_eq_true_eq] at hs0
      rw [orTo_succ hs, bit_or, bit_toNat (by omega), Bool.or_eq_true, ih, List.take_add_one, hs]
      simp only [Option.toList_some, List.mem_append, List.mem_singleton]
      constructor
      · rintro (⟨x, hx, h1⟩ | h1)
        · exact ⟨x, .inl hx, h1⟩
        · exact ⟨s, .inr rfl, h1⟩
      · rintro ⟨x, hx | rfl, h1⟩
        · exact .inl ⟨x, hx, h1⟩
        · exact .inr h1
    · have e1 : orTo l (k + 1) = orTo l k := by unfold orTo; rw [List.take_of_length_le (by omega), List.take_of_length_le (by omega)]
      rw [e1, ih, List.take_of_length_le (by omega), List.take_of_length_le (by omega)]
theorem allLetters_facts' {parts : List Sys} {a : Auto} (hv : ∀ s ∈ parts, sysValid s = true) (ha : AutoFit a) :
    allLetters parts a ≤ 63 ∧ ∀ l, bit (allLetters parts a) l = true ↔ inAll parts a l := by
  have fa : 0 ≤ a.alphabet ∧ a.alphabet ≤ 63 ∧ 1 ≤ a.next.length := ⟨ha.a0, ha.a63, ha.n1⟩
  have h1 := orTo_lt hv parts.length
  have h2 : orTo parts parts.length ||| a.alphabet.toNat < 2 ^ 6 := Nat.or_lt_two_pow (by omega) (by omega)
  refine ⟨by unfold allLetters; omega, fun l => ?_⟩
  unfold allLetters inAll
  rw [bit_or, bit_toNat fa.1, Bool.or_eq_true, orTo_bit hv, List.take_length]
theorem allLetters_facts {parts : List Sys} {a : Auto} (hv : ∀ s ∈ parts, sysValid s = true) (ha : autoValid a = true) :
    allLetters parts a ≤ 63 ∧ ∀ l, bit (allLetters parts a) l = true ↔ inAll parts a l := allLetters_facts' hv (AutoFit.of ha)

theorem brokenW_iff' {parts : List Sys} {a p : Auto} (hv : ∀ s ∈ parts, sysValid s = true) (ha : AutoFit a) (hp : autoValid p = true) (v : List Int) :
    BrokenW parts a p v ↔ (∀ x ∈ v, inAll parts a x) ∧ (∀ s ∈ parts, TraceV s v) ∧ accepts a (run a 0 v) = true ∧ accepts p (run p 0 v) = false := by
  have fa : 0 ≤ a.alphabet ∧ a.alphabet ≤ 63 ∧ 1 ≤ a.next.length := ⟨ha.a0, ha.a63, ha.n1⟩
  have fp := autoValid_facts hp
  obtain ⟨hal, hin⟩ := allLetters_facts' hv ha
  unfold BrokenW Wins Gets
  simp only [letters_iff _ hal, hin, List.mem_singleton, exists_eq_left, ← trace_parts hv, broken_leads' ha hp, Nat.zero_div, Nat.zero_mod, brokenG, Bool.and_eq_true, Bool.not_eq_true']
  constructor
  · rintro ⟨n, ⟨h1, h2, h3, h4⟩, h5, h6⟩
    rw [h3] at h5; rw [h4] at h6
    exact ⟨h1, ⟨_, h2⟩, h5, h6⟩
  · rintro ⟨h1, ⟨r, h2⟩, h5, h6⟩
    have l1 := ha.run_lt v (q := 0) (by omega)
    have l2 := run_lt hp v (q := 0) (by omega)
    refine ⟨(r * a.next.length + run a 0 v) * p.next.length + run p 0 v, ?_⟩
    rw [div_pair l2, mod_pair l2, div_pair l1, mod_pair l1]
    exact ⟨⟨h1, h2, rfl, rfl⟩, h5, h6⟩
theorem brokenW_iff {parts : List Sys} {a p : Auto} (hv : ∀ s ∈ parts, sysValid s = true) (ha : autoValid a = true) (hp : autoValid p = true) (v : List Int) :
    BrokenW parts a p v ↔ (∀ x ∈ v, inAll parts a x) ∧ (∀ s ∈ parts, TraceV s v) ∧ accepts a (run a 0 v) = true ∧ accepts p (run p 0 v) = false := brokenW_iff' hv (AutoFit.of ha) hp v


theorem lex_first (n : Nat) : ∀ W : List Int → Prop, (∀ v, W v → ∀ x ∈ v, 0 ≤ x) → (∃ v, W v ∧ v.length = n) → ∃ u, W u ∧ u.length = n ∧ ∀ v, W v → v.length = n → lexLe u v := by
  induction n with
  | zero =>
    rintro W _ ⟨v, hv, hl⟩
    obtain rfl := List.eq_nil_of_length_eq_zero hl
    exact ⟨[], hv, rfl, fun v _ _ => trivial⟩
  | succ n ih =>
    rintro W h0 ⟨v, hv, hl⟩
    have hex : ∃ k : Nat, ∃ v, W ((k : Int) :: v) ∧ v.length = n := by
      cases v with
      | nil => simp at hl
      | cons x v =>
        have hx := h0 _ hv x (by simp)
        exact ⟨x.toNat, v, by rw [Int.toNat_of_nonneg hx]; exact hv, by simpa using hl⟩
    obtain ⟨k, ⟨v, hv, hl⟩, hmin⟩ : ∃ k : Nat, (∃ v, W ((k : Int) :: v) ∧ v.length = n) ∧ ∀ j : Nat, j < k → ¬ ∃ v, W ((j : Int) :: v) ∧ v.length = n := by
      obtain ⟨k, hk⟩ := hex
      induction k using Nat.strongRecOn with
      | ind k ihk =>
        by_cases hj : ∃ j, j < k ∧ ∃ v, W ((j : Int) :: v) ∧ v.length = n
        · obtain ⟨j, hj, hv⟩ := hj; exact ihk j hj hv
        · exact ⟨k, hk, fun j hjk hv => hj ⟨j, hjk, hv⟩⟩
    obtain ⟨u, hu, hul, hu2⟩ := ih (fun v => W ((k : Int) :: v)) (fun v hv x hx => h0 _ hv x (by simp [hx])) ⟨v, hv, hl⟩
    refine ⟨(k : Int) :: u, hu, by simp [hul], fun x hx hxl => ?_⟩
    cases x with
    | nil => simp at hxl
    | cons y x =>
      have hy := h0 _ hx y (by simp)
      obtain ⟨j, rfl⟩ := Int.eq_ofNat_of_zero_le hy
      by_cases hj : j < k
      · exact absurd ⟨x, hx, by simpa using hxl⟩ (hmin j hj)
      · by_cases hjk : j = k
        · subst hjk; exact .inr ⟨rfl, hu2 x hx (by simpa using hxl)⟩
        · exact .inl (by omega)
theorem first_exists (W : List Int → Prop) (h0 : ∀ v, W v → ∀ x ∈ v, 0 ≤ x) : ∃ r, FirstIs W r := by
  by_cases h : ∃ n : Nat, ∃ v, W v ∧ v.length = n
  · obtain ⟨n, hn, hmin⟩ : ∃ n : Nat, (∃ v, W v ∧ v.length = n) ∧ ∀ m, m < n → ¬ ∃ v, W v ∧ v.length = m := by
      obtain ⟨n, hn⟩ := h
      induction n using Nat.strongRecOn with
      | ind n ih =>
        by_cases hj : ∃ j, j < n ∧ ∃ v, W v ∧ v.length = j
        · obtain ⟨j, hj, hv⟩ := hj; exact ih j hj hv
        · exact ⟨n, hn, fun j hjk hv => hj ⟨j, hjk, hv⟩⟩
    obtain ⟨u, h1, h2, h3⟩ := lex_first n W h0 hn
    refine ⟨some u, h1, fun v hv => ?_⟩
    by_cases hl : v.length < n
    · exact absurd ⟨v, hv, rfl⟩ (hmin _ hl)
    · by_cases he : v.length = n
      · exact .inr ⟨by omega, h3 v hv he⟩
      · exact .inl (by omega)
  · exact ⟨none, fun v hv => h ⟨_, v, hv, rfl⟩⟩
theorem broken_nonneg {parts : List Sys} {a p : Auto} (hv : ∀ s ∈ parts, sysValid s = true) (ha : autoValid a = true) (v : List Int) (h : BrokenW parts a p v) : ∀ x ∈ v, 0 ≤ x ∧ x < 6 := by
  obtain ⟨hal, -⟩ := allLetters_facts hv ha
  obtain ⟨n, ⟨h1, -⟩, -⟩ := h
  intro x hx
  exact bit_range hal ((letters_iff _ hal).1 (h1 x hx))
theorem areParts_all {parts : List Sys} (h : areParts parts = true) : ∀ s ∈ parts, sysValid s = true := by
  simp only [areParts, Bool.and_eq_true, List.all_eq_true] at h; exact h.2
theorem pv_spec (parts : List Sys) (p : Auto) : PV parts p (pvOf parts p) := by
  have : ∃ r, PV parts p r := by
    unfold PV
    by_cases h : (areParts parts && autoValid p) = true
    · simp only [if_pos h]
      rw [Bool.and_eq_true] at h
      exact first_exists _ fun v hv x hx => (broken_nonneg (areParts_all h.1) trivAuto_valid v hv x hx).1
    · simp only [if_neg h]; exact ⟨_, rfl⟩
  obtain ⟨r, hr⟩ := this
  rw [hr.of]; exact hr

end Go.Proofs.YtanekmfifmkbmaaGreatDoor

namespace Go.Proofs.YtanekmfifmkbmaaGreatDoor
set_option linter.unusedSimpArgs false
set_option linter.unusedVariables false
open Go




theorem triv_accepts (v : List Int) : accepts trivAuto (run trivAuto 0 v) = true := by
  have : run trivAuto 0 v = 0 := by
    have : ∀ (v : List Int) q, run trivAuto q v = q := by
      intro v
      induction v with
      | nil => intro q; rfl
      | cons l v ih => intro q; show run trivAuto (step trivAuto q l) v = q; rw [triv_step, ih]
    exact this v 0
  rw [this]; rfl
theorem inAll_triv {parts : List Sys} {l : Int} : inAll parts trivAuto l ↔ ∃ s ∈ parts, bit s.alphabet l = true := by
  unfold inAll
  have : bit trivAuto.alphabet l = false := by simp [trivAuto, bit]
  rw [this]; simp



end Go.Proofs.YtanekmfifmkbmaaGreatDoor

namespace Go.Proofs.YtanekmfifmkbmaaGreatDoor
set_option linter.unusedSimpArgs false
set_option linter.unusedVariables false
open Go

section
variable {a : Int} (ha : 0 ≤ a) (ha2 : a ≤ 63)
include ha ha2
end
end Go.Proofs.YtanekmfifmkbmaaGreatDoor
