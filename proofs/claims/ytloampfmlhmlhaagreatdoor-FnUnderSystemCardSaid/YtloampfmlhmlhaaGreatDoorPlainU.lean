/- The system of an automaton's accepting states: what its traces are. -/
import Derived.Test.YtloampfmlhmlhaaGreatDoorPlainC
namespace Go.Proofs.YtloampfmlhmlhaaGreatDoor
set_option linter.unusedSimpArgs false
set_option linter.unusedVariables false
open Go

/-- The number of accepting states below q. -/
def rankA (A : Auto) (q : Nat) : Nat := ((List.range q).filter (accepts A)).length
theorem rankA_zero (A : Auto) : rankA A 0 = 0 := rfl
theorem rankA_succ (A : Auto) (q : Nat) : rankA A (q + 1) = rankA A q + (if accepts A q = true then 1 else 0) := by
  unfold rankA
  rw [List.range_succ, List.filter_append, List.length_append]
  by_cases h : accepts A q = true <;> simp [h]
theorem rankA_mono (A : Auto) {q r : Nat} (h : q ≤ r) : rankA A q ≤ rankA A r := by
  induction r with
  | zero => rw [Nat.le_zero.1 h]; exact Nat.le_refl _
  | succ r ih =>
    by_cases hq : q ≤ r
    · exact Nat.le_trans (ih hq) (by rw [rankA_succ]; omega)
    · rw [show q = r + 1 by omega]; exact Nat.le_refl _
theorem rankA_lt {A : Auto} {q r : Nat} (ha : accepts A q = true) (h : q < r) : rankA A q < rankA A r := by
  have h1 := rankA_succ A q
  rw [if_pos ha] at h1
  have h2 := rankA_mono A (show q + 1 ≤ r from h)
  omega
theorem rankA_inj {A : Auto} {q r : Nat} (hq : accepts A q = true) (hr : accepts A r = true) (h : rankA A q = rankA A r) : q = r := by
  rcases Nat.lt_trichotomy q r with h1 | h1 | h1
  · have := rankA_lt hq h1; omega
  · exact h1
  · have := rankA_lt hr h1; omega
theorem rankA_le (A : Auto) (q : Nat) : rankA A q ≤ q := by
  unfold rankA
  exact Nat.le_trans (List.length_filter_le _ _) (by simp)

def edgesFrom (A : Auto) (q : Nat) : List Edge := ((letters A.alphabet).filter fun l => accepts A (step A q l)).map fun l => ⟨(rankA A q : Int), l, (rankA A (step A q l) : Int)⟩
def sysOf (A : Auto) : Sys := ⟨A.alphabet, (rankA A A.next.length : Int), ((List.range A.next.length).filter (accepts A)).flatMap (edgesFrom A)⟩
theorem mem_edgesFrom {A : Auto} {q : Nat} {e : Edge} : e ∈ edgesFrom A q ↔ ∃ l ∈ letters A.alphabet, accepts A (step A q l) = true ∧ e = ⟨(rankA A q : Int), l, (rankA A (step A q l) : Int)⟩ := by
  unfold edgesFrom
  simp only [List.mem_map, List.mem_filter]
  constructor
  · rintro ⟨l, ⟨h1, h2⟩, rfl⟩; exact ⟨l, h1, h2, rfl⟩
  · rintro ⟨l, h1, h2, rfl⟩; exact ⟨l, ⟨h1, h2⟩, rfl⟩
theorem mem_sysOf {A : Auto} {e : Edge} : e ∈ (sysOf A).edges ↔ ∃ q l, q < A.next.length ∧ accepts A q = true ∧ l ∈ letters A.alphabet ∧ accepts A (step A q l) = true ∧ e = ⟨(rankA A q : Int), l, (rankA A (step A q l) : Int)⟩ := by
  unfold sysOf
  simp only [List.mem_flatMap, List.mem_filter, List.mem_range, mem_edgesFrom]
  constructor
  · rintro ⟨q, ⟨h1, h2⟩, l, h3, h4, rfl⟩; exact ⟨q, l, h1, h2, h3, h4, rfl⟩
  · rintro ⟨q, l, h1, h2, h3, h4, rfl⟩; exact ⟨q, ⟨h1, h2⟩, l, h3, h4, rfl⟩
theorem letters_sorted (a : Int) : (letters a).Pairwise (· < ·) := by
  unfold letters lettersTo
  refine List.Pairwise.filter _ (List.pairwise_map.2 ?_)
  exact List.pairwise_lt_range.imp fun h => by simp; exact h
theorem sysOf_valid {A : Auto} (hA : autoValid A = true) (h0 : accepts A 0 = true) : sysValid (sysOf A) = true := by
  obtain ⟨a1, a2, a3, a4, -⟩ := autoValid_facts hA
  have hn : 1 ≤ rankA A A.next.length := by have := rankA_lt h0 (show 0 < A.next.length by omega); omega
  have hn2 := rankA_le A A.next.length
  refine (sysValid_iff _).2 ⟨by show isAlpha A.alphabet = true; simp only [isAlpha, Bool.and_eq_true, decide_eq_true_eq]; exact ⟨a1, a2⟩, by simp only [sysOf]; omega, by simp only [sysOf]; omega, fun e he => ?_, ?_⟩
  · obtain ⟨q, l, h1, h2, h3, h4, rfl⟩ := mem_sysOf.1 he
    have hb := (letters_iff l a2).1 h3
    obtain ⟨l1, l2⟩ := bit_range a2 hb
    have r1 := rankA_lt h2 h1
    have r2 := rankA_lt h4 (step_lt hA h1 l)
    simp only [edgeOk, sysOf, Bool.and_eq_true, decide_eq_true_eq]
    exact ⟨⟨⟨⟨⟨⟨Int.natCast_nonneg _, decide_eq_true (Int.ofNat_lt.2 r1)⟩, Int.natCast_nonneg _⟩, decide_eq_true (Int.ofNat_lt.2 r2)⟩, l1⟩, l2⟩, hb⟩
  · unfold sysOf
    refine List.pairwise_flatMap.2 ⟨fun q _ => ?_, ?_⟩
    · unfold edgesFrom
      refine List.pairwise_map.2 ((letters_sorted A.alphabet).filter _ |>.imp fun {x y} h => ?_)
      simp [edgeLt, h]
    · refine List.Pairwise.imp_of_mem (R := (· < ·)) (fun {q r} hq _ h x hx y hy => ?_) (List.pairwise_lt_range.filter _)
      obtain ⟨l, -, -, rfl⟩ := mem_edgesFrom.1 hx
      obtain ⟨l', -, -, rfl⟩ := mem_edgesFrom.1 hy
      have := rankA_lt (List.mem_filter.1 hq).2 h
      simp only [edgeLt, Bool.or_eq_true, decide_eq_true_eq]
      exact .inl (by omega)
theorem sysOf_ch {A : Auto} (hA : autoValid A = true) (h0 : accepts A 0 = true) {q : Nat} (hq : q < A.next.length) (ha : accepts A q = true) (l : Int) (b : Nat) :
    b ∈ sysCh (sysOf A) (rankA A q) l ↔ accepts A (step A q l) = true ∧ b = rankA A (step A q l) := by
  obtain ⟨a1, a2, -⟩ := autoValid_facts hA
  by_cases hb : bit A.alphabet l = true
  · rw [ch_bit (sysOf_valid hA h0) (show bit (sysOf A).alphabet l = true from hb)]
    constructor
    · rintro ⟨e, he, e1, e2, e3⟩
      obtain ⟨q', l', h1, h2, h3, h4, rfl⟩ := mem_sysOf.1 he
      simp only [Int.toNat_natCast] at e1 e2 e3
      subst e1
      obtain rfl := rankA_inj h2 ha e2
      exact ⟨h4, e3.symm⟩
    · rintro ⟨h1, rfl⟩
      exact ⟨_, mem_sysOf.2 ⟨q, l, hq, ha, (letters_iff l a2).2 hb, h1, rfl⟩, rfl, Int.toNat_natCast _, Int.toNat_natCast _⟩
  · have hs : step A q l = q := by simp [step, hb]
    have hb' : ¬ bit (sysOf A).alphabet l = true := hb
    unfold sysCh
    rw [if_neg hb', hs]
    simp [ha]
theorem sysOf_leads {A : Auto} (hA : autoValid A = true) (h0 : accepts A 0 = true) (v : List Int) : ∀ q, q < A.next.length → accepts A q = true → ∀ m, Leads (sysCh (sysOf A)) (rankA A q) v m ↔ (∀ k, accepts A (run A q (v.take k)) = true) ∧ m = rankA A (run A q v) := by
  induction v with
  | nil =>
    intro q _ ha m
    simp only [Leads, List.take_nil]
    exact ⟨fun e => ⟨fun _ => ha, e.symm⟩, fun h => h.2.symm⟩
  | cons l v ih =>
    intro q hq ha m
    simp only [Leads, sysOf_ch hA h0 hq ha]
    constructor
    · rintro ⟨b, ⟨h1, rfl⟩, h2⟩
      obtain ⟨g1, g2⟩ := (ih _ (step_lt hA hq l) h1 m).1 h2
      refine ⟨fun k => ?_, g2⟩
      cases k with
      | zero => exact ha
      | succ k => exact g1 k
    · rintro ⟨h1, h2⟩
      have h3 : accepts A (step A q l) = true := h1 1
      exact ⟨_, ⟨h3, rfl⟩, (ih _ (step_lt hA hq l) h3 m).2 ⟨fun k => h1 (k + 1), h2⟩⟩
theorem sysOf_trace {A : Auto} (hA : autoValid A = true) (h0 : accepts A 0 = true) (v : List Int) : TraceV (sysOf A) v ↔ ∀ k, accepts A (run A 0 (v.take k)) = true := by
  have hn : 0 < A.next.length := by have := autoValid_facts hA; omega
  unfold TraceV
  rw [← rankA_zero A]
  simp only [sysOf_leads hA h0 v 0 hn h0]
  exact ⟨fun ⟨m, h, _⟩ => h, fun h => ⟨_, h, rfl⟩⟩
/-- With a word the automaton accepts its prefixes. -/
def PrefClosed (A : Auto) : Prop := ∀ u v, accepts A (run A 0 (u ++ v)) = true → accepts A (run A 0 u) = true
theorem sysOf_trace' {A : Auto} (hA : autoValid A = true) (h0 : accepts A 0 = true) (hc : PrefClosed A) (v : List Int) : TraceV (sysOf A) v ↔ accepts A (run A 0 v) = true := by
  rw [sysOf_trace hA h0]
  constructor
  · intro h; have := h v.length; rwa [List.take_length] at this
  · intro h k
    refine hc (v.take k) (v.drop k) ?_
    rwa [List.take_append_drop]
/-- A prefix-closed assumption acts as the system of it. -/
theorem vu_system {S : Sys} {A P : Auto} (hA : autoValid A = true) (h0 : accepts A 0 = true) (hc : PrefClosed A) : vuOf S A P = pvOf [S, sysOf A] P := by
  have hv := sysOf_valid hA h0
  have he : areParts [S, sysOf A] = sysValid S := by simp [areParts, hv]
  rcases vu_cases S A P with ⟨h, e⟩ | ⟨h, hX⟩
  · rcases pv_cases [S, sysOf A] P with ⟨-, e'⟩ | ⟨h', -⟩
    · rw [e, e']
    · rw [he] at h'; rw [hA, Bool.and_true, h'] at h; cases h
  · rcases pv_cases [S, sysOf A] P with ⟨h', -⟩ | ⟨h', hY⟩
    · rw [he] at h'; rw [hA, Bool.and_true, h'] at h; cases h
    · simp only [Bool.and_eq_true] at h
      have hw : BrokenW [S] A P = BrokenW [S, sysOf A] trivAuto P := funext fun v => propext (by
        rw [brokenW_iff (by simpa using h.1.1) hA h.2, brokenW_iff (by simp [h.1.1, hv]) trivAuto_valid h.2]
        simp only [inAll, List.mem_singleton, exists_eq_left, forall_eq, List.mem_cons, List.not_mem_nil, or_false, forall_eq_or_imp, exists_eq_or_imp, triv_accepts, true_and, sysOf_trace' hA h0 hc, and_assoc]
        have e0 : ∀ x, bit trivAuto.alphabet x = false := fun x => by simp [trivAuto, bit]
        have e1 : (sysOf A).alphabet = A.alphabet := rfl
        simp only [e0, e1, Bool.false_eq_true, or_false])
      rw [hw] at hX
      exact hX.unique hY

/-! ### Prefix-closed automata -/
/-- No state that does not accept has a successor that leads to one that accepts. -/
def IsPC (B : Auto) : Prop := ∀ q l v, q < B.next.length → bit B.alphabet l = true → accepts B q = false → accepts B (run B (step B q l) v) = false
theorem pc_word {B : Auto} (hB : autoValid B = true) (h : IsPC B) (v : List Int) : ∀ q, q < B.next.length → accepts B (run B q v) = true → accepts B q = true := by
  induction v with
  | nil => intro q _ ha; exact ha
  | cons l v ih =>
    intro q hq ha
    by_cases hb : bit B.alphabet l = true
    · cases hc : accepts B q with
      | true => rfl
      | false =>
        have := h q l v hq hb hc
        rw [show run B q (l :: v) = run B (step B q l) v from rfl, this] at ha
        cases ha
    · refine ih q hq ?_
      rwa [show run B q (l :: v) = run B (step B q l) v from rfl, show step B q l = q by simp [step, hb]] at ha
theorem prefClosed_of {A B : Auto} (hB : autoValid B = true) (h : IsPC B) (hacc : ∀ w, accepts A (run A 0 w) = accepts B (run B 0 w)) : PrefClosed A := fun u v hv => by
  have hn : 0 < B.next.length := by have := autoValid_facts hB; omega
  rw [hacc] at hv ⊢
  rw [show run B 0 (u ++ v) = run B (run B 0 u) v from List.foldl_append ..] at hv
  exact pc_word hB h v _ (run_lt hB u hn) hv

/-! ### The set of the accepting states, and its ranks -/
/-- How many of the first twelve bits are set. -/
def pop12 (x : Nat) : Nat := ((List.range 12).filter (x.testBit ·)).length
/-- The accepting states below k as a set. -/
def setA (A : Auto) : Nat → Nat
  | 0 => 0
  | k + 1 => if accepts A k = true then setA A k ||| 2 ^ k else setA A k
theorem setA_bit (A : Auto) (k q : Nat) : (setA A k).testBit q = (decide (q < k) && accepts A q) := by
  induction k with
  | zero => simp [setA]
  | succ k ih =>
    unfold setA
    by_cases ha : accepts A k = true
    · rw [if_pos ha, Nat.testBit_or, ih, Nat.testBit_two_pow]
      by_cases h : q = k
      · subst h; simp [ha]
      · have : decide (k = q) = false := by simp; omega
        rw [this, Bool.or_false]
        congr 1
        simp; omega
    · rw [if_neg ha, ih]
      by_cases h : q = k
      · subst h
        have : accepts A q = false := by simpa using ha
        simp [this]
      · congr 1
        simp; omega
theorem setA_lt (A : Auto) {k : Nat} (h : k ≤ 12) : setA A k < 4096 := by
  rw [show (4096 : Nat) = 2 ^ 12 from rfl]
  refine Nat.lt_pow_two_of_testBit _ fun i hi => ?_
  rw [setA_bit]
  have : decide (i < k) = false := by simp; omega
  rw [this, Bool.false_and]
theorem pop_rank (A : Auto) {n k : Nat} (hn : n ≤ 12) (hk : k ≤ n) : pop12 (setA A n % 2 ^ k) = rankA A k := by
  unfold pop12 rankA
  rw [show (12 : Nat) = k + (12 - k) by omega, List.range_add, List.filter_append]
  have h1 : (List.range k).filter ((setA A n % 2 ^ k).testBit ·) = (List.range k).filter (accepts A) := by
    refine List.filter_congr fun q hq => ?_
    have hq := List.mem_range.1 hq
    rw [Nat.testBit_mod_two_pow, setA_bit]
    simp [hq, show q < n by omega]
  have h2 : ((List.range (12 - k)).map (k + ·)).filter ((setA A n % 2 ^ k).testBit ·) = [] := by
    rw [List.filter_eq_nil_iff]
    intro q hq
    obtain ⟨i, -, rfl⟩ := List.mem_map.1 hq
    rw [Nat.testBit_mod_two_pow]
    simp
    omega
  rw [h1, h2, List.append_nil]
theorem bits_setA (A : Auto) {n : Nat} (hn : n ≤ 12) : bitsOf (setA A n) = (List.range n).filter (accepts A) := by
  unfold bitsOf
  rw [show (16 : Nat) = n + (16 - n) by omega, List.range_add, List.filter_append]
  have h1 : (List.range n).filter (fun q => (setA A n).testBit q) = (List.range n).filter (accepts A) := by
    refine List.filter_congr fun q hq => ?_
    have hq := List.mem_range.1 hq
    rw [setA_bit]
    simp [hq]
  have h2 : ((List.range (16 - n)).map (n + ·)).filter (fun q => (setA A n).testBit q) = [] := by
    rw [List.filter_eq_nil_iff]
    intro q hq
    obtain ⟨i, -, rfl⟩ := List.mem_map.1 hq
    rw [setA_bit]
    simp
    omega
  rw [h1, h2, List.append_nil]
end Go.Proofs.YtloampfmlhmlhaaGreatDoor
