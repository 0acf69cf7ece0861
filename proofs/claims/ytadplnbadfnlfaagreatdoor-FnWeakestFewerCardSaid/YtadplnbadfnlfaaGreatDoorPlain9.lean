/- Part of this seat's proofs, cut to what its law needs. -/

import Derived.Test.YtadplnbadfnlfaaGreatDoorDet

namespace Go.Proofs.YtadplnbadfnlfaaGreatDoor
set_option linter.unusedSimpArgs false
set_option linter.unusedVariables false
open Go

theorem div_pair {o n q : Nat} (hq : q < n) : (o * n + q) / n = o := by rw [Nat.mul_comm, Nat.mul_add_div (by omega), Nat.div_eq_of_lt hq, Nat.add_zero]
theorem mod_pair {o n q : Nat} (hq : q < n) : (o * n + q) % n = q := by rw [Nat.mul_comm, Nat.mul_add_mod, Nat.mod_eq_of_lt hq]

theorem leads_prod {N N1 N2 : Nat → Int → List Nat} {n : Nat} (hn : 0 < n) (h : ∀ node l r, r ∈ N node l ↔ ∃ o ∈ N1 (node / n) l, ∃ q ∈ N2 (node % n) l, r = o * n + q)
    (hlt : ∀ k l q, k < n → q ∈ N2 k l → q < n) (v : List Int) : ∀ node r, Leads N node v r ↔ Leads N1 (node / n) v (r / n) ∧ Leads N2 (node % n) v (r % n) := by
  induction v with
  | nil =>
    intro node r
    simp only [Leads]
    constructor
    · rintro rfl; exact ⟨rfl, rfl⟩
    · rintro ⟨h1, h2⟩
      have e1 := Nat.div_add_mod node n
      have e2 := Nat.div_add_mod r n
      rw [h1, h2] at e1
      omega
  | cons l v ih =>
    intro node r
    simp only [Leads]
    constructor
    · rintro ⟨b, hb, hr⟩
      obtain ⟨o, ho, q, hq, rfl⟩ := (h node l b).1 hb
      have hqn := hlt _ _ _ (Nat.mod_lt _ hn) hq
      have hr' := (ih _ _).1 hr
      rw [div_pair hqn, mod_pair hqn] at hr'
      exact ⟨⟨o, ho, hr'.1⟩, q, hq, hr'.2⟩
    · rintro ⟨⟨o, ho, h1⟩, q, hq, h2⟩
      have hqn := hlt _ _ _ (Nat.mod_lt _ hn) hq
      refine ⟨o * n + q, (h node l _).2 ⟨o, ho, q, hq, rfl⟩, (ih _ _).2 ?_⟩
      rw [div_pair hqn, mod_pair hqn]
      exact ⟨h1, h2⟩
def TraceV (s : Sys) (v : List Int) : Prop := ∃ q, Leads (sysCh s) 0 v q
theorem letters_iff {a : Int} (l : Int) (h : a ≤ 63) : l ∈ letters a ↔ bit a l = true := by
  constructor
  · intro hl; unfold letters lettersTo at hl; exact (List.mem_filter.1 hl).2
  · intro hb
    obtain ⟨h1, h2⟩ := bit_range h hb
    unfold letters lettersTo
    exact List.mem_filter.2 ⟨List.mem_map.2 ⟨l.toNat, List.mem_range.2 (by omega), by simp; omega⟩, hb⟩



end Go.Proofs.YtadplnbadfnlfaaGreatDoor

namespace Go.Proofs.YtadplnbadfnlfaaGreatDoor
set_option linter.unusedSimpArgs false
set_option linter.unusedVariables false
open Go


theorem size_wtext (u : List Int) : (wtext u).size = u.length := by simp [wtext, ByteArray.size]

def setAfter (s : Sys) (v : List Int) : Nat := v.foldl (stepM s) 1
theorem ch_bit {s : Sys} (h : sysValid s = true) {l : Int} (hb : bit s.alphabet l = true) (q r : Nat) : r ∈ sysCh s q l ↔ ∃ e ∈ s.edges, e.letter = l ∧ e.src.toNat = q ∧ e.dst.toNat = r := by
  unfold sysCh
  rw [if_pos hb]
  simp only [List.mem_map, List.mem_filter, Bool.and_eq_true, decide_eq_true_eq]
  constructor
  · rintro ⟨e, ⟨he, h1, h2⟩, h3⟩; exact ⟨e, he, h2, by omega, h3⟩
  · rintro ⟨e, he, h1, h2, h3⟩; have := (edges_in h he).2.2.1; exact ⟨e, ⟨he, by omega, h1⟩, h3⟩
theorem foldl_step_bit {s : Sys} (h : sysValid s = true) (v : List Int) (hv : ∀ x ∈ v, bit s.alphabet x = true) : ∀ set r, (v.foldl (stepM s) set).testBit r = true ↔ ∃ q, set.testBit q = true ∧ Leads (sysCh s) q v r := by
  induction v with
  | nil =>
    intro set r
    simp only [List.foldl_nil, Leads]
    exact ⟨fun h => ⟨r, h, rfl⟩, fun ⟨q, h, e⟩ => e ▸ h⟩
  | cons l v ih =>
    intro set r
    rw [List.foldl_cons, ih (fun x hx => hv x (by simp [hx]))]
    simp only [Leads, ch_bit h (hv l (by simp)), stepM_bit]
    constructor
    · rintro ⟨q, ⟨e, he, h1, h2, h3⟩, h4⟩; exact ⟨_, h2, q, ⟨e, he, h1, rfl, h3⟩, h4⟩
    · rintro ⟨q, hq, b, ⟨e, he, h1, rfl, h3⟩, h4⟩; exact ⟨b, ⟨e, he, h1, hq, h3⟩, h4⟩
theorem nat_ne_zero_bit {n : Nat} : n ≠ 0 ↔ ∃ i, n.testBit i = true := by
  constructor
  · intro h; obtain ⟨i, hi⟩ := Nat.exists_testBit_of_ne_zero h; exact ⟨i, hi⟩
  · rintro ⟨i, hi⟩ rfl; simp at hi
theorem setAfter_ne {s : Sys} (h : sysValid s = true) {v : List Int} (hv : ∀ x ∈ v, bit s.alphabet x = true) : setAfter s v ≠ 0 ↔ TraceV s v := by
  rw [nat_ne_zero_bit]
  unfold setAfter TraceV
  simp only [foldl_step_bit h v hv]
  constructor
  · rintro ⟨i, q, hq, h1⟩
    obtain rfl : q = 0 := by
      rw [show (1 : Nat) = 2 ^ 0 from rfl, Nat.testBit_two_pow] at hq
      simp at hq; omega
    exact ⟨i, h1⟩
  · rintro ⟨i, h1⟩; exact ⟨i, 0, by decide, h1⟩
theorem leads_filter (s : Sys) (v : List Int) : ∀ q r, Leads (sysCh s) q (v.filter (bit s.alphabet)) r ↔ Leads (sysCh s) q v r := by
  induction v with
  | nil => intro q r; exact Iff.rfl
  | cons l v ih =>
    intro q r
    by_cases hb : bit s.alphabet l = true
    · rw [List.filter_cons_of_pos hb]; simp only [Leads, ih]
    · rw [List.filter_cons_of_neg hb, ih]
      have : sysCh s q l = [q] := by unfold sysCh; rw [if_neg hb]
      simp only [Leads, this, List.mem_singleton, exists_eq_left]
theorem trace_filter (s : Sys) (v : List Int) : TraceV s (v.filter (bit s.alphabet)) ↔ TraceV s v := by unfold TraceV; simp only [leads_filter]

structure PVSome (parts : List Sys) (p : Auto) (w : ByteArray) : Prop where
  okp : areParts parts = true
  prop : autoValid p = true
  size : w.size < (partSizes parts).prod * p.next.length
  size5 : w.size ≤ 50000
  word : wordIn w (partsAlphabet parts) = true
  valid : wordValid w = true
  trace : ∀ s ∈ parts, TraceV s (chars w)
  brk : accepts p (run p 0 (chars w)) = false



structure VUSome (s : Sys) (a p : Auto) (w : ByteArray) : Prop where
  sys : sysValid s = true
  assum : autoValid a = true
  prop : autoValid p = true
  size5 : w.size ≤ 50000
  word : wordIn w (allLetters [s] a) = true
  valid : wordValid w = true
  trace : TraceV s (chars w)
  acc : accepts a (run a 0 (chars w)) = true
  brk : accepts p (run p 0 (chars w)) = false
end Go.Proofs.YtadplnbadfnlfaaGreatDoor

namespace Go.Proofs.YtadplnbadfnlfaaGreatDoor
set_option linter.unusedSimpArgs false
set_option linter.unusedVariables false
open Go

section
variable {a : Int} (ha : 0 ≤ a) (ha2 : a ≤ 63)
include ha ha2
end
end Go.Proofs.YtadplnbadfnlfaaGreatDoor
