/- Part of this seat's proofs, cut to what its law needs. -/

import Derived.Laws.BitsAllLaws
import Derived.Laws.BitsLemmas
import Derived.RowKit
import Derived.Test.YtanekmfifmkbmaaGreatDoorBase

namespace Go.Proofs.YtanekmfifmkbmaaGreatDoor
set_option linter.unusedSimpArgs false
set_option linter.unusedVariables false
open Go

def bit (s n : Int) : Bool := decide (0 ≤ n) && s.toNat.testBit n.toNat
def isAlpha (a : Int) : Bool := decide (0 ≤ a) && decide (a ≤ 63)
def lettersTo (a : Int) (k : Nat) : List Int := ((List.range k).map Int.ofNat).filter (bit a)
def letters (a : Int) : List Int := lettersTo a 6

theorem ofInt_i64 (a : Nat) (ha : a < 9223372036854775808) : (BitVec.ofInt 64 (a : Int)).toNat = a := by
  rw [BitVec.ofInt_natCast, BitVec.toNat_ofNat]; exact Nat.mod_eq_of_lt (by omega)
theorem i64_and_nat (a b : Nat) (ha : a < 9223372036854775808) (hb : b < 9223372036854775808) : bits .and .i64 (a : Int) (b : Int) = ((a &&& b : Nat) : Int) := by
  have hx : a &&& b < 2 ^ 63 := Nat.and_lt_two_pow _ (by omega)
  show IntKind.i64.wrap ((BitVec.ofInt 64 (a : Int) &&& BitVec.ofInt 64 (b : Int)).toNat : Int) = _
  rw [BitVec.toNat_and, ofInt_i64 a ha, ofInt_i64 b hb, IntKind.wrap_i64]
  omega
theorem i64_or_nat (a b : Nat) (ha : a < 9223372036854775808) (hb : b < 9223372036854775808) : bits .or .i64 (a : Int) (b : Int) = ((a ||| b : Nat) : Int) := by
  have hx : a ||| b < 2 ^ 63 := Nat.or_lt_two_pow (by omega) (by omega)
  show IntKind.i64.wrap ((BitVec.ofInt 64 (a : Int) ||| BitVec.ofInt 64 (b : Int)).toNat : Int) = _
  rw [BitVec.toNat_or, ofInt_i64 a ha, ofInt_i64 b hb, IntKind.wrap_i64]
  omega

theorem has_bit (s n : Int) (hs : 0 ≤ s) (hs2 : s ≤ 9223372036854775807) : (bits .and .i64 (s / 2 ^ n.toNat) 1 == 1) = s.toNat.testBit n.toNat := by
  obtain ⟨m, rfl⟩ := Int.eq_ofNat_of_zero_le hs
  generalize n.toNat = k
  have e : ((m : Int) / 2 ^ k) = ((m / 2 ^ k : Nat) : Int) := by simp
  have hlt : m / 2 ^ k < 9223372036854775808 := by have := Nat.div_le_self m (2 ^ k); omega
  rw [e]
  have h := i64_and_nat (m / 2 ^ k) 1 hlt (by omega)
  rw [show ((1 : Nat) : Int) = 1 from rfl] at h
  rw [h, Nat.and_one_is_mod, Int.toNat_natCast, Nat.testBit_eq_decide_div_mod_eq, Bool.eq_iff_iff]
  simp only [beq_iff_eq, decide_eq_true_eq]
  omega
theorem bit_nonneg {s n : Int} (h : 0 ≤ n) : bit s n = s.toNat.testBit n.toNat := by simp [bit, h]
theorem bit_neg {s n : Int} (h : n < 0) : bit s n = false := by simp [bit]; omega

theorem lettersTo_succ (a : Int) (k : Nat) : lettersTo a (k + 1) = lettersTo a k ++ (if bit a k then [(k : Int)] else []) := by
  unfold lettersTo
  rw [List.range_succ, List.map_append, List.filter_append]
  simp only [List.map_cons, List.map_nil, List.filter_cons, List.filter_nil]
  rfl
theorem lettersTo_len (a : Int) (k : Nat) : (lettersTo a k).length ≤ k := by
  unfold lettersTo
  exact Nat.le_trans (List.length_filter_le _ _) (by simp)

end Go.Proofs.YtanekmfifmkbmaaGreatDoor

namespace Go.Proofs.YtanekmfifmkbmaaGreatDoor
set_option linter.unusedSimpArgs false
set_option linter.unusedVariables false
open Go

def qOk (n : Nat) (q : Int) : Bool := decide (0 ≤ q) && decide (q < n)
def rowOk (row : List Int) (width n : Nat) : Bool := decide (row.length = width) && row.all (qOk n)
def nletters (a : Int) : Nat := (letters a).length
def autoValid (x : Auto) : Bool :=
  isAlpha x.alphabet && decide (1 ≤ x.next.length) && decide (x.next.length ≤ 12) && decide (x.accept.length = x.next.length) && x.next.all fun row => rowOk row (nletters x.alphabet) x.next.length

def edgeLt (a b : Edge) : Bool := decide (a.src < b.src) || (decide (a.src = b.src) && (decide (a.letter < b.letter) || (decide (a.letter = b.letter) && decide (a.dst < b.dst))))
def edgeOk (s : Sys) (e : Edge) : Bool := decide (0 ≤ e.src) && decide (e.src < s.states) && decide (0 ≤ e.dst) && decide (e.dst < s.states) && decide (0 ≤ e.letter) && decide (e.letter < 6) && bit s.alphabet e.letter
def edgeAt (s : Sys) (i : Nat) : Bool :=
  match s.edges[i]? with
  | none => true
  | some e => edgeOk s e && (match i with | 0 => true | j + 1 => match s.edges[j]? with | none => true | some d => edgeLt d e)
def sysValid (s : Sys) : Bool :=
  isAlpha s.alphabet && decide (1 ≤ s.states) && decide (s.states ≤ 16) && (List.range s.edges.length).all (edgeAt s)

theorem all_take_succ {α : Type} {l : List α} {k : Nat} {x : α} {p : α → Bool} (h : l[k]? = some x) : (l.take (k + 1)).all p = ((l.take k).all p && p x) := by
  rw [List.take_add_one, h, List.all_append]; simp
theorem not_all_of {α : Type} {l : List α} {k : Nat} {x : α} {p : α → Bool} (h : l[k]? = some x) (hp : p x = false) : l.all p = false := by
  rw [List.all_eq_false]
  exact ⟨x, List.mem_of_getElem? h, by simp [hp]⟩
theorem range_all_succ (p : Nat → Bool) (k : Nat) : (List.range (k + 1)).all p = ((List.range k).all p && p k) := by rw [List.range_succ, List.all_append]; simp
theorem range_not_all {p : Nat → Bool} {k n : Nat} (h : k < n) (hp : p k = false) : (List.range n).all p = false := by
  rw [List.all_eq_false]
  exact ⟨k, List.mem_range.2 h, by simp [hp]⟩

def cmpI (a b : Int) : Int := if a < b then -1 else if b < a then 1 else 0
def orI (l : List Int) : Int := (l.find? (fun x => x != 0)).getD 0
def cmpEdges (a b : Edge) : Int := orI [cmpI a.src b.src, cmpI a.letter b.letter, cmpI a.dst b.dst]
theorem cmpI_self (a : Int) : cmpI a a = 0 := by simp [cmpI]
theorem cmpEdges_lt (a b : Edge) : decide (0 ≤ cmpEdges a b) = !edgeLt a b := by
  have h1 : ∀ x y : Int, cmpI x y = -1 ∧ x < y ∨ cmpI x y = 1 ∧ y < x ∨ cmpI x y = 0 ∧ x = y := by
    intro x y; unfold cmpI; split
    · exact .inl ⟨rfl, by assumption⟩
    · split
      · exact .inr (.inl ⟨rfl, by assumption⟩)
      · exact .inr (.inr ⟨rfl, by omega⟩)
  unfold cmpEdges edgeLt
  rcases h1 a.src b.src with ⟨e, h⟩ | ⟨e, h⟩ | ⟨e, h⟩
  · simp [orI, e, h]
  · have : ¬ a.src < b.src := by omega
    have : ¬ a.src = b.src := by omega
    simp [orI, e, *]
  · rcases h1 a.letter b.letter with ⟨e2, h2⟩ | ⟨e2, h2⟩ | ⟨e2, h2⟩
    · simp [orI, cmpI_self, e, e2, h, h2]
    · have : ¬ a.letter < b.letter := by omega
      have : ¬ a.letter = b.letter := by omega
      simp [orI, cmpI_self, e, e2, h, *]
    · rcases h1 a.dst b.dst with ⟨e3, h3⟩ | ⟨e3, h3⟩ | ⟨e3, h3⟩
      · simp [orI, cmpI_self, e, e2, e3, h, h2, h3]
      · have : ¬ a.dst < b.dst := by omega
        simp [orI, cmpI_self, e, e2, e3, h, h2, *]
      · have : ¬ a.dst < b.dst := by omega
        simp [orI, cmpI_self, e, e2, e3, h, h2, *]

end Go.Proofs.YtanekmfifmkbmaaGreatDoor

namespace Go.Proofs.YtanekmfifmkbmaaGreatDoor
set_option linter.unusedSimpArgs false
set_option linter.unusedVariables false
open Go

def chAt (s : ByteArray) (i : Nat) : Int := (((s.data[i]?).getD 0).toNat : Int) - 97
theorem chAt_lo (s : ByteArray) (i : Nat) : -97 ≤ chAt s i := by unfold chAt; omega
theorem chAt_hi (s : ByteArray) (i : Nat) : chAt s i < 159 := by unfold chAt; have := ((s.data[i]?).getD 0).toNat_lt; omega
theorem chAt_get (s : ByteArray) (i : Nat) (h : i < s.size) : ((s[i]).toNat : Int) = chAt s i + 97 := by
  have h' : i < s.data.size := h
  unfold chAt
  rw [Array.getElem?_eq_getElem h', show s[i] = s.data[i] from ByteArray.getElem_eq_getElem_data]
  show _ = ((s.data[i]).toNat : Int) - 97 + 97
  omega

theorem bit_hi (a l : Int) (h : a ≤ 63) (hl : 6 ≤ l) : bit a l = false := by
  have h1 : a.toNat < 2 ^ l.toNat := Nat.lt_of_lt_of_le (show a.toNat < 2 ^ 6 by omega) (Nat.pow_le_pow_right (by omega) (by omega))
  simp [bit, Nat.testBit_lt_two_pow h1]
theorem bit_range {a l : Int} (h : a ≤ 63) (hb : bit a l = true) : 0 ≤ l ∧ l < 6 := by
  refine ⟨?_, ?_⟩
  · by_cases h0 : 0 ≤ l
    · exact h0
    · rw [bit_neg (by omega)] at hb; cases hb
  · by_cases h6 : l < 6
    · exact h6
    · rw [bit_hi a l h (by omega)] at hb; cases hb
def place (a l : Int) : Nat := (lettersTo a l.toNat).length
theorem place_all : ∀ a ∈ List.range 64, ∀ l ∈ List.range 6, ∀ m ∈ List.range 6, (decide ((letters (Int.ofNat a))[m]? = some (Int.ofNat l))) = (bit (Int.ofNat a) (Int.ofNat l) && decide (place (Int.ofNat a) (Int.ofNat l) = m)) := by decide +kernel
theorem place_lt_all : ∀ a ∈ List.range 64, ∀ l ∈ List.range 6, bit (Int.ofNat a) (Int.ofNat l) = true → place (Int.ofNat a) (Int.ofNat l) < nletters (Int.ofNat a) := by decide +kernel
theorem letters_place (a l : Int) (m : Nat) (ha : 0 ≤ a) (ha2 : a ≤ 63) (hl : 0 ≤ l) (hl2 : l < 6) (hm : m < 6) : (letters a)[m]? = some l ↔ (bit a l = true ∧ place a l = m) := by
  obtain ⟨a, rfl⟩ := Int.eq_ofNat_of_zero_le ha
  obtain ⟨l, rfl⟩ := Int.eq_ofNat_of_zero_le hl
  have := place_all a (List.mem_range.2 (by omega)) l (List.mem_range.2 (by omega)) m (List.mem_range.2 hm)
  simp only [Int.ofNat_eq_natCast] at this
  rw [Bool.eq_iff_iff] at this
  simpa using this
theorem place_lt (a l : Int) (ha : 0 ≤ a) (ha2 : a ≤ 63) (hb : bit a l = true) : place a l < nletters a := by
  obtain ⟨hl, hl2⟩ := bit_range ha2 hb
  obtain ⟨a, rfl⟩ := Int.eq_ofNat_of_zero_le ha
  obtain ⟨l, rfl⟩ := Int.eq_ofNat_of_zero_le hl
  exact place_lt_all a (List.mem_range.2 (by omega)) l (List.mem_range.2 (by omega)) hb
theorem letters_mem (a l : Int) (m : Nat) (ha2 : a ≤ 63) (h : (letters a)[m]? = some l) : bit a l = true ∧ 0 ≤ l ∧ l < 6 ∧ m < 6 := by
  have h1 := List.mem_of_getElem? h
  have hb : bit a l = true := by unfold letters lettersTo at h1; exact (List.mem_filter.1 h1).2
  have := lettersTo_len a 6
  have h2 := (List.getElem?_eq_some_iff.1 h).1
  unfold letters at h2
  obtain ⟨h3, h4⟩ := bit_range ha2 hb
  exact ⟨hb, h3, h4, by omega⟩

def entry (x : Auto) (q i : Nat) : Int := (((x.next[q]?).getD [])[i]?).getD 0
def step (x : Auto) (q : Nat) (l : Int) : Nat := if bit x.alphabet l then (entry x q (place x.alphabet l)).toNat else q
def run (x : Auto) (q : Nat) (ls : List Int) : Nat := ls.foldl (step x) q

theorem autoValid_row {x : Auto} (h : autoValid x = true) {q : Nat} (hq : q < x.next.length) : ∃ row, x.next[q]? = some row ∧ row.length = nletters x.alphabet ∧ ∀ (i : Nat) y, row[i]? = some y → 0 ≤ y ∧ y < x.next.length := by
  refine ⟨_, List.getElem?_eq_getElem hq, ?_⟩
  simp only [autoValid, Bool.and_eq_true, List.all_eq_true] at h
  have h1 := h.2 _ (List.getElem_mem hq)
  simp only [rowOk, Bool.and_eq_true, List.all_eq_true, decide_eq_true_eq, qOk] at h1
  exact ⟨h1.1, fun i y hy => h1.2 y (List.mem_of_getElem? hy)⟩
theorem autoValid_facts {x : Auto} (h : autoValid x = true) : 0 ≤ x.alphabet ∧ x.alphabet ≤ 63 ∧ 1 ≤ x.next.length ∧ x.next.length ≤ 12 ∧ x.accept.length = x.next.length := by
  simp only [autoValid, Bool.and_eq_true, decide_eq_true_eq, isAlpha] at h
  obtain ⟨⟨⟨⟨⟨h1, h2⟩, h3⟩, h4⟩, h5⟩, _⟩ := h
  exact ⟨h1, h2, h3, h4, h5⟩
structure AutoFit (x : Auto) : Prop where
  a0 : 0 ≤ x.alphabet
  a63 : x.alphabet ≤ 63
  n1 : 1 ≤ x.next.length
  n2 : x.next.length ≤ 1048600
  acc : x.accept.length = x.next.length
  row : ∀ {q : Nat}, q < x.next.length → ∃ row, x.next[q]? = some row ∧ row.length = nletters x.alphabet ∧ ∀ (i : Nat) y, row[i]? = some y → 0 ≤ y ∧ y < x.next.length
theorem AutoFit.of {x : Auto} (h : autoValid x = true) : AutoFit x :=
  let ⟨h1, h2, h3, h4, h5⟩ := autoValid_facts h
  ⟨h1, h2, h3, by omega, h5, fun hq => autoValid_row h hq⟩
theorem AutoFit.step_facts {x : Auto} (h : AutoFit x) {q : Nat} (hq : q < x.next.length) {l : Int} (hb : bit x.alphabet l = true) :
    ∃ row y, x.next[q]? = some row ∧ row[place x.alphabet l]? = some y ∧ y = (step x q l : Int) ∧ step x q l < x.next.length := by
  obtain ⟨row, h1, h2, h3⟩ := h.row hq
  have ha := h.a0
  have ha2 := h.a63
  have hp := place_lt _ l ha ha2 hb
  have hy : row[place x.alphabet l]? = some row[place x.alphabet l] := List.getElem?_eq_getElem (by omega)
  have := h3 _ _ hy
  refine ⟨row, _, h1, hy, ?_, ?_⟩
  · simp [step, hb, entry, h1, hy]; omega
  · simp [step, hb, entry, h1, hy]; omega
theorem AutoFit.step_lt {x : Auto} (h : AutoFit x) {q : Nat} (hq : q < x.next.length) (l : Int) : step x q l < x.next.length := by
  by_cases hb : bit x.alphabet l = true
  · obtain ⟨_, _, _, _, _, h⟩ := h.step_facts hq hb; exact h
  · simp [step, hb, hq]
theorem step_lt {x : Auto} (h : autoValid x = true) {q : Nat} (hq : q < x.next.length) (l : Int) : step x q l < x.next.length := (AutoFit.of h).step_lt hq l
theorem AutoFit.run_lt {x : Auto} (h : AutoFit x) (ls : List Int) {q : Nat} (hq : q < x.next.length) : run x q ls < x.next.length := by
  induction ls generalizing q with
  | nil => exact hq
  | cons l ls ih => exact ih (h.step_lt hq l)
theorem run_lt {x : Auto} (h : autoValid x = true) (ls : List Int) {q : Nat} (hq : q < x.next.length) : run x q ls < x.next.length := (AutoFit.of h).run_lt ls hq
def accepts (x : Auto) (q : Nat) : Bool := (x.accept[q]?).getD false
end Go.Proofs.YtanekmfifmkbmaaGreatDoor

namespace Go.Proofs.YtanekmfifmkbmaaGreatDoor
set_option linter.unusedSimpArgs false
set_option linter.unusedVariables false
open Go

def addTo (l : Int) (set : Nat) (out : Nat) (e : Edge) : Nat := if e.letter = l ∧ set.testBit e.src.toNat = true then out ||| 2 ^ e.dst.toNat else out
def stepM (s : Sys) (set : Nat) (l : Int) : Nat := s.edges.foldl (addTo l set) 0
theorem foldl_addTo (l : Int) (set : Nat) (r : Nat) (es : List Edge) (out : Nat) :
    (es.foldl (addTo l set) out).testBit r = true ↔ (out.testBit r = true ∨ ∃ e ∈ es, e.letter = l ∧ set.testBit e.src.toNat = true ∧ e.dst.toNat = r) := by
  induction es generalizing out with
  | nil => simp
  | cons e es ih =>
    rw [List.foldl_cons, ih]
    unfold addTo
    by_cases h : e.letter = l ∧ set.testBit e.src.toNat = true
    · rw [if_pos h, Nat.testBit_or, Bool.or_eq_true, Nat.testBit_two_pow, decide_eq_true_eq]
      constructor
      · rintro ((h1 | h1) | ⟨e', h1, h2⟩)
        · exact .inl h1
        · exact .inr ⟨e, List.mem_cons_self, h.1, h.2, h1⟩
        · exact .inr ⟨e', List.mem_cons_of_mem _ h1, h2⟩
      · rintro (h1 | ⟨e', h1, h2, h3, h4⟩)
        · exact .inl (.inl h1)
        · rcases List.mem_cons.1 h1 with rfl | h1
          · exact .inl (.inr h4)
          · exact .inr ⟨e', h1, h2, h3, h4⟩
    · rw [if_neg h]
      constructor
      · rintro (h1 | ⟨e', h1, h2⟩)
        · exact .inl h1
        · exact .inr ⟨e', List.mem_cons_of_mem _ h1, h2⟩
      · rintro (h1 | ⟨e', h1, h2, h3, h4⟩)
        · exact .inl h1
        · rcases List.mem_cons.1 h1 with rfl | h1
          · exact absurd ⟨h2, h3⟩ h
          · exact .inr ⟨e', h1, h2, h3, h4⟩
theorem stepM_bit (s : Sys) (set : Nat) (l : Int) (r : Nat) : (stepM s set l).testBit r = true ↔ ∃ e ∈ s.edges, e.letter = l ∧ set.testBit e.src.toNat = true ∧ e.dst.toNat = r := by
  unfold stepM; rw [foldl_addTo]; simp

section
variable (t : Task)

theorem foldl_bits (P : Nat → Prop) [DecidablePred P] (k q : Nat) (out : Nat) : ((List.range k).foldl (fun out q => if P q then out ||| 2 ^ q else out) out).testBit q = true ↔ (out.testBit q = true ∨ (q < k ∧ P q)) := by
  induction k with
  | zero => simp
  | succ k ih =>
    rw [List.range_succ, List.foldl_append, List.foldl_cons, List.foldl_nil]
    by_cases h : P k
    · rw [if_pos h, Nat.testBit_or, Bool.or_eq_true, ih, Nat.testBit_two_pow, decide_eq_true_eq]
      constructor
      · rintro ((h1 | h1) | rfl)
        · exact .inl h1
        · exact .inr ⟨by omega, h1.2⟩
        · exact .inr ⟨by omega, h⟩
      · rintro (h1 | ⟨h1, h2⟩)
        · exact .inl (.inl h1)
        · rcases Nat.lt_or_ge q k with h3 | h3
          · exact .inl (.inr ⟨h3, h2⟩)
          · exact .inr (by omega)
    · rw [if_neg h, ih]
      constructor
      · rintro (h1 | h1)
        · exact .inl h1
        · exact .inr ⟨by omega, h1.2⟩
      · rintro (h1 | ⟨h1, h2⟩)
        · exact .inl h1
        · rcases Nat.lt_or_ge q k with h3 | h3
          · exact .inr ⟨h3, h2⟩
          · obtain rfl : q = k := by omega
            exact absurd h2 h
variable {t}
theorem edges_in {s : Sys} (h : sysValid s = true) {e : Edge} (he : e ∈ s.edges) : e.src.toNat < 16 ∧ e.dst.toNat < 16 ∧ 0 ≤ e.src ∧ 0 ≤ e.dst ∧ 0 ≤ e.letter ∧ e.letter < 6 ∧ bit s.alphabet e.letter = true := by
  simp only [sysValid, Bool.and_eq_true, decide_eq_true_eq, List.all_eq_true] at h
  obtain ⟨⟨⟨_, h1⟩, h2⟩, h3⟩ := h
  obtain ⟨i, hi, rfl⟩ := List.getElem_of_mem he
  have h4 := h3 i (List.mem_range.2 hi)
  unfold edgeAt at h4
  rw [List.getElem?_eq_getElem hi] at h4
  simp only [Bool.and_eq_true] at h4
  have h5 := h4.1
  simp only [edgeOk, Bool.and_eq_true, decide_eq_true_eq] at h5
  obtain ⟨h6, h7⟩ := h5
  exact ⟨by omega, by omega, by omega, by omega, by omega, by omega, h7⟩
variable (t)
end

end Go.Proofs.YtanekmfifmkbmaaGreatDoor
