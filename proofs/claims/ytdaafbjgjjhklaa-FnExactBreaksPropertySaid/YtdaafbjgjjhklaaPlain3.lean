/- Plain functions: words, runs of automata, words that break a property; no program in sight. -/
import Derived.Test.YtdaafbjgjjhklaaPlain2
namespace Go.Proofs.Ytdaafbjgjjhklaa
set_option linter.unusedSimpArgs false
set_option linter.unusedVariables false
open Go

/-- The number of the letter at place i, counted from 'a' (any byte). -/
def chAt (s : ByteArray) (i : Nat) : Int := (((s.data[i]?).getD 0).toNat : Int) - 97
def chars (s : ByteArray) : List Int := s.data.toList.map fun b => (b.toNat : Int) - 97
theorem chars_len (s : ByteArray) : (chars s).length = s.size := by simp only [chars, List.length_map, Array.length_toList]; rfl
theorem chars_at (s : ByteArray) (i : Nat) (h : i < s.size) : (chars s)[i]? = some (chAt s i) := by
  have h' : i < s.data.size := h
  unfold chars chAt
  rw [List.getElem?_map, Array.getElem?_toList, Array.getElem?_eq_getElem h']; rfl
theorem chAt_lo (s : ByteArray) (i : Nat) : -97 ≤ chAt s i := by unfold chAt; omega
theorem chAt_hi (s : ByteArray) (i : Nat) : chAt s i < 159 := by unfold chAt; have := ((s.data[i]?).getD 0).toNat_lt; omega
theorem chAt_get (s : ByteArray) (i : Nat) (h : i < s.size) : ((s[i]).toNat : Int) = chAt s i + 97 := by
  have h' : i < s.data.size := h
  unfold chAt
  rw [Array.getElem?_eq_getElem h', show s[i] = s.data[i] from ByteArray.getElem_eq_getElem_data]
  show _ = ((s.data[i]).toNat : Int) - 97 + 97
  omega

/-- A word over an alphabet. -/
def wordIn (s : ByteArray) (a : Int) : Bool := isAlpha a && decide (s.size ≤ 50000) && (chars s).all (bit a)
def wordValid (s : ByteArray) : Bool := wordIn s 63

theorem bit_hi (a l : Int) (h : a ≤ 63) (hl : 6 ≤ l) : bit a l = false := by
  have h1 : a.toNat < 2 ^ l.toNat := Nat.lt_of_lt_of_le (show a.toNat < 2 ^ 6 by omega) (Nat.pow_le_pow_right (by omega) (by omega))
  simp [bit, Nat.testBit_lt_two_pow h1]
theorem bit_range {a l : Int} (h : a ≤ 63) (hb : bit a l = true) : 0 ≤ l ∧ l < 6 := by
  refine ⟨?_, ?_⟩
  · by_cases h0 : 0 ≤ l
    · exact h0
    · rw [bit_neg (by omega)] at hb; cases hb
  · by_cases h6 : l < 6
    · exact h6
    · rw [bit_hi a l h (by omega)] at hb; cases hb
theorem bit63 (l : Int) : bit 63 l = (decide (0 ≤ l) && decide (l < 6)) := by
  by_cases h0 : 0 ≤ l
  · by_cases h6 : l < 6
    · have : l = 0 ∨ l = 1 ∨ l = 2 ∨ l = 3 ∨ l = 4 ∨ l = 5 := by omega
      rcases this with rfl | rfl | rfl | rfl | rfl | rfl <;> decide
    · rw [bit_hi 63 l (by omega) (by omega)]; simp [h6]
  · rw [bit_neg (by omega)]; simp [h0]

/-- The place of a letter among those of an alphabet. -/
def place (a l : Int) : Nat := (lettersTo a l.toNat).length
theorem place_all : ∀ a ∈ List.range 64, ∀ l ∈ List.range 6, ∀ m ∈ List.range 6, (decide ((letters (Int.ofNat a))[m]? = some (Int.ofNat l))) = (bit (Int.ofNat a) (Int.ofNat l) && decide (place (Int.ofNat a) (Int.ofNat l) = m)) := by decide +kernel
theorem place_lt_all : ∀ a ∈ List.range 64, ∀ l ∈ List.range 6, bit (Int.ofNat a) (Int.ofNat l) = true → place (Int.ofNat a) (Int.ofNat l) < nletters (Int.ofNat a) := by decide +kernel
theorem letters_place (a l : Int) (m : Nat) (ha : 0 ≤ a) (ha2 : a ≤ 63) (hl : 0 ≤ l) (hl2 : l < 6) (hm : m < 6) : (letters a)[m]? = some l ↔ (bit a l = true ∧ place a l = m) := by
  obtain ⟨a, rfl⟩ := Int.eq_ofNat_of_zero_le ha
  obtain ⟨l, rfl⟩ := Int.eq_ofNat_of_zero_le hl
  have := place_all a (List.mem_range.2 (by omega)) l (List.mem_range.2 (by omega)) m (List.mem_range.2 hm)
  simp only [Int.ofNat_eq_natCast] at this
  rw [Bool.eq_iff_iff] at this
  simpa using this
theorem place_lt (a l : Int) (ha : 0 ≤ a) (ha2 : a ≤ 63) (hb : bit a l = true) : place a l < nletters a := by
  obtain ⟨hl, hl2⟩ := bit_range ha2 hb
  obtain ⟨a, rfl⟩ := Int.eq_ofNat_of_zero_le ha
  obtain ⟨l, rfl⟩ := Int.eq_ofNat_of_zero_le hl
  exact place_lt_all a (List.mem_range.2 (by omega)) l (List.mem_range.2 (by omega)) hb
theorem letters_mem (a l : Int) (m : Nat) (ha2 : a ≤ 63) (h : (letters a)[m]? = some l) : bit a l = true ∧ 0 ≤ l ∧ l < 6 ∧ m < 6 := by
  have h1 := List.mem_of_getElem? h
  have hb : bit a l = true := by unfold letters lettersTo at h1; exact (List.mem_filter.1 h1).2
  have := lettersTo_len a 6
  have h2 := (List.getElem?_eq_some_iff.1 h).1
  unfold letters at h2
  obtain ⟨h3, h4⟩ := bit_range ha2 hb
  exact ⟨hb, h3, h4, by omega⟩

/-- Where a letter leads. -/
def entry (x : Auto) (q i : Nat) : Int := (((x.next[q]?).getD [])[i]?).getD 0
def step (x : Auto) (q : Nat) (l : Int) : Nat := if bit x.alphabet l then (entry x q (place x.alphabet l)).toNat else q
def run (x : Auto) (q : Nat) (ls : List Int) : Nat := ls.foldl (step x) q

theorem autoValid_row {x : Auto} (h : autoValid x = true) {q : Nat} (hq : q < x.next.length) : ∃ row, x.next[q]? = some row ∧ row.length = nletters x.alphabet ∧ ∀ (i : Nat) y, row[i]? = some y → 0 ≤ y ∧ y < x.next.length := by
  refine ⟨_, List.getElem?_eq_getElem hq, ?_⟩
  simp only [autoValid, Bool.and_eq_true, List.all_eq_true] at h
  have h1 := h.2 _ (List.getElem_mem hq)
  simp only [rowOk, Bool.and_eq_true, List.all_eq_true, decide_eq_true_eq, qOk] at h1
  exact ⟨h1.1, fun i y hy => h1.2 y (List.mem_of_getElem? hy)⟩
theorem autoValid_facts {x : Auto} (h : autoValid x = true) : 0 ≤ x.alphabet ∧ x.alphabet ≤ 63 ∧ 1 ≤ x.next.length ∧ x.next.length ≤ 12 ∧ x.accept.length = x.next.length := by
  simp only [autoValid, Bool.and_eq_true, decide_eq_true_eq, isAlpha] at h
  obtain ⟨⟨⟨⟨⟨h1, h2⟩, h3⟩, h4⟩, h5⟩, _⟩ := h
  exact ⟨h1, h2, h3, h4, h5⟩
theorem step_facts {x : Auto} (h : autoValid x = true) {q : Nat} (hq : q < x.next.length) {l : Int} (hb : bit x.alphabet l = true) :
    ∃ row y, x.next[q]? = some row ∧ row[place x.alphabet l]? = some y ∧ y = (step x q l : Int) ∧ step x q l < x.next.length := by
  obtain ⟨row, h1, h2, h3⟩ := autoValid_row h hq
  obtain ⟨ha, ha2, _⟩ := autoValid_facts h
  have hp := place_lt _ l ha ha2 hb
  have hy : row[place x.alphabet l]? = some row[place x.alphabet l] := List.getElem?_eq_getElem (by omega)
  have := h3 _ _ hy
  refine ⟨row, _, h1, hy, ?_, ?_⟩
  · simp [step, hb, entry, h1, hy]; omega
  · simp [step, hb, entry, h1, hy]; omega
theorem step_lt {x : Auto} (h : autoValid x = true) {q : Nat} (hq : q < x.next.length) (l : Int) : step x q l < x.next.length := by
  by_cases hb : bit x.alphabet l = true
  · obtain ⟨_, _, _, _, _, h⟩ := step_facts h hq hb; exact h
  · simp [step, hb, hq]
theorem run_lt {x : Auto} (h : autoValid x = true) (ls : List Int) {q : Nat} (hq : q < x.next.length) : run x q ls < x.next.length := by
  induction ls generalizing q with
  | nil => exact hq
  | cons l ls ih => exact ih (step_lt h hq l)
theorem run_take {x : Auto} {q : Nat} {ls : List Int} {k : Nat} {l : Int} (h : ls[k]? = some l) : run x q (ls.take (k + 1)) = step x (run x q (ls.take k)) l := by
  unfold run; rw [List.take_add_one, h, List.foldl_append]; rfl
theorem run_filter (x : Auto) (ls : List Int) (q : Nat) : run x q (ls.filter (bit x.alphabet)) = run x q ls := by
  induction ls generalizing q with
  | nil => rfl
  | cons l ls ih =>
    by_cases hb : bit x.alphabet l = true
    · rw [List.filter_cons_of_pos hb]; exact ih _
    · rw [List.filter_cons_of_neg hb, ih]
      show _ = run x (step x q l) ls
      simp [step, hb]

def accepts (x : Auto) (q : Nat) : Bool := (x.accept[q]?).getD false
def breaks (x : Auto) (s : ByteArray) : Bool := autoValid x && wordValid s && !accepts x (run x 0 (chars s))
def stateAfter (x : Auto) (s : ByteArray) : Int := if autoValid x && wordIn s x.alphabet then (run x 0 (chars s) : Nat) else -1
def acceptsWord (x : Auto) (s : ByteArray) : Bool := autoValid x && wordIn s x.alphabet && accepts x (run x 0 (chars s))

/-- The letters of a word that an alphabet has. -/
def restrict (s : ByteArray) (a : Int) : ByteArray := ⟨(s.data.toList.filter fun b => bit a ((b.toNat : Int) - 97)).toArray⟩
theorem chars_restrict (s : ByteArray) (a : Int) : chars (restrict s a) = (chars s).filter (bit a) := by
  simp only [chars, restrict, List.filter_map]; rfl
theorem wordIn_restrict {s : ByteArray} {a : Int} (ha : 0 ≤ a) (ha2 : a ≤ 63) (h : s.size ≤ 50000) : wordIn (restrict s a) a = true := by
  have h1 : (restrict s a).size ≤ s.size := by
    have : (restrict s a).size = (chars (restrict s a)).length := (chars_len _).symm
    rw [this, chars_restrict, ← chars_len s]
    exact List.length_filter_le _ _
  simp only [wordIn, isAlpha, chars_restrict, Bool.and_eq_true, decide_eq_true_eq, List.all_eq_true]
  exact ⟨⟨⟨ha, ha2⟩, by omega⟩, fun l hl => (List.mem_filter.1 hl).2⟩
theorem wordValid_size {s : ByteArray} (h : wordValid s = true) : s.size ≤ 50000 := by
  simp only [wordValid, wordIn, Bool.and_eq_true, decide_eq_true_eq] at h; exact h.1.2
theorem wordIn_at {s : ByteArray} {a : Int} (h : wordIn s a = true) {i : Nat} (hi : i < s.size) : bit a (chAt s i) = true := by
  simp only [wordIn, Bool.and_eq_true, List.all_eq_true] at h
  exact h.2 _ (List.mem_of_getElem? (chars_at s i hi))
theorem wordValid_at {s : ByteArray} (h : wordValid s = true) {i : Nat} (hi : i < s.size) : 0 ≤ chAt s i ∧ chAt s i < 6 := bit_range (a := 63) (by omega) (wordIn_at h hi)
theorem wordIn_bad {s : ByteArray} {a : Int} {i : Nat} (hi : i < s.size) (hb : bit a (chAt s i) = false) : wordIn s a = false := by
  simp only [wordIn, not_all_of (chars_at s i hi) hb, Bool.and_false]
theorem wordIn_long {s : ByteArray} {a : Int} (h : 50000 < s.size) : wordIn s a = false := by simp [wordIn]; omega
theorem wordIn_alpha {s : ByteArray} {a : Int} (h : isAlpha a = false) : wordIn s a = false := by simp [wordIn, h]
theorem wordIn_all {s : ByteArray} {a : Int} (ha : isAlpha a = true) (hs : s.size ≤ 50000) (h : ((chars s).take s.size).all (bit a) = true) : wordIn s a = true := by
  rw [← chars_len, List.take_length] at h
  simp [wordIn, ha, hs, h]
theorem acceptsWord_restrict {x : Auto} {s : ByteArray} (hx : autoValid x = true) (hs : wordValid s = true) : acceptsWord x (restrict s x.alphabet) = accepts x (run x 0 (chars s)) := by
  obtain ⟨ha, ha2, _⟩ := autoValid_facts hx
  simp only [acceptsWord, hx, wordIn_restrict ha ha2 (wordValid_size hs), chars_restrict, run_filter, Bool.true_and]

end Go.Proofs.Ytdaafbjgjjhklaa
