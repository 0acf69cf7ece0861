/- Merged: Plain7, Plain8. -/
import Derived.Test.YtajafdblmphglaaGreatDoorPlain2
import Derived.Lib.TrailingZeros
import Derived.Test.YtajafdblmphglaaGreatDoorPlain5

namespace Go.Proofs.YtajafdblmphglaaGreatDoor
set_option linter.unusedSimpArgs false
set_option linter.unusedVariables false
open Go

theorem ctz_form (s : Nat) (h0 : s ≠ 0) (h : s < 2 ^ 64) : ∃ m, s = 2 ^ Lib.ctz 64 s * (2 * m + 1) ∧ Lib.ctz 64 s < 64 := by
  have := Lib.ctzFrom_spec 64 s (by omega) h
  rw [show Lib.ctz 64 s = Lib.ctzFrom 64 s by simp [Lib.ctz, h0]]
  exact this
theorem ctz_bit (s : Nat) (h0 : s ≠ 0) (h : s < 2 ^ 64) : s.testBit (Lib.ctz 64 s) = true := by
  obtain ⟨m, hm, _⟩ := ctz_form s h0 h
  generalize Lib.ctz 64 s = k at hm
  rw [hm, Nat.testBit_two_pow_mul]
  simp
theorem ctz_low (s : Nat) (h0 : s ≠ 0) (h : s < 2 ^ 64) (j : Nat) (hj : j < Lib.ctz 64 s) : s.testBit j = false := by
  obtain ⟨m, hm, _⟩ := ctz_form s h0 h
  generalize Lib.ctz 64 s = k at hm hj
  rw [hm, Nat.testBit_two_pow_mul]
  simp; omega
theorem ctz_lt (s n : Nat) (h0 : s ≠ 0) (h : s < 2 ^ 64) (hn : s < 2 ^ n) : Lib.ctz 64 s < n := by
  have h1 := ctz_bit s h0 h
  refine Classical.byContradiction fun hc => ?_
  rw [Nat.testBit_lt_two_pow (Nat.lt_of_lt_of_le hn (Nat.pow_le_pow_right (by omega) (by omega)))] at h1
  cases h1
theorem odd_and (m : Nat) : (2 * m + 1) &&& (2 * m) = 2 * m := by
  apply Nat.eq_of_testBit_eq
  intro j
  rw [Nat.testBit_and]
  cases j with
  | zero => simp [Nat.testBit_zero]
  | succ j =>
    rw [Nat.testBit_succ, Nat.testBit_succ, show (2 * m + 1) / 2 = m by omega, show 2 * m / 2 = m by omega, Bool.and_self]
/-- s & (s - 1): all but the lowest. -/
theorem and_pred (s : Nat) (h0 : s ≠ 0) (h : s < 2 ^ 64) (j : Nat) : (s &&& (s - 1)).testBit j = (s.testBit j && decide (j ≠ Lib.ctz 64 s)) := by
  obtain ⟨m, hm, _⟩ := ctz_form s h0 h
  have hb := ctz_bit s h0 h
  have hl := ctz_low s h0 h
  generalize Lib.ctz 64 s = k at hm hb hl ⊢
  rw [Nat.testBit_and]
  rcases Nat.lt_trichotomy j k with h1 | h1 | h1
  · rw [hl j h1]; simp
  · subst h1
    simp only [hb, ne_eq, not_true, decide_false, Bool.true_and]
    -- s - 1 = 2^k * 2m + (2^k - 1)
    have h2 : s - 1 = 2 ^ j * (2 * m) + (2 ^ j - 1) := by rw [hm, Nat.mul_add, Nat.mul_one]; have := Nat.two_pow_pos j; omega
    rw [h2, Nat.testBit_two_pow_mul_add _ (by have := Nat.two_pow_pos j; omega)]
    simp
  · have h2 : s - 1 = 2 ^ k * (2 * m) + (2 ^ k - 1) := by rw [hm, Nat.mul_add, Nat.mul_one]; have := Nat.two_pow_pos k; omega
    have h3 : (s - 1).testBit j = s.testBit j := by
      rw [h2, Nat.testBit_two_pow_mul_add _ (by have := Nat.two_pow_pos k; omega), if_neg (by omega), hm, Nat.testBit_two_pow_mul, decide_eq_true (by omega : j ≥ k), Bool.true_and]
      obtain ⟨i, hi⟩ : ∃ i, j - k = i + 1 := ⟨j - k - 1, by omega⟩
      rw [hi, Nat.testBit_succ, Nat.testBit_succ, show (2 * m + 1) / 2 = m by omega, show 2 * m / 2 = m by omega]
    rw [h3, decide_eq_true (by omega : j ≠ k), Bool.and_true, Bool.and_self]
theorem and_pred_lt (s : Nat) (h0 : s ≠ 0) : s &&& (s - 1) < s := Nat.lt_of_le_of_lt Nat.and_le_right (by omega)

/-- The members of a set, ascending. -/
def bitsOf (s : Nat) : List Nat := (List.range 16).filter fun q => s.testBit q
theorem bitsOf_mem (s q : Nat) : q ∈ bitsOf s ↔ (q < 16 ∧ s.testBit q = true) := by simp [bitsOf]
theorem bitsOf_len (s : Nat) : (bitsOf s).length ≤ 16 := by
  have := List.length_filter_le (fun q => s.testBit q) (List.range 16)
  simpa [bitsOf] using this
theorem bitsOf_zero : bitsOf 0 = [] := by simp [bitsOf]
theorem bitsOf_step (s : Nat) (h0 : s ≠ 0) (h : s < 65536) : bitsOf s = Lib.ctz 64 s :: bitsOf (s &&& (s - 1)) := by
  have h64 : s < 2 ^ 64 := by omega
  have hk := ctz_lt s 16 h0 h64 h
  have hb := ctz_bit s h0 h64
  have hl := ctz_low s h0 h64
  have ha := and_pred s h0 h64
  generalize Lib.ctz 64 s = k at hk hb hl ha ⊢
  unfold bitsOf
  have e : List.range 16 = List.range k ++ k :: List.range' (k + 1) (15 - k) := by
    have h1 : 16 = k + (1 + (15 - k)) := by omega
    conv => lhs; rw [h1]
    rw [List.range_add, List.range'_eq_map_range, Nat.add_comm 1, List.range_succ_eq_map]
    simp only [List.map_cons, List.map_map, Nat.add_zero]
    congr 2
    apply List.map_congr_left
    intro a _
    simp only [Function.comp]; omega
  rw [e, List.filter_append, List.filter_append, List.filter_cons, List.filter_cons]
  have f1 : ∀ p : Nat → Bool, (∀ q, q < k → p q = false) → (List.range k).filter p = [] := fun p hp => by
    rw [List.filter_eq_nil_iff]; intro q hq; simp [hp q (List.mem_range.1 hq)]
  rw [f1 _ (fun q hq => hl q hq), f1 _ (fun q hq => by rw [ha, hl q hq]; rfl), hb, ha k]
  simp only [if_true, ne_eq, not_true, decide_false, Bool.and_false, List.nil_append, Bool.false_eq_true, if_false]
  congr 1
  apply List.filter_congr
  intro q hq
  rw [ha, decide_eq_true (by have := (List.mem_range'_1.1 hq).1; omega : q ≠ k), Bool.and_true]

/-- A step from a set of states, by its members. -/
theorem stepM_or (s : Sys) (a b : Nat) (l : Int) : stepM s (a ||| b) l = stepM s a l ||| stepM s b l := by
  apply Nat.eq_of_testBit_eq
  intro r
  rw [Nat.testBit_or, Bool.eq_iff_iff, Bool.or_eq_true, stepM_bit, stepM_bit, stepM_bit]
  constructor
  · rintro ⟨e, h1, h2, h3, h4⟩
    rw [Nat.testBit_or, Bool.or_eq_true] at h3
    rcases h3 with h3 | h3
    · exact .inl ⟨e, h1, h2, h3, h4⟩
    · exact .inr ⟨e, h1, h2, h3, h4⟩
  · rintro (⟨e, h1, h2, h3, h4⟩ | ⟨e, h1, h2, h3, h4⟩)
    · exact ⟨e, h1, h2, by rw [Nat.testBit_or, h3]; rfl, h4⟩
    · exact ⟨e, h1, h2, by rw [Nat.testBit_or, h3, Bool.or_true], h4⟩
theorem stepM_zero (s : Sys) (l : Int) : stepM s 0 l = 0 := by
  apply Nat.eq_of_testBit_eq
  intro r
  rw [Bool.eq_iff_iff, stepM_bit]
  simp
theorem split_low (s : Nat) (h0 : s ≠ 0) (h : s < 2 ^ 64) : s = 2 ^ Lib.ctz 64 s ||| (s &&& (s - 1)) := by
  apply Nat.eq_of_testBit_eq
  intro j
  rw [Nat.testBit_or, and_pred s h0 h, Nat.testBit_two_pow]
  have hb := ctz_bit s h0 h
  by_cases hj : Lib.ctz 64 s = j
  · subst hj; simp [hb]
  · have : j ≠ Lib.ctz 64 s := fun e => hj e.symm
    simp [hj, this]
theorem stepM_low (s : Sys) (a : Nat) (l : Int) (h0 : a ≠ 0) (h : a < 2 ^ 64) : stepM s a l = stepM s (2 ^ Lib.ctz 64 a) l ||| stepM s (a &&& (a - 1)) l := by
  conv => lhs; rw [split_low a h0 h]
  exact stepM_or s _ _ l
theorem lt_16 {a : Nat} (h : ∀ q, a.testBit q = true → q < 16) : a < 65536 := by
  refine Classical.byContradiction fun hc => ?_
  obtain ⟨q, h1, h2⟩ := Nat.exists_ge_and_testBit_of_ge_two_pow (n := 16) (x := a) (by omega)
  have := h q h2
  omega
theorem stepM_lt {s : Sys} (h : sysValid s = true) (a : Nat) (l : Int) : stepM s a l < 65536 := lt_16 fun q hq => by
  obtain ⟨e, he, _, _, h4⟩ := (stepM_bit s a l q).1 hq
  have := (edges_in h he).2.1
  omega
theorem or_lt16 {a b : Nat} (h : a < 65536) (h' : b < 65536) : a ||| b < 65536 := Nat.or_lt_two_pow (n := 16) h h'
end Go.Proofs.YtajafdblmphglaaGreatDoor

namespace Go.Proofs.YtajafdblmphglaaGreatDoor
set_option linter.unusedSimpArgs false
set_option linter.unusedVariables false
open Go

/-- Numbers of states, the last counting least. -/
def decode : List Nat → Nat → List Nat
  | [], _ => []
  | s :: r, node => (node / r.prod % s) :: decode r node
theorem decode_len (ss : List Nat) (n : Nat) : (decode ss n).length = ss.length := by induction ss with
  | nil => rfl
  | cons s r ih => simp [decode, ih]
theorem decode_snoc (ss : List Nat) (s n : Nat) : decode (ss ++ [s]) n = decode ss (n / s) ++ [n % s] := by
  induction ss with
  | nil => simp [decode]
  | cons a r ih =>
    simp only [List.cons_append, decode, ih]
    congr 2
    rw [List.prod_append, List.prod_singleton, Nat.div_div_eq_div_mul, Nat.mul_comm s]
theorem decode_at (ss : List Nat) (n i s : Nat) (h : ss[i]? = some s) : (decode ss n)[i]? = some (n / (ss.drop (i + 1)).prod % s) := by
  induction ss generalizing i with
  | nil => simp at h
  | cons a r ih =>
    cases i with
    | zero => simp at h; subst h; simp [decode]
    | succ i => simp only [decode, List.getElem?_cons_succ, List.drop_succ_cons]; exact ih i (by simpa using h)
theorem decode_lt (ss : List Nat) (n i s x : Nat) (hs : ss[i]? = some s) (h0 : 0 < s) (hx : (decode ss n)[i]? = some x) : x < s := by
  rw [decode_at ss n i s hs] at hx
  cases hx
  exact Nat.mod_lt _ h0

/-- All numbers that are made of one choice each. -/
def combos : List (Nat × List Nat) → List Nat → List Nat
  | [], out => out
  | p :: r, out => combos r (out.flatMap fun o => p.2.map fun c => o * p.1 + c)
theorem combos_append (a b : List (Nat × List Nat)) (out : List Nat) : combos (a ++ b) out = combos b (combos a out) := by
  induction a generalizing out with
  | nil => rfl
  | cons p a ih => exact ih _
theorem combos_lt (ps : List (Nat × List Nat)) (out : List Nat) (B : Nat) (hB : ∀ o ∈ out, o < B) (hp : ∀ p ∈ ps, ∀ c ∈ p.2, c < p.1) : ∀ r ∈ combos ps out, r < B * (ps.map (·.1)).prod := by
  induction ps generalizing out B with
  | nil => simpa [combos] using hB
  | cons p ps ih =>
    intro r hr
    have := ih (out.flatMap fun o => p.2.map fun c => o * p.1 + c) (B * p.1) (fun o ho => by
      obtain ⟨x, hx, hc⟩ := List.mem_flatMap.1 ho
      obtain ⟨c, hc', rfl⟩ := List.mem_map.1 hc
      have h1 := hB x hx
      have h2 := hp p (by simp) c hc'
      have h3 : (x + 1) * p.1 ≤ B * p.1 := Nat.mul_le_mul_right _ h1
      rw [Nat.add_mul] at h3; omega) (fun q hq => hp q (by simp [hq])) r hr
    simpa [Nat.mul_assoc] using this
theorem combos_len (ps : List (Nat × List Nat)) (out : List Nat) (c : Nat) (hp : ∀ p ∈ ps, p.2.length ≤ c) : (combos ps out).length ≤ out.length * c ^ ps.length := by
  induction ps generalizing out with
  | nil => simp [combos]
  | cons p ps ih =>
    refine Nat.le_trans (ih _ fun q hq => hp q (by simp [hq])) ?_
    have h1 : (out.flatMap fun o => p.2.map fun c => o * p.1 + c).length ≤ out.length * c := by
      rw [List.length_flatMap]
      simp only [List.length_map]
      have := hp p (by simp)
      induction out with
      | nil => simp
      | cons o out ih2 => simp only [List.map_cons, List.sum_cons, List.length_cons, Nat.add_mul]; omega
    have := Nat.mul_le_mul_right (c ^ ps.length) h1
    simp only [List.length_cons, Nat.pow_succ]
    rw [Nat.mul_comm (c ^ ps.length), ← Nat.mul_assoc]
    exact this

/-- The states to which a letter leads a member. -/
def sysCh (s : Sys) (q : Nat) (l : Int) : List Nat := if bit s.alphabet l then (s.edges.filter fun e => decide (e.src = (q : Int)) && decide (e.letter = l)).map fun e => e.dst.toNat else [q]
/-- The program's way to say it. -/
def sysBits (s : Sys) (q : Nat) (l : Int) : List Nat := if bit s.alphabet l then bitsOf (stepM s (2 ^ q) l) else [q]
theorem ch_bits {s : Sys} (h : sysValid s = true) (q r : Nat) (l : Int) : r ∈ sysCh s q l ↔ r ∈ sysBits s q l := by
  unfold sysCh sysBits
  by_cases hb : bit s.alphabet l = true
  · rw [if_pos hb, if_pos hb, bitsOf_mem, stepM_bit]
    simp only [List.mem_map, List.mem_filter, Bool.and_eq_true, decide_eq_true_eq, Nat.testBit_two_pow]
    constructor
    · rintro ⟨e, ⟨he, h1, h2⟩, rfl⟩
      have := edges_in h he
      exact ⟨this.2.1, e, he, h2, by omega, rfl⟩
    · rintro ⟨_, e, he, h1, h2, rfl⟩
      have := edges_in h he
      exact ⟨e, ⟨he, by omega, h1⟩, rfl⟩
  · rw [if_neg hb, if_neg hb]
theorem ch_lt {s : Sys} (h : sysValid s = true) {q : Nat} (hq : q < s.states.toNat) (l : Int) : ∀ c ∈ sysCh s q l, c < s.states.toNat := by
  intro c hc
  unfold sysCh at hc
  by_cases hb : bit s.alphabet l = true
  · rw [if_pos hb] at hc
    obtain ⟨e, he, rfl⟩ := List.mem_map.1 hc
    obtain ⟨he, _⟩ := List.mem_filter.1 he
    simp only [sysValid, Bool.and_eq_true, decide_eq_true_eq, List.all_eq_true] at h
    obtain ⟨i, hi, rfl⟩ := List.getElem_of_mem he
    have h4 := h.2 i (List.mem_range.2 hi)
    unfold edgeAt at h4
    rw [List.getElem?_eq_getElem hi] at h4
    simp only [Bool.and_eq_true, edgeOk, decide_eq_true_eq] at h4
    omega
  · rw [if_neg hb] at hc
    simp at hc; omega

/-- The edges of a valid system ascend. -/
theorem edgeLt_trans {a b c : Edge} (h : edgeLt a b = true) (h' : edgeLt b c = true) : edgeLt a c = true := by
  simp only [edgeLt, Bool.or_eq_true, Bool.and_eq_true, decide_eq_true_eq] at *
  omega
theorem valid_asc {s : Sys} (h : sysValid s = true) : ∀ (j i : Nat) a b, i < j → s.edges[i]? = some a → s.edges[j]? = some b → edgeLt a b = true := by
  intro j
  induction j with
  | zero => intro i a b hij; omega
  | succ j ih =>
    intro i a b hij ha hb
    simp only [sysValid, Bool.and_eq_true, decide_eq_true_eq, List.all_eq_true] at h
    have h4 := h.2 (j + 1) (List.mem_range.2 (List.getElem?_eq_some_iff.1 hb).1)
    unfold edgeAt at h4
    rw [hb] at h4
    obtain ⟨c, hc⟩ : ∃ c, s.edges[j]? = some c := ⟨_, List.getElem?_eq_getElem (by have := (List.getElem?_eq_some_iff.1 hb).1; omega)⟩
    simp only [hc, Bool.and_eq_true] at h4
    by_cases hij2 : i = j
    · subst hij2; rw [hc] at ha; cases ha; exact h4.2
    · exact edgeLt_trans (ih i a c (by omega) ha hc) h4.2
theorem asc_len {l : List Nat} {lo n : Nat} (h : l.Pairwise (· < ·)) (hn : ∀ x ∈ l, lo ≤ x ∧ x < n) : l.length + lo ≤ n ∨ l = [] := by
  induction l generalizing lo with
  | nil => exact .inr rfl
  | cons x l ih =>
    obtain ⟨h1, h2⟩ := List.pairwise_cons.1 h
    have hx := hn x (by simp)
    rcases ih (lo := x + 1) h2 (fun y hy => ⟨h1 y hy, (hn y (by simp [hy])).2⟩) with h3 | h3
    · exact .inl (by simp; omega)
    · subst h3; exact .inl (by simp; omega)
theorem edges_pairwise {s : Sys} (h : sysValid s = true) : s.edges.Pairwise fun a b => edgeLt a b = true := by
  rw [List.pairwise_iff_getElem]
  intro i j hi hj hij
  exact valid_asc h j i _ _ hij (List.getElem?_eq_getElem hi) (List.getElem?_eq_getElem hj)
theorem ch_len {s : Sys} (h : sysValid s = true) (q : Nat) (l : Int) : (sysCh s q l).length ≤ 16 := by
  unfold sysCh
  by_cases hb : bit s.alphabet l = true
  · rw [if_pos hb]
    have h1 := (edges_pairwise h).filter fun e => decide (e.src = (q : Int)) && decide (e.letter = l)
    have hin : ∀ e ∈ s.edges.filter (fun e => decide (e.src = (q : Int)) && decide (e.letter = l)), e.src = q ∧ e.letter = l ∧ 0 ≤ e.dst ∧ e.dst < 16 := by
      intro e he
      obtain ⟨he, hc⟩ := List.mem_filter.1 he
      simp only [Bool.and_eq_true, decide_eq_true_eq] at hc
      have := edges_in h he
      exact ⟨hc.1, hc.2, by omega, by omega⟩
    generalize s.edges.filter (fun e => decide (e.src = (q : Int)) && decide (e.letter = l)) = es at h1 hin
    have h2 : (es.map fun e => e.dst.toNat).Pairwise (· < ·) := by
      rw [List.pairwise_map]
      refine List.Pairwise.imp_of_mem ?_ h1
      intro a b ha hb hlt
      have := hin a ha; have := hin b hb
      simp only [edgeLt, Bool.or_eq_true, Bool.and_eq_true, decide_eq_true_eq] at hlt
      omega
    rcases asc_len (lo := 0) (n := 16) h2 (fun x hx => by
      obtain ⟨e, he, rfl⟩ := List.mem_map.1 hx
      have := hin e he; omega) with h3 | h3
    · omega
    · rw [h3]; simp
  · rw [if_neg hb]; simp

structure Net where
  parts : List Sys
  autos : List Auto
  letters : Int
def sizesOf (n : Net) : List Nat := (n.parts.map fun s => s.states.toNat) ++ n.autos.map fun a => a.next.length
/-- What each member may choose. -/
def pairsOf (n : Net) (states : List Nat) (l : Int) : List (Nat × List Nat) :=
  (n.parts.zip states).map (fun p => (p.1.states.toNat, sysCh p.1 p.2 l)) ++ (n.autos.zip (states.drop n.parts.length)).map fun p => (p.1.next.length, [step p.1 p.2 l])
def netN (n : Net) (node : Nat) (l : Int) : List Nat := combos (pairsOf n (decode (sizesOf n) node) l) [0]

/-! ### The program's way -/
def partsGo (l : Int) : List Sys → Nat → Nat → List Nat → List Nat
  | [], _, _, R => R
  | s :: rs, node, w, R => partsGo l rs (node / s.states.toNat) (w * s.states.toNat) ((sysBits s (node % s.states.toNat) l).flatMap fun q => R.map fun r => q * w + r)
def partsNext (parts : List Sys) (node : Nat) (l : Int) : List Nat := partsGo l parts.reverse node 1 [0]
def partSizes (parts : List Sys) : List Nat := parts.map fun s => s.states.toNat
def partPairs (parts : List Sys) (states : List Nat) (l : Int) : List (Nat × List Nat) := (parts.zip states).map fun p => (p.1.states.toNat, sysCh p.1 p.2 l)
theorem partPairs_snoc (parts : List Sys) (s : Sys) (states : List Nat) (q : Nat) (l : Int) (h : states.length = parts.length) : partPairs (parts ++ [s]) (states ++ [q]) l = partPairs parts states l ++ [(s.states.toNat, sysCh s q l)] := by
  unfold partPairs
  rw [List.zip_append h.symm, List.map_append]; rfl
theorem partsGo_mem (l : Int) (rs : List Sys) (hv : ∀ s ∈ rs, sysValid s = true) (node w : Nat) (R : List Nat) (r : Nat) :
    r ∈ partsGo l rs node w R ↔ ∃ o ∈ combos (partPairs rs.reverse (decode (partSizes rs.reverse) node) l) [0], ∃ x ∈ R, r = o * w + x := by
  induction rs generalizing node w R with
  | nil => simp [partsGo, partPairs, combos]
  | cons s rs ih =>
    rw [partsGo, ih (fun x hx => hv x (by simp [hx]))]
    have e1 : partSizes (s :: rs).reverse = partSizes rs.reverse ++ [s.states.toNat] := by simp [partSizes]
    rw [e1, decode_snoc, List.reverse_cons, partPairs_snoc _ _ _ _ _ (by rw [decode_len]; simp [partSizes]), combos_append]
    simp only [combos, List.mem_flatMap, List.mem_map]
    constructor
    · rintro ⟨o, ho, x, ⟨q, hq, y, hy, rfl⟩, rfl⟩
      exact ⟨o * s.states.toNat + q, ⟨o, ho, q, (ch_bits (hv s (by simp)) _ _ _).2 hq, rfl⟩, y, hy, by rw [Nat.add_mul, Nat.mul_assoc, Nat.mul_comm s.states.toNat]; omega⟩
    · rintro ⟨o', ⟨o, ho, q, hq, rfl⟩, y, hy, rfl⟩
      exact ⟨o, ho, q * w + y, ⟨q, (ch_bits (hv s (by simp)) _ _ _).1 hq, y, hy, rfl⟩, by rw [Nat.add_mul, Nat.mul_assoc, Nat.mul_comm s.states.toNat]; omega⟩
theorem partsNext_mem (parts : List Sys) (hv : ∀ s ∈ parts, sysValid s = true) (node : Nat) (l : Int) (r : Nat) :
    r ∈ partsNext parts node l ↔ r ∈ combos (partPairs parts (decode (partSizes parts) node) l) [0] := by
  unfold partsNext
  rw [partsGo_mem l _ (fun s hs => hv s (by simpa using hs)), List.reverse_reverse]
  simp

theorem zip_cut {α β : Type} (a : List α) (b c : List β) (h : a.length = b.length) : a.zip (b ++ c) = a.zip b := by
  induction a generalizing b with
  | nil => simp
  | cons x a ih =>
    cases b with
    | nil => simp at h
    | cons y b => simp only [List.cons_append, List.zip_cons_cons]; rw [ih b (by simpa using h)]
/-- Parts, an assumption and a property: the program's nodes. -/
def brokenN (parts : List Sys) (a p : Auto) (node : Nat) (l : Int) : List Nat :=
  (partsNext parts (node / p.next.length / a.next.length) l).map fun x => x * a.next.length * p.next.length + (step a (node / p.next.length % a.next.length) l * p.next.length + step p (node % p.next.length) l)
theorem brokenN_two (parts : List Sys) (hv : ∀ s ∈ parts, sysValid s = true) (a p : Auto) (node : Nat) (l : Int) (al : Int) (r : Nat) :
    r ∈ brokenN parts a p node l ↔ r ∈ netN ⟨parts, [a, p], al⟩ node l := by
  unfold brokenN netN pairsOf
  have e1 : sizesOf ⟨parts, [a, p], al⟩ = (partSizes parts ++ [a.next.length]) ++ [p.next.length] := by simp [sizesOf, partSizes]
  rw [e1, decode_snoc, decode_snoc, combos_append]
  have hlen : (decode (partSizes parts) (node / p.next.length / a.next.length)).length = parts.length := by rw [decode_len]; simp [partSizes]
  have e2 : parts.zip (decode (partSizes parts) (node / p.next.length / a.next.length) ++ [node / p.next.length % a.next.length] ++ [node % p.next.length]) = parts.zip (decode (partSizes parts) (node / p.next.length / a.next.length)) := by
    rw [List.append_assoc, zip_cut _ _ _ hlen.symm]
  simp only [e2]
  have e3 : (decode (partSizes parts) (node / p.next.length / a.next.length) ++ [node / p.next.length % a.next.length] ++ [node % p.next.length]).drop parts.length = [node / p.next.length % a.next.length, node % p.next.length] := by
    rw [List.append_assoc, ← hlen, List.drop_left]; rfl
  rw [e3]
  simp only [List.zip_cons_cons, List.zip_nil_right, List.map_cons, List.map_nil, combos, List.mem_flatMap, List.mem_singleton, List.mem_map]
  constructor
  · rintro ⟨x, hx, rfl⟩
    exact ⟨_, ⟨x, (partsNext_mem parts hv _ _ _).1 hx, rfl⟩, by rw [Nat.add_mul]; omega⟩
  · rintro ⟨y, ⟨x, hx, rfl⟩, rfl⟩
    exact ⟨x, (partsNext_mem parts hv _ _ _).2 hx, by rw [Nat.add_mul]; omega⟩
/-- No assumption: one of a single state. -/
def trivAuto : Auto := ⟨0, [[]], [true]⟩
theorem triv_step (q : Nat) (l : Int) : step trivAuto q l = q := by simp [step, trivAuto, bit]
theorem brokenN_one (parts : List Sys) (hv : ∀ s ∈ parts, sysValid s = true) (p : Auto) (node : Nat) (l : Int) (al : Int) (r : Nat) :
    r ∈ brokenN parts trivAuto p node l ↔ r ∈ netN ⟨parts, [p], al⟩ node l := by
  unfold brokenN netN pairsOf
  have e1 : sizesOf ⟨parts, [p], al⟩ = partSizes parts ++ [p.next.length] := by simp [sizesOf, partSizes]
  rw [e1, decode_snoc, combos_append]
  have hlen : (decode (partSizes parts) (node / p.next.length)).length = parts.length := by rw [decode_len]; simp [partSizes]
  have e2 : parts.zip (decode (partSizes parts) (node / p.next.length) ++ [node % p.next.length]) = parts.zip (decode (partSizes parts) (node / p.next.length)) := by
    rw [zip_cut _ _ _ hlen.symm]
  simp only [e2]
  have e3 : (decode (partSizes parts) (node / p.next.length) ++ [node % p.next.length]).drop parts.length = [node % p.next.length] := by
    rw [← hlen, List.drop_left]
  rw [e3]
  have e4 : trivAuto.next.length = 1 := rfl
  simp only [e4, List.zip_cons_cons, List.zip_nil_right, List.map_cons, List.map_nil, combos, List.mem_flatMap, List.mem_singleton, List.mem_map, Nat.mul_one, Nat.div_one, Nat.mod_one, triv_step, Nat.zero_mul, Nat.zero_add]
  constructor
  · rintro ⟨x, hx, rfl⟩
    exact ⟨x, (partsNext_mem parts hv _ _ _).1 hx, rfl⟩
  · rintro ⟨x, hx, rfl⟩
    exact ⟨x, (partsNext_mem parts hv _ _ _).2 hx, rfl⟩
end Go.Proofs.YtajafdblmphglaaGreatDoor
