/- Part of this seat's proofs, cut to what its law needs. -/

import Derived.Test.YtanekmfifmkbmaaDoorPlainLw
namespace Go.Proofs.YtanekmfifmkbmaaDoor
set_option linter.unusedSimpArgs false
set_option linter.unusedVariables false
open Go.RowKit
set_option maxHeartbeats 1000000

def TraceOut (s t : Sys) (u : List Int) : Prop := (∀ x ∈ u, bit s.alphabet x = true) ∧ TraceV s u ∧ ¬ TraceV t u
def same2 (s t : Sys) : Bool := sysValid s && sysValid t && decide (s.alphabet = t.alphabet)
def TraceR (s t : Sys) (r : Option (List Int)) : Prop := if same2 s t = true then FirstIs (TraceOut s t) r else r = none
open Classical in
noncomputable def tracesB (s t : Sys) : Bool := same2 s t && decide (¬ ∃ u, TraceOut s t u)
theorem TraceR.within {s t : Sys} {r : Option (List Int)} (h : TraceR s t r) : (same2 s t && !r.isSome) = tracesB s t := by
  unfold TraceR at h
  unfold tracesB
  cases hc : same2 s t with
  | false => rfl
  | true =>
    rw [if_pos hc] at h
    simp only [Bool.true_and]
    cases r with
    | none => exact (@decide_eq_true _ (_) (fun ⟨u, hu⟩ => h u hu)).symm
    | some u => exact (@decide_eq_false _ (_) (fun hn => hn ⟨u, h.1⟩)).symm
theorem pv_traces {s t : Sys} {a : Auto} {r : Option (List Int)} (hr : TraceR s t r) (hc : same2 s t = true) (ha : autoValid a = true) (hacc : ∀ v, accepts a (run a 0 v) = true ↔ TraceV t v) : pvOf [s] a = r := by
  have hc' := hc
  unfold same2 at hc'
  simp only [Bool.and_eq_true, decide_eq_true_eq] at hc'
  obtain ⟨⟨h1, h2⟩, h3⟩ := hc'
  unfold TraceR at hr
  rw [if_pos hc] at hr
  refine PV.of ?_
  unfold PV
  rw [if_pos (by rw [one_parts h1, ha]; rfl)]
  refine hr.congr fun v => ?_
  rw [brokenS_iff (one_parts h1) ha v]
  unfold TraceOut
  have e : accepts a (run a 0 v) = false ↔ ¬ TraceV t v := by
    rw [← hacc v]; simp
  rw [e]
  simp
theorem keeps_traces {s t : Sys} {a : Auto} {r : Option (List Int)} (hr : TraceR s t r) (hc : same2 s t = true) (ha : autoValid a = true) (hacc : ∀ v, accepts a (run a 0 v) = true ↔ TraceV t v) : keepsB [s] a = tracesB s t := by
  have h1 : sysValid s = true := by unfold same2 at hc; simp only [Bool.and_eq_true] at hc; exact hc.1.1
  unfold keepsB
  rw [pv_traces hr hc ha hacc, one_parts h1, ha, ← hr.within, hc]
  rfl


theorem det_fold {s : Sys} (hs : sysValid s = true) (v : List Int) : ∀ set, set < 65536 → v.foldl (stepN (nextH s 0) s.alphabet) set = (v.filter (bit s.alphabet)).foldl (stepM s) set := by
  induction v with
  | nil => intro set _; rfl
  | cons l v ih =>
    intro set h
    rw [List.foldl_cons]
    by_cases hb : bit s.alphabet l = true
    · have e : stepN (nextH s 0) s.alphabet set l = stepM s set l := by
        unfold stepN nextH
        have hlt : stepM s set l < 65536 := by rw [← stepTo_full]; exact stepTo_lt hs set l _
        rw [if_pos hb, reachH_zero hs hlt]
      have hlt : stepM s set l < 65536 := by rw [← stepTo_full]; exact stepTo_lt hs set l _
      rw [e, List.filter_cons_of_pos hb, List.foldl_cons, ih _ hlt]
    · rw [show stepN (nextH s 0) s.alphabet set l = set by unfold stepN; rw [if_neg hb], List.filter_cons_of_neg hb, ih _ h]
theorem det_acc {s : Sys} (hs : sysValid s = true) {nodes : List Nat} (h : Numbers (nextH s 0) (letters s.alphabet) (startH s 0) nodes) (v : List Int) :
    accepts (subsetA s s.alphabet 0 nodes) (run (subsetA s s.alphabet 0 nodes) 0 v) = true ↔ TraceV s v := by
  obtain ⟨a0, a63⟩ := sys_alpha hs
  unfold subsetA
  rw [autoN_accepts a0 a63 h v, decide_eq_true_iff, show startH s 0 = 1 from reachH_zero hs (by decide), det_fold hs v 1 (by decide), ← trace_filter]
  exact setAfter_ne hs fun x hx => (List.mem_filter.1 hx).2
theorem det_valid {s : Sys} (hs : sysValid s = true) {nodes : List Nat} (h : Numbers (nextH s 0) (letters s.alphabet) (startH s 0) nodes) (h12 : nodes.length ≤ 12) : autoValid (subsetA s s.alphabet 0 nodes) = true := by
  obtain ⟨a0, a63⟩ := sys_alpha hs
  exact autoN_valid (by simp [isAlpha, a0, a63]) h h12


def nxp (s t : Sys) (p : Nat × Nat) (l : Int) : Nat × Nat := (stepM s p.1 l, stepM t p.2 l)
def setsP (s t : Sys) (u : List Int) : Nat × Nat := (setAfter s u, setAfter t u)
theorem setsP_push (s t : Sys) (u : List Int) (l : Int) : setsP s t (u ++ [l]) = nxp s t (setsP s t u) l := by
  simp [setsP, nxp, setAfter, List.foldl_append]
theorem setAfter_lt {s : Sys} (hs : sysValid s = true) (u : List Int) : setAfter s u < 65536 := by
  rcases List.eq_nil_or_concat u with rfl | ⟨v, l, rfl⟩
  · show (1 : Nat) < 65536; omega
  · rw [List.concat_eq_append]; unfold setAfter; rw [List.foldl_append]; exact stepM_lt hs _ _
structure PairsSt (s t : Sys) (L : List (Nat × Nat)) (i k : Nat) : Prop where
  head : L[0]? = some (1, 1)
  nodup : L.Nodup
  live : ∀ p ∈ L, p.1 ≠ 0
  reach : ∀ p ∈ L, ∃ u, (∀ x ∈ u, bit s.alphabet x = true) ∧ setsP s t u = p
  good : ∀ j, j < i → ∀ p, L[j]? = some p → p.2 ≠ 0
  done : ∀ j, j < i → ∀ p, L[j]? = some p → ∀ l ∈ letters s.alphabet, nxp s t p l ∈ L ∨ stepM s p.1 l = 0
  row : ∀ m, m < k → ∀ l, (letters s.alphabet)[m]? = some l → ∀ p, L[i]? = some p → nxp s t p l ∈ L ∨ stepM s p.1 l = 0
variable {s t : Sys} {L : List (Nat × Nat)} {i k : Nat}
theorem PairsSt.start (s t : Sys) : PairsSt s t [(1, 1)] 0 0 :=
  ⟨rfl, by simp, by simp, fun p hp => ⟨[], by simp, by simp at hp; subst hp; rfl⟩, fun j h => absurd h (Nat.not_lt_zero _), fun j h => absurd h (Nat.not_lt_zero _), fun j h => absurd h (Nat.not_lt_zero _)⟩
theorem PairsSt.lt (hs : sysValid s = true) (ht : sysValid t = true) (h : PairsSt s t L i k) : ∀ p ∈ L, p.1 < 65536 ∧ p.2 < 65536 := fun p hp => by
  obtain ⟨u, _, rfl⟩ := h.reach p hp
  exact ⟨setAfter_lt hs u, setAfter_lt ht u⟩
theorem PairsSt.len (hs : sysValid s = true) (ht : sysValid t = true) (h : PairsSt s t L i k) : L.length ≤ 4294967296 - 65536 := by
  have h1 : (L.map fun p => (p.1 - 1) * 65536 + p.2).Nodup := by
    refine List.pairwise_map.2 (List.Pairwise.imp_of_mem (fun {p q} hp hq hne e => hne ?_) h.nodup)
    have a := h.lt hs ht p hp
    have b := h.lt hs ht q hq
    have c := h.live p hp
    have d := h.live q hq
    exact Prod.ext (by omega) (by omega)
  have h2 := nodup_len _ (4294967296 - 65536) h1 fun x hx => by
    obtain ⟨p, hp, rfl⟩ := List.mem_map.1 hx
    have a := h.lt hs ht p hp
    have c := h.live p hp
    show (p.1 - 1) * 65536 + p.2 < _
    omega
  simpa using h2
theorem PairsSt.skip (h : PairsSt s t L i k) {l : Int} (hl : (letters s.alphabet)[k]? = some l) {p : Nat × Nat} (hp : L[i]? = some p) (hc : nxp s t p l ∈ L ∨ stepM s p.1 l = 0) : PairsSt s t L i (k + 1) :=
  ⟨h.head, h.nodup, h.live, h.reach, h.good, h.done, fun m hm l' hl' p' hp' => by
    rcases Nat.lt_or_ge m k with h1 | h1
    · exact h.row m h1 l' hl' p' hp'
    · obtain rfl : m = k := by omega
      rw [hl] at hl'; cases hl'
      rw [hp] at hp'; cases hp'
      exact hc⟩
theorem PairsSt.push (h63 : s.alphabet ≤ 63) (h : PairsSt s t L i k) {l : Int} (hl : (letters s.alphabet)[k]? = some l) {p : Nat × Nat} (hp : L[i]? = some p) (hn : nxp s t p l ∉ L) (h0 : stepM s p.1 l ≠ 0) : PairsSt s t (L ++ [nxp s t p l]) i (k + 1) := by
  have hi := (List.getElem?_eq_some_iff.1 hp).1
  have hat : ∀ (j : Nat) (q : Nat × Nat), j ≤ i → (L ++ [nxp s t p l])[j]? = some q → L[j]? = some q := fun j q hj hq => by
    rwa [List.getElem?_append_left (by omega)] at hq
  refine ⟨?_, ?_, ?_, ?_, ?_, ?_, ?_⟩
  · rw [List.getElem?_append_left (by omega)]; exact h.head
  · exact List.nodup_append.2 ⟨h.nodup, by simp, fun a ha b hb e => by simp at hb; subst hb; subst e; exact hn ha⟩
  · intro q hq
    rcases List.mem_append.1 hq with hq | hq
    · exact h.live q hq
    · simp only [List.mem_singleton] at hq; subst hq; exact h0
  · intro q hq
    rcases List.mem_append.1 hq with hq | hq
    · exact h.reach q hq
    · simp only [List.mem_singleton] at hq
      obtain ⟨u, h1, h2⟩ := h.reach p (List.mem_of_getElem? hp)
      refine ⟨u ++ [l], fun x hx => ?_, by rw [setsP_push, h2, hq]⟩
      rcases List.mem_append.1 hx with hx | hx
      · exact h1 x hx
      · simp only [List.mem_singleton] at hx; subst hx
        exact (letters_iff _ h63).1 (List.mem_of_getElem? hl)
  · exact fun j hj q hq => h.good j hj q (hat j q (by omega) hq)
  · intro j hj q hq l' hl'
    rcases h.done j hj q (hat j q (by omega) hq) l' hl' with h1 | h1
    · exact .inl (List.mem_append_left _ h1)
    · exact .inr h1
  · intro m hm l' hl' q hq
    have hq' := hat i q (Nat.le_refl _) hq
    rcases Nat.lt_or_ge m k with h1 | h1
    · rcases h.row m h1 l' hl' q hq' with h2 | h2
      · exact .inl (List.mem_append_left _ h2)
      · exact .inr h2
    · obtain rfl : m = k := by omega
      rw [hl] at hl'; cases hl'
      rw [hp] at hq'; cases hq'
      exact .inl (List.mem_append_right _ (by simp))
theorem PairsSt.next (h : PairsSt s t L i (letters s.alphabet).length) {p : Nat × Nat} (hp : L[i]? = some p) (h0 : p.2 ≠ 0) : PairsSt s t L (i + 1) 0 := by
  refine ⟨h.head, h.nodup, h.live, h.reach, fun j hj q hq => ?_, fun j hj q hq l hl => ?_, fun j h => absurd h (Nat.not_lt_zero _)⟩
  · rcases Nat.lt_or_ge j i with h1 | h1
    · exact h.good j h1 q hq
    · obtain rfl : j = i := by omega
      rw [hp] at hq; cases hq; exact h0
  · rcases Nat.lt_or_ge j i with h1 | h1
    · exact h.done j h1 q hq l hl
    · obtain rfl : j = i := by omega
      obtain ⟨m, hm⟩ := List.getElem?_of_mem hl
      exact h.row m (List.getElem?_eq_some_iff.1 hm).1 l hm q hq
theorem PairsSt.found (hs : sysValid s = true) (ht : sysValid t = true) (ha : s.alphabet = t.alphabet) (h : PairsSt s t L i k) {p : Nat × Nat} (hp : L[i]? = some p) (h0 : p.2 = 0) : ∃ u, TraceOut s t u := by
  have hm := List.mem_of_getElem? hp
  obtain ⟨u, h1, h2⟩ := h.reach p hm
  refine ⟨u, h1, (setAfter_ne hs h1).1 ?_, fun hn => ?_⟩
  · have := h.live p hm; rw [← h2] at this; exact this
  · have := (setAfter_ne ht (v := u) (fun x hx => by rw [← ha]; exact h1 x hx)).2 hn
    rw [← h2] at h0
    exact this h0
theorem PairsSt.none (hs : sysValid s = true) (ht : sysValid t = true) (ha : s.alphabet = t.alphabet) (h63 : s.alphabet ≤ 63) (h : PairsSt s t L L.length 0) : ¬ ∃ u, TraceOut s t u := by
  rintro ⟨u, h1, h2, h3⟩
  have key : ∀ v : List Int, (∀ x ∈ v, bit s.alphabet x = true) → setAfter s v ≠ 0 → setsP s t v ∈ L := fun v => by
    induction hv : v.length generalizing v with
    | zero => intro _ _; rw [List.eq_nil_of_length_eq_zero hv]; exact List.mem_of_getElem? h.head
    | succ n ih =>
      intro g1 g2
      rcases List.eq_nil_or_concat v with rfl | ⟨v', l, rfl⟩
      · cases hv
      · rw [List.concat_eq_append] at *
        have e : setAfter s (v' ++ [l]) = stepM s (setAfter s v') l := by unfold setAfter; rw [List.foldl_append]; rfl
        have g3 : setAfter s v' ≠ 0 := fun h0 => g2 (by rw [e, h0, stepM_zero])
        have g4 := ih v' (by simpa using hv) (fun x hx => g1 x (by simp [hx])) g3
        obtain ⟨j, hj⟩ := List.getElem?_of_mem g4
        rw [setsP_push]
        rcases h.done j (List.getElem?_eq_some_iff.1 hj).1 _ hj l ((letters_iff l h63).2 (g1 l (by simp))) with h5 | h5
        · exact h5
        · exact absurd (by rw [e]; exact h5) g2
  have hm := key u h1 ((setAfter_ne hs h1).2 h2)
  obtain ⟨j, hj⟩ := List.getElem?_of_mem hm
  have := h.good j (List.getElem?_eq_some_iff.1 hj).1 _ hj
  exact h3 ((setAfter_ne ht fun x hx => by rw [← ha]; exact h1 x hx).1 this)


def trN (s t : Sys) (node : Nat) (l : Int) : List Nat := (sysBits s (node / 2 ^ t.states.toNat) l).map fun q => q * 2 ^ t.states.toNat + stepM t (node % 2 ^ t.states.toNat) l
def trG (t : Sys) (node : Nat) : Bool := decide (node % 2 ^ t.states.toNat = 0)
theorem stepM_small {t : Sys} (ht : sysValid t = true) (set : Nat) (l : Int) : stepM t set l < 2 ^ t.states.toNat := by
  apply Nat.lt_pow_two_of_testBit
  intro i hi
  cases hb : (stepM t set l).testBit i with
  | false => rfl
  | true =>
    obtain ⟨e, he, _, _, rfl⟩ := (stepM_bit _ _ _ _).1 hb
    obtain ⟨j, hj⟩ := List.getElem?_of_mem he
    have h1 := edge_dst ht hj
    omega
theorem leads_set (t : Sys) (v : List Int) : ∀ k r, Leads (fun k l => [stepM t k l]) k v r ↔ r = v.foldl (stepM t) k := by
  induction v with
  | nil => intro k r; simp only [Leads, List.foldl_nil]; exact eq_comm
  | cons l v ih =>
    intro k r
    simp only [Leads, List.mem_singleton, exists_eq_left]
    rw [ih]; rfl
theorem trN_leads {s t : Sys} (ht : sysValid t = true) (v : List Int) (node r : Nat) : Leads (trN s t) node v r ↔ Leads (sysBits s) (node / 2 ^ t.states.toNat) v (r / 2 ^ t.states.toNat) ∧ r % 2 ^ t.states.toNat = v.foldl (stepM t) (node % 2 ^ t.states.toNat) := by
  rw [← leads_set t v]
  refine leads_prod (N1 := sysBits s) (N2 := fun k l => [stepM t k l]) (Nat.two_pow_pos _) (fun node l r => ?_) (fun k l q _ hq => ?_) v node r
  · unfold trN
    constructor
    · intro h
      obtain ⟨o, ho, rfl⟩ := List.mem_map.1 h
      exact ⟨o, ho, _, List.mem_singleton.2 rfl, rfl⟩
    · rintro ⟨o, ho, q, hq, rfl⟩
      obtain rfl := List.mem_singleton.1 hq
      exact List.mem_map.2 ⟨o, ho, rfl⟩
  · obtain rfl := List.mem_singleton.1 hq
    exact stepM_small ht _ _
theorem tr_wins {s t : Sys} (hs : sysValid s = true) (ht : sysValid t = true) (ha : s.alphabet = t.alphabet) (u : List Int) : Wins (trN s t) (letters s.alphabet) [1] (trG t) u ↔ TraceOut s t u := by
  have a63 := (sys_alpha hs).2
  have hv := valid_alpha ht
  have h2 : 2 ≤ 2 ^ t.states.toNat := by
    have : 2 ^ 1 ≤ 2 ^ t.states.toNat := Nat.pow_le_pow_right (by omega) (by omega)
    simpa using this
  have hch : ∀ q, Leads (sysBits s) 0 u q ↔ Leads (sysCh s) 0 u q := fun q => leads_congr (fun node l r => (ch_bits hs node r l).symm) 0 u q
  unfold Wins Gets TraceOut
  simp only [List.mem_singleton, exists_eq_left, letters_iff _ a63, trN_leads ht, Nat.div_eq_of_lt h2, Nat.mod_eq_of_lt h2, trG, decide_eq_true_eq, hch]
  constructor
  · rintro ⟨n, ⟨h1, h3, h4⟩, h5⟩
    refine ⟨h1, ⟨_, h3⟩, fun hn => ?_⟩
    have := (setAfter_ne ht (v := u) (fun x hx => by rw [← ha]; exact h1 x hx)).2 hn
    unfold setAfter at this
    omega
  · rintro ⟨h1, ⟨q, h3⟩, h4⟩
    have h5 : u.foldl (stepM t) 1 = 0 := by
      apply Classical.byContradiction
      intro hn
      exact h4 ((setAfter_ne ht (v := u) (fun x hx => by rw [← ha]; exact h1 x hx)).1 hn)
    have hpos : 0 < 2 ^ t.states.toNat := Nat.two_pow_pos _
    refine ⟨q * 2 ^ t.states.toNat, ⟨h1, by rw [Nat.mul_div_cancel _ hpos]; exact h3, by rw [Nat.mul_mod_left, h5]⟩, by rw [Nat.mul_mod_left]⟩
theorem trN_len (s t : Sys) (node : Nat) (l : Int) : (trN s t node l).length ≤ 16 := by unfold trN; rw [List.length_map]; exact sysBits_len _ _ _
theorem trN_lt {s t : Sys} (hs : sysValid s = true) (ht : sysValid t = true) {k : Nat} (hk : k < s.states.toNat * 2 ^ t.states.toNat) (l : Int) : ∀ m ∈ trN s t k l, m < s.states.toNat * 2 ^ t.states.toNat := fun m hm => by
  obtain ⟨q, hq, rfl⟩ := List.mem_map.1 hm
  have h1 := ch_lt hs ((Nat.div_lt_iff_lt_mul (Nat.two_pow_pos _)).2 hk) l q ((ch_bits hs _ q l).2 hq)
  have h2 := stepM_small ht (k % 2 ^ t.states.toNat) l
  calc q * 2 ^ t.states.toNat + stepM t (k % 2 ^ t.states.toNat) l < q * 2 ^ t.states.toNat + 2 ^ t.states.toNat := by omega
    _ = (q + 1) * 2 ^ t.states.toNat := by rw [Nat.add_mul, Nat.one_mul]
    _ ≤ s.states.toNat * 2 ^ t.states.toNat := Nat.mul_le_mul_right _ h1
end Go.Proofs.YtanekmfifmkbmaaDoor
