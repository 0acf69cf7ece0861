/- Part of this seat's proofs, cut to what its law needs. -/

import Derived.Test.YtanekmfifmkbmaaDoorPlainTw
import Derived.Test.YtanekmfifmkbmaaDoorWalkN
namespace Go.Proofs.YtanekmfifmkbmaaDoor
set_option linter.unusedSimpArgs false
set_option linter.unusedVariables false
open Go Go.RowKit
set_option maxHeartbeats 1600000
set_option maxRecDepth 100000


def hidTo (s : Sys) (set : Nat) (L : List Int) (k : Nat) : Nat := (L.take k).foldl (fun m l => m ||| stepM s set l) set
theorem hidTo_succ {s : Sys} {set : Nat} {L : List Int} {k : Nat} {l : Int} (h : L[k]? = some l) : hidTo s set L (k + 1) = hidTo s set L k ||| stepM s set l := by
  unfold hidTo; rw [List.take_add_one, h, List.foldl_append]; rfl
theorem OnWay.step {s : Sys} {H : Int} {f0 f g : Nat} (hs : sysValid s = true) (hf0 : f0 < 65536) (h : OnWay s H f0 f) (h2 : OnWay s H f0 g) {l : Int} (hl : bit H l = true) : OnWay s H f0 (g ||| stepM s f l) := by
  refine ⟨fun q hq => by rw [Nat.testBit_or, h2.above q hq]; rfl, fun q hq => ?_, lt_of_bits fun q hq => ?_⟩
  · rw [Nat.testBit_or, Bool.or_eq_true] at hq
    rcases hq with hq | hq
    · exact h2.below q hq
    · obtain ⟨e, he, h3, h4, rfl⟩ := (stepM_bit _ _ _ _).1 hq
      exact (reachH_is hs H fun q h => bits_of_lt hf0 h).closed e he (by rw [h3]; exact hl) (h.below _ h4)
  · rw [Nat.testBit_or, Bool.or_eq_true] at hq
    rcases hq with hq | hq
    · exact bits_of_lt h2.lt hq
    · exact bits_of_lt (stepM_lt hs f l) hq
theorem OnWay.hid {s : Sys} {H : Int} {f0 f : Nat} (hs : sysValid s = true) (hf0 : f0 < 65536) (h63 : H ≤ 63) (h : OnWay s H f0 f) : ∀ k, OnWay s H f0 (hidTo s f (letters H) k)
  | 0 => h
  | k + 1 => by
    cases hk : (letters H)[k]? with
    | none =>
      have e : hidTo s f (letters H) (k + 1) = hidTo s f (letters H) k := by unfold hidTo; rw [List.take_add_one, hk]; simp
      rw [e]; exact OnWay.hid hs hf0 h63 h k
    | some l =>
      rw [hidTo_succ hk]
      exact OnWay.step hs hf0 h (OnWay.hid hs hf0 h63 h k) ((letters_iff l h63).1 (List.mem_of_getElem? hk))
theorem hid_ge (s : Sys) (f : Nat) (L : List Int) : ∀ k, f ≤ hidTo s f L k
  | 0 => Nat.le_refl _
  | k + 1 => by
    cases hk : L[k]? with
    | none =>
      have e : hidTo s f L (k + 1) = hidTo s f L k := by unfold hidTo; rw [List.take_add_one, hk]; simp
      rw [e]; exact hid_ge s f L k
    | some l => rw [hidTo_succ hk]; exact Nat.le_trans (hid_ge s f L k) Nat.left_le_or
theorem hid_bit {s : Sys} {f : Nat} {L : List Int} {k : Nat} {q : Nat} : (hidTo s f L k).testBit q = true ↔ f.testBit q = true ∨ ∃ l ∈ L.take k, (stepM s f l).testBit q = true := by
  unfold hidTo
  generalize L.take k = M
  have : ∀ g, (M.foldl (fun m l => m ||| stepM s f l) g).testBit q = true ↔ g.testBit q = true ∨ ∃ l ∈ M, (stepM s f l).testBit q = true := by
    induction M with
    | nil => intro g; simp
    | cons x M ih =>
      intro g
      rw [List.foldl_cons, ih, Nat.testBit_or, Bool.or_eq_true]
      simp [or_assoc]
  exact this f
theorem OnWay.done {s : Sys} {H : Int} {f0 f : Nat} (hs : sysValid s = true) (hf0 : f0 < 65536) (h63 : H ≤ 63) (h : OnWay s H f0 f) (he : hidTo s f (letters H) (letters H).length = f) : f = reachH s H f0 := by
  refine SubB.anti h.below ((reachH_is hs H fun q h => bits_of_lt hf0 h).least f h.above fun e he' hb hq => ?_)
  rw [← he, hid_bit]
  refine .inr ⟨e.letter, by rw [List.take_length]; exact (letters_iff _ h63).2 hb, (stepM_bit _ _ _ _).2 ⟨e, he', rfl, hq, rfl⟩⟩
theorem OnWay.start {s : Sys} {H : Int} {f0 : Nat} (hs : sysValid s = true) (hf0 : f0 < 65536) : OnWay s H f0 f0 :=
  ⟨fun _ h => h, (reachH_is hs H fun q h => bits_of_lt hf0 h).above, hf0⟩


theorem proj_live {s : Sys} {a H : Int} (hs : sysValid s = true) (hH : ∀ l, bit s.alphabet l = true → bit a l = false → bit H l = true) (v : List Int) (hv : ∀ x ∈ v, bit s.alphabet x = true) : ∀ q r f, f < 65536 → ClosedH s H f → f.testBit q = true → Leads (sysCh s) q v r → (v.foldl (stepN (nextH s H) a) f).testBit r = true := by
  induction v with
  | nil => intro q r f _ _ h1 h2; obtain rfl : q = r := h2; exact h1
  | cons l v ih =>
    rintro q r f hf hc h1 ⟨b, hb, h2⟩
    have hl := hv l (by simp)
    obtain ⟨e, he, h3, h4, h5⟩ := (ch_bit hs hl q b).1 hb
    rw [List.foldl_cons]
    by_cases ha : bit a l = true
    · have e1 : stepN (nextH s H) a f l = reachH s H (stepM s f l) := by unfold stepN nextH; rw [if_pos ha]
      rw [e1]
      have hst := stepM_lt hs f l
      have hR := reachH_is hs H fun q h => bits_of_lt hst h
      refine ih (fun x hx => hv x (by simp [hx])) b r _ (lt_of_bits fun q h => reachH_lt h) hR.closed (hR.above b ?_) h2
      exact (stepM_bit _ _ _ _).2 ⟨e, he, h3, by rw [h4]; exact h1, h5⟩
    · have e1 : stepN (nextH s H) a f l = f := by unfold stepN; rw [if_neg ha]
      rw [e1]
      refine ih (fun x hx => hv x (by simp [hx])) b r f hf hc ?_ h2
      rw [← h5]
      exact hc e he (by rw [h3]; exact hH l hl (by simpa using ha)) (by rw [h4]; exact h1)
theorem proj_keeps {s : Sys} {a H : Int} {nodes : List Nat} (hs : sysValid s = true) (a0 : 0 ≤ a) (a63 : a ≤ 63) (hH : ∀ l, bit s.alphabet l = true → bit a l = false → bit H l = true) (h : Numbers (nextH s H) (letters a) (startH s H) nodes) (h12 : nodes.length ≤ 12) : keepsB [s] (subsetA s a H nodes) = true := by
  refine keepsB_iff.2 ⟨one_parts hs, autoN_valid (by simp [isAlpha, a0, a63]) h h12, fun v h1 h2 => ?_⟩
  obtain ⟨r, hr⟩ := h2 s (by simp)
  unfold subsetA
  rw [autoN_accepts a0 a63 h v, decide_eq_true_iff]
  have hR := reachH_is hs H (f := 1) fun q h => bits_of_lt (by decide) h
  refine nat_ne_zero_bit.2 ⟨r, proj_live hs hH v (fun x hx => by obtain ⟨t, ht, hb⟩ := h1 x hx; simp only [List.mem_singleton] at ht; subst ht; exact hb) 0 r _ (startH_lt s H) hR.closed (hR.above 0 (by decide)) hr⟩


def compA (a : Auto) : Auto := ⟨a.alphabet, a.next, a.accept.map not⟩
theorem compA_valid {a : Auto} (h : autoValid a = true) : autoValid (compA a) = true := by
  have e : autoValid (compA a) = autoValid a := by unfold autoValid compA; simp only [List.length_map]
  rw [e]; exact h
theorem compA_accepts {a : Auto} (h : autoValid a = true) {q : Nat} (hq : q < a.next.length) : accepts (compA a) q = !accepts a q := by
  have := (autoValid_facts h).2.2.2.2
  have hl : q < a.accept.length := by omega
  unfold accepts compA
  simp [List.getElem?_eq_getElem hl]
theorem proj_empty {s : Sys} {a H : Int} {nodes : List Nat} (hs : sysValid s = true) (a0 : 0 ≤ a) (a63 : a ≤ 63) (h : Numbers (nextH s H) (letters a) (startH s H) nodes) (h12 : nodes.length ≤ 12) : pvOf [s] (compA (subsetA s a H nodes)) = some [] := by
  have hv : autoValid (subsetA s a H nodes) = true := autoN_valid (by simp [isAlpha, a0, a63]) h h12
  have hc := compA_valid hv
  have h1 := (autoValid_facts hv).2.2.1
  refine PV.of ?_
  unfold PV
  rw [if_pos (by rw [one_parts hs, hc]; rfl)]
  refine ⟨(brokenS_iff (one_parts hs) hc []).2 ⟨by simp, fun t ht => ⟨0, rfl⟩, ?_⟩, fun v _ => ?_⟩
  · show accepts (compA _) 0 = false
    rw [compA_accepts hv (by omega)]
    have h2 := autoN_accepts a0 a63 (acc := fun n => decide (n ≠ 0)) h []
    have h3 : accepts (subsetA s a H nodes) 0 = decide (startH s H ≠ 0) := h2
    have hR := reachH_is hs H (f := 1) fun q h => bits_of_lt (by decide) h
    have h4 : startH s H ≠ 0 := nat_ne_zero_bit.2 ⟨0, hR.above 0 (by decide)⟩
    rw [h3, decide_eq_true h4]; rfl
  · exact slexLe_nil v
end Go.Proofs.YtanekmfifmkbmaaDoor
