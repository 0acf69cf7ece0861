/- Part of this seat's proofs, cut to what its law needs. -/

import Derived.Test.YtadplnbadfnlfaaGreatDoorPlainC
import Derived.Test.YtadplnbadfnlfaaGreatDoorWalkWs
namespace Go.Proofs.YtadplnbadfnlfaaGreatDoor
set_option linter.unusedSimpArgs false
set_option linter.unusedVariables false
open Go.RowKit
set_option maxHeartbeats 1000000

def OutW (a b : Auto) (u : List Int) : Prop := (∀ x ∈ u, bit a.alphabet x = true) ∧ accepts a (run a 0 u) = true ∧ accepts b (run b 0 u) = false
def comp2 (a b : Auto) : Bool := autoValid a && autoValid b && decide (a.alphabet = b.alphabet)
def OutR (a b : Auto) (r : Option (List Int)) : Prop := if comp2 a b = true then FirstIs (OutW a b) r else r = none
open Classical in
noncomputable def withinB (a b : Auto) : Bool := comp2 a b && decide (¬ ∃ u, OutW a b u)
theorem OutR.within {a b : Auto} {r : Option (List Int)} (h : OutR a b r) : (comp2 a b && !r.isSome) = withinB a b := by
  unfold OutR at h
  unfold withinB
  cases hc : comp2 a b with
  | false => rfl
  | true =>
    rw [if_pos hc] at h
    simp only [Bool.true_and]
    cases r with
    | none => exact (@decide_eq_true _ (_) (fun ⟨u, hu⟩ => h u hu)).symm
    | some u => exact (@decide_eq_false _ (_) (fun hn => hn ⟨u, h.1⟩)).symm
theorem withinB_iff {a b : Auto} : withinB a b = true ↔ autoValid a = true ∧ autoValid b = true ∧ a.alphabet = b.alphabet ∧ ∀ v, accepts a (run a 0 v) = true → accepts b (run b 0 v) = true := by
  unfold withinB comp2
  simp only [Bool.and_eq_true, decide_eq_true_eq]
  constructor
  · rintro ⟨⟨⟨h1, h2⟩, h3⟩, h4⟩
    refine ⟨h1, h2, h3, fun v hv => ?_⟩
    cases hb : accepts b (run b 0 v) with
    | true => rfl
    | false =>
      exact absurd ⟨v.filter (bit a.alphabet), fun x hx => (List.mem_filter.1 hx).2, by rw [run_filter]; exact hv, by rw [h3, run_filter]; exact hb⟩ h4
  · rintro ⟨h1, h2, h3, h4⟩
    exact ⟨⟨⟨h1, h2⟩, h3⟩, fun ⟨u, _, h5, h6⟩ => by rw [h4 u h5] at h6; cases h6⟩


def outN (a b : Auto) (k : Nat) (l : Int) : List Nat := [step a (k / b.next.length) l * b.next.length + step b (k % b.next.length) l]
def outG (a b : Auto) (k : Nat) : Bool := accepts a (k / b.next.length) && !accepts b (k % b.next.length)
theorem out_leads {a b : Auto} (hb : autoValid b = true) (v : List Int) : ∀ k m, Leads (outN a b) k v m → m = run a (k / b.next.length) v * b.next.length + run b (k % b.next.length) v := by
  have hn := (autoValid_facts hb).2.2.1
  induction v with
  | nil =>
    intro k m h
    have h : k = m := h
    subst h
    show k = k / b.next.length * b.next.length + k % b.next.length
    rw [Nat.mul_comm]; exact (Nat.div_add_mod k _).symm
  | cons l v ih =>
    rintro k m ⟨c, hc, h⟩
    have hc : c = step a (k / b.next.length) l * b.next.length + step b (k % b.next.length) l := by simpa [outN] using hc
    have hl := step_lt hb (Nat.mod_lt k hn) l
    have := ih c m h
    rw [hc, div_pair hl, mod_pair hl] at this
    exact this
theorem out_leads' {a b : Auto} (hb : autoValid b = true) (v : List Int) : ∀ k, Leads (outN a b) k v (run a (k / b.next.length) v * b.next.length + run b (k % b.next.length) v) := by
  have hn := (autoValid_facts hb).2.2.1
  induction v with
  | nil =>
    intro k
    show k = k / b.next.length * b.next.length + k % b.next.length
    rw [Nat.mul_comm]; exact (Nat.div_add_mod k _).symm
  | cons l v ih =>
    intro k
    have hl := step_lt hb (Nat.mod_lt k hn) l
    refine ⟨step a (k / b.next.length) l * b.next.length + step b (k % b.next.length) l, by simp [outN], ?_⟩
    have := ih (step a (k / b.next.length) l * b.next.length + step b (k % b.next.length) l)
    rw [div_pair hl, mod_pair hl] at this
    exact this
theorem out_wins {a b : Auto} (ha : autoValid a = true) (hb : autoValid b = true) (u : List Int) : Wins (outN a b) (letters a.alphabet) [0] (outG a b) u ↔ OutW a b u := by
  have hn := (autoValid_facts hb).2.2.1
  have a63 := (autoValid_facts ha).2.1
  have hr := (AutoFit.of hb).run_lt u (q := 0) (by omega)
  unfold Wins Gets OutW
  simp only [List.mem_singleton, exists_eq_left, letters_iff _ a63]
  constructor
  · rintro ⟨n, ⟨h1, h2⟩, h3⟩
    have := out_leads hb u 0 n h2
    rw [Nat.zero_div, Nat.zero_mod] at this
    subst this
    unfold outG at h3
    rw [div_pair hr, mod_pair hr] at h3
    simp only [Bool.and_eq_true, Bool.not_eq_true'] at h3
    exact ⟨h1, h3.1, h3.2⟩
  · rintro ⟨h1, h2, h3⟩
    have := out_leads' (a := a) hb u 0
    rw [Nat.zero_div, Nat.zero_mod] at this
    refine ⟨_, ⟨h1, this⟩, ?_⟩
    unfold outG
    rw [div_pair hr, mod_pair hr, h2, h3]; rfl
theorem outN_lt {a b : Auto} (ha : autoValid a = true) (hb : autoValid b = true) {k : Nat} (hk : k < a.next.length * b.next.length) (l : Int) : ∀ m ∈ outN a b k l, m < a.next.length * b.next.length := fun m hm => by
  have hn := (autoValid_facts hb).2.2.1
  have hm : m = step a (k / b.next.length) l * b.next.length + step b (k % b.next.length) l := by simpa [outN] using hm
  subst hm
  have h1 := step_lt ha (q := k / b.next.length) ((Nat.div_lt_iff_lt_mul (by omega)).2 hk) l
  have h2 := step_lt hb (Nat.mod_lt k hn) l
  calc step a (k / b.next.length) l * b.next.length + step b (k % b.next.length) l < step a (k / b.next.length) l * b.next.length + b.next.length := by omega
    _ = (step a (k / b.next.length) l + 1) * b.next.length := by rw [Nat.add_mul, Nat.one_mul]
    _ ≤ a.next.length * b.next.length := Nat.mul_le_mul_right _ h1




end Go.Proofs.YtadplnbadfnlfaaGreatDoor
