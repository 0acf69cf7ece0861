/- Part of this seat's proofs, cut to what its law needs. -/

import Derived.Test.YtajafdblmphglaaGreatDoorPlainM
namespace Go.Proofs.YtajafdblmphglaaGreatDoor
set_option linter.unusedSimpArgs false
set_option linter.unusedVariables false
open Go
set_option linter.unusedSectionVars false

theorem IsMin.le {A : Auto} (hA : autoValid A = true) {B : Auto} (h : IsMin (res A 0) A.alphabet B) : B.next.length ≤ A.next.length := by
  obtain ⟨nodes, h1, rfl⟩ := h
  have h0 := (autoValid_facts hA).2.2.1
  have hf : ∀ (v : List Int) q, q < A.next.length → ∃ q', q' < A.next.length ∧ v.foldl nxR (res A q) = res A q' := fun v => by
    induction v with
    | nil => intro q hq; exact ⟨q, hq, rfl⟩
    | cons l v ih =>
      intro q hq
      show ∃ q', _ ∧ v.foldl nxR (nxR (res A q) l) = _
      rw [res_step]
      exact ih _ (run_lt hA [l] hq)
  have := nodup_le (m := (List.range A.next.length).map (res A)) h1.nodup fun g hg => by
    obtain ⟨v, -, rfl⟩ := h1.reach g hg
    obtain ⟨q', hq, e⟩ := hf v 0 (by omega)
    exact List.mem_map.2 ⟨q', List.mem_range.2 hq, e.symm⟩
  simpa [autoR, autoN] using this

def silentT (p : Auto) : Task := ⟨⟨0, 1, []⟩, p, p.alphabet⟩
section
variable {p : Auto}
theorem bit_zero (l : Int) : bit 0 l = false := by simp [bit]
theorem silent_valid (hp : autoValid p = true) : taskValid (silentT p) = true := by
  obtain ⟨a0, a63, -⟩ := autoValid_facts hp
  simp only [taskValid, silentT, Bool.and_eq_true]
  exact ⟨⟨by decide, hp⟩, by simp only [isAlpha, Bool.and_eq_true, decide_eq_true_eq]; exact ⟨a0, a63⟩⟩
theorem silent_in (x : Int) : inT (silentT p) x ↔ bit p.alphabet x = true := by
  unfold inT silentT
  simp [bit_zero]
theorem silent_leads (v : List Int) : ∀ q r, Leads (sysCh (silentT p).sys) q v r ↔ q = r := by
  induction v with
  | nil => intro q r; exact Iff.rfl
  | cons l v ih =>
    intro q r
    show (∃ b, b ∈ sysCh _ q l ∧ Leads _ b v r) ↔ _
    have e : sysCh (silentT p).sys q l = [q] := by unfold sysCh silentT; simp [bit_zero]
    simp only [e, List.mem_singleton, ih, exists_eq_left]
theorem silent_safe (u : List Int) (hu : ∀ x ∈ u, bit p.alphabet x = true) : SafeV (silentT p) u ↔ ∀ k, accepts p (run p 0 (u.take k)) = true := by
  constructor
  · intro h k
    exact h (u.take k) (fun x hx => (silent_in x).2 (hu x (List.mem_of_mem_take hx))) (by
      rw [show (silentT p).alphabet = p.alphabet from rfl, List.filter_eq_self.2 fun x hx => hu x (List.mem_of_mem_take hx)]
      exact List.take_prefix _ _) ⟨0, (silent_leads _ _ _).2 rfl⟩
  · intro h v h1 h2 h3
    rw [show (silentT p).alphabet = p.alphabet from rfl, List.filter_eq_self.2 fun x hx => (silent_in x).1 (h1 x hx)] at h2
    have := h v.length
    rwa [← List.prefix_iff_eq_take.1 h2] at this
theorem silent_lng (hp : autoValid p = true) : lngW (silentT p) = res (safetyPart p) 0 := by
  have h0 := (autoValid_facts hp).2.2.1
  have hT := taskValid_facts (silent_valid hp)
  funext v
  rw [res_blind (safetyPart p) 0 v, Bool.eq_iff_iff, startW_safe v hT.1 hT.2.1, show (silentT p).alphabet = p.alphabet from rfl, silent_safe _ fun x hx => (List.mem_filter.1 hx).2]
  show _ ↔ accepts (safetyPart p) (run (safetyPart p) 0 _) = true
  rw [safety_accepts, show (safetyPart p).alphabet = p.alphabet from rfl]
  have h1 := safety_run hp (v.filter (bit p.alphabet)) 0 (by omega)
  constructor
  · intro h
    cases hc : accepts p (run (safetyPart p) 0 (v.filter (bit p.alphabet))) with
    | true => rfl
    | false =>
      obtain ⟨k, hk⟩ := h1.1 hc
      rw [h k] at hk; cases hk
  · intro h k
    cases hc : accepts p (run p 0 ((v.filter (bit p.alphabet)).take k)) with
    | true => rfl
    | false => rw [h1.2 ⟨k, hc⟩] at h; cases h
theorem silent_few (hp : autoValid p = true) : ¬ TooGood (silentT p) := by
  rintro ⟨l, h1, h2, h3⟩
  obtain ⟨a0, a63, h0, h12, -⟩ := autoValid_facts hp
  have hT := taskValid_facts (silent_valid hp)
  have hset : ∀ u : List Int, (∀ x ∈ u, bit p.alphabet x = true) → setsAfter (silentT p) u = fun r => if r = run p 0 u then 1 else 0 := fun u hu => by
    funext r
    refine Nat.eq_of_testBit_eq fun q => ?_
    rw [Bool.eq_iff_iff, pairs_iff hT.1 hT.2.1 _ u rfl hu r q]
    unfold PairV
    constructor
    · rintro ⟨v, v1, v2, v3, v4⟩
      rw [show (silentT p).alphabet = p.alphabet from rfl, List.filter_eq_self.2 fun x hx => (silent_in x).1 (v1 x hx)] at v2
      subst v2
      obtain rfl := (silent_leads _ _ _).1 v3
      have v5 : r = run p 0 v := v4.symm
      rw [if_pos v5]; rfl
    · intro h
      split at h
      · rename_i hr
        have hq : q = 0 := by
          have h' := h
          rw [show (1 : Nat) = 2 ^ 0 from rfl, Nat.testBit_two_pow] at h'
          simpa using (of_decide_eq_true h').symm
        exact ⟨u, fun x hx => (silent_in x).2 (hu x hx), by rw [show (silentT p).alphabet = p.alphabet from rfl]; exact List.filter_eq_self.2 hu, (silent_leads _ _ _).2 hq.symm, hr.symm⟩
      · simp at h
  have hfold : ∀ (v : List Int) (f : Sets), v.foldl (nxW (silentT p)) (some f) = none ∨ v.foldl (nxW (silentT p)) (some f) = some (v.foldl (fun f l => closeM (silentT p) (moveM (silentT p) f l)) f) := fun v => by
    have hn : ∀ w : List Int, w.foldl (nxW (silentT p)) none = none := fun w => by induction w with | nil => rfl | cons x w ih => exact ih
    induction v with
    | nil => intro f; exact .inr rfl
    | cons x v ih =>
      intro f
      show v.foldl _ (nxW (silentT p) (some f) x) = _ ∨ v.foldl _ (nxW (silentT p) (some f) x) = _
      by_cases hb : badM (silentT p) (afterM (silentT p) f x) = true
      · rw [show nxW (silentT p) (some f) x = none from if_pos hb]; exact .inl (hn v)
      · rw [show nxW (silentT p) (some f) x = some (afterM (silentT p) f x) from if_neg hb]; exact ih _
  have := nodup_le (m := (List.range p.next.length).map fun q => some (fun r => if r = q then 1 else 0)) h1 fun n hn => by
    obtain ⟨k1, v, k2, k3⟩ := h3 n hn
    have hv : ∀ x ∈ v, bit p.alphabet x = true := fun x hx => (letters_iff x a63).1 (k2 x hx)
    have hn' : ∀ w : List Int, w.foldl (nxW (silentT p)) none = none := fun w => by induction w with | nil => rfl | cons x w ih => exact ih
    unfold startW at k3
    split at k3
    · rw [hn'] at k3; exact absurd k3.symm k1
    · rcases hfold v (closeM (silentT p) startM) with e | e
      · rw [e] at k3; exact absurd k3.symm k1
      · rw [e] at k3
        rw [← k3]
        have := hset v hv
        unfold setsAfter at this
        rw [this]
        exact List.mem_map.2 ⟨run p 0 v, List.mem_range.2 (run_lt hp v (by omega)), rfl⟩
  rw [List.length_map, List.length_range] at this
  omega
theorem silent_some (hp : autoValid p = true) {r : Option Auto} (h : WeakR (silentT p) r) : ∃ B, r = some B ∧ IsMin (res (safetyPart p) 0) p.alphabet B := by
  rcases h with ⟨-, h | ⟨-, h | ⟨B, h, h12⟩⟩⟩ | ⟨B, rfl, -, -, h, -⟩
  · rw [silent_valid hp] at h; cases h
  · exact absurd h (silent_few hp)
  · rw [silent_lng hp] at h
    have h1 := IsMin.le (safetyPart_valid hp) h
    rw [safetyPart_len] at h1
    have := (autoValid_facts hp).2.2.2.1
    omega
  · rw [silent_lng hp] at h
    exact ⟨B, rfl, h⟩
end
end Go.Proofs.YtajafdblmphglaaGreatDoor
