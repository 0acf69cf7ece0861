/- Plain laws of checks: the safety part of a property, a part more, the rule of assumption and guarantee, products of properties, assumptions that accept nothing or everything. -/
import Derived.Test.YthpiihblmekijaaDoorPlainA
namespace Go.Proofs.YthpiihblmekijaaDoor
set_option linter.unusedSimpArgs false
set_option linter.unusedVariables false
open Go

/-! ### What keeping and violating say of words -/
theorem slexLe_take (v : List Int) (k : Nat) : slexLe (v.take k) v := by
  by_cases h : k < v.length
  · exact .inl (by rw [List.length_take]; omega)
  · rw [List.take_of_length_le (by omega)]; exact slexLe_refl _
theorem brokenS_iff {l : List Sys} {p : Auto} (h : areParts l = true) (hp : autoValid p = true) (v : List Int) :
    BrokenW l trivAuto p v ↔ (∀ x ∈ v, ∃ s ∈ l, bit s.alphabet x = true) ∧ (∀ s ∈ l, TraceV s v) ∧ accepts p (run p 0 v) = false := by
  rw [brokenW_iff (areParts_all h) trivAuto_valid hp]
  simp only [inAll_triv, triv_accepts, true_and]
theorem keepsB_iff {l : List Sys} {p : Auto} : keepsB l p = true ↔ areParts l = true ∧ autoValid p = true ∧ ∀ v, (∀ x ∈ v, ∃ s ∈ l, bit s.alphabet x = true) → (∀ s ∈ l, TraceV s v) → accepts p (run p 0 v) = true := by
  constructor
  · intro hk
    have hk' := hk
    unfold keepsB at hk
    simp only [Bool.and_eq_true, Bool.not_eq_true'] at hk
    obtain ⟨⟨k1, k2⟩, k3⟩ := hk
    refine ⟨k1, k2, fun v h1 h2 => ?_⟩
    cases ha : accepts p (run p 0 v) with
    | true => rfl
    | false => rw [(pv_isSome k1 k2).2 ⟨v, (brokenS_iff k1 k2 v).2 ⟨h1, h2, ha⟩⟩] at k3; cases k3
  · rintro ⟨k1, k2, h⟩
    rw [keepsB_valid k1 k2]
    cases hv : (pvOf l p).isSome with
    | false => rfl
    | true =>
      obtain ⟨v, hv⟩ := (pv_isSome k1 k2).1 hv
      obtain ⟨h1, h2, h3⟩ := (brokenS_iff k1 k2 v).1 hv
      rw [h v h1 h2] at h3; cases h3
theorem vu_isSome {s : Sys} {a p : Auto} (hs : sysValid s = true) (ha : autoValid a = true) (hp : autoValid p = true) : (vuOf s a p).isSome = true ↔ ∃ v, BrokenW [s] a p v := by
  rcases vu_cases s a p with h1 | ⟨_, h1⟩
  · rw [hs, ha, hp] at h1; cases h1.1
  · cases hr : vuOf s a p with
    | none => rw [hr] at h1; exact ⟨fun h => (by cases h), fun ⟨v, hv⟩ => absurd hv (h1 v)⟩
    | some u => rw [hr] at h1; exact ⟨fun _ => ⟨u, h1.1⟩, fun _ => rfl⟩
theorem underB_iff {s : Sys} {a p : Auto} : underB s a p = true ↔ sysValid s = true ∧ autoValid a = true ∧ autoValid p = true ∧ ∀ v, (∀ x ∈ v, bit s.alphabet x = true ∨ bit a.alphabet x = true) → TraceV s v → accepts a (run a 0 v) = true → accepts p (run p 0 v) = true := by
  constructor
  · intro hk
    unfold underB at hk
    simp only [Bool.and_eq_true, Bool.not_eq_true'] at hk
    obtain ⟨⟨⟨k1, k2⟩, k3⟩, k4⟩ := hk
    refine ⟨k1, k2, k3, fun v h1 h2 h3 => ?_⟩
    cases ha : accepts p (run p 0 v) with
    | true => rfl
    | false =>
      have : BrokenW [s] a p v := (brokenW_iff (by simpa using k1) k2 k3 v).2 ⟨fun x hx => by unfold inAll; simpa using h1 x hx, by simpa using h2, h3, ha⟩
      rw [(vu_isSome k1 k2 k3).2 ⟨v, this⟩] at k4; cases k4
  · rintro ⟨k1, k2, k3, h⟩
    unfold underB
    rw [k1, k2, k3]
    cases hv : (vuOf s a p).isSome with
    | false => rfl
    | true =>
      obtain ⟨v, hv⟩ := (vu_isSome k1 k2 k3).1 hv
      obtain ⟨h1, h2, h3, h4⟩ := (brokenW_iff (by simpa using k1) k2 k3 v).1 hv
      rw [h v (fun x hx => by have := h1 x hx; unfold inAll at this; simpa using this) (by simpa using h2) h3] at h4; cases h4

/-! ### The safety part -/
def safeRow (p : Auto) (q : Nat) (row : List Int) : List Int := if accepts p q then row else row.map fun _ => (q : Int)
def safetyPart (p : Auto) : Auto := ⟨p.alphabet, (List.range p.next.length).map fun q => safeRow p q ((p.next[q]?).getD []), p.accept⟩
theorem safetyPart_at (p : Auto) {q : Nat} {row : List Int} (h : p.next[q]? = some row) : (safetyPart p).next[q]? = some (safeRow p q row) := by
  have hq : q < p.next.length := by
    by_cases h' : q < p.next.length
    · exact h'
    · rw [List.getElem?_eq_none (by omega)] at h; cases h
  unfold safetyPart
  simp [hq, h]
  rw [List.getElem?_eq_getElem hq] at h; cases h; rfl
theorem safetyPart_len (p : Auto) : (safetyPart p).next.length = p.next.length := by simp [safetyPart]
theorem safeRow_len (p : Auto) (q : Nat) (row : List Int) : (safeRow p q row).length = row.length := by unfold safeRow; split <;> simp
theorem safetyPart_valid {p : Auto} (hp : autoValid p = true) : autoValid (safetyPart p) = true := by
  have hp' := hp
  simp only [autoValid, Bool.and_eq_true, decide_eq_true_eq, List.all_eq_true] at hp' ⊢
  obtain ⟨⟨⟨⟨h1, h2⟩, h3⟩, h4⟩, h5⟩ := hp'
  rw [safetyPart_len]
  refine ⟨⟨⟨⟨h1, h2⟩, h3⟩, h4⟩, fun row hrow => ?_⟩
  obtain ⟨q, hq, e⟩ := List.mem_iff_getElem.1 hrow
  rw [safetyPart_len] at hq
  have hr : p.next[q]? = some p.next[q] := List.getElem?_eq_getElem hq
  have e2 := safetyPart_at p hr
  rw [List.getElem?_eq_getElem (by rw [safetyPart_len]; exact hq), e] at e2
  obtain rfl := Option.some.inj e2
  have h6 := h5 _ (List.getElem_mem hq)
  simp only [rowOk, Bool.and_eq_true, List.all_eq_true, decide_eq_true_eq, qOk] at h6 ⊢
  refine ⟨by rw [safeRow_len]; exact h6.1, fun y hy => ?_⟩
  unfold safeRow at hy
  split at hy
  · exact h6.2 y hy
  · obtain ⟨z, _, rfl⟩ := List.mem_map.1 hy
    exact ⟨by omega, by omega⟩
theorem safety_step {p : Auto} (hp : autoValid p = true) {q : Nat} (hq : q < p.next.length) (l : Int) : step (safetyPart p) q l = if accepts p q then step p q l else q := by
  by_cases hb : bit p.alphabet l = true
  case neg => unfold step; rw [if_neg (by simpa [safetyPart] using hb), if_neg hb]; simp
  obtain ⟨row, y, h1, h2, h3, h4⟩ := step_facts hp hq hb
  by_cases ha : accepts p q = true
  · rw [if_pos ha]
    unfold step entry
    rw [if_pos (by simpa [safetyPart] using hb), if_pos hb, safetyPart_at p h1, h1]
    unfold safeRow
    rw [if_pos ha]; rfl
  · rw [if_neg ha]
    unfold step entry
    rw [if_pos (by simpa [safetyPart] using hb), safetyPart_at p h1]
    unfold safeRow
    rw [if_neg ha]
    simp only [Option.getD_some, List.getElem?_map]
    rw [show (safetyPart p).alphabet = p.alphabet from rfl, h2]
    simp
theorem safety_accepts (p : Auto) (q : Nat) : accepts (safetyPart p) q = accepts p q := rfl
theorem safety_run {p : Auto} (hp : autoValid p = true) (v : List Int) : ∀ q, q < p.next.length → (accepts p (run (safetyPart p) q v) = false ↔ ∃ k, accepts p (run p q (v.take k)) = false) := by
  induction v with
  | nil => intro q _; exact ⟨fun h => ⟨0, h⟩, fun ⟨k, h⟩ => by rw [List.take_nil] at h; exact h⟩
  | cons l v ih =>
    intro q hq
    have e : run (safetyPart p) q (l :: v) = run (safetyPart p) (step (safetyPart p) q l) v := rfl
    rw [e, safety_step hp hq]
    by_cases ha : accepts p q = true
    · rw [if_pos ha, ih _ (step_lt hp hq l)]
      constructor
      · rintro ⟨k, h⟩; exact ⟨k + 1, h⟩
      · rintro ⟨k, h⟩
        cases k with
        | zero => rw [show run p q (List.take 0 (l :: v)) = q from rfl, ha] at h; cases h
        | succ k => exact ⟨k, h⟩
    · rw [if_neg ha, ih _ hq]
      have ha' : accepts p q = false := by simpa using ha
      exact ⟨fun _ => ⟨0, ha'⟩, fun _ => ⟨0, ha'⟩⟩
theorem pv_safety (s : Sys) {p : Auto} (hp : autoValid p = true) : pvOf [s] (safetyPart p) = pvOf [s] p := by
  have hx := safetyPart_valid hp
  have h1 := autoValid_facts hp
  by_cases hs : areParts [s] = true
  case neg =>
    have hs : areParts [s] = false := by simpa using hs
    rw [(keepsB_wrong (by rw [hs]; rfl)).2, (keepsB_wrong (by rw [hs]; rfl)).2]
  rcases pv_cases [s] (safetyPart p) with ⟨h, _⟩ | ⟨_, hX⟩
  · rw [hs, hx] at h; cases h
  rcases pv_cases [s] p with ⟨h, _⟩ | ⟨_, hP⟩
  · rw [hs, hp] at h; cases h
  have hW : ∀ v, BrokenW [s] trivAuto (safetyPart p) v → ∃ k, BrokenW [s] trivAuto p (v.take k) := fun v hv => by
    rw [brokenS_iff hs hx] at hv
    obtain ⟨a1, a2, a3⟩ := hv
    obtain ⟨k, hk⟩ := (safety_run hp v 0 (by omega)).1 a3
    exact ⟨k, (brokenS_iff hs hp _).2 ⟨fun x hx => a1 x (List.mem_of_mem_take hx), fun t ht => trace_take (a2 t ht) k, hk⟩⟩
  have hV : ∀ v, BrokenW [s] trivAuto p v → BrokenW [s] trivAuto (safetyPart p) v := fun v hv => by
    rw [brokenS_iff hs hp] at hv
    exact (brokenS_iff hs hx _).2 ⟨hv.1, hv.2.1, (safety_run hp v 0 (by omega)).2 ⟨v.length, by rw [List.take_length]; exact hv.2.2⟩⟩
  refine hX.unique ?_
  cases hr : pvOf [s] p with
  | none =>
    rw [hr] at hP
    intro v hv
    obtain ⟨k, hk⟩ := hW v hv
    exact hP _ hk
  | some u =>
    rw [hr] at hP
    refine ⟨hV u hP.1, fun v hv => ?_⟩
    obtain ⟨k, hk⟩ := hW v hv
    exact slexLe_trans (hP.2 _ hk) (slexLe_take v k)

/-! ### A part more -/
theorem parts_more {l : List Sys} {s : Sys} {p : Auto} (hs : sysValid s = true) (hl : l.length < 3) (hin : ∀ x, bit s.alphabet x = true → bit (partsAlphabet l) x = true) (hk : keepsB l p = true) : keepsB (l ++ [s]) p = true := by
  obtain ⟨k1, k2, k3⟩ := keepsB_iff.1 hk
  obtain ⟨-, -, g2⟩ := partsAlphabet_facts k1
  refine keepsB_iff.2 ⟨?_, k2, fun v h1 h2 => k3 v (fun x hx => ?_) fun t ht => h2 t (by simp [ht])⟩
  · have h := k1
    simp only [areParts, Bool.and_eq_true, decide_eq_true_eq] at h ⊢
    refine ⟨⟨by simp, by simp; omega⟩, ?_⟩
    rw [List.all_append, h.2]; simpa using hs
  · obtain ⟨t, ht, hb⟩ := h1 x hx
    rw [List.mem_append, List.mem_singleton] at ht
    rcases ht with ht | rfl
    · exact ⟨t, ht, hb⟩
    · exact (g2 x).1 (hin x hb)

/-! ### The rule -/
theorem rule_sound {s t : Sys} {a p : Auto} (hu : underB s a p = true) (hk : keepsB [t] a = true)
    (h1 : ∀ x, bit a.alphabet x = true → bit s.alphabet x = true → bit t.alphabet x = true)
    (h2 : ∀ x, bit p.alphabet x = true → bit t.alphabet x = true → bit s.alphabet x = true ∨ bit a.alphabet x = true) : keepsB [s, t] p = true := by
  obtain ⟨u1, u2, u3, u4⟩ := underB_iff.1 hu
  obtain ⟨k1, k2, k3⟩ := keepsB_iff.1 hk
  rw [one_areParts] at k1
  refine keepsB_iff.2 ⟨by simp [areParts, u1, k1], u3, fun v g1 g2 => ?_⟩
  have g1' : ∀ x ∈ v, bit s.alphabet x = true ∨ bit t.alphabet x = true := fun x hx => by simpa using g1 x hx
  have gs : TraceV s v := g2 s (by simp)
  have gt : TraceV t v := g2 t (by simp)
  -- the other system's word
  have e1 : run a 0 (v.filter (bit t.alphabet)) = run a 0 v := run_drop a _ v (fun l hl hf => by
    cases hb : bit a.alphabet l with
    | false => rfl
    | true =>
      rcases g1' l hl with hs | ht
      · rw [h1 l hb hs] at hf; cases hf
      · rw [ht] at hf; cases hf) 0
  have ha : accepts a (run a 0 v) = true := by
    rw [← e1]
    exact k3 _ (fun x hx => ⟨t, by simp, (List.mem_filter.1 hx).2⟩) (fun r hr => by rw [List.mem_singleton] at hr; subst hr; rw [trace_filter]; exact gt)
  -- the word of the system and of the assumption
  have ex : ∀ (x : Auto), (∀ l ∈ v, (bit s.alphabet l || bit a.alphabet l) = false → bit x.alphabet l = false) → run x 0 (v.filter fun l => bit s.alphabet l || bit a.alphabet l) = run x 0 v := fun x hx => run_drop x _ v hx 0
  have e2 := ex a fun l hl hf => by simpa using (Bool.or_eq_false_iff.1 hf).2
  have e3 := ex p fun l hl hf => by
    cases hb : bit p.alphabet l with
    | false => rfl
    | true =>
      rw [Bool.or_eq_false_iff] at hf
      rcases g1' l hl with hs | ht
      · rw [hs] at hf; cases hf.1
      · rcases h2 l hb ht with hs | ha
        · rw [hs] at hf; cases hf.1
        · rw [ha] at hf; cases hf.2
  rw [← e3]
  refine u4 _ (fun x hx => by simpa using (List.mem_filter.1 hx).2) ?_ (by rw [e2]; exact ha)
  have e4 : (v.filter fun l => bit s.alphabet l || bit a.alphabet l).filter (bit s.alphabet) = v.filter (bit s.alphabet) := by
    rw [List.filter_filter]
    congr 1
    funext x
    cases bit s.alphabet x <;> simp
  rw [← trace_filter, e4, trace_filter]
  exact gs

/-! ### Products -/
theorem keeps_both {s : Sys} {p q x : Auto} (hp : autoValid p = true) (hq : autoValid q = true) (hx : autoValid x = true) (h : ∀ v, accepts x (run x 0 v) = (accepts p (run p 0 v) && accepts q (run q 0 v))) : keepsB [s] x = (keepsB [s] p && keepsB [s] q) := by
  rw [Bool.eq_iff_iff, Bool.and_eq_true, keepsB_iff, keepsB_iff, keepsB_iff]
  simp only [h, Bool.and_eq_true]
  exact ⟨fun ⟨a, b, c⟩ => ⟨⟨a, hp, fun v h1 h2 => (c v h1 h2).1⟩, ⟨a, hq, fun v h1 h2 => (c v h1 h2).2⟩⟩, fun ⟨⟨a, b, c⟩, ⟨d, e, f⟩⟩ => ⟨a, hx, fun v h1 h2 => ⟨c v h1 h2, f v h1 h2⟩⟩⟩
theorem keeps_more {s : Sys} {p x : Auto} (hx : autoValid x = true) (h : ∀ v, accepts p (run p 0 v) = true → accepts x (run x 0 v) = true) (hk : keepsB [s] p = true) : keepsB [s] x = true := by
  rw [keepsB_iff] at hk ⊢
  exact ⟨hk.1, hx, fun v h1 h2 => h v (hk.2.2 v h1 h2)⟩
theorem under_more {s : Sys} {a b p : Auto} (ha : autoValid a = true) (hal : a.alphabet = b.alphabet) (h : ∀ v, accepts a (run a 0 v) = true → accepts b (run b 0 v) = true) (hk : underB s b p = true) : underB s a p = true := by
  rw [underB_iff] at hk ⊢
  exact ⟨hk.1, ha, hk.2.2.1, fun v h1 h2 h3 => hk.2.2.2 v (by rw [← hal]; exact h1) h2 (h v h3)⟩

/-! ### Assumptions that accept nothing or everything -/
def noneAuto : Auto := ⟨0, [[]], [false]⟩
theorem noneAuto_valid : autoValid noneAuto = true := by decide
theorem under_none {s : Sys} {p : Auto} (hs : sysValid s = true) (hp : autoValid p = true) : underB s noneAuto p = true :=
  underB_iff.2 ⟨hs, noneAuto_valid, hp, fun v h1 h2 h => by
    clear h1 h2
    have : run noneAuto 0 v = 0 := by
      have hst : ∀ l, step noneAuto 0 l = 0 := fun l => by simp [step, noneAuto, bit]
      clear h
      induction v with
      | nil => rfl
      | cons l v ih => show run noneAuto (step noneAuto 0 l) v = 0; rw [hst, ih]
    rw [this] at h; cases h⟩
theorem vu_all {s : Sys} {p : Auto} (hs : sysValid s = true) (hp : autoValid p = true) : vuOf s trivAuto p = pvOf [s] p := by
  rcases vu_cases s trivAuto p with ⟨h, _⟩ | ⟨_, h⟩
  · rw [hs, hp, trivAuto_valid] at h; cases h
  rcases pv_cases [s] p with ⟨h', _⟩ | ⟨_, h'⟩
  · rw [one_areParts, hs, hp] at h'; cases h'
  exact h.unique h'
theorem under_all {s : Sys} {p : Auto} (hs : sysValid s = true) (hp : autoValid p = true) : underB s trivAuto p = keepsB [s] p := by
  unfold underB
  rw [keepsB_valid (by rw [one_areParts]; exact hs) hp, vu_all hs hp, hs, hp, trivAuto_valid]; rfl
end Go.Proofs.YthpiihblmekijaaDoor
