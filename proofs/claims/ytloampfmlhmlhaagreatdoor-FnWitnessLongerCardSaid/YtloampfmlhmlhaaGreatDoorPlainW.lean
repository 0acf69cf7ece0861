/- The words that show that a word is not safe: what the program and the reference search for. -/
import Derived.Test.YtloampfmlhmlhaaGreatDoorPlainE
namespace Go.Proofs.YtloampfmlhmlhaaGreatDoor
set_option linter.unusedSimpArgs false
set_option linter.unusedVariables false
open Go.RowKit

theorem prefA_fit {a : Int} (ha : isAlpha a = true) {u : List Int} (hu : u.length ≤ 1048576) : AutoFit (prefA a u) := by
  obtain ⟨h0, h63⟩ := alpha_facts ha
  refine ⟨h0, h63, by simp [prefA], by simp [prefA]; omega, by simp [prefA], fun {q} hq => ?_⟩
  have hq' : q < u.length + 2 := by simpa [prefA] using hq
  refine ⟨prefRow a u q, by simp [prefA, hq'], by unfold prefRow; rw [List.length_map]; rfl, fun i y hy => ?_⟩
  have hn : (prefA a u).next.length = u.length + 2 := by simp [prefA]
  obtain ⟨c, -, rfl⟩ := List.mem_map.1 (List.mem_of_getElem? hy)
  rw [hn]
  split
  · next h =>
    have := (List.getElem?_eq_some_iff.1 h).1
    omega
  · omega

/-- The numbers of letters of a word that were done, from d on. -/
def doneN (al : Int) (u : List Int) (d : Nat) (l : Int) : List Nat := if bit al l = true then (if u[d]? = some l then [d + 1] else []) else [d]
theorem done_leads (al : Int) (u v : List Int) : ∀ d e, Leads (doneN al u) d v e ↔ v.filter (bit al) <+: u.drop d ∧ e = d + (v.filter (bit al)).length := by
  induction v with
  | nil => intro d e; simp only [Leads, List.filter_nil, List.nil_prefix, true_and, List.length_nil, Nat.add_zero]; exact eq_comm
  | cons l v ih =>
    intro d e
    simp only [Leads]
    by_cases hb : bit al l = true
    · rw [List.filter_cons_of_pos hb]
      by_cases hu : u[d]? = some l
      · have hdl := (List.getElem?_eq_some_iff.1 hu).1
        have hd : u.drop d = l :: u.drop (d + 1) := by
          rw [List.drop_eq_getElem_cons hdl, (List.getElem?_eq_some_iff.1 hu).2]
        simp only [doneN, if_pos hb, if_pos hu, List.mem_singleton, exists_eq_left, ih]
        rw [hd, List.cons_prefix_cons, List.length_cons]
        constructor
        · rintro ⟨h1, h2⟩; exact ⟨⟨rfl, h1⟩, by omega⟩
        · rintro ⟨⟨-, h1⟩, h2⟩; exact ⟨h1, by omega⟩
      · simp only [doneN, if_pos hb, if_neg hu, List.not_mem_nil, false_and, exists_false, false_iff]
        rintro ⟨⟨z, hz⟩, -⟩
        have : u[d]? = some l := by
          have := congrArg (fun x => x[0]?) hz
          simp at this
          exact this.symm
        exact hu this
    · rw [List.filter_cons_of_neg hb]
      simp only [doneN, if_neg hb, List.mem_singleton, exists_eq_left, ih]
theorem done_le {al : Int} {u : List Int} {d : Nat} (hd : d ≤ u.length) (l : Int) : ∀ e ∈ doneN al u d l, e ≤ u.length := by
  intro e he
  unfold doneN at he
  split at he
  · split at he
    · next h =>
      have := (List.getElem?_eq_some_iff.1 h).1
      simp at he; omega
    · cases he
  · simp at he; omega

/-- The nodes of the program's search: letters done, a state of the system, one of the property. -/
def witN (S : Sys) (P : Auto) (al : Int) (u : List Int) (node : Nat) (l : Int) : List Nat :=
  (doneN al u (node / P.next.length / S.states.toNat) l).flatMap fun d => (sysBits S (node / P.next.length % S.states.toNat) l).map fun r => (d * S.states.toNat + r) * P.next.length + step P (node % P.next.length) l
def witG (P : Auto) (node : Nat) : Bool := !accepts P (node % P.next.length)
theorem sysBits_small {S : Sys} (hs : sysValid S = true) {q : Nat} (hq : q < S.states.toNat) (l : Int) : ∀ r ∈ sysBits S q l, r < S.states.toNat := fun r hr => ch_lt hs hq l r ((ch_bits hs q r l).2 hr)
theorem wit_leads {S : Sys} {P : Auto} (hs : sysValid S = true) (hp : autoValid P = true) (al : Int) (u v : List Int) (node r : Nat) :
    Leads (witN S P al u) node v r ↔ (Leads (doneN al u) (node / P.next.length / S.states.toNat) v (r / P.next.length / S.states.toNat) ∧ Leads (sysBits S) (node / P.next.length % S.states.toNat) v (r / P.next.length % S.states.toNat)) ∧ r % P.next.length = run P (node % P.next.length) v := by
  have fp := autoValid_facts hp
  have fs := sys_states hs
  rw [leads_prod (N1 := fun m l => (doneN al u (m / S.states.toNat) l).flatMap fun d => (sysBits S (m % S.states.toNat) l).map fun r => d * S.states.toNat + r) (N2 := fun q l => [step P q l]) (n := P.next.length) (by omega) (fun node l r => by
      unfold witN
      simp only [List.mem_flatMap, List.mem_map, List.mem_singleton]
      constructor
      · rintro ⟨d, hd, x, hx, rfl⟩; exact ⟨_, ⟨d, hd, x, hx, rfl⟩, _, rfl, rfl⟩
      · rintro ⟨_, ⟨d, hd, x, hx, rfl⟩, _, rfl, rfl⟩; exact ⟨d, hd, x, hx, rfl⟩) (fun k l q hk hq => by simp at hq; subst hq; exact step_lt hp hk l), leads_run,
    leads_prod (N1 := doneN al u) (N2 := sysBits S) (n := S.states.toNat) (by omega) (fun node l r => by
      simp only [List.mem_flatMap, List.mem_map]
      constructor
      · rintro ⟨d, hd, x, hx, rfl⟩; exact ⟨d, hd, x, hx, rfl⟩
      · rintro ⟨d, hd, x, hx, rfl⟩; exact ⟨d, hd, x, hx, rfl⟩) (fun k l q hk hq => sysBits_small hs hk l q hq)]
theorem wit_iff {S : Sys} {P : Auto} (hs : sysValid S = true) (hp : autoValid P = true) {al : Int} (hal : isAlpha al = true) {u : List Int} (hu : u.length ≤ 1048576) {L : List Int} (hL : ∀ l, l ∈ L ↔ (bit S.alphabet l = true ∨ bit al l = true)) (v : List Int) :
    Wins (witN S P al u) L [0] (witG P) v ↔ BrokenW [S] (prefA al u) P v := by
  obtain ⟨a1, a2⟩ := alpha_facts hal
  have fp := autoValid_facts hp
  have fs := sys_states hs
  rw [brokenW_iff' (by simpa using hs) (prefA_fit hal hu) hp]
  unfold Wins Gets
  simp only [hL, List.mem_singleton, exists_eq_left, wit_leads hs hp, Nat.zero_div, Nat.zero_mod, done_leads, witG, Bool.not_eq_true', prefA_accepts a1 a2, inAll, List.drop_zero, Nat.zero_add, forall_eq]
  have hch : ∀ q, Leads (sysBits S) 0 v q ↔ Leads (sysCh S) 0 v q := fun q => leads_congr' (fun node l r => (ch_bits hs node r l).symm) v 0 q
  have hpa : (prefA al u).alphabet = al := rfl
  simp only [hch, hpa]
  constructor
  · rintro ⟨n, ⟨h1, ⟨⟨h2, -⟩, h3⟩, h4⟩, h5⟩
    rw [h4] at h5
    exact ⟨h1, ⟨_, h3⟩, h2, h5⟩
  · rintro ⟨h1, ⟨q, h3⟩, h2, h5⟩
    have l1 : q < S.states.toNat := by
      have hlt : ∀ (v : List Int) s, s < S.states.toNat → ∀ q, Leads (sysCh S) s v q → q < S.states.toNat := by
        intro v
        induction v with
        | nil => intro s hs' q h; simp only [Leads] at h; omega
        | cons l v ih =>
          intro s hs' q h
          simp only [Leads] at h
          obtain ⟨b, hb, h⟩ := h
          exact ih b (ch_lt hs hs' l b hb) q h
      exact hlt v 0 (by omega) q h3
    have l2 := run_lt hp v (q := 0) (by omega)
    refine ⟨((v.filter (bit al)).length * S.states.toNat + q) * P.next.length + run P 0 v, ?_⟩
    rw [div_pair l2, mod_pair l2, div_pair l1, mod_pair l1]
    exact ⟨⟨h1, ⟨⟨h2, rfl⟩, h3⟩, rfl⟩, h5⟩
theorem wit_lt {S : Sys} {P : Auto} (hs : sysValid S = true) (hp : autoValid P = true) (al : Int) (u : List Int) {node : Nat} (hn : node < (u.length + 1) * S.states.toNat * P.next.length) (l : Int) : ∀ m ∈ witN S P al u node l, m < (u.length + 1) * S.states.toNat * P.next.length := by
  have fp := autoValid_facts hp
  have fs := sys_states hs
  intro m hm
  unfold witN at hm
  obtain ⟨d, hd, hm⟩ := List.mem_flatMap.1 hm
  obtain ⟨r, hr, rfl⟩ := List.mem_map.1 hm
  have h1 : node / P.next.length / S.states.toNat < u.length + 1 := Nat.div_lt_of_lt_mul (by rw [Nat.mul_comm]; exact Nat.div_lt_of_lt_mul (by rw [Nat.mul_comm]; exact hn))
  have h2 := done_le (show node / P.next.length / S.states.toNat ≤ u.length by omega) l d hd
  have h3 := sysBits_small hs (Nat.mod_lt (node / P.next.length) (show 0 < S.states.toNat by omega)) l r hr
  have h4 := step_lt hp (Nat.mod_lt node (show 0 < P.next.length by omega)) l
  have h5 : d * S.states.toNat + r + 1 ≤ (u.length + 1) * S.states.toNat := by
    have := Nat.mul_le_mul_right S.states.toNat h2
    rw [Nat.add_mul, Nat.one_mul]; omega
  have h6 := Nat.mul_le_mul_right P.next.length h5
  rw [Nat.add_mul, Nat.one_mul] at h6
  omega
theorem done_len (al : Int) (u : List Int) (d : Nat) (l : Int) : (doneN al u d l).length ≤ 1 := by
  unfold doneN; split
  · split <;> simp
  · simp

/-- The first word that shows that a word is not safe. -/
def UW (t : Task) (s : ByteArray) (r : Option (List Int)) : Prop := if (taskValid t && wordIn s t.alphabet) = true then FirstIs (BrokenW [t.sys] (prefA t.alphabet (chars s)) t.prop) r else r = none
open Classical in
noncomputable def uwOf (t : Task) (s : ByteArray) : Option (List Int) := if h : ∃ r, UW t s r then h.choose else none
theorem UW.unique {t : Task} {s : ByteArray} {r r' : Option (List Int)} (h : UW t s r) (h' : UW t s r') : r = r' := by
  unfold UW at h h'
  split at h
  · rw [if_pos ‹_›] at h'; exact h.unique h'
  · rw [if_neg ‹_›] at h'; rw [h, h']
theorem UW.of {t : Task} {s : ByteArray} {r : Option (List Int)} (h : UW t s r) : uwOf t s = r := by
  unfold uwOf; rw [dif_pos ⟨r, h⟩]; exact (Exists.choose_spec (⟨r, h⟩ : ∃ r, UW t s r)).unique h
theorem wordIn_len {s : ByteArray} {a : Int} (h : wordIn s a = true) : (chars s).length ≤ 50000 := by
  simp only [wordIn, Bool.and_eq_true, decide_eq_true_eq] at h
  rw [chars_len]; exact h.1.2
/-- What such a word is. -/
def WitW (t : Task) (u v : List Int) : Prop := (∀ x ∈ v, inT t x) ∧ TraceV t.sys v ∧ v.filter (bit t.alphabet) <+: u ∧ accepts t.prop (run t.prop 0 v) = false
theorem broken_wit {t : Task} (ht : taskValid t = true) {u : List Int} (hu : u.length ≤ 1048576) (v : List Int) : BrokenW [t.sys] (prefA t.alphabet u) t.prop v ↔ WitW t u v := by
  obtain ⟨h1, h2, h3⟩ := taskValid_facts ht
  obtain ⟨a1, a2⟩ := alpha_facts h3
  rw [brokenW_iff' (by simpa using h1) (prefA_fit h3 hu) h2]
  simp only [inAll, List.mem_singleton, exists_eq_left, forall_eq, prefA_accepts a1 a2, WitW, inT]
  exact Iff.rfl
theorem uw_spec (t : Task) (s : ByteArray) : UW t s (uwOf t s) := by
  have : ∃ r, UW t s r := by
    unfold UW
    by_cases h : (taskValid t && wordIn s t.alphabet) = true
    · simp only [if_pos h]
      simp only [Bool.and_eq_true] at h
      obtain ⟨h1, h2, h3⟩ := taskValid_facts h.1
      obtain ⟨a1, a2⟩ := alpha_facts h3
      refine first_exists _ fun v hv x hx => ?_
      have hl := wordIn_len h.2
      obtain ⟨k1, -⟩ := (broken_wit h.1 (by omega) v).1 hv
      rcases k1 x hx with hb | hb
      · exact (bit_range (sys_alpha h1).2 hb).1
      · exact (bit_range a2 hb).1
    · simp only [if_neg h]; exact ⟨_, rfl⟩
  obtain ⟨r, hr⟩ := this
  rw [hr.of]; exact hr
theorem uw_cases (t : Task) (s : ByteArray) : ((taskValid t && wordIn s t.alphabet) = false ∧ uwOf t s = none) ∨ ((taskValid t && wordIn s t.alphabet) = true ∧ FirstIs (WitW t (chars s)) (uwOf t s)) := by
  have h := uw_spec t s
  unfold UW at h
  by_cases hc : (taskValid t && wordIn s t.alphabet) = true
  · rw [if_pos hc] at h
    simp only [Bool.and_eq_true] at hc
    have hl := wordIn_len hc.2
    exact .inr ⟨by simp [hc], h.congr fun v => broken_wit hc.1 (by omega) v⟩
  · rw [if_neg hc] at h
    exact .inl ⟨by simpa using hc, h⟩
theorem safe_uw {t : Task} {s : ByteArray} (ht : taskValid t = true) (hs : wordIn s t.alphabet = true) : safeWord t s = !(uwOf t s).isSome := by
  rcases uw_cases t s with ⟨h, -⟩ | ⟨-, h⟩
  · rw [ht, hs] at h; cases h
  · rw [Bool.eq_iff_iff, safeWord_false ht hs]
    cases hu : uwOf t s with
    | none =>
      rw [hu] at h
      simp only [Option.isSome_none, Bool.not_false, iff_true]
      intro v h1 h2 h3
      cases ha : accepts t.prop (run t.prop 0 v) with
      | true => rfl
      | false => exact absurd ⟨h1, h3, h2, ha⟩ (h v)
    | some u =>
      rw [hu] at h
      obtain ⟨⟨h1, h2, h3, h4⟩, -⟩ := h
      simp only [Option.isSome_some, Bool.not_true, Bool.false_eq_true, iff_false]
      intro hv
      have := hv u h1 h3 h2
      rw [h4] at this; cases this
end Go.Proofs.YtloampfmlhmlhaaGreatDoor
