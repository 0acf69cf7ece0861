/- Part of this seat's proofs, cut to what its law needs. -/

import Derived.Test.YtadplnbadfnlfaaGreatDoorPlainM
namespace Go.Proofs.YtadplnbadfnlfaaGreatDoor
set_option linter.unusedSimpArgs false
set_option linter.unusedVariables false
open Go
set_option linter.unusedSectionVars false

def rankS (f q : Nat) : Nat := ((List.range q).filter (f.testBit ·)).length
theorem rankS_zero (f : Nat) : rankS f 0 = 0 := rfl
theorem rankS_succ (f q : Nat) : rankS f (q + 1) = rankS f q + if f.testBit q = true then 1 else 0 := by
  unfold rankS
  rw [List.range_succ, List.filter_append, List.length_append]
  by_cases h : f.testBit q = true <;> simp [h]
theorem rankS_mono (f : Nat) {q r : Nat} (h : q ≤ r) : rankS f q ≤ rankS f r := by
  induction r with
  | zero => obtain rfl : q = 0 := by omega
            exact Nat.le_refl _
  | succ r ih =>
    rcases Nat.lt_or_ge r q with h1 | h1
    · obtain rfl : q = r + 1 := by omega
      exact Nat.le_refl _
    · rw [rankS_succ]
      exact Nat.le_trans (ih h1) (Nat.le_add_right _ _)
theorem rankS_lt {f q r : Nat} (hq : f.testBit q = true) (h : q < r) : rankS f q < rankS f r := by
  have h1 := rankS_mono f (show q + 1 ≤ r from h)
  rw [rankS_succ, if_pos hq] at h1
  omega
theorem rankS_inj {f q r : Nat} (hq : f.testBit q = true) (hr : f.testBit r = true) (h : rankS f q = rankS f r) : q = r := by
  rcases Nat.lt_trichotomy q r with h1 | h1 | h1
  · have := rankS_lt hq h1; omega
  · exact h1
  · have := rankS_lt hr h1; omega
theorem rankS_le (f q : Nat) : rankS f q ≤ q := by
  unfold rankS
  have := List.length_filter_le (f.testBit ·) (List.range q)
  rwa [List.length_range] at this

structure StayS (s : Sys) (f : Nat) : Prop where
  lt : f < 65536
  zero : f.testBit 0 = true
  closed : ∀ l : Nat, l < 6 → ∀ r, (stepM s f l).testBit r = true → f.testBit r = true
def inS (f : Nat) (e : Edge) : Bool := f.testBit e.src.toNat && f.testBit e.dst.toNat
def mapS (f : Nat) (e : Edge) : Edge := ⟨(rankS f e.src.toNat : Int), e.letter, (rankS f e.dst.toNat : Int)⟩
def subS (s : Sys) (f : Nat) : Sys := ⟨s.alphabet, (rankS f 16 : Int), (s.edges.filter (inS f)).map (mapS f)⟩
section
variable {s : Sys} {f : Nat}
theorem subS_valid (hs : sysValid s = true) (hf : f.testBit 0 = true) : sysValid (subS s f) = true := by
  have hin := fun e he => edges_in hs (e := e) he
  obtain ⟨a, b, c, d, e⟩ := (sysValid_iff s).1 hs
  refine (sysValid_iff _).2 ⟨a, ?_, ?_, ?_, ?_⟩
  · have := rankS_lt hf (show 0 < 16 by omega)
    show (1 : Int) ≤ (rankS f 16 : Int)
    omega
  · have := rankS_le f 16
    show (rankS f 16 : Int) ≤ 16
    omega
  · intro x hx
    obtain ⟨y, hy, rfl⟩ := List.mem_map.1 hx
    obtain ⟨hy, hyf⟩ := List.mem_filter.1 hy
    simp only [inS, Bool.and_eq_true] at hyf
    have h1 := d y hy
    have h2 := hin y hy
    have h3 := rankS_lt hyf.1 (show y.src.toNat < 16 by omega)
    have h4 := rankS_lt hyf.2 (show y.dst.toNat < 16 by omega)
    simp only [edgeOk, Bool.and_eq_true, decide_eq_true_eq] at h1 ⊢
    simp only [mapS, subS]
    refine ⟨⟨⟨⟨?_, ?_⟩, ?_⟩, ?_⟩, ?_⟩ <;> first | omega | (simp only [h1]; done)
  · refine List.Pairwise.map _ (R := fun a b => (a ∈ s.edges ∧ inS f a = true) ∧ (b ∈ s.edges ∧ inS f b = true) ∧ edgeLt a b = true) ?_ ?_
    · rintro x y ⟨⟨hx, hxf⟩, ⟨hy, hyf⟩, hxy⟩
      have h1 := hin x hx
      have h2 := hin y hy
      simp only [inS, Bool.and_eq_true] at hxf hyf
      rw [edgeLt_iff] at hxy ⊢
      simp only [mapS]
      rcases hxy with h | ⟨h, h' | ⟨h', h''⟩⟩
      · have := rankS_lt hxf.1 (show x.src.toNat < y.src.toNat by omega); omega
      · rw [h]; omega
      · have := rankS_lt hxf.2 (show x.dst.toNat < y.dst.toNat by omega)
        rw [h, h']; omega
    · refine List.Pairwise.imp_of_mem ?_ (e.filter _)
      intro x y hx hy hxy
      exact ⟨List.mem_filter.1 hx, List.mem_filter.1 hy, hxy⟩
theorem sub_ch (hs : sysValid s = true) (hr : StayS s f) {q : Nat} (hq : f.testBit q = true) (hl : ∀ l, bit s.alphabet l = true → ∃ m : Nat, m < 6 ∧ l = m) (l : Int) (x : Nat) :
    x ∈ sysCh (subS s f) (rankS f q) l ↔ ∃ r, f.testBit r = true ∧ x = rankS f r ∧ r ∈ sysCh s q l := by
  unfold sysCh
  by_cases hb : bit s.alphabet l = true
  · rw [if_pos (show bit (subS s f).alphabet l = true from hb), if_pos hb]
    constructor
    · intro h
      obtain ⟨e', he', rfl⟩ := List.mem_map.1 h
      obtain ⟨he', hc⟩ := List.mem_filter.1 he'
      obtain ⟨e, he, rfl⟩ := List.mem_map.1 he'
      obtain ⟨he, hef⟩ := List.mem_filter.1 he
      have h2 := edges_in hs he
      simp only [inS, Bool.and_eq_true] at hef
      simp only [Bool.and_eq_true, decide_eq_true_eq] at hc
      have hc1 : ((rankS f e.src.toNat : Nat) : Int) = (rankS f q : Nat) := hc.1
      have hc2 : e.letter = l := hc.2
      have h3 := rankS_inj hef.1 hq (by omega)
      refine ⟨e.dst.toNat, hef.2, by simp [mapS], List.mem_map.2 ⟨e, List.mem_filter.2 ⟨he, ?_⟩, rfl⟩⟩
      simp only [Bool.and_eq_true, decide_eq_true_eq]
      exact ⟨by omega, hc2⟩
    · rintro ⟨r, hrf, rfl, h⟩
      obtain ⟨e, he, rfl⟩ := List.mem_map.1 h
      obtain ⟨he, hc⟩ := List.mem_filter.1 he
      simp only [Bool.and_eq_true, decide_eq_true_eq] at hc
      have h2 := edges_in hs he
      have h3 : e.src.toNat = q := by omega
      refine List.mem_map.2 ⟨mapS f e, List.mem_filter.2 ⟨List.mem_map.2 ⟨e, List.mem_filter.2 ⟨he, ?_⟩, rfl⟩, ?_⟩, by simp [mapS]⟩
      · simp only [inS, Bool.and_eq_true]; rw [h3]; exact ⟨hq, hrf⟩
      · simp only [Bool.and_eq_true, decide_eq_true_eq]
        exact ⟨(show ((rankS f e.src.toNat : Nat) : Int) = (rankS f q : Nat) by rw [h3]), hc.2⟩
  · rw [if_neg (show ¬ bit (subS s f).alphabet l = true from hb), if_neg hb]
    simp only [List.mem_singleton]
    constructor
    · intro h; exact ⟨q, hq, h, rfl⟩
    · rintro ⟨r, -, h, rfl⟩; exact h
theorem ch_closed (hs : sysValid s = true) (hr : StayS s f) {q r : Nat} (hq : f.testBit q = true) (hl : ∀ l, bit s.alphabet l = true → ∃ m : Nat, m < 6 ∧ l = m) {l : Int} (h : r ∈ sysCh s q l) : f.testBit r = true := by
  unfold sysCh at h
  by_cases hb : bit s.alphabet l = true
  · rw [if_pos hb] at h
    obtain ⟨e, he, rfl⟩ := List.mem_map.1 h
    obtain ⟨he2, hc⟩ := List.mem_filter.1 he
    simp only [Bool.and_eq_true, decide_eq_true_eq] at hc
    obtain ⟨m, hm, rfl⟩ := hl l hb
    exact hr.closed m hm _ ((stepM_bit _ _ _ _).2 ⟨e, he2, hc.2, by rw [show e.src.toNat = q by omega]; exact hq, rfl⟩)
  · rw [if_neg hb, List.mem_singleton] at h
    subst h; exact hq
theorem sub_leads (hs : sysValid s = true) (hr : StayS s f) (hl : ∀ l, bit s.alphabet l = true → ∃ m : Nat, m < 6 ∧ l = m) (v : List Int) : ∀ q, f.testBit q = true → ((∃ x, Leads (sysCh (subS s f)) (rankS f q) v x) ↔ ∃ r, Leads (sysCh s) q v r) := by
  induction v with
  | nil => intro q _; exact ⟨fun _ => ⟨q, rfl⟩, fun _ => ⟨_, rfl⟩⟩
  | cons l v ih =>
    intro q hq
    constructor
    · rintro ⟨x, b, hb, hx⟩
      obtain ⟨r, h1, rfl, h2⟩ := (sub_ch hs hr hq hl l b).1 hb
      obtain ⟨y, hy⟩ := (ih r h1).1 ⟨x, hx⟩
      exact ⟨y, r, h2, hy⟩
    · rintro ⟨x, b, hb, hx⟩
      have h1 := ch_closed hs hr hq hl hb
      obtain ⟨y, hy⟩ := (ih b h1).2 ⟨x, hx⟩
      exact ⟨y, _, (sub_ch hs hr hq hl l _).2 ⟨b, h1, rfl, hb⟩, hy⟩
theorem sub_trace (hs : sysValid s = true) (hr : StayS s f) (v : List Int) : TraceV (subS s f) v ↔ TraceV s v := by
  obtain ⟨s0, s63⟩ := sys_alpha hs
  have := sub_leads hs hr (fun l hb => by
    obtain ⟨h1, h2⟩ := bit_range s63 hb
    exact ⟨l.toNat, by omega, by omega⟩) v 0 hr.zero
  rwa [rankS_zero] at this
theorem pv_forms {p x : Auto} (hs : sysValid s = true) (hr : StayS s f) (hp : autoValid p = true) (hx : autoValid x = true) (hacc : ∀ v, accepts x (run x 0 v) = accepts p (run p 0 v)) : pvOf [subS s f] x = pvOf [s] p := by
  have hs' : areParts [s] = true := by rw [one_areParts]; exact hs
  have ht' : areParts [subS s f] = true := by rw [one_areParts]; exact subS_valid hs hr.zero
  rcases pv_cases [subS s f] x with ⟨h, _⟩ | ⟨_, hX⟩
  · rw [ht', hx] at h; cases h
  rcases pv_cases [s] p with ⟨h, _⟩ | ⟨_, hP⟩
  · rw [hs', hp] at h; cases h
  have hW : ∀ v, BrokenW [subS s f] trivAuto x v ↔ BrokenW [s] trivAuto p v := fun v => by
    rw [brokenS_iff ht' hx, brokenS_iff hs' hp]
    simp only [List.mem_singleton, exists_eq_left, forall_eq]
    rw [sub_trace hs hr, hacc]
    exact Iff.rfl
  refine hX.unique ?_
  cases hrr : pvOf [s] p with
  | none =>
    rw [hrr] at hP
    exact fun v hv => hP v ((hW v).1 hv)
  | some u =>
    rw [hrr] at hP
    exact ⟨(hW u).2 hP.1, fun v hv => hP.2 v ((hW v).1 hv)⟩
end
end Go.Proofs.YtadplnbadfnlfaaGreatDoor
