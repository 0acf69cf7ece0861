/- Part of this seat's proofs, cut to what its law needs. -/

import Derived.Test.YtanekmfifmkbmaaGreatDoorPlain9

namespace Go.Proofs.YtanekmfifmkbmaaGreatDoor
set_option linter.unusedSimpArgs false
set_option linter.unusedVariables false
open Go







end Go.Proofs.YtanekmfifmkbmaaGreatDoor

namespace Go.Proofs.YtanekmfifmkbmaaGreatDoor
set_option linter.unusedSimpArgs false
set_option linter.unusedVariables false
open Go
set_option linter.unusedSectionVars false

section
variable {α : Type} [DecidableEq α]

def addN (l : List α) (x : α) : List α := if x ∈ l then l else l ++ [x]
theorem addN_prefix (l : List α) (x : α) : l <+: addN l x := by
  unfold addN; split
  · exact List.prefix_refl _
  · exact List.prefix_append _ _
theorem addN_mem (l : List α) (x : α) : x ∈ addN l x := by
  unfold addN; split
  · assumption
  · simp
theorem mem_addN {l : List α} {x y : α} (h : y ∈ addN l x) : y ∈ l ∨ y = x := by
  unfold addN at h; split at h
  · exact .inl h
  · simpa using h
theorem foldl_addN_prefix (xs : List α) (l : List α) : l <+: xs.foldl addN l := by
  induction xs generalizing l with
  | nil => exact List.prefix_refl _
  | cons x xs ih => exact (addN_prefix l x).trans (ih _)
theorem foldl_addN_mem (xs : List α) (l : List α) {x : α} (h : x ∈ xs) : x ∈ xs.foldl addN l := by
  induction xs generalizing l with
  | nil => cases h
  | cons y xs ih =>
    rcases List.mem_cons.1 h with rfl | h
    · exact (foldl_addN_prefix xs (addN l x)).subset (addN_mem l x)
    · exact ih _ h
theorem mem_foldl_addN {xs : List α} {l : List α} {x : α} (h : x ∈ xs.foldl addN l) : x ∈ l ∨ x ∈ xs := by
  induction xs generalizing l with
  | nil => exact .inl h
  | cons y xs ih =>
    rcases ih h with h | h
    · rcases mem_addN h with h | rfl
      · exact .inl h
      · exact .inr List.mem_cons_self
    · exact .inr (List.mem_cons_of_mem _ h)
theorem prefix_at {l l' : List α} (h : l <+: l') {i : Nat} {x : α} (hx : l[i]? = some x) : l'[i]? = some x := by
  obtain ⟨t, rfl⟩ := h
  have hi : i < l.length := by
    by_cases h' : i < l.length
    · exact h'
    · rw [List.getElem?_eq_none (by omega)] at hx; cases hx
  rw [List.getElem?_append_left hi]; exact hx

theorem nodup_le {l m : List α} (h : l.Nodup) (hs : ∀ x ∈ l, x ∈ m) : l.length ≤ m.length := by
  induction l generalizing m with
  | nil => simp
  | cons x l ih =>
    have hx : x ∈ m := hs x (by simp)
    have h1 := List.nodup_cons.1 h
    have h2 := ih h1.2 (m := m.erase x) (fun y hy => (List.mem_erase_of_ne (fun (e : y = x) => h1.1 (by rw [← e]; exact hy))).2 (hs y (by simp [hy])))
    rw [List.length_erase_of_mem hx] at h2
    have := List.length_pos_of_mem hx
    simp only [List.length_cons]; omega
variable (nx : α → Int → α) (L : List Int) (s : α)
def growN (nodes : List α) (i : Nat) : List α := match nodes[i]? with
  | none => nodes
  | some n => (L.map (nx n)).foldl addN nodes
def nodesTo : Nat → List α
  | 0 => [s]
  | i + 1 => growN nx L (nodesTo i) i
def ReachN (n : α) : Prop := ∃ v : List Int, (∀ x ∈ v, x ∈ L) ∧ v.foldl nx s = n
theorem growN_prefix (nodes : List α) (i : Nat) : nodes <+: growN nx L nodes i := by
  unfold growN; split
  · exact List.prefix_refl _
  · exact foldl_addN_prefix _ _
theorem nodesTo_prefix (i j : Nat) (h : i ≤ j) : nodesTo nx L s i <+: nodesTo nx L s j := by
  induction j with
  | zero =>
    obtain rfl : i = 0 := by omega
    exact List.prefix_refl _
  | succ j ih =>
    rcases Nat.lt_or_ge j i with h1 | h1
    · obtain rfl : i = j + 1 := by omega
      exact List.prefix_refl _
    · exact (ih h1).trans (growN_prefix nx L _ _)
theorem nodesTo_head (i : Nat) : (nodesTo nx L s i)[0]? = some s := prefix_at (nodesTo_prefix nx L s 0 i (by omega)) rfl
structure Numbers (nodes : List α) : Prop where
  eq : nodes = nodesTo nx L s nodes.length
variable {nx L s}
theorem Numbers.head {nodes : List α} (h : Numbers nx L s nodes) : nodes[0]? = some s := by rw [h.eq]; exact nodesTo_head _ _ _ _
theorem done_mem {i j : Nat} (hj : j < i) {n : α} (hn : (nodesTo nx L s i)[j]? = some n) (hjl : j < (nodesTo nx L s j).length) {l : Int} (hl : l ∈ L) : nx n l ∈ nodesTo nx L s i := by
  have h1 : (nodesTo nx L s j)[j]? = some n := by
    have := prefix_at (nodesTo_prefix nx L s j i (by omega)) (List.getElem?_eq_getElem hjl)
    rw [hn] at this
    rw [List.getElem?_eq_getElem hjl]; exact this.symm
  have h2 : nx n l ∈ nodesTo nx L s (j + 1) := by
    show nx n l ∈ growN nx L (nodesTo nx L s j) j
    unfold growN; rw [h1]
    exact foldl_addN_mem _ _ (List.mem_map.2 ⟨l, hl, rfl⟩)
  exact (nodesTo_prefix nx L s (j + 1) i (by omega)).subset h2
theorem nodesTo_lt {i : Nat} (h : i ≤ (nodesTo nx L s i).length) : ∀ j, j < i → j < (nodesTo nx L s j).length := by
  intro j hj
  induction i with
  | zero => omega
  | succ i ih =>
    by_cases hi : i < (nodesTo nx L s i).length
    · rcases Nat.lt_or_ge j i with h1 | h1
      · exact ih (by omega) h1
      · obtain rfl : j = i := by omega
        exact hi
    · have : nodesTo nx L s (i + 1) = nodesTo nx L s i := by
        show growN nx L (nodesTo nx L s i) i = _
        unfold growN; rw [List.getElem?_eq_none (by omega)]
      rw [this] at h; omega
theorem Numbers.closed {nodes : List α} (h : Numbers nx L s nodes) {n : α} (hn : n ∈ nodes) {l : Int} (hl : l ∈ L) : nx n l ∈ nodes := by
  obtain ⟨j, hj, e⟩ := List.mem_iff_getElem.1 hn
  have he := h.eq
  have h1 : nodes.length ≤ (nodesTo nx L s nodes.length).length := by rw [← he]; exact Nat.le_refl _
  have := done_mem (nx := nx) (L := L) (s := s) (i := nodes.length) hj (n := n) (by rw [← he, List.getElem?_eq_getElem hj, e]) (nodesTo_lt h1 j hj) hl
  rw [← he] at this; exact this
theorem Numbers.all {nodes : List α} (h : Numbers nx L s nodes) {n : α} (hn : ReachN nx L s n) : n ∈ nodes := by
  obtain ⟨v, hv, rfl⟩ := hn
  have : ∀ v : List Int, (∀ x ∈ v, x ∈ L) → ∀ m ∈ nodes, v.foldl nx m ∈ nodes := by
    intro v
    induction v with
    | nil => intro _ m hm; exact hm
    | cons l v ih => intro hv m hm; exact ih (fun x hx => hv x (by simp [hx])) _ (h.closed hm (hv l (by simp)))
  exact this v hv s (List.mem_of_getElem? h.head)
def TooMany (nx : α → Int → α) (L : List Int) (s : α) (M : Nat) : Prop := ∃ l : List α, l.Nodup ∧ M < l.length ∧ ∀ n ∈ l, ReachN nx L s n
theorem Numbers.few {nodes : List α} (h : Numbers nx L s nodes) {M : Nat} (hM : nodes.length ≤ M) : ¬ TooMany nx L s M := by
  rintro ⟨l, h1, h2, h3⟩
  have := nodup_le h1 fun n hn => h.all (h3 n hn)
  omega
end


section
variable {α : Type} [DecidableEq α] {nx : α → Int → α} {L : List Int} {s : α}
end
end Go.Proofs.YtanekmfifmkbmaaGreatDoor

namespace Go.Proofs.YtanekmfifmkbmaaGreatDoor
set_option linter.unusedSimpArgs false
set_option linter.unusedVariables false
open Go


section
variable {t : Task}
theorem taskValid_facts (h : taskValid t = true) : sysValid t.sys = true ∧ autoValid t.prop = true ∧ isAlpha t.alphabet = true := by
  simp only [taskValid, Bool.and_eq_true] at h; exact ⟨h.1.1, h.1.2, h.2⟩
theorem alpha_facts {a : Int} (h : isAlpha a = true) : 0 ≤ a ∧ a ≤ 63 := by simpa [isAlpha] using h
theorem sys_alpha {s : Sys} (h : sysValid s = true) : 0 ≤ s.alphabet ∧ s.alphabet ≤ 63 := by
  simp only [sysValid, Bool.and_eq_true] at h; exact alpha_facts h.1.1.1
theorem hidden_iff (hs : sysValid t.sys = true) (l : Int) : l ∈ hiddenOf t ↔ bit t.sys.alphabet l = true ∧ bit t.alphabet l = false := by
  unfold hiddenOf
  rw [List.mem_filter, letters_iff l (sys_alpha hs).2]
  simp
theorem stepM_16 {s : Sys} (hs : sysValid s = true) {set : Nat} {l : Int} {r : Nat} (h : (stepM s set l).testBit r = true) : r < 16 := by
  obtain ⟨e, he, -, -, rfl⟩ := (stepM_bit _ _ _ _).1 h
  exact (edges_in hs he).2.1
theorem bits16 (q : Nat) : (65535 : Nat).testBit q = true ↔ q < 16 := by
  rw [show (65535 : Nat) = 2 ^ 16 - 1 from rfl, Nat.testBit_two_pow_sub_one, decide_eq_true_eq]
theorem close_within (hs : sysValid t.sys = true) (hp : autoValid t.prop = true) {f : Sets} (hf : Within t f) : Within t (closeM t f) := fun p q h => by
  obtain ⟨h1, h2⟩ := (closeM_bit t f p q).1 h
  refine ⟨?_, h1⟩
  have := h2 (fun p => if p < t.prop.next.length then 65535 else 0) (fun p q h => by
    have := hf p q h
    simp only [this.1, if_true]; exact (bits16 q).2 this.2) (fun l _ p hp' _ q hq => by
    have := stepM_16 hs hq
    simp only [step_lt hp hp' l, if_true]; exact (bits16 q).2 this)
  by_cases hlt : p < t.prop.next.length
  · exact hlt
  · simp only [hlt, if_false, Nat.zero_testBit] at this; cases this
theorem move_within (hs : sysValid t.sys = true) (hp : autoValid t.prop = true) {f : Sets} (hf : Within t f) (l : Int) : Within t (moveM t f l) := fun p q h => by
  obtain ⟨p0, h1, rfl, h2⟩ := (moveTo_bit t f l _ p q).1 h
  refine ⟨step_lt hp h1 l, ?_⟩
  unfold movedOne at h2
  split at h2
  · exact stepM_16 hs h2
  · exact (hf _ _ h2).2
theorem start_within (hp : autoValid t.prop = true) : Within t startM := fun p q h => by
  unfold startM at h
  have := (autoValid_facts hp).2.2.1
  split at h
  · next h0 =>
    rw [show (1 : Nat) = 2 ^ 0 from rfl, Nat.testBit_two_pow, decide_eq_true_eq] at h
    exact ⟨by omega, by omega⟩
  · simp at h
end



end Go.Proofs.YtanekmfifmkbmaaGreatDoor

namespace Go.Proofs.YtanekmfifmkbmaaGreatDoor
set_option linter.unusedSimpArgs false
set_option linter.unusedVariables false
open Go

theorem lt_of_bits {n : Nat} (h : ∀ q, n.testBit q = true → q < 16) : n < 65536 := by
  rw [show (65536 : Nat) = 2 ^ 16 from rfl]
  apply Nat.lt_pow_two_of_testBit
  intro i hi
  cases hb : n.testBit i with
  | false => rfl
  | true => have := h i hb; omega
end Go.Proofs.YtanekmfifmkbmaaGreatDoor
