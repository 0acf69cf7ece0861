/- Part of this seat's proofs, cut to what its law needs. -/

import Derived.Test.YtadplnbadfnlfaaGreatDoorPlain9

namespace Go.Proofs.YtadplnbadfnlfaaGreatDoor
set_option linter.unusedSimpArgs false
set_option linter.unusedVariables false
open Go







end Go.Proofs.YtadplnbadfnlfaaGreatDoor

namespace Go.Proofs.YtadplnbadfnlfaaGreatDoor
set_option linter.unusedSimpArgs false
set_option linter.unusedVariables false
open Go
set_option linter.unusedSectionVars false

section
variable {α : Type} [DecidableEq α]

theorem idx_at {l : List α} {x : α} (h : x ∈ l) : l[l.idxOf x]? = some x := by
  induction l with
  | nil => cases h
  | cons y l ih =>
    by_cases e : y = x
    · subst e; simp
    · rcases List.mem_cons.1 h with h | h
      · exact absurd h.symm e
      · rw [List.idxOf_cons, show (y == x) = false by simpa using e]; exact ih h
def addN (l : List α) (x : α) : List α := if x ∈ l then l else l ++ [x]
theorem addN_prefix (l : List α) (x : α) : l <+: addN l x := by
  unfold addN; split
  · exact List.prefix_refl _
  · exact List.prefix_append _ _
theorem addN_mem (l : List α) (x : α) : x ∈ addN l x := by
  unfold addN; split
  · assumption
  · simp
theorem addN_nodup {l : List α} (h : l.Nodup) (x : α) : (addN l x).Nodup := by
  unfold addN; split
  · exact h
  · next hx => exact List.nodup_append.2 ⟨h, by simp, fun a ha b hb => by rw [List.mem_singleton] at hb; subst hb; exact fun e => hx (e ▸ ha)⟩
theorem mem_addN {l : List α} {x y : α} (h : y ∈ addN l x) : y ∈ l ∨ y = x := by
  unfold addN at h; split at h
  · exact .inl h
  · simpa using h
theorem foldl_addN_prefix (xs : List α) (l : List α) : l <+: xs.foldl addN l := by
  induction xs generalizing l with
  | nil => exact List.prefix_refl _
  | cons x xs ih => exact (addN_prefix l x).trans (ih _)
theorem foldl_addN_nodup (xs : List α) {l : List α} (h : l.Nodup) : (xs.foldl addN l).Nodup := by
  induction xs generalizing l with
  | nil => exact h
  | cons x xs ih => exact ih (addN_nodup h x)
theorem foldl_addN_mem (xs : List α) (l : List α) {x : α} (h : x ∈ xs) : x ∈ xs.foldl addN l := by
  induction xs generalizing l with
  | nil => cases h
  | cons y xs ih =>
    rcases List.mem_cons.1 h with rfl | h
    · exact (foldl_addN_prefix xs (addN l x)).subset (addN_mem l x)
    · exact ih _ h
theorem mem_foldl_addN {xs : List α} {l : List α} {x : α} (h : x ∈ xs.foldl addN l) : x ∈ l ∨ x ∈ xs := by
  induction xs generalizing l with
  | nil => exact .inl h
  | cons y xs ih =>
    rcases ih h with h | h
    · rcases mem_addN h with h | rfl
      · exact .inl h
      · exact .inr List.mem_cons_self
    · exact .inr (List.mem_cons_of_mem _ h)
theorem idxOf_prefix {l l' : List α} {x : α} (h : l <+: l') (hx : x ∈ l) : l'.idxOf x = l.idxOf x := by
  obtain ⟨t, rfl⟩ := h
  rw [List.idxOf_append, if_pos hx]
theorem prefix_at {l l' : List α} (h : l <+: l') {i : Nat} {x : α} (hx : l[i]? = some x) : l'[i]? = some x := by
  obtain ⟨t, rfl⟩ := h
  have hi : i < l.length := by
    by_cases h' : i < l.length
    · exact h'
    · rw [List.getElem?_eq_none (by omega)] at hx; cases hx
  rw [List.getElem?_append_left hi]; exact hx

theorem nodup_le {l m : List α} (h : l.Nodup) (hs : ∀ x ∈ l, x ∈ m) : l.length ≤ m.length := by
  induction l generalizing m with
  | nil => simp
  | cons x l ih =>
    have hx : x ∈ m := hs x (by simp)
    have h1 := List.nodup_cons.1 h
    have h2 := ih h1.2 (m := m.erase x) (fun y hy => (List.mem_erase_of_ne (fun (e : y = x) => h1.1 (by rw [← e]; exact hy))).2 (hs y (by simp [hy])))
    rw [List.length_erase_of_mem hx] at h2
    have := List.length_pos_of_mem hx
    simp only [List.length_cons]; omega
variable (nx : α → Int → α) (L : List Int) (s : α)
def growN (nodes : List α) (i : Nat) : List α := match nodes[i]? with
  | none => nodes
  | some n => (L.map (nx n)).foldl addN nodes
def nodesTo : Nat → List α
  | 0 => [s]
  | i + 1 => growN nx L (nodesTo i) i
def ReachN (n : α) : Prop := ∃ v : List Int, (∀ x ∈ v, x ∈ L) ∧ v.foldl nx s = n
theorem ReachN.next {n : α} (h : ReachN nx L s n) {l : Int} (hl : l ∈ L) : ReachN nx L s (nx n l) := by
  obtain ⟨v, hv, rfl⟩ := h
  exact ⟨v ++ [l], fun x hx => by rcases List.mem_append.1 hx with hx | hx; exact hv x hx; rw [List.mem_singleton] at hx; subst hx; exact hl, by rw [List.foldl_append]; rfl⟩
theorem growN_prefix (nodes : List α) (i : Nat) : nodes <+: growN nx L nodes i := by
  unfold growN; split
  · exact List.prefix_refl _
  · exact foldl_addN_prefix _ _
theorem nodesTo_prefix (i j : Nat) (h : i ≤ j) : nodesTo nx L s i <+: nodesTo nx L s j := by
  induction j with
  | zero =>
    obtain rfl : i = 0 := by omega
    exact List.prefix_refl _
  | succ j ih =>
    rcases Nat.lt_or_ge j i with h1 | h1
    · obtain rfl : i = j + 1 := by omega
      exact List.prefix_refl _
    · exact (ih h1).trans (growN_prefix nx L _ _)
theorem nodesTo_nodup (i : Nat) : (nodesTo nx L s i).Nodup := by
  induction i with
  | zero => simp [nodesTo]
  | succ i ih =>
    show (growN nx L (nodesTo nx L s i) i).Nodup
    unfold growN; split
    · exact ih
    · exact foldl_addN_nodup _ ih
theorem nodesTo_reach (i : Nat) : ∀ n ∈ nodesTo nx L s i, ReachN nx L s n := by
  induction i with
  | zero => intro n hn; simp [nodesTo] at hn; subst hn; exact ⟨[], by simp, rfl⟩
  | succ i ih =>
    intro n hn
    have hn' : n ∈ growN nx L (nodesTo nx L s i) i := hn
    unfold growN at hn'; split at hn'
    · exact ih n hn'
    · next m hm =>
      rcases mem_foldl_addN hn' with h | h
      · exact ih n h
      · obtain ⟨l, hl, rfl⟩ := List.mem_map.1 h
        exact (ih m (List.mem_of_getElem? hm)).next nx L s hl
theorem nodesTo_head (i : Nat) : (nodesTo nx L s i)[0]? = some s := prefix_at (nodesTo_prefix nx L s 0 i (by omega)) rfl
structure Numbers (nodes : List α) : Prop where
  eq : nodes = nodesTo nx L s nodes.length
variable {nx L s}
theorem Numbers.of {i : Nat} (h : (nodesTo nx L s i).length = i) : Numbers nx L s (nodesTo nx L s i) := ⟨by rw [h]⟩
theorem Numbers.head {nodes : List α} (h : Numbers nx L s nodes) : nodes[0]? = some s := by rw [h.eq]; exact nodesTo_head _ _ _ _
theorem Numbers.nodup {nodes : List α} (h : Numbers nx L s nodes) : nodes.Nodup := by rw [h.eq]; exact nodesTo_nodup _ _ _ _
theorem Numbers.reach {nodes : List α} (h : Numbers nx L s nodes) : ∀ n ∈ nodes, ReachN nx L s n := by rw [h.eq]; exact nodesTo_reach _ _ _ _
theorem done_mem {i j : Nat} (hj : j < i) {n : α} (hn : (nodesTo nx L s i)[j]? = some n) (hjl : j < (nodesTo nx L s j).length) {l : Int} (hl : l ∈ L) : nx n l ∈ nodesTo nx L s i := by
  have h1 : (nodesTo nx L s j)[j]? = some n := by
    have := prefix_at (nodesTo_prefix nx L s j i (by omega)) (List.getElem?_eq_getElem hjl)
    rw [hn] at this
    rw [List.getElem?_eq_getElem hjl]; exact this.symm
  have h2 : nx n l ∈ nodesTo nx L s (j + 1) := by
    show nx n l ∈ growN nx L (nodesTo nx L s j) j
    unfold growN; rw [h1]
    exact foldl_addN_mem _ _ (List.mem_map.2 ⟨l, hl, rfl⟩)
  exact (nodesTo_prefix nx L s (j + 1) i (by omega)).subset h2
theorem nodesTo_lt {i : Nat} (h : i ≤ (nodesTo nx L s i).length) : ∀ j, j < i → j < (nodesTo nx L s j).length := by
  intro j hj
  induction i with
  | zero => omega
  | succ i ih =>
    by_cases hi : i < (nodesTo nx L s i).length
    · rcases Nat.lt_or_ge j i with h1 | h1
      · exact ih (by omega) h1
      · obtain rfl : j = i := by omega
        exact hi
    · have : nodesTo nx L s (i + 1) = nodesTo nx L s i := by
        show growN nx L (nodesTo nx L s i) i = _
        unfold growN; rw [List.getElem?_eq_none (by omega)]
      rw [this] at h; omega
theorem Numbers.closed {nodes : List α} (h : Numbers nx L s nodes) {n : α} (hn : n ∈ nodes) {l : Int} (hl : l ∈ L) : nx n l ∈ nodes := by
  obtain ⟨j, hj, e⟩ := List.mem_iff_getElem.1 hn
  have he := h.eq
  have h1 : nodes.length ≤ (nodesTo nx L s nodes.length).length := by rw [← he]; exact Nat.le_refl _
  have := done_mem (nx := nx) (L := L) (s := s) (i := nodes.length) hj (n := n) (by rw [← he, List.getElem?_eq_getElem hj, e]) (nodesTo_lt h1 j hj) hl
  rw [← he] at this; exact this
theorem Numbers.all {nodes : List α} (h : Numbers nx L s nodes) {n : α} (hn : ReachN nx L s n) : n ∈ nodes := by
  obtain ⟨v, hv, rfl⟩ := hn
  have : ∀ v : List Int, (∀ x ∈ v, x ∈ L) → ∀ m ∈ nodes, v.foldl nx m ∈ nodes := by
    intro v
    induction v with
    | nil => intro _ m hm; exact hm
    | cons l v ih => intro hv m hm; exact ih (fun x hx => hv x (by simp [hx])) _ (h.closed hm (hv l (by simp)))
  exact this v hv s (List.mem_of_getElem? h.head)
def TooMany (nx : α → Int → α) (L : List Int) (s : α) (M : Nat) : Prop := ∃ l : List α, l.Nodup ∧ M < l.length ∧ ∀ n ∈ l, ReachN nx L s n
theorem Numbers.unique {nodes nodes' : List α} (h : Numbers nx L s nodes) (h' : Numbers nx L s nodes') : nodes = nodes' := by
  have e : nodes.length = nodes'.length := by
    have a := nodup_le h.nodup fun n hn => h'.all (h.reach n hn)
    have b := nodup_le h'.nodup fun n hn => h.all (h'.reach n hn)
    omega
  rw [h.eq, h'.eq, e]
def rowN (nx : α → Int → α) (L : List Int) (nodes : List α) (n : α) : List Int := L.map fun l => ((nodes.idxOf (nx n l) : Nat) : Int)
theorem rowN_prefix {nodes nodes' : List α} (h : nodes <+: nodes') {n : α} (hn : ∀ l ∈ L, nx n l ∈ nodes) : rowN nx L nodes' n = rowN nx L nodes n := by
  unfold rowN
  apply List.map_congr_left
  intro l hl
  rw [idxOf_prefix h (hn l hl)]
def autoN (nx : α → Int → α) (a : Int) (acc : α → Bool) (nodes : List α) : Auto := ⟨a, nodes.map (rowN nx (letters a) nodes), nodes.map acc⟩
theorem autoN_at {a : Int} {acc : α → Bool} {nodes : List α} {i : Nat} {n : α} (h : nodes[i]? = some n) : (autoN nx a acc nodes).next[i]? = some (rowN nx (letters a) nodes n) ∧ (autoN nx a acc nodes).accept[i]? = some (acc n) := by
  simp [autoN, h]
theorem autoN_valid {a : Int} (ha : isAlpha a = true) {acc : α → Bool} {nodes : List α} (h : Numbers nx (letters a) s nodes) (h12 : nodes.length ≤ 12) : autoValid (autoN nx a acc nodes) = true := by
  simp only [autoValid, Bool.and_eq_true, decide_eq_true_eq, List.all_eq_true]
  have h1 : 1 ≤ nodes.length := by
    have := h.head
    by_cases h' : 0 < nodes.length
    · omega
    · rw [List.getElem?_eq_none (by omega)] at this; cases this
  refine ⟨⟨⟨⟨ha, by simpa [autoN] using h1⟩, by simpa [autoN] using h12⟩, by simp [autoN]⟩, fun row hrow => ?_⟩
  obtain ⟨n, hn, rfl⟩ := List.mem_map.1 hrow
  simp only [rowOk, Bool.and_eq_true, List.all_eq_true, decide_eq_true_eq, qOk]
  refine ⟨by simp [rowN, nletters, autoN], fun y hy => ?_⟩
  obtain ⟨l, hl, rfl⟩ := List.mem_map.1 hy
  have := List.idxOf_lt_length_of_mem (h.closed hn hl)
  refine ⟨by omega, ?_⟩
  simp only [autoN, List.length_map]
  omega
def stepN (nx : α → Int → α) (a : Int) (n : α) (l : Int) : α := if bit a l then nx n l else n
theorem stepN_mem {a : Int} (ha2 : a ≤ 63) {nodes : List α} (h : Numbers nx (letters a) s nodes) {n : α} (hn : n ∈ nodes) (l : Int) : stepN nx a n l ∈ nodes := by
  unfold stepN; split
  · exact h.closed hn ((letters_iff l ha2).2 ‹_›)
  · exact hn
theorem autoN_step {a : Int} (ha : 0 ≤ a) (ha2 : a ≤ 63) {acc : α → Bool} {nodes : List α} (h : Numbers nx (letters a) s nodes) {n : α} (hn : n ∈ nodes) (l : Int) : step (autoN nx a acc nodes) (nodes.idxOf n) l = nodes.idxOf (stepN nx a n l) := by
  unfold step stepN
  by_cases hb : bit a l = true
  · rw [if_pos (show bit (autoN nx a acc nodes).alphabet l = true from hb), if_pos hb]
    unfold entry
    have hat : nodes[nodes.idxOf n]? = some n := idx_at hn
    rw [(autoN_at (acc := acc) hat).1]
    obtain ⟨b1, b2⟩ := bit_range ha2 hb
    have hp : (letters a)[place a l]? = some l := (letters_place a l _ ha ha2 b1 b2 (by have := place_lt a l ha ha2 hb; have h6 := lettersTo_len a 6; unfold nletters letters at this; omega)).2 ⟨hb, rfl⟩
    simp only [Option.getD_some, rowN, List.getElem?_map]
    rw [show (autoN nx a acc nodes).alphabet = a from rfl, hp]
    simp
  · rw [if_neg (show ¬ bit (autoN nx a acc nodes).alphabet l = true from hb), if_neg hb]
theorem autoN_run {a : Int} (ha : 0 ≤ a) (ha2 : a ≤ 63) {acc : α → Bool} {nodes : List α} (h : Numbers nx (letters a) s nodes) (v : List Int) : ∀ n ∈ nodes, run (autoN nx a acc nodes) (nodes.idxOf n) v = nodes.idxOf (v.foldl (stepN nx a) n) ∧ v.foldl (stepN nx a) n ∈ nodes := by
  induction v with
  | nil => intro n hn; exact ⟨rfl, hn⟩
  | cons l v ih =>
    intro n hn
    show run _ (step _ _ l) v = _ ∧ _
    rw [autoN_step ha ha2 h hn]
    exact ih _ (stepN_mem ha2 h hn l)
theorem autoN_accepts {a : Int} (ha : 0 ≤ a) (ha2 : a ≤ 63) {acc : α → Bool} {nodes : List α} (h : Numbers nx (letters a) s nodes) (v : List Int) : accepts (autoN nx a acc nodes) (run (autoN nx a acc nodes) 0 v) = acc (v.foldl (stepN nx a) s) := by
  have hs : s ∈ nodes := List.mem_of_getElem? h.head
  have h0 : nodes.idxOf s = 0 := by
    have hh := h.head
    cases nodes with
    | nil => cases hh
    | cons x xs => simp at hh; subst hh; simp
  obtain ⟨h1, h2⟩ := autoN_run ha ha2 (acc := acc) h v s hs
  rw [h0] at h1
  unfold accepts
  rw [h1, (autoN_at (acc := acc) (idx_at h2)).2]; rfl
end


section
variable {α : Type} [DecidableEq α] {nx : α → Int → α} {L : List Int} {s : α}
structure NumSt (nx : α → Int → α) (L : List Int) (s : α) (i k : Nat) (n : α) (nodes : List α) (row : List Int) : Prop where
  node : (nodesTo nx L s i)[i]? = some n
  eq : nodes = ((L.take k).map (nx n)).foldl addN (nodesTo nx L s i)
  row : row = (L.take k).map fun l => ((nodes.idxOf (nx n l) : Nat) : Int)
theorem NumSt.start {i : Nat} {n : α} (h : (nodesTo nx L s i)[i]? = some n) : NumSt nx L s i 0 n (nodesTo nx L s i) [] := ⟨h, rfl, rfl⟩
theorem NumSt.prefix {i k : Nat} {n : α} {nodes : List α} {row : List Int} (h : NumSt nx L s i k n nodes row) : nodesTo nx L s i <+: nodes := by rw [h.eq]; exact foldl_addN_prefix _ _
theorem NumSt.mem {i k : Nat} {n : α} {nodes : List α} {row : List Int} (h : NumSt nx L s i k n nodes row) : ∀ l ∈ L.take k, nx n l ∈ nodes := fun l hl => by rw [h.eq]; exact foldl_addN_mem _ _ (List.mem_map.2 ⟨l, hl, rfl⟩)
theorem NumSt.step {i k : Nat} {n : α} {nodes : List α} {row : List Int} (h : NumSt nx L s i k n nodes row) {l : Int} (hl : L[k]? = some l) : NumSt nx L s i (k + 1) n (addN nodes (nx n l)) (row ++ [(((addN nodes (nx n l)).idxOf (nx n l) : Nat) : Int)]) where
  node := h.node
  eq := by rw [List.take_add_one, hl, List.map_append, List.foldl_append, ← h.eq]; rfl
  row := by
    rw [List.take_add_one, hl, List.map_append, h.row]
    congr 1
    apply List.map_congr_left
    intro l' hl'
    rw [idxOf_prefix (addN_prefix nodes (nx n l)) (h.mem l' hl')]
theorem NumSt.nodup {i k : Nat} {n : α} {nodes : List α} {row : List Int} (h : NumSt nx L s i k n nodes row) : nodes.Nodup := by rw [h.eq]; exact foldl_addN_nodup _ (nodesTo_nodup _ _ _ _)
theorem NumSt.reach {i k : Nat} {n : α} {nodes : List α} {row : List Int} (h : NumSt nx L s i k n nodes row) : ∀ m ∈ nodes, ReachN nx L s m := fun m hm => by
  rw [h.eq] at hm
  rcases mem_foldl_addN hm with hm | hm
  · exact nodesTo_reach nx L s i m hm
  · obtain ⟨l, hl, rfl⟩ := List.mem_map.1 hm
    exact (nodesTo_reach nx L s i n (List.mem_of_getElem? h.node)).next nx L s (List.mem_of_mem_take hl)
theorem NumSt.at {i k : Nat} {n : α} {nodes : List α} {row : List Int} (h : NumSt nx L s i k n nodes row) : nodes[i]? = some n := prefix_at h.prefix h.node
theorem NumSt.done {i : Nat} {n : α} {nodes : List α} {row : List Int} (h : NumSt nx L s i L.length n nodes row) : nodes = nodesTo nx L s (i + 1) ∧ row = rowN nx L nodes n := by
  have e := h.eq
  have r := h.row
  rw [List.take_length] at e r
  refine ⟨?_, r⟩
  rw [e]
  show _ = growN nx L (nodesTo nx L s i) i
  unfold growN; rw [h.node]
def RowsN (nx : α → Int → α) (L : List Int) (s : α) (i : Nat) (rows : List (List Int)) : Prop := rows = ((nodesTo nx L s i).take i).map (rowN nx L (nodesTo nx L s i))
theorem RowsN.zero : RowsN nx L s 0 [] := rfl
theorem RowsN.next {i : Nat} {n : α} {nodes : List α} {row : List Int} {rows : List (List Int)} (h : RowsN nx L s i rows) (hs : NumSt nx L s i L.length n nodes row) (hi : i ≤ (nodesTo nx L s i).length) : RowsN nx L s (i + 1) (rows ++ [row]) := by
  obtain ⟨e1, e2⟩ := hs.done
  have hp := nodesTo_prefix nx L s i (i + 1) (by omega)
  have hat : (nodesTo nx L s (i + 1))[i]? = some n := prefix_at hp hs.node
  unfold RowsN at h ⊢
  rw [List.take_add_one, hat, List.map_append, h, e2, e1]
  congr 1
  obtain ⟨t, ht⟩ := hp
  rw [← ht, List.take_append_of_le_length hi]
  apply List.map_congr_left
  intro m hm
  obtain ⟨j, hj, e⟩ := List.mem_iff_getElem.1 hm
  rw [List.length_take] at hj
  rw [List.getElem_take] at e
  rw [ht]
  refine (rowN_prefix (nodesTo_prefix nx L s i (i + 1) (by omega)) fun l hl => ?_).symm
  exact done_mem (i := i) (j := j) (by omega) (by rw [List.getElem?_eq_getElem (by omega), e]) (nodesTo_lt hi j (by omega)) hl
theorem RowsN.full {nodes : List α} {rows : List (List Int)} (h : RowsN nx L s nodes.length rows) (hn : Numbers nx L s nodes) : rows = nodes.map (rowN nx L nodes) := by
  unfold RowsN at h
  rw [← hn.eq, List.take_length] at h
  exact h
end
end Go.Proofs.YtadplnbadfnlfaaGreatDoor

namespace Go.Proofs.YtadplnbadfnlfaaGreatDoor
set_option linter.unusedSimpArgs false
set_option linter.unusedVariables false
open Go


section
variable {t : Task}
def inT (t : Task) (x : Int) : Prop := bit t.sys.alphabet x = true ∨ bit t.alphabet x = true
theorem taskValid_facts (h : taskValid t = true) : sysValid t.sys = true ∧ autoValid t.prop = true ∧ isAlpha t.alphabet = true := by
  simp only [taskValid, Bool.and_eq_true] at h; exact ⟨h.1.1, h.1.2, h.2⟩
theorem alpha_facts {a : Int} (h : isAlpha a = true) : 0 ≤ a ∧ a ≤ 63 := by simpa [isAlpha] using h
theorem sys_alpha {s : Sys} (h : sysValid s = true) : 0 ≤ s.alphabet ∧ s.alphabet ≤ 63 := by
  simp only [sysValid, Bool.and_eq_true] at h; exact alpha_facts h.1.1.1
theorem hidden_iff (hs : sysValid t.sys = true) (l : Int) : l ∈ hiddenOf t ↔ bit t.sys.alphabet l = true ∧ bit t.alphabet l = false := by
  unfold hiddenOf
  rw [List.mem_filter, letters_iff l (sys_alpha hs).2]
  simp
theorem stepM_16 {s : Sys} (hs : sysValid s = true) {set : Nat} {l : Int} {r : Nat} (h : (stepM s set l).testBit r = true) : r < 16 := by
  obtain ⟨e, he, -, -, rfl⟩ := (stepM_bit _ _ _ _).1 h
  exact (edges_in hs he).2.1
theorem bits16 (q : Nat) : (65535 : Nat).testBit q = true ↔ q < 16 := by
  rw [show (65535 : Nat) = 2 ^ 16 - 1 from rfl, Nat.testBit_two_pow_sub_one, decide_eq_true_eq]
theorem close_within (hs : sysValid t.sys = true) (hp : autoValid t.prop = true) {f : Sets} (hf : Within t f) : Within t (closeM t f) := fun p q h => by
  obtain ⟨h1, h2⟩ := (closeM_bit t f p q).1 h
  refine ⟨?_, h1⟩
  have := h2 (fun p => if p < t.prop.next.length then 65535 else 0) (fun p q h => by
    have := hf p q h
    simp only [this.1, if_true]; exact (bits16 q).2 this.2) (fun l _ p hp' _ q hq => by
    have := stepM_16 hs hq
    simp only [step_lt hp hp' l, if_true]; exact (bits16 q).2 this)
  by_cases hlt : p < t.prop.next.length
  · exact hlt
  · simp only [hlt, if_false, Nat.zero_testBit] at this; cases this
theorem movedOne_bit (hs : sysValid t.sys = true) (f : Sets) (l : Int) (p q : Nat) : (movedOne t f l p).testBit q = true ↔ ∃ q0, (f p).testBit q0 = true ∧ q ∈ sysCh t.sys q0 l := by
  unfold movedOne
  by_cases hb : bit t.sys.alphabet l = true
  · rw [if_pos hb, stepM_bit]
    simp only [ch_bit hs hb]
    exact ⟨fun ⟨e, h1, h2, h3, h4⟩ => ⟨_, h3, e, h1, h2, rfl, h4⟩, fun ⟨q0, h1, e, h2, h3, h4, h5⟩ => ⟨e, h2, h3, by rw [h4]; exact h1, h5⟩⟩
  · rw [if_neg hb]
    have : ∀ q0, sysCh t.sys q0 l = [q0] := fun q0 => by unfold sysCh; rw [if_neg hb]
    simp [this]
theorem move_within (hs : sysValid t.sys = true) (hp : autoValid t.prop = true) {f : Sets} (hf : Within t f) (l : Int) : Within t (moveM t f l) := fun p q h => by
  obtain ⟨p0, h1, rfl, h2⟩ := (moveTo_bit t f l _ p q).1 h
  refine ⟨step_lt hp h1 l, ?_⟩
  unfold movedOne at h2
  split at h2
  · exact stepM_16 hs h2
  · exact (hf _ _ h2).2
theorem start_within (hp : autoValid t.prop = true) : Within t startM := fun p q h => by
  unfold startM at h
  have := (autoValid_facts hp).2.2.1
  split at h
  · next h0 =>
    rw [show (1 : Nat) = 2 ^ 0 from rfl, Nat.testBit_two_pow, decide_eq_true_eq] at h
    exact ⟨by omega, by omega⟩
  · simp at h
open Classical in
theorem close_pairs (hs : sysValid t.sys = true) (hp : autoValid t.prop = true) {f : Sets} (hf : Within t f) (p q : Nat) :
    (closeM t f p).testBit q = true ↔ ∃ p0 q0 h, (f p0).testBit q0 = true ∧ (∀ x ∈ h, x ∈ hiddenOf t) ∧ Leads (sysCh t.sys) q0 h q ∧ run t.prop p0 h = p := by
  have hI := closeM_is hs hf
  have hW := close_within hs hp hf
  constructor
  · intro hc
    have h16 := (hW p q hc).2
    have := hI.least (fun p => (List.range 16).foldl (fun out q => if (∃ p0 q0 h, (f p0).testBit q0 = true ∧ (∀ x ∈ h, x ∈ hiddenOf t) ∧ Leads (sysCh t.sys) q0 h q ∧ run t.prop p0 h = p) then out ||| 2 ^ q else out) 0)
      (fun p q h => by rw [foldl_bits]; exact .inr ⟨(hf p q h).2, p, q, [], h, by simp, rfl, rfl⟩)
      (fun l hl p _ _ r hr => by
        have hb := ((hidden_iff hs l).1 hl).1
        rw [foldl_bits]
        refine .inr ⟨stepM_16 hs hr, ?_⟩
        obtain ⟨e, he, h1, h2, h3⟩ := (stepM_bit _ _ _ _).1 hr
        rw [foldl_bits] at h2
        rcases h2 with h2 | ⟨_, p0, q0, h, g1, g2, g3, g4⟩
        · simp at h2
        · refine ⟨p0, q0, h ++ [l], g1, fun x hx => ?_, (leads_push _ _ _ _ _).2 ⟨_, g3, (ch_bit hs hb _ _).2 ⟨e, he, h1, rfl, h3⟩⟩, ?_⟩
          · rcases List.mem_append.1 hx with hx | hx
            · exact g2 x hx
            · rw [List.mem_singleton] at hx; subst hx; exact hl
          · unfold run; rw [List.foldl_append]; unfold run at g4; rw [g4]; rfl)
      p q hc
    rw [foldl_bits] at this
    rcases this with h | h
    · simp at h
    · exact h.2
  · rintro ⟨p0, q0, h, h1, h2, h3, rfl⟩
    have hgo : ∀ (h : List Int), (∀ x ∈ h, x ∈ hiddenOf t) → ∀ p0 q0, (closeM t f p0).testBit q0 = true → ∀ q, Leads (sysCh t.sys) q0 h q → (closeM t f (run t.prop p0 h)).testBit q = true := by
      intro h
      induction h with
      | nil => intro _ p0 q0 hc q hq; cases hq; exact hc
      | cons l h ih =>
        intro hh p0 q0 hc q hq
        obtain ⟨b, hb, hq⟩ := hq
        have hl := hh l (by simp)
        obtain ⟨e, he, e1, e2, e3⟩ := (ch_bit hs ((hidden_iff hs l).1 hl).1 q0 b).1 hb
        exact ih (fun x hx => hh x (by simp [hx])) _ b (hI.closed l hl p0 (hW _ _ hc).1 0 b ((stepM_bit _ _ _ _).2 ⟨e, he, e1, by rw [e2]; exact hc, e3⟩)) q hq
    exact hgo h h2 p0 q0 (hI.above p0 q0 h1) q h3

noncomputable def setsAfter (t : Task) (u : List Int) : Sets := u.foldl (fun f l => closeM t (moveM t f l)) (closeM t startM)
theorem setsAfter_within (hs : sysValid t.sys = true) (hp : autoValid t.prop = true) (u : List Int) : Within t (setsAfter t u) := by
  unfold setsAfter
  have : ∀ f, Within t f → Within t (u.foldl (fun f l => closeM t (moveM t f l)) f) := by
    induction u with
    | nil => intro f hf; exact hf
    | cons l u ih => intro f hf; exact ih _ (close_within hs hp (move_within hs hp hf l))
  exact this _ (close_within hs hp (start_within hp))
def PairV (t : Task) (u : List Int) (p q : Nat) : Prop := ∃ v, (∀ x ∈ v, inT t x) ∧ v.filter (bit t.alphabet) = u ∧ Leads (sysCh t.sys) 0 v q ∧ run t.prop 0 v = p
theorem run_append (x : Auto) (q : Nat) (u v : List Int) : run x q (u ++ v) = run x (run x q u) v := List.foldl_append ..
theorem setsAfter_push (t : Task) (u : List Int) (l : Int) : setsAfter t (u ++ [l]) = closeM t (moveM t (setsAfter t u) l) := by unfold setsAfter; rw [List.foldl_append]; rfl
theorem hidden_filter {h : List Int} (hs : sysValid t.sys = true) : (∀ x ∈ h, x ∈ hiddenOf t) ↔ (∀ x ∈ h, inT t x) ∧ h.filter (bit t.alphabet) = [] := by
  simp only [hidden_iff hs, List.filter_eq_nil_iff]
  constructor
  · intro h1; exact ⟨fun x hx => .inl (h1 x hx).1, fun x hx => by rw [(h1 x hx).2]; simp⟩
  · rintro ⟨h1, h2⟩ x hx
    have h3 : bit t.alphabet x = false := by simpa using h2 x hx
    rcases h1 x hx with h | h
    · exact ⟨h, h3⟩
    · rw [h3] at h; cases h
theorem pairs_iff (hs : sysValid t.sys = true) (hp : autoValid t.prop = true) (n : Nat) : ∀ u : List Int, u.length = n → (∀ x ∈ u, bit t.alphabet x = true) → ∀ p q, ((setsAfter t u) p).testBit q = true ↔ PairV t u p q := by
  induction n with
  | zero =>
    intro u hu _ p q
    obtain rfl := List.eq_nil_of_length_eq_zero hu
    show (closeM t startM p).testBit q = true ↔ _
    rw [close_pairs hs hp (start_within hp)]
    unfold PairV
    constructor
    · rintro ⟨p0, q0, h, h1, h2, h3, rfl⟩
      have := start_within hp p0 q0 h1
      unfold startM at h1
      split at h1
      · next h0 =>
        subst h0
        rw [show (1 : Nat) = 2 ^ 0 from rfl, Nat.testBit_two_pow, decide_eq_true_eq] at h1
        subst h1
        exact ⟨h, ((hidden_filter hs).1 h2).1, ((hidden_filter hs).1 h2).2, h3, rfl⟩
      · simp at h1
    · rintro ⟨v, h1, h2, h3, rfl⟩
      exact ⟨0, 0, v, by decide, (hidden_filter hs).2 ⟨h1, h2⟩, h3, rfl⟩
  | succ n ih =>
    intro u hu hb p q
    obtain ⟨u', l, rfl⟩ : ∃ u' l, u = u' ++ [l] := by
      rcases List.eq_nil_or_concat u with rfl | ⟨u', l, rfl⟩
      · simp at hu
      · exact ⟨u', l, by simp⟩
    have hu' : u'.length = n := by simpa using hu
    have hbl : bit t.alphabet l = true := hb l (by simp)
    have ih' := ih u' hu' (fun x hx => hb x (by simp [hx]))
    have hW := setsAfter_within hs hp (t := t) u'
    rw [setsAfter_push, close_pairs hs hp (move_within hs hp hW l)]
    unfold PairV
    constructor
    · rintro ⟨p0, q0, h, h1, h2, h3, rfl⟩
      obtain ⟨p1, g1, rfl, g2⟩ := (moveTo_bit t _ l _ p0 q0).1 h1
      obtain ⟨q1, g3, g4⟩ := (movedOne_bit hs _ l p1 q0).1 g2
      obtain ⟨v, v1, v2, v3, rfl⟩ := (ih' p1 q1).1 g3
      obtain ⟨h4, h5⟩ := (hidden_filter hs).1 h2
      refine ⟨v ++ l :: h, fun x hx => ?_, ?_, ?_, ?_⟩
      · rcases List.mem_append.1 hx with hx | hx
        · exact v1 x hx
        · rcases List.mem_cons.1 hx with rfl | hx
          · exact .inr hbl
          · exact h4 x hx
      · rw [List.filter_append, v2, List.filter_cons_of_pos hbl, h5]
      · exact (leads_append _ _ _ _ _).2 ⟨q1, v3, q0, g4, h3⟩
      · rw [run_append]; rfl
    · rintro ⟨v, v1, v2, v3, rfl⟩
      obtain ⟨l₁, l₂, rfl, e1, e2⟩ := List.filter_eq_append_iff.1 v2
      obtain ⟨m₁, m₂, rfl, e3, -, e5⟩ := List.filter_eq_cons_iff.1 e2
      obtain ⟨q2, k1, k2⟩ := (leads_append _ _ _ _ _).1 v3
      obtain ⟨q1, k3, k4⟩ := (leads_append _ _ _ _ _).1 k2
      obtain ⟨q0, k5, k6⟩ := k4
      have hm1 : m₁.filter (bit t.alphabet) = [] := by rw [List.filter_eq_nil_iff]; exact e3
      have hpair : PairV t u' (run t.prop 0 (l₁ ++ m₁)) q1 := ⟨l₁ ++ m₁, fun x hx => v1 x (by
          rcases List.mem_append.1 hx with hx | hx
          · exact List.mem_append.2 (.inl hx)
          · exact List.mem_append.2 (.inr (List.mem_append.2 (.inl hx)))), by rw [List.filter_append, e1, hm1, List.append_nil], (leads_append _ _ _ _ _).2 ⟨q2, k1, k3⟩, rfl⟩
      refine ⟨step t.prop (run t.prop 0 (l₁ ++ m₁)) l, q0, m₂, ?_, (hidden_filter hs).2 ⟨fun x hx => v1 x (List.mem_append.2 (.inr (List.mem_append.2 (.inr (List.mem_cons.2 (.inr hx)))))), e5⟩, k6, ?_⟩
      · refine (moveTo_bit t _ l _ _ _).2 ⟨_, run_lt hp _ (by have := (autoValid_facts hp).2.2.1; omega), rfl, (movedOne_bit hs _ l _ _).2 ⟨q1, (ih' _ _).2 hpair, k5⟩⟩
      · show _ = run t.prop 0 (l₁ ++ (m₁ ++ l :: m₂)); rw [← List.append_assoc, run_append t.prop 0 (l₁ ++ m₁) (l :: m₂)]; rfl
theorem bad_iff_pair (f : Sets) : badM t f = true ↔ ∃ p q, p < t.prop.next.length ∧ (f p).testBit q = true ∧ accepts t.prop p = false := by
  unfold badM
  rw [List.any_eq_true]
  simp only [List.mem_range, Bool.and_eq_true, decide_eq_true_eq, Bool.not_eq_true', nat_ne_zero_bit]
  exact ⟨fun ⟨p, h1, ⟨q, h2⟩, h3⟩ => ⟨p, q, h1, h2, h3⟩, fun ⟨p, q, h1, h2, h3⟩ => ⟨p, h1, ⟨q, h2⟩, h3⟩⟩
theorem safeFrom_iff (u : List Int) : ∀ f, safeFrom t f u = true ↔ ∀ k, k ≤ u.length → badM t ((u.take k).foldl (fun f l => closeM t (moveM t f l)) f) = false := by
  induction u with
  | nil =>
    intro f
    show (!badM t f) = true ↔ _
    rw [Bool.not_eq_true']
    exact ⟨fun h k hk => by simpa using h, fun h => by simpa using h 0 (by simp)⟩
  | cons l u ih =>
    intro f
    show (if badM t f then false else safeFrom t (closeM t (moveM t f l)) u) = true ↔ _
    by_cases hb : badM t f = true
    · rw [if_pos hb]
      exact ⟨fun h => by (cases h), fun h => by have := h 0 (by simp); simp at this; rw [hb] at this; cases this⟩
    · rw [if_neg hb, ih]
      constructor
      · intro h k hk
        cases k with
        | zero => simpa using hb
        | succ k => exact h k (by simpa using hk)
      · intro h k hk; exact h (k + 1) (by simpa using hk)
def SafeV (t : Task) (u : List Int) : Prop := ∀ v, (∀ x ∈ v, inT t x) → v.filter (bit t.alphabet) <+: u → TraceV t.sys v → accepts t.prop (run t.prop 0 v) = true
theorem safeFrom_word (hs : sysValid t.sys = true) (hp : autoValid t.prop = true) {u : List Int} (hu : ∀ x ∈ u, bit t.alphabet x = true) : safeFrom t (closeM t startM) u = true ↔ SafeV t u := by
  rw [safeFrom_iff]
  have h0 := (autoValid_facts hp).2.2.1
  constructor
  · intro h v h1 h2 h3
    obtain ⟨q, h3⟩ := h3
    cases ha : accepts t.prop (run t.prop 0 v) with
    | true => rfl
    | false =>
      have e := List.prefix_iff_eq_take.1 h2
      have hk := h2.length_le
      have hb := h _ hk
      rw [← e] at hb
      have : badM t (setsAfter t (v.filter (bit t.alphabet))) = true := (bad_iff_pair _).2 ⟨run t.prop 0 v, q, run_lt hp v (by omega), (pairs_iff hs hp _ _ rfl (fun x hx => (List.mem_filter.1 hx).2) _ _).2 ⟨v, h1, rfl, h3, rfl⟩, ha⟩
      unfold setsAfter at this
      rw [this] at hb; cases hb
  · intro h k hk
    cases hb : badM t ((u.take k).foldl (fun f l => closeM t (moveM t f l)) (closeM t startM)) with
    | false => rfl
    | true =>
      obtain ⟨p, q, h1, h2, h3⟩ := (bad_iff_pair _).1 hb
      obtain ⟨v, v1, v2, v3, rfl⟩ := (pairs_iff hs hp _ (u.take k) rfl (fun x hx => hu x (List.mem_of_mem_take hx)) p q).1 h2
      rw [h v v1 (by rw [v2]; exact List.take_prefix _ _) ⟨q, v3⟩] at h3; cases h3
end



end Go.Proofs.YtadplnbadfnlfaaGreatDoor

namespace Go.Proofs.YtadplnbadfnlfaaGreatDoor
set_option linter.unusedSimpArgs false
set_option linter.unusedVariables false
open Go

def SubB (f g : Nat) : Prop := ∀ q, f.testBit q = true → g.testBit q = true
def ClosedH (s : Sys) (H : Int) (g : Nat) : Prop := ∀ e ∈ s.edges, bit H e.letter = true → g.testBit e.src.toNat = true → g.testBit e.dst.toNat = true
structure IsReach (s : Sys) (H : Int) (f r : Nat) : Prop where
  above : SubB f r
  closed : ClosedH s H r
  least : ∀ g, SubB f g → ClosedH s H g → SubB r g
open Classical in
noncomputable def reachH (s : Sys) (H : Int) (f : Nat) : Nat := (List.range 16).foldl (fun out q => if (∀ g, SubB f g → ClosedH s H g → g.testBit q = true) then out ||| 2 ^ q else out) 0
theorem lt_of_bits {n : Nat} (h : ∀ q, n.testBit q = true → q < 16) : n < 65536 := by
  rw [show (65536 : Nat) = 2 ^ 16 from rfl]
  apply Nat.lt_pow_two_of_testBit
  intro i hi
  cases hb : n.testBit i with
  | false => rfl
  | true => have := h i hb; omega
end Go.Proofs.YtadplnbadfnlfaaGreatDoor
