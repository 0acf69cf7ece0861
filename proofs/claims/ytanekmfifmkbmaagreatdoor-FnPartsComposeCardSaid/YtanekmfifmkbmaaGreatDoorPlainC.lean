/- Part of this seat's proofs, cut to what its law needs. -/

import Derived.Test.YtanekmfifmkbmaaGreatDoorPlain9

namespace Go.Proofs.YtanekmfifmkbmaaGreatDoor
set_option linter.unusedSimpArgs false
set_option linter.unusedVariables false
open Go


theorem brokenS_iff {l : List Sys} {p : Auto} (h : areParts l = true) (hp : autoValid p = true) (v : List Int) :
    BrokenW l trivAuto p v ↔ (∀ x ∈ v, ∃ s ∈ l, bit s.alphabet x = true) ∧ (∀ s ∈ l, TraceV s v) ∧ accepts p (run p 0 v) = false := by
  rw [brokenW_iff (areParts_all h) trivAuto_valid hp]
  simp only [inAll_triv, triv_accepts, true_and]





end Go.Proofs.YtanekmfifmkbmaaGreatDoor

namespace Go.Proofs.YtanekmfifmkbmaaGreatDoor
set_option linter.unusedSimpArgs false
set_option linter.unusedVariables false
open Go
set_option linter.unusedSectionVars false

section
variable {α : Type} [DecidableEq α]

theorem idx_at {l : List α} {x : α} (h : x ∈ l) : l[l.idxOf x]? = some x := by
  induction l with
  | nil => cases h
  | cons y l ih =>
    by_cases e : y = x
    · subst e; simp
    · rcases List.mem_cons.1 h with h | h
      · exact absurd h.symm e
      · rw [List.idxOf_cons, show (y == x) = false by simpa using e]; exact ih h
def addN (l : List α) (x : α) : List α := if x ∈ l then l else l ++ [x]
theorem addN_prefix (l : List α) (x : α) : l <+: addN l x := by
  unfold addN; split
  · exact List.prefix_refl _
  · exact List.prefix_append _ _
theorem addN_mem (l : List α) (x : α) : x ∈ addN l x := by
  unfold addN; split
  · assumption
  · simp
theorem addN_nodup {l : List α} (h : l.Nodup) (x : α) : (addN l x).Nodup := by
  unfold addN; split
  · exact h
  · next hx => exact List.nodup_append.2 ⟨h, by simp, fun a ha b hb => by rw [List.mem_singleton] at hb; subst hb; exact fun e => hx (e ▸ ha)⟩
theorem mem_addN {l : List α} {x y : α} (h : y ∈ addN l x) : y ∈ l ∨ y = x := by
  unfold addN at h; split at h
  · exact .inl h
  · simpa using h
theorem foldl_addN_prefix (xs : List α) (l : List α) : l <+: xs.foldl addN l := by
  induction xs generalizing l with
  | nil => exact List.prefix_refl _
  | cons x xs ih => exact (addN_prefix l x).trans (ih _)
theorem foldl_addN_nodup (xs : List α) {l : List α} (h : l.Nodup) : (xs.foldl addN l).Nodup := by
  induction xs generalizing l with
  | nil => exact h
  | cons x xs ih => exact ih (addN_nodup h x)
theorem foldl_addN_mem (xs : List α) (l : List α) {x : α} (h : x ∈ xs) : x ∈ xs.foldl addN l := by
  induction xs generalizing l with
  | nil => cases h
  | cons y xs ih =>
    rcases List.mem_cons.1 h with rfl | h
    · exact (foldl_addN_prefix xs (addN l x)).subset (addN_mem l x)
    · exact ih _ h
theorem mem_foldl_addN {xs : List α} {l : List α} {x : α} (h : x ∈ xs.foldl addN l) : x ∈ l ∨ x ∈ xs := by
  induction xs generalizing l with
  | nil => exact .inl h
  | cons y xs ih =>
    rcases ih h with h | h
    · rcases mem_addN h with h | rfl
      · exact .inl h
      · exact .inr List.mem_cons_self
    · exact .inr (List.mem_cons_of_mem _ h)
theorem idxOf_prefix {l l' : List α} {x : α} (h : l <+: l') (hx : x ∈ l) : l'.idxOf x = l.idxOf x := by
  obtain ⟨t, rfl⟩ := h
  rw [List.idxOf_append, if_pos hx]
theorem prefix_at {l l' : List α} (h : l <+: l') {i : Nat} {x : α} (hx : l[i]? = some x) : l'[i]? = some x := by
  obtain ⟨t, rfl⟩ := h
  have hi : i < l.length := by
    by_cases h' : i < l.length
    · exact h'
    · rw [List.getElem?_eq_none (by omega)] at hx; cases hx
  rw [List.getElem?_append_left hi]; exact hx

theorem nodup_le {l m : List α} (h : l.Nodup) (hs : ∀ x ∈ l, x ∈ m) : l.length ≤ m.length := by
  induction l generalizing m with
  | nil => simp
  | cons x l ih =>
    have hx : x ∈ m := hs x (by simp)
    have h1 := List.nodup_cons.1 h
    have h2 := ih h1.2 (m := m.erase x) (fun y hy => (List.mem_erase_of_ne (fun (e : y = x) => h1.1 (by rw [← e]; exact hy))).2 (hs y (by simp [hy])))
    rw [List.length_erase_of_mem hx] at h2
    have := List.length_pos_of_mem hx
    simp only [List.length_cons]; omega
variable (nx : α → Int → α) (L : List Int) (s : α)
def growN (nodes : List α) (i : Nat) : List α := match nodes[i]? with
  | none => nodes
  | some n => (L.map (nx n)).foldl addN nodes
def nodesTo : Nat → List α
  | 0 => [s]
  | i + 1 => growN nx L (nodesTo i) i
def ReachN (n : α) : Prop := ∃ v : List Int, (∀ x ∈ v, x ∈ L) ∧ v.foldl nx s = n
theorem ReachN.next {n : α} (h : ReachN nx L s n) {l : Int} (hl : l ∈ L) : ReachN nx L s (nx n l) := by
  obtain ⟨v, hv, rfl⟩ := h
  exact ⟨v ++ [l], fun x hx => by rcases List.mem_append.1 hx with hx | hx; exact hv x hx; rw [List.mem_singleton] at hx; subst hx; exact hl, by rw [List.foldl_append]; rfl⟩
theorem growN_prefix (nodes : List α) (i : Nat) : nodes <+: growN nx L nodes i := by
  unfold growN; split
  · exact List.prefix_refl _
  · exact foldl_addN_prefix _ _
theorem nodesTo_prefix (i j : Nat) (h : i ≤ j) : nodesTo nx L s i <+: nodesTo nx L s j := by
  induction j with
  | zero =>
    obtain rfl : i = 0 := by omega
    exact List.prefix_refl _
  | succ j ih =>
    rcases Nat.lt_or_ge j i with h1 | h1
    · obtain rfl : i = j + 1 := by omega
      exact List.prefix_refl _
    · exact (ih h1).trans (growN_prefix nx L _ _)
theorem nodesTo_nodup (i : Nat) : (nodesTo nx L s i).Nodup := by
  induction i with
  | zero => simp [nodesTo]
  | succ i ih =>
    show (growN nx L (nodesTo nx L s i) i).Nodup
    unfold growN; split
    · exact ih
    · exact foldl_addN_nodup _ ih
theorem nodesTo_reach (i : Nat) : ∀ n ∈ nodesTo nx L s i, ReachN nx L s n := by
  induction i with
  | zero => intro n hn; simp [nodesTo] at hn; subst hn; exact ⟨[], by simp, rfl⟩
  | succ i ih =>
    intro n hn
    have hn' : n ∈ growN nx L (nodesTo nx L s i) i := hn
    unfold growN at hn'; split at hn'
    · exact ih n hn'
    · next m hm =>
      rcases mem_foldl_addN hn' with h | h
      · exact ih n h
      · obtain ⟨l, hl, rfl⟩ := List.mem_map.1 h
        exact (ih m (List.mem_of_getElem? hm)).next nx L s hl
theorem nodesTo_head (i : Nat) : (nodesTo nx L s i)[0]? = some s := prefix_at (nodesTo_prefix nx L s 0 i (by omega)) rfl
structure Numbers (nodes : List α) : Prop where
  eq : nodes = nodesTo nx L s nodes.length
variable {nx L s}
theorem Numbers.of {i : Nat} (h : (nodesTo nx L s i).length = i) : Numbers nx L s (nodesTo nx L s i) := ⟨by rw [h]⟩
theorem Numbers.head {nodes : List α} (h : Numbers nx L s nodes) : nodes[0]? = some s := by rw [h.eq]; exact nodesTo_head _ _ _ _
theorem done_mem {i j : Nat} (hj : j < i) {n : α} (hn : (nodesTo nx L s i)[j]? = some n) (hjl : j < (nodesTo nx L s j).length) {l : Int} (hl : l ∈ L) : nx n l ∈ nodesTo nx L s i := by
  have h1 : (nodesTo nx L s j)[j]? = some n := by
    have := prefix_at (nodesTo_prefix nx L s j i (by omega)) (List.getElem?_eq_getElem hjl)
    rw [hn] at this
    rw [List.getElem?_eq_getElem hjl]; exact this.symm
  have h2 : nx n l ∈ nodesTo nx L s (j + 1) := by
    show nx n l ∈ growN nx L (nodesTo nx L s j) j
    unfold growN; rw [h1]
    exact foldl_addN_mem _ _ (List.mem_map.2 ⟨l, hl, rfl⟩)
  exact (nodesTo_prefix nx L s (j + 1) i (by omega)).subset h2
theorem nodesTo_lt {i : Nat} (h : i ≤ (nodesTo nx L s i).length) : ∀ j, j < i → j < (nodesTo nx L s j).length := by
  intro j hj
  induction i with
  | zero => omega
  | succ i ih =>
    by_cases hi : i < (nodesTo nx L s i).length
    · rcases Nat.lt_or_ge j i with h1 | h1
      · exact ih (by omega) h1
      · obtain rfl : j = i := by omega
        exact hi
    · have : nodesTo nx L s (i + 1) = nodesTo nx L s i := by
        show growN nx L (nodesTo nx L s i) i = _
        unfold growN; rw [List.getElem?_eq_none (by omega)]
      rw [this] at h; omega
theorem Numbers.closed {nodes : List α} (h : Numbers nx L s nodes) {n : α} (hn : n ∈ nodes) {l : Int} (hl : l ∈ L) : nx n l ∈ nodes := by
  obtain ⟨j, hj, e⟩ := List.mem_iff_getElem.1 hn
  have he := h.eq
  have h1 : nodes.length ≤ (nodesTo nx L s nodes.length).length := by rw [← he]; exact Nat.le_refl _
  have := done_mem (nx := nx) (L := L) (s := s) (i := nodes.length) hj (n := n) (by rw [← he, List.getElem?_eq_getElem hj, e]) (nodesTo_lt h1 j hj) hl
  rw [← he] at this; exact this
theorem Numbers.all {nodes : List α} (h : Numbers nx L s nodes) {n : α} (hn : ReachN nx L s n) : n ∈ nodes := by
  obtain ⟨v, hv, rfl⟩ := hn
  have : ∀ v : List Int, (∀ x ∈ v, x ∈ L) → ∀ m ∈ nodes, v.foldl nx m ∈ nodes := by
    intro v
    induction v with
    | nil => intro _ m hm; exact hm
    | cons l v ih => intro hv m hm; exact ih (fun x hx => hv x (by simp [hx])) _ (h.closed hm (hv l (by simp)))
  exact this v hv s (List.mem_of_getElem? h.head)
def TooMany (nx : α → Int → α) (L : List Int) (s : α) (M : Nat) : Prop := ∃ l : List α, l.Nodup ∧ M < l.length ∧ ∀ n ∈ l, ReachN nx L s n
theorem Numbers.few {nodes : List α} (h : Numbers nx L s nodes) {M : Nat} (hM : nodes.length ≤ M) : ¬ TooMany nx L s M := by
  rintro ⟨l, h1, h2, h3⟩
  have := nodup_le h1 fun n hn => h.all (h3 n hn)
  omega
def rowN (nx : α → Int → α) (L : List Int) (nodes : List α) (n : α) : List Int := L.map fun l => ((nodes.idxOf (nx n l) : Nat) : Int)
theorem rowN_prefix {nodes nodes' : List α} (h : nodes <+: nodes') {n : α} (hn : ∀ l ∈ L, nx n l ∈ nodes) : rowN nx L nodes' n = rowN nx L nodes n := by
  unfold rowN
  apply List.map_congr_left
  intro l hl
  rw [idxOf_prefix h (hn l hl)]
def autoN (nx : α → Int → α) (a : Int) (acc : α → Bool) (nodes : List α) : Auto := ⟨a, nodes.map (rowN nx (letters a) nodes), nodes.map acc⟩
end


section
variable {α : Type} [DecidableEq α] {nx : α → Int → α} {L : List Int} {s : α}
structure NumSt (nx : α → Int → α) (L : List Int) (s : α) (i k : Nat) (n : α) (nodes : List α) (row : List Int) : Prop where
  node : (nodesTo nx L s i)[i]? = some n
  eq : nodes = ((L.take k).map (nx n)).foldl addN (nodesTo nx L s i)
  row : row = (L.take k).map fun l => ((nodes.idxOf (nx n l) : Nat) : Int)
theorem NumSt.start {i : Nat} {n : α} (h : (nodesTo nx L s i)[i]? = some n) : NumSt nx L s i 0 n (nodesTo nx L s i) [] := ⟨h, rfl, rfl⟩
theorem NumSt.prefix {i k : Nat} {n : α} {nodes : List α} {row : List Int} (h : NumSt nx L s i k n nodes row) : nodesTo nx L s i <+: nodes := by rw [h.eq]; exact foldl_addN_prefix _ _
theorem NumSt.mem {i k : Nat} {n : α} {nodes : List α} {row : List Int} (h : NumSt nx L s i k n nodes row) : ∀ l ∈ L.take k, nx n l ∈ nodes := fun l hl => by rw [h.eq]; exact foldl_addN_mem _ _ (List.mem_map.2 ⟨l, hl, rfl⟩)
theorem NumSt.step {i k : Nat} {n : α} {nodes : List α} {row : List Int} (h : NumSt nx L s i k n nodes row) {l : Int} (hl : L[k]? = some l) : NumSt nx L s i (k + 1) n (addN nodes (nx n l)) (row ++ [(((addN nodes (nx n l)).idxOf (nx n l) : Nat) : Int)]) where
  node := h.node
  eq := by rw [List.take_add_one, hl, List.map_append, List.foldl_append, ← h.eq]; rfl
  row := by
    rw [List.take_add_one, hl, List.map_append, h.row]
    congr 1
    apply List.map_congr_left
    intro l' hl'
    rw [idxOf_prefix (addN_prefix nodes (nx n l)) (h.mem l' hl')]
theorem NumSt.nodup {i k : Nat} {n : α} {nodes : List α} {row : List Int} (h : NumSt nx L s i k n nodes row) : nodes.Nodup := by rw [h.eq]; exact foldl_addN_nodup _ (nodesTo_nodup _ _ _ _)
theorem NumSt.reach {i k : Nat} {n : α} {nodes : List α} {row : List Int} (h : NumSt nx L s i k n nodes row) : ∀ m ∈ nodes, ReachN nx L s m := fun m hm => by
  rw [h.eq] at hm
  rcases mem_foldl_addN hm with hm | hm
  · exact nodesTo_reach nx L s i m hm
  · obtain ⟨l, hl, rfl⟩ := List.mem_map.1 hm
    exact (nodesTo_reach nx L s i n (List.mem_of_getElem? h.node)).next nx L s (List.mem_of_mem_take hl)
theorem NumSt.at {i k : Nat} {n : α} {nodes : List α} {row : List Int} (h : NumSt nx L s i k n nodes row) : nodes[i]? = some n := prefix_at h.prefix h.node
theorem NumSt.done {i : Nat} {n : α} {nodes : List α} {row : List Int} (h : NumSt nx L s i L.length n nodes row) : nodes = nodesTo nx L s (i + 1) ∧ row = rowN nx L nodes n := by
  have e := h.eq
  have r := h.row
  rw [List.take_length] at e r
  refine ⟨?_, r⟩
  rw [e]
  show _ = growN nx L (nodesTo nx L s i) i
  unfold growN; rw [h.node]
def RowsN (nx : α → Int → α) (L : List Int) (s : α) (i : Nat) (rows : List (List Int)) : Prop := rows = ((nodesTo nx L s i).take i).map (rowN nx L (nodesTo nx L s i))
theorem RowsN.zero : RowsN nx L s 0 [] := rfl
theorem RowsN.next {i : Nat} {n : α} {nodes : List α} {row : List Int} {rows : List (List Int)} (h : RowsN nx L s i rows) (hs : NumSt nx L s i L.length n nodes row) (hi : i ≤ (nodesTo nx L s i).length) : RowsN nx L s (i + 1) (rows ++ [row]) := by
  obtain ⟨e1, e2⟩ := hs.done
  have hp := nodesTo_prefix nx L s i (i + 1) (by omega)
  have hat : (nodesTo nx L s (i + 1))[i]? = some n := prefix_at hp hs.node
  unfold RowsN at h ⊢
  rw [List.take_add_one, hat, List.map_append, h, e2, e1]
  congr 1
  obtain ⟨t, ht⟩ := hp
  rw [← ht, List.take_append_of_le_length hi]
  apply List.map_congr_left
  intro m hm
  obtain ⟨j, hj, e⟩ := List.mem_iff_getElem.1 hm
  rw [List.length_take] at hj
  rw [List.getElem_take] at e
  rw [ht]
  refine (rowN_prefix (nodesTo_prefix nx L s i (i + 1) (by omega)) fun l hl => ?_).symm
  exact done_mem (i := i) (j := j) (by omega) (by rw [List.getElem?_eq_getElem (by omega), e]) (nodesTo_lt hi j (by omega)) hl
theorem RowsN.full {nodes : List α} {rows : List (List Int)} (h : RowsN nx L s nodes.length rows) (hn : Numbers nx L s nodes) : rows = nodes.map (rowN nx L nodes) := by
  unfold RowsN at h
  rw [← hn.eq, List.take_length] at h
  exact h
end
end Go.Proofs.YtanekmfifmkbmaaGreatDoor

namespace Go.Proofs.YtanekmfifmkbmaaGreatDoor
set_option linter.unusedSimpArgs false
set_option linter.unusedVariables false
open Go


section
variable {t : Task}
theorem alpha_facts {a : Int} (h : isAlpha a = true) : 0 ≤ a ∧ a ≤ 63 := by simpa [isAlpha] using h
theorem sys_alpha {s : Sys} (h : sysValid s = true) : 0 ≤ s.alphabet ∧ s.alphabet ≤ 63 := by
  simp only [sysValid, Bool.and_eq_true] at h; exact alpha_facts h.1.1.1
end


theorem edgeLt_iff (a b : Edge) : edgeLt a b = true ↔ a.src < b.src ∨ (a.src = b.src ∧ (a.letter < b.letter ∨ (a.letter = b.letter ∧ a.dst < b.dst))) := by simp [edgeLt]
theorem edgeLt_tr {a b c : Edge} (h : edgeLt a b = true) (k : edgeLt b c = true) : edgeLt a c = true := by
  rw [edgeLt_iff] at *; omega
theorem sysValid_iff (s : Sys) : sysValid s = true ↔ isAlpha s.alphabet = true ∧ 1 ≤ s.states ∧ s.states ≤ 16 ∧ (∀ e ∈ s.edges, edgeOk s e = true) ∧ s.edges.Pairwise fun a b => edgeLt a b = true := by
  simp only [sysValid, Bool.and_eq_true, decide_eq_true_eq, List.all_eq_true, List.mem_range]
  constructor
  · rintro ⟨⟨⟨h1, h2⟩, h3⟩, h4⟩
    refine ⟨h1, h2, h3, fun e he => ?_, ?_⟩
    · obtain ⟨i, hi, rfl⟩ := List.getElem_of_mem he
      have := h4 i hi
      unfold edgeAt at this
      rw [List.getElem?_eq_getElem hi] at this
      simp only [Bool.and_eq_true] at this
      exact this.1
    · rw [List.pairwise_iff_getElem]
      have hstep : ∀ i (hi : i + 1 < s.edges.length), edgeLt s.edges[i] s.edges[i + 1] = true := fun i hi => by
        have := h4 (i + 1) hi
        unfold edgeAt at this
        simp only [List.getElem?_eq_getElem hi, List.getElem?_eq_getElem (show i < s.edges.length by omega), Bool.and_eq_true] at this
        exact this.2
      intro i j hi hj hij
      induction j with
      | zero => omega
      | succ j ih =>
        rcases Nat.lt_or_ge i j with h | h
        · exact edgeLt_tr (ih (by omega) h) (hstep j hj)
        · obtain rfl : i = j := by omega
          exact hstep i hj
  · rintro ⟨h1, h2, h3, h4, h5⟩
    refine ⟨⟨⟨h1, h2⟩, h3⟩, fun i hi => ?_⟩
    unfold edgeAt
    rw [List.getElem?_eq_getElem hi]
    simp only [Bool.and_eq_true]
    refine ⟨h4 _ (List.getElem_mem hi), ?_⟩
    cases i with
    | zero => rfl
    | succ j =>
      simp only [List.getElem?_eq_getElem (show j < s.edges.length by omega)]
      exact List.pairwise_iff_getElem.1 h5 j (j + 1) (by omega) hi (by omega)

end Go.Proofs.YtanekmfifmkbmaaGreatDoor

namespace Go.Proofs.YtanekmfifmkbmaaGreatDoor
set_option linter.unusedSimpArgs false
set_option linter.unusedVariables false
open Go

def SubB (f g : Nat) : Prop := ∀ q, f.testBit q = true → g.testBit q = true
theorem SubB.anti {f g : Nat} (a : SubB f g) (b : SubB g f) : f = g := by
  apply Nat.eq_of_testBit_eq
  intro q
  rw [Bool.eq_iff_iff]; exact ⟨a q, b q⟩
def ClosedH (s : Sys) (H : Int) (g : Nat) : Prop := ∀ e ∈ s.edges, bit H e.letter = true → g.testBit e.src.toNat = true → g.testBit e.dst.toNat = true
structure IsReach (s : Sys) (H : Int) (f r : Nat) : Prop where
  above : SubB f r
  closed : ClosedH s H r
  least : ∀ g, SubB f g → ClosedH s H g → SubB r g
open Classical in
noncomputable def reachH (s : Sys) (H : Int) (f : Nat) : Nat := (List.range 16).foldl (fun out q => if (∀ g, SubB f g → ClosedH s H g → g.testBit q = true) then out ||| 2 ^ q else out) 0
theorem reachH_is {s : Sys} (hs : sysValid s = true) (H : Int) {f : Nat} (hf : ∀ q, f.testBit q = true → q < 16) : IsReach s H f (reachH s H f) where
  above := fun q h => by unfold reachH; rw [foldl_bits]; exact .inr ⟨hf q h, fun g hg _ => hg q h⟩
  closed := fun e he hb h => by
    unfold reachH at h ⊢
    rw [foldl_bits] at h ⊢
    rcases h with h | ⟨_, h⟩
    · simp at h
    · exact .inr ⟨(edges_in hs he).2.1, fun g hg hc => hc e he hb (h g hg hc)⟩
  least := fun g hg hc q h => by
    unfold reachH at h
    rw [foldl_bits] at h
    rcases h with h | ⟨_, h⟩
    · simp at h
    · exact h g hg hc
theorem reachH_lt {s : Sys} {H : Int} {f q : Nat} (h : (reachH s H f).testBit q = true) : q < 16 := by
  unfold reachH at h
  rw [foldl_bits] at h
  rcases h with h | ⟨h, _⟩
  · simp at h
  · exact h
theorem lt_of_bits {n : Nat} (h : ∀ q, n.testBit q = true → q < 16) : n < 65536 := by
  rw [show (65536 : Nat) = 2 ^ 16 from rfl]
  apply Nat.lt_pow_two_of_testBit
  intro i hi
  cases hb : n.testBit i with
  | false => rfl
  | true => have := h i hb; omega
theorem bits_of_lt {n : Nat} (h : n < 65536) {q : Nat} (hb : n.testBit q = true) : q < 16 := by
  by_cases hq : q < 16
  · exact hq
  · have h2 : (65536 : Nat) ≤ 2 ^ q := by rw [show (65536 : Nat) = 2 ^ 16 from rfl]; exact Nat.pow_le_pow_right (by omega) (by omega)
    have : n < 2 ^ q := Nat.lt_of_lt_of_le h h2
    rw [Nat.testBit_lt_two_pow this] at hb; cases hb
noncomputable def nextH (s : Sys) (H : Int) (set : Nat) (l : Int) : Nat := reachH s H (stepM s set l)
noncomputable def startH (s : Sys) (H : Int) : Nat := reachH s H 1
theorem nextH_lt (s : Sys) (H : Int) (set : Nat) (l : Int) : nextH s H set l < 65536 := lt_of_bits fun _ h => reachH_lt h
theorem startH_lt (s : Sys) (H : Int) : startH s H < 65536 := lt_of_bits fun _ h => reachH_lt h
theorem reachN_lt {s : Sys} {H : Int} {L : List Int} {n : Nat} (h : ReachN (nextH s H) L (startH s H) n) : n < 65536 := by
  obtain ⟨v, -, rfl⟩ := h
  rcases List.eq_nil_or_concat v with rfl | ⟨v, l, rfl⟩
  · exact startH_lt _ _
  · rw [List.concat_eq_append, List.foldl_append]; exact nextH_lt _ _ _ _
noncomputable def subsetA (s : Sys) (a : Int) (H : Int) (nodes : List Nat) : Auto := autoN (nextH s H) a (fun n => decide (n ≠ 0)) nodes
end Go.Proofs.YtanekmfifmkbmaaGreatDoor
