/- Part of this seat's proofs, cut to what its law needs. -/

import Derived.Test.YtanekmfifmkbmaaGreatDoorPlainC
namespace Go.Proofs.YtanekmfifmkbmaaGreatDoor
set_option linter.unusedSimpArgs false
set_option linter.unusedVariables false
open Go Go.RowKit
set_option maxHeartbeats 1000000

def cpN (s t : Sys) (node : Nat) (l : Int) : List Nat := partsNext [s, t] node l
theorem cpN_eq (s t : Sys) (node : Nat) (l : Int) : cpN s t node l = (sysBits s (node / t.states.toNat % s.states.toNat) l).flatMap fun q => (sysBits t (node % t.states.toNat) l).map fun r => q * t.states.toNat + r := by
  have e : ((sysBits t (node % t.states.toNat) l).flatMap fun q => [0].map fun r => q * 1 + r) = sysBits t (node % t.states.toNat) l := by
    induction sysBits t (node % t.states.toNat) l with
    | nil => rfl
    | cons x xs ih => rw [List.flatMap_cons, ih]; simp
  show partsGo l [t, s] node 1 [0] = _
  unfold partsGo
  rw [e]
  unfold partsGo
  rw [Nat.one_mul]
  rfl
theorem sysBits_asc (s : Sys) (q : Nat) (l : Int) : (sysBits s q l).Pairwise (· < ·) := by
  unfold sysBits
  split
  · unfold bitsOf; exact List.Pairwise.filter _ List.pairwise_lt_range
  · simp
theorem sysCh_asc {s : Sys} (h : sysValid s = true) (q : Nat) (l : Int) : (sysCh s q l).Pairwise (· < ·) := by
  unfold sysCh
  split
  · have h1 := (edges_pairwise h).filter fun e => decide (e.src = (q : Int)) && decide (e.letter = l)
    rw [List.pairwise_map]
    refine List.Pairwise.imp_of_mem ?_ h1
    intro a b ha hb hlt
    obtain ⟨ha, ca⟩ := List.mem_filter.1 ha
    obtain ⟨hb, cb⟩ := List.mem_filter.1 hb
    simp only [Bool.and_eq_true, decide_eq_true_eq] at ca cb
    have := edges_in h ha; have := edges_in h hb
    simp only [edgeLt, Bool.or_eq_true, Bool.and_eq_true, decide_eq_true_eq] at hlt
    omega
  · simp
theorem asc_ext : ∀ {a b : List Nat}, a.Pairwise (· < ·) → b.Pairwise (· < ·) → (∀ x, x ∈ a ↔ x ∈ b) → a = b
  | [], [], _, _, _ => rfl
  | [], y :: b, _, _, h => absurd ((h y).2 (by simp)) (by simp)
  | x :: a, [], _, _, h => absurd ((h x).1 (by simp)) (by simp)
  | x :: a, y :: b, ha, hb, h => by
    obtain ⟨a1, a2⟩ := List.pairwise_cons.1 ha
    obtain ⟨b1, b2⟩ := List.pairwise_cons.1 hb
    have exy : x = y := by
      rcases List.mem_cons.1 ((h x).1 (by simp)) with e | h1
      · exact e
      · rcases List.mem_cons.1 ((h y).2 (by simp)) with e | h2
        · exact e.symm
        · have := b1 x h1; have := a1 y h2; omega
    subst exy
    congr 1
    refine asc_ext a2 b2 fun z => ⟨fun hz => ?_, fun hz => ?_⟩
    · rcases List.mem_cons.1 ((h z).1 (by simp [hz])) with e | h1
      · have := a1 z hz; omega
      · exact h1
    · rcases List.mem_cons.1 ((h z).2 (by simp [hz])) with e | h1
      · have := b1 z hz; omega
      · exact h1
theorem ch_eq_bits {s : Sys} (h : sysValid s = true) (q : Nat) (l : Int) : sysCh s q l = sysBits s q l :=
  asc_ext (sysCh_asc h q l) (sysBits_asc s q l) fun x => ch_bits h q x l
theorem net_eq {s t : Sys} (hs : sysValid s = true) (ht : sysValid t = true) (al : Int) (node : Nat) (l : Int) : netN ⟨[s, t], [], al⟩ node l = cpN s t node l := by
  rw [cpN_eq]
  simp only [netN, pairsOf, sizesOf, decode, List.map_cons, List.map_nil, List.append_nil, List.prod_cons, List.prod_nil, Nat.mul_one, Nat.div_one, List.zip_cons_cons, List.zip_nil_right, List.zip_nil_left, List.drop, combos, List.length_cons, List.length_nil, ch_eq_bits hs, ch_eq_bits ht]
  simp only [List.flatMap_cons, List.flatMap_nil, List.append_nil, Nat.zero_mul, Nat.zero_add, List.map_id', List.flatMap_map]
theorem pos_states {t : Sys} (ht : sysValid t = true) : 0 < t.states.toNat ∧ t.states.toNat ≤ 16 := by
  have := valid_alpha ht; omega
theorem bits_lt {t : Sys} (ht : sysValid t = true) {q : Nat} (hq : q < t.states.toNat) (l : Int) : ∀ r ∈ sysBits t q l, r < t.states.toNat := fun r hr => ch_lt ht hq l r ((ch_bits ht q r l).2 hr)
theorem cpN_asc {s t : Sys} (ht : sysValid t = true) (node : Nat) (l : Int) : (cpN s t node l).Pairwise (· < ·) := by
  rw [cpN_eq, List.pairwise_flatMap]
  have hn := Nat.mod_lt node (pos_states ht).1
  refine ⟨fun q _ => ?_, (sysBits_asc s _ l).imp fun {a b} hab x hx y hy => ?_⟩
  · rw [List.pairwise_map]
    exact (sysBits_asc t _ l).imp fun {a b} hab => by omega
  · obtain ⟨i, hi, rfl⟩ := List.mem_map.1 hx
    obtain ⟨j, hj, rfl⟩ := List.mem_map.1 hy
    have h1 := bits_lt ht hn l i hi
    have h2 : (a + 1) * t.states.toNat ≤ b * t.states.toNat := Nat.mul_le_mul_right _ hab
    rw [Nat.add_mul, Nat.one_mul] at h2
    show _ < _
    omega
theorem cpN_lt {s t : Sys} (hs : sysValid s = true) (ht : sysValid t = true) (node : Nat) (l : Int) : ∀ x ∈ cpN s t node l, x < s.states.toNat * t.states.toNat := by
  intro x hx
  rw [cpN_eq] at hx
  obtain ⟨q, hq, hx⟩ := List.mem_flatMap.1 hx
  obtain ⟨r, hr, rfl⟩ := List.mem_map.1 hx
  have h1 := bits_lt hs (Nat.mod_lt _ (pos_states hs).1) l q hq
  have h2 := bits_lt ht (Nat.mod_lt _ (pos_states ht).1) l r hr
  have h3 : (q + 1) * t.states.toNat ≤ s.states.toNat * t.states.toNat := Nat.mul_le_mul_right _ h1
  rw [Nat.add_mul, Nat.one_mul] at h3
  omega
theorem cpN_len (s t : Sys) (node : Nat) (l : Int) : (cpN s t node l).length ≤ 256 := by
  rw [cpN_eq, List.length_flatMap]
  simp only [List.length_map]
  have h1 := sysBits_len s (node / t.states.toNat % s.states.toNat) l
  have h2 := sysBits_len t (node % t.states.toNat) l
  have : ∀ m : List Nat, (m.map fun _ => (sysBits t (node % t.states.toNat) l).length).sum = m.length * (sysBits t (node % t.states.toNat) l).length := by
    intro m; induction m with
    | nil => simp
    | cons a m ih => simp [ih, Nat.add_mul]; omega
  rw [this]
  exact Nat.mul_le_mul h1 h2
theorem cpN_out {s t : Sys} {node : Nat} {l : Int} (hn : node < s.states.toNat * t.states.toNat) (h1 : bit s.alphabet l = false) (h2 : bit t.alphabet l = false) : cpN s t node l = [node] := by
  rw [cpN_eq]
  unfold sysBits
  simp only [h1, h2, Bool.false_eq_true, if_false]
  have h3 : node / t.states.toNat < s.states.toNat := Nat.div_lt_of_lt_mul (by rw [Nat.mul_comm]; exact hn)
  simp only [List.flatMap_cons, List.flatMap_nil, List.map_cons, List.map_nil, List.append_nil]
  rw [Nat.mod_eq_of_lt h3, Nat.mul_comm]
  rw [Nat.div_add_mod]

structure Pairs (s t : Sys) (al : Int) (nodes : List Nat) : Prop where
  asc : nodes.Pairwise (· < ·)
  mem : ∀ x, x ∈ nodes ↔ ∃ v, (∀ l ∈ v, l ∈ letters al) ∧ Leads (cpN s t) 0 v x
section
variable {s t : Sys} {al : Int} {nodes : List Nat}
theorem Pairs.zero (h : Pairs s t al nodes) : 0 ∈ nodes := (h.mem 0).2 ⟨[], by simp, rfl⟩
theorem Pairs.next (h : Pairs s t al nodes) {x y : Nat} {l : Int} (hx : x ∈ nodes) (hl : l ∈ letters al) (hy : y ∈ cpN s t x l) : y ∈ nodes := by
  obtain ⟨v, h1, h2⟩ := (h.mem x).1 hx
  refine (h.mem y).2 ⟨v ++ [l], fun z hz => ?_, (leads_append _ _ _ _ _).2 ⟨x, h2, y, hy, rfl⟩⟩
  rcases List.mem_append.1 hz with hz | hz
  · exact h1 z hz
  · simp at hz; subst hz; exact hl
theorem Pairs.lt (hs : sysValid s = true) (ht : sysValid t = true) (h : Pairs s t al nodes) : ∀ x ∈ nodes, x < s.states.toNat * t.states.toNat := by
  intro x hx
  obtain ⟨v, -, h2⟩ := (h.mem x).1 hx
  rcases List.eq_nil_or_concat v with rfl | ⟨u, l, rfl⟩
  · obtain rfl : 0 = x := h2
    exact Nat.mul_pos (pos_states hs).1 (pos_states ht).1
  · rw [List.concat_eq_append, leads_append] at h2
    obtain ⟨b, -, c, hc, rfl⟩ := h2
    exact cpN_lt hs ht b l _ hc
theorem Pairs.unique {nodes' : List Nat} (h : Pairs s t al nodes) (h' : Pairs s t al nodes') : nodes = nodes' :=
  asc_ext h.asc h'.asc fun x => by rw [h.mem, h'.mem]
theorem Pairs.at_zero (h : Pairs s t al nodes) : nodes[0]? = some 0 := by
  have h0 := h.zero
  have ha := h.asc
  cases nodes with
  | nil => cases h0
  | cons x xs =>
    rcases List.mem_cons.1 h0 with e | h0
    · subst e; rfl
    · have := (List.pairwise_cons.1 ha).1 0 h0; omega
theorem idxAt {l : List Nat} {x : Nat} (h : x ∈ l) : l[l.idxOf x]? = some x := by
  have h1 := List.idxOf_lt_length_iff.2 h
  rw [List.getElem?_eq_getElem h1, List.getElem_idxOf h1]
theorem asc_nodup {l : List Nat} (h : l.Pairwise (· < ·)) : l.Nodup := by
  rw [List.nodup_iff_pairwise_ne]; exact h.imp fun {a b} hab => by omega
theorem at_idx {l : List Nat} (h : l.Pairwise (· < ·)) {x i : Nat} (hi : l[i]? = some x) : l.idxOf x = i := by
  have hm := List.mem_of_getElem? hi
  have h1 := idxAt hm
  obtain ⟨h2, e2⟩ := List.getElem?_eq_some_iff.1 h1
  obtain ⟨h3, e3⟩ := List.getElem?_eq_some_iff.1 hi
  rcases Nat.lt_trichotomy (l.idxOf x) i with h4 | h4 | h4
  · have := (List.pairwise_iff_getElem.1 h) _ _ h2 h3 h4; omega
  · exact h4
  · have := (List.pairwise_iff_getElem.1 h) _ _ h3 h2 h4; omega
theorem idx_mono {l : List Nat} (h : l.Pairwise (· < ·)) {x y : Nat} (hx : x ∈ l) (hy : y ∈ l) (hxy : x < y) : l.idxOf x < l.idxOf y := by
  have h1 := idxAt hx
  have h2 := idxAt hy
  have l1 := List.idxOf_lt_length_iff.2 hx
  have l2 := List.idxOf_lt_length_iff.2 hy
  rcases Nat.lt_trichotomy (l.idxOf x) (l.idxOf y) with h3 | h3 | h3
  · exact h3
  · rw [h3, h2] at h1; cases h1; omega
  · have := (List.pairwise_iff_getElem.1 h) _ _ l2 l1 h3
    rw [List.getElem?_eq_getElem l1] at h1
    rw [List.getElem?_eq_getElem l2] at h2
    have e1 := Option.some.inj h1
    have e2 := Option.some.inj h2
    omega

def compE (s t : Sys) (nodes : List Nat) (i : Nat) (l : Int) : List Edge := (cpN s t (nodes.getD i 0) l).map fun y2 => ⟨(i : Int), l, (nodes.idxOf y2 : Nat)⟩
def compRow (s t : Sys) (al : Int) (nodes : List Nat) (i : Nat) : List Edge := (letters al).flatMap (compE s t nodes i)
def compTo (s t : Sys) (al : Int) (nodes : List Nat) (k : Nat) : List Edge := (List.range k).flatMap (compRow s t al nodes)
def compS (s t : Sys) (al : Int) (nodes : List Nat) : Sys := ⟨al, (nodes.length : Nat), compTo s t al nodes nodes.length⟩
theorem compE_mem {i : Nat} {l : Int} {e : Edge} {node : Nat} (hi : nodes[i]? = some node) : e ∈ compE s t nodes i l ↔ ∃ y2 ∈ cpN s t node l, e = ⟨(i : Int), l, (nodes.idxOf y2 : Nat)⟩ := by
  have hd : nodes.getD i 0 = node := by rw [List.getD_eq_getElem?_getD, hi]; rfl
  unfold compE
  rw [hd, List.mem_map]
  constructor
  · rintro ⟨a, h1, h2⟩; exact ⟨a, h1, h2.symm⟩
  · rintro ⟨a, h1, h2⟩; exact ⟨a, h1, h2.symm⟩
theorem compTo_mem {e : Edge} : e ∈ compTo s t al nodes nodes.length ↔ ∃ (i node : Nat), nodes[i]? = some node ∧ ∃ l ∈ letters al, ∃ y2 ∈ cpN s t node l, e = ⟨(i : Int), l, (nodes.idxOf y2 : Nat)⟩ := by
  unfold compTo compRow
  simp only [List.mem_flatMap, List.mem_range]
  constructor
  · rintro ⟨i, hi, l, hl, he⟩
    have hn := List.getElem?_eq_getElem hi
    exact ⟨i, _, hn, l, hl, (compE_mem hn).1 he⟩
  · rintro ⟨i, node, hn, l, hl, he⟩
    exact ⟨i, (List.getElem?_eq_some_iff.1 hn).1, l, hl, (compE_mem hn).2 he⟩
theorem letters_pw (a : Int) : (letters a).Pairwise (· < ·) := by
  unfold letters lettersTo
  refine List.Pairwise.filter _ ?_
  rw [List.pairwise_map]
  exact List.pairwise_lt_range.imp fun {a b} h => by simpa using h
theorem comp_asc (ht : sysValid t = true) (h : Pairs s t al nodes) : (compTo s t al nodes nodes.length).Pairwise fun a b => edgeLt a b = true := by
  unfold compTo
  rw [List.pairwise_flatMap]
  have hsrc : ∀ i, ∀ e ∈ compRow s t al nodes i, e.src = (i : Int) := fun i e he => by
    unfold compRow compE at he
    obtain ⟨l, -, he⟩ := List.mem_flatMap.1 he
    obtain ⟨x, -, rfl⟩ := List.mem_map.1 he
    rfl
  refine ⟨fun i hi => ?_, List.pairwise_lt_range.imp fun {a b} hab x hx y hy => ?_⟩
  · have hn := List.getElem?_eq_getElem (List.mem_range.1 hi)
    unfold compRow
    rw [List.pairwise_flatMap]
    refine ⟨fun l hl => ?_, (letters_pw al).imp fun {a b} hab x hx y hy => ?_⟩
    · have hd : nodes.getD i 0 = nodes[i]'(List.mem_range.1 hi) := by rw [List.getD_eq_getElem?_getD, hn]; rfl
      unfold compE
      rw [hd, List.pairwise_map]
      refine List.Pairwise.imp_of_mem ?_ (cpN_asc (s := s) ht _ l)
      intro a b ha hb hab
      have hm := List.mem_of_getElem? hn
      have := idx_mono h.asc (h.next hm hl ha) (h.next hm hl hb) hab
      rw [edgeLt_iff]
      simp only [true_and]
      omega
    · obtain ⟨_, -, rfl⟩ := (compE_mem hn).1 hx
      obtain ⟨_, -, rfl⟩ := (compE_mem hn).1 hy
      rw [edgeLt_iff]
      simp only [true_and]
      omega
  · rw [edgeLt_iff, hsrc a x hx, hsrc b y hy]
    omega
theorem comp_valid (ht : sysValid t = true) (a0 : 0 ≤ al) (a63 : al ≤ 63) (h : Pairs s t al nodes) (h16 : nodes.length ≤ 16) : sysValid (compS s t al nodes) = true := by
  have h0 := (List.getElem?_eq_some_iff.1 h.at_zero).1
  refine (sysValid_iff _).2 ⟨by simp [isAlpha, compS, a0, a63], ?_, ?_, fun e he => ?_, comp_asc ht h⟩
  · show (1 : Int) ≤ ((nodes.length : Nat) : Int); omega
  · show ((nodes.length : Nat) : Int) ≤ 16; omega
  · obtain ⟨i, node, hn, l, hl, y2, hto, rfl⟩ := compTo_mem.1 he
    have h1 := (List.getElem?_eq_some_iff.1 hn).1
    have h2 := List.idxOf_lt_length_iff.2 (h.next (List.mem_of_getElem? hn) hl hto)
    have h3 := letters_lt6 a63 l hl
    have h4 := (letters_iff l a63).1 hl
    simp [edgeOk, compS, h1, h2, h3.1, h3.2, h4]
theorem comp_ch (a63 : al ≤ 63) (h : Pairs s t al nodes) {i node : Nat} (hn : nodes[i]? = some node) {l : Int} (hb : bit al l = true) (x : Nat) : x ∈ sysCh (compS s t al nodes) i l ↔ ∃ y2 ∈ cpN s t node l, x = nodes.idxOf y2 := by
  unfold sysCh
  rw [if_pos (show bit (compS s t al nodes).alphabet l = true from hb)]
  simp only [List.mem_map, List.mem_filter, Bool.and_eq_true, decide_eq_true_eq]
  constructor
  · rintro ⟨e, ⟨he, h1, h2⟩, rfl⟩
    obtain ⟨j, n2, hj, l2, hl2, y2, hto, rfl⟩ := compTo_mem.1 he
    simp only at h1 h2
    obtain rfl : j = i := by omega
    subst h2
    rw [hn] at hj; cases hj
    exact ⟨y2, hto, by simp⟩
  · rintro ⟨y2, hto, rfl⟩
    exact ⟨⟨(i : Int), l, (nodes.idxOf y2 : Nat)⟩, ⟨compTo_mem.2 ⟨i, node, hn, l, (letters_iff l a63).2 hb, y2, hto, rfl⟩, rfl, rfl⟩, by simp⟩
theorem comp_leads (hs : sysValid s = true) (ht : sysValid t = true) (a63 : al ≤ 63) (hal : ∀ l, bit al l = (bit s.alphabet l || bit t.alphabet l)) (h : Pairs s t al nodes) (v : List Int) :
    ∀ i node, nodes[i]? = some node → ((∃ j, Leads (sysCh (compS s t al nodes)) i v j) ↔ ∃ r, Leads (cpN s t) node v r) := by
  induction v with
  | nil => exact fun i node _ => ⟨fun _ => ⟨node, rfl⟩, fun _ => ⟨i, rfl⟩⟩
  | cons l v ih =>
    intro i node hn
    have hm := List.mem_of_getElem? hn
    by_cases hb : bit al l = true
    · constructor
      · rintro ⟨j, b, hb1, hb2⟩
        obtain ⟨y2, hto, rfl⟩ := (comp_ch a63 h hn hb b).1 hb1
        have h1 := h.next hm ((letters_iff l a63).2 hb) hto
        obtain ⟨r, hr⟩ := (ih _ y2 (idxAt h1)).1 ⟨j, hb2⟩
        exact ⟨r, y2, hto, hr⟩
      · rintro ⟨r, y2, hto, hr⟩
        have h1 := h.next hm ((letters_iff l a63).2 hb) hto
        obtain ⟨j, hj⟩ := (ih _ y2 (idxAt h1)).2 ⟨r, hr⟩
        exact ⟨j, _, (comp_ch a63 h hn hb _).2 ⟨y2, hto, rfl⟩, hj⟩
    · have e1 : sysCh (compS s t al nodes) i l = [i] := by unfold sysCh; exact if_neg hb
      have hb2 := hb
      rw [hal l, Bool.or_eq_true, not_or] at hb2
      have e2 : cpN s t node l = [node] := cpN_out (h.lt hs ht node hm) (by simpa using hb2.1) (by simpa using hb2.2)
      constructor
      · rintro ⟨j, b, hb1, hb2⟩
        rw [e1, List.mem_singleton] at hb1; subst hb1
        obtain ⟨r, hr⟩ := (ih _ node hn).1 ⟨j, hb2⟩
        exact ⟨r, node, by rw [e2]; simp, hr⟩
      · rintro ⟨r, y2, hto, hr⟩
        rw [e2, List.mem_singleton] at hto; subst hto
        obtain ⟨j, hj⟩ := (ih _ y2 hn).2 ⟨r, hr⟩
        exact ⟨j, i, by rw [e1]; simp, hj⟩
theorem comp_trace (hs : sysValid s = true) (ht : sysValid t = true) (a63 : al ≤ 63) (hal : ∀ l, bit al l = (bit s.alphabet l || bit t.alphabet l)) (h : Pairs s t al nodes) (v : List Int) : TraceV (compS s t al nodes) v ↔ TraceV s v ∧ TraceV t v := by
  have h1 := comp_leads hs ht a63 hal h v 0 0 h.at_zero
  have h2 := trace_parts (parts := [s, t]) (fun x hx => by
    simp at hx
    rcases hx with rfl | rfl
    · exact hs
    · exact ht) v
  unfold TraceV at h2 ⊢
  rw [h1]
  refine h2.trans ?_
  simp
theorem pv_comp {p : Auto} (hs : sysValid s = true) (ht : sysValid t = true) (a0 : 0 ≤ al) (a63 : al ≤ 63) (hal : ∀ l, bit al l = (bit s.alphabet l || bit t.alphabet l)) (h : Pairs s t al nodes) (h16 : nodes.length ≤ 16) : pvOf [compS s t al nodes] p = pvOf [s, t] p := by
  have hx := comp_valid ht a0 a63 h h16
  have h2 : areParts [s, t] = true := by simp [areParts, hs, ht]
  have hr := pv_spec [s, t] p
  refine PV.of ?_
  unfold PV at hr ⊢
  rw [one_parts hx]
  rw [h2] at hr
  cases hp : autoValid p with
  | false => rw [hp] at hr; simpa using hr
  | true =>
    rw [hp] at hr
    simp only [Bool.and_self, if_true] at hr ⊢
    refine hr.congr fun v => ?_
    rw [brokenS_iff (one_parts hx) hp, brokenS_iff h2 hp]
    simp only [List.mem_singleton, exists_eq_left, forall_eq, comp_trace hs ht a63 hal h v]
    have e : ∀ x, (bit (compS s t al nodes).alphabet x = true) ↔ ∃ y, y ∈ [s, t] ∧ bit y.alphabet x = true := fun x => by
      show bit al x = true ↔ _
      rw [hal x, Bool.or_eq_true]; simp
    simp only [e]
    simp
end


def ReachP (s t : Sys) (al : Int) (x : Nat) : Prop := ∃ v, (∀ l ∈ v, l ∈ letters al) ∧ Leads (cpN s t) 0 v x
structure BfsSt (s t : Sys) (al : Int) (L : List Nat) (i k q : Nat) : Prop where
  head : L[0]? = some 0
  nodup : L.Nodup
  reach : ∀ x ∈ L, ReachP s t al x
  done : ∀ j, j < i → ∀ x, L[j]? = some x → ∀ l ∈ letters al, ∀ y ∈ cpN s t x l, y ∈ L
  row : ∀ m, m < k → ∀ l, (letters al)[m]? = some l → ∀ x, L[i]? = some x → ∀ y ∈ cpN s t x l, y ∈ L
  cell : ∀ l, (letters al)[k]? = some l → ∀ x, L[i]? = some x → ∀ y ∈ (cpN s t x l).take q, y ∈ L
theorem ReachP.next {s t : Sys} {al : Int} {x y : Nat} {l : Int} (h : ReachP s t al x) (hl : l ∈ letters al) (hy : y ∈ cpN s t x l) : ReachP s t al y := by
  obtain ⟨v, h1, h2⟩ := h
  refine ⟨v ++ [l], fun z hz => ?_, (leads_append _ _ _ _ _).2 ⟨x, h2, y, hy, rfl⟩⟩
  rcases List.mem_append.1 hz with hz | hz
  · exact h1 z hz
  · simp at hz; subst hz; exact hl
theorem ReachP.lt {s t : Sys} {al : Int} (hs : sysValid s = true) (ht : sysValid t = true) {x : Nat} (h : ReachP s t al x) : x < s.states.toNat * t.states.toNat := by
  obtain ⟨v, -, h2⟩ := h
  rcases List.eq_nil_or_concat v with rfl | ⟨u, l, rfl⟩
  · obtain rfl : 0 = x := h2
    exact Nat.mul_pos (pos_states hs).1 (pos_states ht).1
  · rw [List.concat_eq_append, leads_append] at h2
    obtain ⟨b, -, c, hc, rfl⟩ := h2
    exact cpN_lt hs ht b l _ hc
section
variable {s t : Sys} {al : Int} {L : List Nat} {i k q : Nat}
theorem BfsSt.start (s t : Sys) (al : Int) : BfsSt s t al [0] 0 0 0 :=
  ⟨rfl, by simp, fun x hx => ⟨[], by simp, by simp at hx; subst hx; rfl⟩, fun j h => absurd h (Nat.not_lt_zero _), fun j h => absurd h (Nat.not_lt_zero _), fun l _ x _ y hy => by simp at hy⟩
theorem BfsSt.lt (hs : sysValid s = true) (ht : sysValid t = true) (h : BfsSt s t al L i k q) : ∀ x ∈ L, x < s.states.toNat * t.states.toNat := fun x hx => (h.reach x hx).lt hs ht
theorem BfsSt.len (hs : sysValid s = true) (ht : sysValid t = true) (h : BfsSt s t al L i k q) : L.length ≤ 256 :=
  Nat.le_trans (nodup_len L _ h.nodup (h.lt hs ht)) (Nat.mul_le_mul (pos_states hs).2 (pos_states ht).2)
theorem BfsSt.skip (h : BfsSt s t al L i k q) {l : Int} (hl : (letters al)[k]? = some l) {x y : Nat} (hx : L[i]? = some x) (hy : (cpN s t x l)[q]? = some y) (hm : y ∈ L) : BfsSt s t al L i k (q + 1) :=
  ⟨h.head, h.nodup, h.reach, h.done, h.row, fun l' hl' x' hx' z hz => by
    rw [hl] at hl'; cases hl'
    rw [hx] at hx'; cases hx'
    rw [List.take_add_one, hy] at hz
    rcases List.mem_append.1 hz with hz | hz
    · exact h.cell l hl x hx z hz
    · simp at hz; subst hz; exact hm⟩
theorem BfsSt.push (h : BfsSt s t al L i k q) {l : Int} (hl : (letters al)[k]? = some l) {x y : Nat} (hx : L[i]? = some x) (hy : (cpN s t x l)[q]? = some y) (hm : y ∉ L) : BfsSt s t al (L ++ [y]) i k (q + 1) := by
  have hi := (List.getElem?_eq_some_iff.1 hx).1
  have hat : ∀ (j : Nat) (z : Nat), j ≤ i → (L ++ [y])[j]? = some z → L[j]? = some z := fun j z hj hz => by
    rwa [List.getElem?_append_left (by omega)] at hz
  refine ⟨?_, ?_, ?_, ?_, ?_, ?_⟩
  · rw [List.getElem?_append_left (by omega)]; exact h.head
  · exact List.nodup_append.2 ⟨h.nodup, by simp, fun a ha b hb e => by simp at hb; subst hb; subst e; exact hm ha⟩
  · intro z hz
    rcases List.mem_append.1 hz with hz | hz
    · exact h.reach z hz
    · simp at hz; subst hz
      exact (h.reach x (List.mem_of_getElem? hx)).next (List.mem_of_getElem? hl) (List.mem_of_getElem? hy)
  · exact fun j hj z hz l' hl' u hu => List.mem_append_left _ (h.done j hj z (hat j z (by omega) hz) l' hl' u hu)
  · exact fun m hm l' hl' z hz u hu => List.mem_append_left _ (h.row m hm l' hl' z (hat i z (Nat.le_refl _) hz) u hu)
  · intro l' hl' z hz u hu
    rw [hl] at hl'; cases hl'
    have := hat i z (Nat.le_refl _) hz
    rw [hx] at this; cases this
    rw [List.take_add_one, hy] at hu
    rcases List.mem_append.1 hu with hu | hu
    · exact List.mem_append_left _ (h.cell l hl x hx u hu)
    · simp at hu; subst hu; simp
theorem BfsSt.letter (h : BfsSt s t al L i k q) {l : Int} (hl : (letters al)[k]? = some l) {x : Nat} (hx : L[i]? = some x) (hq : q = (cpN s t x l).length) : BfsSt s t al L i (k + 1) 0 :=
  ⟨h.head, h.nodup, h.reach, h.done, fun m hm l' hl' x' hx' y hy => by
    rcases Nat.lt_or_ge m k with h1 | h1
    · exact h.row m h1 l' hl' x' hx' y hy
    · obtain rfl : m = k := by omega
      rw [hl] at hl'; cases hl'
      rw [hx] at hx'; cases hx'
      exact h.cell l hl x hx y (by rw [hq, List.take_length]; exact hy), fun l _ x _ y hy => by simp at hy⟩
theorem BfsSt.node (h : BfsSt s t al L i (letters al).length q) {x : Nat} (hx : L[i]? = some x) : BfsSt s t al L (i + 1) 0 0 :=
  ⟨h.head, h.nodup, h.reach, fun j hj z hz l hl y hy => by
    rcases Nat.lt_or_ge j i with h1 | h1
    · exact h.done j h1 z hz l hl y hy
    · obtain rfl : j = i := by omega
      obtain ⟨m, hm⟩ := List.getElem?_of_mem hl
      exact h.row m (List.getElem?_eq_some_iff.1 hm).1 l hm z hz y hy, fun j h => absurd h (Nat.not_lt_zero _), fun l _ x _ y hy => by simp at hy⟩
theorem BfsSt.all (h : BfsSt s t al L L.length 0 0) {x : Nat} (hx : ReachP s t al x) : x ∈ L := by
  obtain ⟨v, h1, h2⟩ := hx
  have key : ∀ (v : List Int) (a : Nat), (∀ l ∈ v, l ∈ letters al) → a ∈ L → Leads (cpN s t) a v x → x ∈ L := by
    intro v
    induction v with
    | nil => rintro a - ha h; obtain rfl : a = x := h; exact ha
    | cons l v ih =>
      rintro a hv ha ⟨b, hb1, hb2⟩
      obtain ⟨j, hj⟩ := List.getElem?_of_mem ha
      exact ih b (fun z hz => hv z (by simp [hz])) (h.done j (List.getElem?_eq_some_iff.1 hj).1 a hj l (hv l (by simp)) b hb1) hb2
  exact key v 0 h1 (List.mem_of_getElem? h.head) h2
theorem BfsSt.pairs (h : BfsSt s t al L L.length 0 0) {nodes : List Nat} (hp : nodes.Pairwise (· < ·)) (hm : ∀ x, x ∈ nodes ↔ x ∈ L) : Pairs s t al nodes :=
  ⟨hp, fun x => by rw [hm]; exact ⟨fun hx => h.reach x hx, fun hx => h.all hx⟩⟩
end
end Go.Proofs.YtanekmfifmkbmaaGreatDoor
