/- Part of this seat's proofs, cut to what its law needs. -/

import Derived.Test.YtanekmfifmkbmaaGreatDoorPlainC

namespace Go.Proofs.YtanekmfifmkbmaaGreatDoor
set_option linter.unusedSimpArgs false
set_option linter.unusedVariables false
open Go.RowKit

def setsL (n : Nat) (f : Sets) : List Int := (List.range n).map fun p => (f p : Int)
def updS (f : Sets) (p y : Nat) : Sets := fun p' => if p' = p then y else f p'
theorem setsL_len (n : Nat) (f : Sets) : (setsL n f).length = n := by simp [setsL]
theorem setsL_at {n p : Nat} (f : Sets) (h : p < n) : (setsL n f)[p]? = some (f p : Int) := by simp [setsL, h]
theorem setsL_set {n p : Nat} (f : Sets) (h : p < n) (y : Nat) : (setsL n f).set p (y : Int) = setsL n (updS f p y) := by
  apply List.ext_getElem?
  intro i
  by_cases hip : i = p
  · subst hip
    rw [List.getElem?_set_self (by rw [setsL_len]; exact h), setsL_at _ h]; simp [updS]
  · rw [List.getElem?_set_ne (fun e => hip e.symm)]
    by_cases hi : i < n
    · rw [setsL_at _ hi, setsL_at _ hi]; simp [updS, hip]
    · rw [List.getElem?_eq_none (by rw [setsL_len]; omega), List.getElem?_eq_none (by rw [setsL_len]; omega)]
def restOf (f : Sets) : Nat → Nat
  | 0 => 0
  | k + 1 => restOf f k + (65536 - f k)
theorem restOf_ge (f : Sets) (p y : Nat) : ∀ k, k ≤ p → restOf (updS f p y) k = restOf f k := by
  intro k
  induction k with
  | zero => intro _; rfl
  | succ k ih =>
    intro h
    have hk : k ≠ p := by omega
    have e : updS f p y k = f k := by unfold updS; rw [if_neg hk]
    unfold restOf; rw [ih (by omega), e]
theorem restOf_lt (f : Sets) {p y : Nat} (h1 : f p < y) (h2 : f p < 65536) : ∀ k, p < k → restOf (updS f p y) k < restOf f k := by
  intro k
  induction k with
  | zero => intro h; omega
  | succ k ih =>
    intro h
    unfold restOf
    by_cases hk : k = p
    · subst hk
      rw [restOf_ge f k y k (Nat.le_refl _)]
      simp [updS]; omega
    · have := ih (by omega)
      simp only [updS, hk, if_false]; omega

structure OnClose (t : Task) (f g : Sets) : Prop where
  above : Below' f g
  below : Below' g (closeM t f)
  within : Within t g
def closedAt (t : Task) (g : Sets) (p : Nat) (l : Int) : Prop := Below' (fun _ => stepM t.sys (g p) l) (fun _ => g (step t.prop p l))
def ClosedUp (t : Task) (g : Sets) (i k : Nat) : Prop := (∀ p, p < i → ∀ l ∈ hiddenOf t, closedAt t g p l) ∧ ∀ l ∈ (hiddenOf t).take k, closedAt t g i l
theorem within_lt {t : Task} {g : Sets} (h : Within t g) (p : Nat) : g p < 65536 := lt_of_bits fun q hq => (h p q hq).2
theorem OnClose.done {t : Task} {f g : Sets} (hs : sysValid t.sys = true) (hf : Within t f) (h : OnClose t f g) (hc : ClosedUp t g t.prop.next.length 0) : closeM t f = g :=
  ((closeM_is hs hf).least g h.above fun l hl p hp => hc.1 p hp l hl).anti h.below
theorem OnClose.add {t : Task} {f g : Sets} (hs : sysValid t.sys = true) (hp : autoValid t.prop = true) (hf : Within t f) (h : OnClose t f g) {i : Nat} (hi : i < t.prop.next.length) {l : Int} (hl : l ∈ hiddenOf t) : OnClose t f (updS g (step t.prop i l) (g (step t.prop i l) ||| stepM t.sys (g i) l)) := by
  have hI := closeM_is hs hf
  have hbit : ∀ p q, (updS g (step t.prop i l) (g (step t.prop i l) ||| stepM t.sys (g i) l) p).testBit q = true → (g p).testBit q = true ∨ (p = step t.prop i l ∧ (stepM t.sys (g i) l).testBit q = true) := fun p q hq => by
    unfold updS at hq
    split at hq
    · next e =>
      rw [Nat.testBit_or, Bool.or_eq_true] at hq
      rcases hq with hq | hq
      · rw [e]; exact .inl hq
      · exact .inr ⟨e, hq⟩
    · exact .inl hq
  refine ⟨fun p q hq => ?_, fun p q hq => ?_, fun p q hq => ?_⟩
  · unfold updS; split
    · next e => rw [Nat.testBit_or, ← e, h.above p q hq]; rfl
    · exact h.above p q hq
  · rcases hbit p q hq with hq' | ⟨rfl, hq'⟩
    · exact h.below p q hq'
    · refine hI.closed l hl i hi 0 q ?_
      obtain ⟨e, he, h1, h2, h3⟩ := (stepM_bit _ _ _ _).1 hq'
      exact (stepM_bit _ _ _ _).2 ⟨e, he, h1, h.below _ _ h2, h3⟩
  · rcases hbit p q hq with hq' | ⟨rfl, hq'⟩
    · exact h.within p q hq'
    · exact ⟨step_lt hp hi l, stepM_16 hs hq'⟩
theorem ClosedUp.next {t : Task} {g : Sets} {i k : Nat} {l : Int} (h : ClosedUp t g i k) (hl : (hiddenOf t)[k]? = some l) (hc : closedAt t g i l) : ClosedUp t g i (k + 1) := by
  refine ⟨h.1, fun l' hl' => ?_⟩
  rw [List.take_add_one, hl] at hl'
  rcases List.mem_append.1 hl' with hl' | hl'
  · exact h.2 l' hl'
  · simp at hl'; subst hl'; exact hc
theorem ClosedUp.row {t : Task} {g : Sets} {i : Nat} (h : ClosedUp t g i (hiddenOf t).length) : ClosedUp t g (i + 1) 0 := by
  refine ⟨fun p hp l hl => ?_, fun l hl => by simp at hl⟩
  rcases Nat.lt_or_ge p i with h1 | h1
  · exact h.1 p h1 l hl
  · obtain rfl : p = i := by omega
    exact h.2 l (by rw [List.take_length]; exact hl)
theorem closedAt_of {t : Task} {g : Sets} {i : Nat} {l : Int} (h : g (step t.prop i l) ||| stepM t.sys (g i) l = g (step t.prop i l)) : closedAt t g i l := fun _ q hq => by
  have := congrArg (fun n => n.testBit q) h
  simp only [Nat.testBit_or] at this
  have hq' : (stepM t.sys (g i) l).testBit q = true := hq
  rw [hq', Bool.or_true] at this
  exact this.symm

def cellNat : Option Value → Nat
  | some (.int _ x) => x.toNat
  | _ => 0
def wRest (w : World) (g : Nat) : Nat → Nat
  | 0 => 0
  | k + 1 => wRest w g k + (65536 - cellNat (w.cell? ⟨g, k, none⟩))

theorem hidden_len (t : Task) : (hiddenOf t).length ≤ 6 := Nat.le_trans (List.length_filter_le _ _) (lettersTo_len _ 6)

theorem hid_all : ∀ a ∈ List.range 64, ∀ b ∈ List.range 64, letters (Int.ofNat (a - (a &&& b))) = (letters (Int.ofNat a)).filter fun l => !bit (Int.ofNat b) l := by decide +kernel


theorem movedOne_zero {t : Task} {f : Sets} {l : Int} {k : Nat} (h : f k = 0) : movedOne t f l k = 0 := by
  unfold movedOne; rw [h, stepM_zero]; simp
theorem moveTo_skip {t : Task} {f : Sets} (l : Int) {k : Nat} (h : f k = 0) : moveTo t f l (k + 1) = moveTo t f l k := by
  rw [moveTo_succ]; funext p'; rw [movedOne_zero h]; simp
theorem within_zero {t : Task} {f : Sets} (h : Within t f) {p : Nat} (hp : t.prop.next.length ≤ p) : f p = 0 := Nat.eq_of_testBit_eq fun q => by
  rw [Nat.zero_testBit, Bool.eq_false_iff]
  intro hq
  have := (h p q hq).1; omega
theorem moveTo_ge {t : Task} {f : Sets} (h : Within t f) (l : Int) (j : Nat) : moveTo t f l (t.prop.next.length + j) = moveM t f l := by
  induction j with
  | zero => rfl
  | succ j ih => rw [← Nat.add_assoc, moveTo_skip l (within_zero h (by omega)), ih]
theorem moveTo_12 {t : Task} {f : Sets} (h : Within t f) (l : Int) (hn : t.prop.next.length ≤ 12) : moveTo t f l 12 = moveM t f l := by
  have := moveTo_ge h l (12 - t.prop.next.length)
  rwa [show t.prop.next.length + (12 - t.prop.next.length) = 12 by omega] at this
theorem moveTo_upd (t : Task) (f : Sets) (l : Int) (k : Nat) : moveTo t f l (k + 1) = updS (moveTo t f l k) (step t.prop k l) (moveTo t f l k (step t.prop k l) ||| movedOne t f l k) := by
  rw [moveTo_succ]; funext p'
  unfold updS
  by_cases h : step t.prop k l = p'
  · rw [if_pos h, if_pos h.symm, h]
  · rw [if_neg h, if_neg fun e => h e.symm]
theorem moveTo_lt {t : Task} {f : Sets} (hs : sysValid t.sys = true) (hp : autoValid t.prop = true) (hf : Within t f) (l : Int) (k p : Nat) : moveTo t f l k p < 65536 := lt_of_bits fun q hq => by
  obtain ⟨p0, h1, h2, h3⟩ := (moveTo_bit t f l k p q).1 hq
  unfold movedOne at h3
  split at h3
  · exact stepM_16 hs h3
  · exact (hf _ _ h3).2
theorem movedOne_lt {t : Task} {f : Sets} (hs : sysValid t.sys = true) (hf : Within t f) (l : Int) (p : Nat) : movedOne t f l p < 65536 := lt_of_bits fun q hq => by
  unfold movedOne at hq
  split at hq
  · exact stepM_16 hs hq
  · exact (hf _ _ hq).2
theorem moveM_at {t : Task} {f : Sets} {l : Int} {p q : Nat} (hp : p < t.prop.next.length) (h : (movedOne t f l p).testBit q = true) : (moveM t f l (step t.prop p l)).testBit q = true := (moveTo_bit t f l _ _ q).2 ⟨p, hp, rfl, h⟩


structure CloseSt (t : Task) (f g h : Sets) (q p : Nat) (m : Sets) : Prop where
  on : OnClose t f h
  from' : Below' g h
  done : ∀ l ∈ (hiddenOf t).take q, Below' (moveM t g l) h
  now : ∀ p', p' < p → ∀ x, (m p').testBit x = true → (h p').testBit x = true
theorem CloseSt.start {t : Task} {f g m : Sets} (h : OnClose t f g) : CloseSt t f g g 0 0 m := ⟨h, Below'.refl _, fun l hl => by simp at hl, fun p' h => by omega⟩
theorem hidden_moved {t : Task} (hs : sysValid t.sys = true) {l : Int} (hl : l ∈ hiddenOf t) (g : Sets) (p : Nat) : movedOne t g l p = stepM t.sys (g p) l := by
  unfold movedOne; rw [if_pos ((hidden_iff hs l).1 hl).1]
theorem CloseSt.or {t : Task} {f g h : Sets} {q p : Nat} {l : Int} (hs : sysValid t.sys = true) (hp : autoValid t.prop = true) (hf : Within t f) (hg : OnClose t f g) (hl : l ∈ hiddenOf t) (c : CloseSt t f g h q p (moveM t g l)) :
    CloseSt t f g (updS h p (h p ||| moveM t g l p)) q (p + 1) (moveM t g l) := by
  have hI := closeM_is hs hf
  have hup : Below' h (updS h p (h p ||| moveM t g l p)) := fun p' x hx => by
    unfold updS; split
    · next e => rw [Nat.testBit_or, ← e, hx]; rfl
    · exact hx
  have hbit : ∀ p' x, (updS h p (h p ||| moveM t g l p) p').testBit x = true → (h p').testBit x = true ∨ (moveM t g l p').testBit x = true := fun p' x hx => by
    unfold updS at hx
    split at hx
    · next e =>
      rw [Nat.testBit_or, Bool.or_eq_true] at hx
      rw [e]; exact hx
    · exact .inl hx
  have hmc : Below' (moveM t g l) (closeM t f) := fun p' x hx => by
    obtain ⟨p0, h1, h2, h3⟩ := (moveTo_bit t g l _ p' x).1 hx
    rw [hidden_moved hs hl] at h3
    obtain ⟨e, he, h4, h5, h6⟩ := (stepM_bit _ _ _ _).1 h3
    rw [← h2]
    exact hI.closed l hl p0 h1 0 x ((stepM_bit _ _ _ _).2 ⟨e, he, h4, hg.below _ _ h5, h6⟩)
  have hmw := move_within hs hp hg.within l
  refine ⟨⟨c.on.above.trans hup, fun p' x hx => ?_, fun p' x hx => ?_⟩, c.from'.trans hup, fun l' hl' => (c.done l' hl').trans hup, fun p' hp' x hx => ?_⟩
  · rcases hbit p' x hx with h1 | h1
    · exact c.on.below p' x h1
    · exact hmc p' x h1
  · rcases hbit p' x hx with h1 | h1
    · exact c.on.within p' x h1
    · exact hmw p' x h1
  · rcases Nat.lt_or_ge p' p with h1 | h1
    · exact hup p' x (c.now p' h1 x hx)
    · obtain rfl : p' = p := by omega
      unfold updS; rw [if_pos rfl, Nat.testBit_or, hx, Bool.or_true]
theorem CloseSt.next {t : Task} {f g h m : Sets} {q : Nat} {l : Int} (hs : sysValid t.sys = true) (hp : autoValid t.prop = true) (hn : t.prop.next.length ≤ 12) (hg : OnClose t f g) (hl : (hiddenOf t)[q]? = some l) (c : CloseSt t f g h q 12 (moveM t g l)) : CloseSt t f g h (q + 1) 0 m := by
  refine ⟨c.on, c.from', fun l' hl' => ?_, fun p' h => by omega⟩
  rw [List.take_add_one, hl] at hl'
  rcases List.mem_append.1 hl' with hl' | hl'
  · exact c.done l' hl'
  · simp at hl'; subst hl'
    intro p x hx
    have := (move_within hs hp hg.within l' p x hx).1
    exact c.now p (by omega) x hx
theorem CloseSt.again {t : Task} {f g h m m' : Sets} {q : Nat} (c : CloseSt t f g h q 0 m) : CloseSt t f g h q 0 m' := ⟨c.on, c.from', c.done, fun p' h => by omega⟩
theorem CloseSt.fin {t : Task} {f g m : Sets} (hs : sysValid t.sys = true) (hf : Within t f) (c : CloseSt t f g g (hiddenOf t).length 0 m) : closeM t f = g := by
  refine c.on.done hs hf ⟨fun p hp l hl => ?_, fun l hl => by simp at hl⟩
  have h1 := c.done l (by rw [List.take_length]; exact hl)
  intro _ x hx
  have hx' : (stepM t.sys (g p) l).testBit x = true := hx
  rw [← hidden_moved hs hl g p] at hx'
  exact h1 _ _ (moveM_at hp hx')
theorem below_le {f g : Sets} (h : Below' f g) (p : Nat) : f p ≤ g p := by
  have : g p = f p ||| g p := Nat.eq_of_testBit_eq fun q => by
    rw [Nat.testBit_or]
    cases hf : (f p).testBit q with
    | false => simp
    | true => rw [h p q hf]; rfl
  rw [this]; exact Nat.left_le_or
theorem restOf_le {f g : Sets} (h : Below' f g) : ∀ k, restOf g k ≤ restOf f k := by
  intro k
  induction k with
  | zero => exact Nat.le_refl _
  | succ k ih => unfold restOf; have := below_le h k; omega
theorem restOf_less {f g : Sets} (h : Below' f g) (hl : ∀ p, g p < 65536) {k : Nat} (hne : ∃ p, p < k ∧ f p ≠ g p) : restOf g k < restOf f k := by
  induction k with
  | zero => obtain ⟨p, hp, _⟩ := hne; omega
  | succ k ih =>
    obtain ⟨p, hp, hpe⟩ := hne
    unfold restOf
    have h1 := below_le h k
    have h2 := hl k
    by_cases hk : p = k
    · subst hk
      have h3 := restOf_le h p
      omega
    · have h3 := ih ⟨p, by omega, hpe⟩
      omega


noncomputable def afterM (t : Task) (f : Sets) (l : Int) : Sets := closeM t (moveM t f l)
theorem afterM_within {t : Task} (hs : sysValid t.sys = true) (hp : autoValid t.prop = true) {f : Sets} (hf : Within t f) (l : Int) : Within t (afterM t f l) := close_within hs hp (move_within hs hp hf l)
theorem startC_within {t : Task} (hs : sysValid t.sys = true) (hp : autoValid t.prop = true) : Within t (closeM t startM) := close_within hs hp (start_within hp)
structure SafeSt (t : Task) (nodes : List Sets) (rows : List (List Int)) : Prop where
  nodup : nodes.Nodup
  within : ∀ f ∈ nodes, Within t f
  len : rows.length = nodes.length
  six : ∀ r ∈ rows, r.length = 6
  row : ∀ (i : Nat) (f : Sets) (r : List Int), nodes[i]? = some f → rows[i]? = some r → ∀ (l : Nat) (x : Int), r[l]? = some x → x = -1 ∨ ∃ k : Nat, x = (k : Int) ∧ nodes[k]? = some (afterM t f l)
theorem SafeSt.nil (t : Task) : SafeSt t [] [] := ⟨List.nodup_nil, fun f h => by simp at h, rfl, fun r h => by simp at h, fun i f r h => by simp at h⟩
def newRow : List Int := [-1, -1, -1, -1, -1, -1]
open Classical in
theorem SafeSt.push {t : Task} {nodes : List Sets} {rows : List (List Int)} (h : SafeSt t nodes rows) {f : Sets} (hf : Within t f) (hn : f ∉ nodes) : SafeSt t (nodes ++ [f]) (rows ++ [newRow]) where
  nodup := List.nodup_append.2 ⟨h.nodup, by simp, fun a ha b hb e => by simp at hb; subst hb; subst e; exact hn ha⟩
  within := fun g hg => by
    rcases List.mem_append.1 hg with hg | hg
    · exact h.within g hg
    · simp at hg; subst hg; exact hf
  len := by simp [h.len]
  six := fun r hr => by
    rcases List.mem_append.1 hr with hr | hr
    · exact h.six r hr
    · simp at hr; subst hr; rfl
  row := fun i g r hg hr l x hx => by
    by_cases hi : i < nodes.length
    · rw [List.getElem?_append_left hi] at hg
      rw [List.getElem?_append_left (by rw [h.len]; exact hi)] at hr
      rcases h.row i g r hg hr l x hx with h1 | ⟨k, h1, h2⟩
      · exact .inl h1
      · exact .inr ⟨k, h1, by rw [List.getElem?_append_left (List.getElem?_eq_some_iff.1 h2).1]; exact h2⟩
    · have h1 : i = nodes.length := by
        have := (List.getElem?_eq_some_iff.1 hg).1
        simp at this; omega
      subst h1
      rw [← h.len, List.getElem?_concat_length] at hr
      cases hr
      left
      unfold newRow at hx
      have : l < 6 := by have := (List.getElem?_eq_some_iff.1 hx).1; simpa using this
      match l, this with
      | 0, _ | 1, _ | 2, _ | 3, _ | 4, _ | 5, _ => simp at hx; exact hx.symm
theorem SafeSt.put {t : Task} {nodes : List Sets} {rows : List (List Int)} (h : SafeSt t nodes rows) {i l k : Nat} {f : Sets} {r : List Int} (hf : nodes[i]? = some f) (hr : rows[i]? = some r) (hk : nodes[k]? = some (afterM t f l)) : SafeSt t nodes (rows.set i (r.set l (k : Int))) where
  nodup := h.nodup
  within := h.within
  len := by rw [List.length_set, h.len]
  six := fun r' hr' => by
    rcases List.mem_or_eq_of_mem_set hr' with h1 | h1
    · exact h.six r' h1
    · subst h1; rw [List.length_set]; exact h.six r (List.mem_of_getElem? hr)
  row := fun j g r' hg hr' l' x hx => by
    have hil := (List.getElem?_eq_some_iff.1 hr).1
    by_cases hij : i = j
    · subst hij
      rw [List.getElem?_set_self hil] at hr'
      cases hr'
      rw [hf] at hg; cases hg
      by_cases hl : l = l'
      · subst hl
        by_cases hlr : l < r.length
        · rw [List.getElem?_set_self hlr] at hx
          cases hx
          exact .inr ⟨k, rfl, hk⟩
        · rw [List.getElem?_eq_none (by rw [List.length_set]; omega)] at hx; cases hx
      · rw [List.getElem?_set_ne hl] at hx
        exact h.row i f r hf hr l' x hx
    · rw [List.getElem?_set_ne hij] at hr'
      exact h.row j g r' hg hr' l' x hx
end Go.Proofs.YtanekmfifmkbmaaGreatDoor

namespace Go.Proofs.YtanekmfifmkbmaaGreatDoor
set_option linter.unusedSimpArgs false
set_option linter.unusedVariables false
open Go



section
variable {s t : Sys} {p : Auto} {I : Int}
end



end Go.Proofs.YtanekmfifmkbmaaGreatDoor
