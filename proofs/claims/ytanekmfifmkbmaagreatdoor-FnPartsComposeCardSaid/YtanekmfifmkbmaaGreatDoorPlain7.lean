/- Part of this seat's proofs, cut to what its law needs. -/

import Derived.RowKit
import Derived.Test.YtanekmfifmkbmaaGreatDoorPlain2
import Derived.Lib.TrailingZeros

namespace Go.Proofs.YtanekmfifmkbmaaGreatDoor
set_option linter.unusedSimpArgs false
set_option linter.unusedVariables false
open Go

def lexLe : List Int → List Int → Prop
  | [], _ => True
  | _ :: _, [] => False
  | a :: u, b :: v => a < b ∨ (a = b ∧ lexLe u v)
def slexLe (u v : List Int) : Prop := u.length < v.length ∨ (u.length = v.length ∧ lexLe u v)
def slexLt (u v : List Int) : Prop := slexLe u v ∧ u ≠ v

theorem lexLe_refl (u : List Int) : lexLe u u := by
  induction u with
  | nil => trivial
  | cons a u ih => exact .inr ⟨rfl, ih⟩
theorem lexLe_total (u v : List Int) (h : u.length = v.length) : lexLe u v ∨ lexLe v u := by
  induction u generalizing v with
  | nil => exact .inl trivial
  | cons a u ih =>
    cases v with
    | nil => simp at h
    | cons b v =>
      rcases Int.lt_trichotomy a b with h1 | h1 | h1
      · exact .inl (.inl h1)
      · rcases ih v (by simpa using h) with h2 | h2
        · exact .inl (.inr ⟨h1, h2⟩)
        · exact .inr (.inr ⟨h1.symm, h2⟩)
      · exact .inr (.inl h1)
theorem lexLe_anti {u v : List Int} (h : u.length = v.length) (h1 : lexLe u v) (h2 : lexLe v u) : u = v := by
  induction u generalizing v with
  | nil => cases v with
    | nil => rfl
    | cons b v => simp at h
  | cons a u ih =>
    cases v with
    | nil => simp at h
    | cons b v =>
      rcases h1 with h1 | ⟨rfl, h1⟩
      · rcases h2 with h2 | ⟨rfl, h2⟩ <;> omega
      · rcases h2 with h2 | ⟨_, h2⟩
        · omega
        · rw [ih (by simpa using h) h1 h2]
theorem lexLe_trans {u v x : List Int} (h1 : lexLe u v) (h2 : lexLe v x) : lexLe u x := by
  induction u generalizing v x with
  | nil => trivial
  | cons a u ih =>
    cases v with
    | nil => exact h1.elim
    | cons b v =>
      cases x with
      | nil => exact h2.elim
      | cons c x =>
        rcases h1 with h1 | ⟨rfl, h1⟩
        · rcases h2 with h2 | ⟨rfl, h2⟩
          · exact .inl (by omega)
          · exact .inl h1
        · rcases h2 with h2 | ⟨rfl, h2⟩
          · exact .inl h2
          · exact .inr ⟨rfl, ih h1 h2⟩
theorem lexLe_append {u v : List Int} (h : u.length = v.length) (a b : Int) : lexLe (u ++ [a]) (v ++ [b]) ↔ (lexLe u v ∧ u ≠ v) ∨ (u = v ∧ a ≤ b) := by
  induction u generalizing v with
  | nil =>
    cases v with
    | nil => simp [lexLe]; omega
    | cons c v => simp at h
  | cons c u ih =>
    cases v with
    | nil => simp at h
    | cons d v =>
      have ih := ih (v := v) (by simpa using h)
      simp only [List.cons_append, lexLe, ih]
      constructor
      · rintro (h1 | ⟨rfl, h1 | ⟨rfl, h1⟩⟩)
        · exact .inl ⟨.inl h1, by simp; intro h2; omega⟩
        · exact .inl ⟨.inr ⟨rfl, h1.1⟩, by simpa using h1.2⟩
        · exact .inr ⟨rfl, h1⟩
      · rintro (⟨h1 | ⟨rfl, h1⟩, h2⟩ | ⟨h1, h2⟩)
        · exact .inl h1
        · exact .inr ⟨rfl, .inl ⟨h1, by simpa using h2⟩⟩
        · simp at h1
          exact .inr ⟨h1.1, .inr ⟨h1.2, h2⟩⟩
theorem slexLe_refl (u : List Int) : slexLe u u := .inr ⟨rfl, lexLe_refl u⟩
theorem slexLe_total (u v : List Int) : slexLe u v ∨ slexLe v u := by
  rcases Nat.lt_trichotomy u.length v.length with h | h | h
  · exact .inl (.inl h)
  · rcases lexLe_total u v h with h1 | h1
    · exact .inl (.inr ⟨h, h1⟩)
    · exact .inr (.inr ⟨h.symm, h1⟩)
  · exact .inr (.inl h)
theorem slexLe_anti {u v : List Int} (h1 : slexLe u v) (h2 : slexLe v u) : u = v := by
  rcases h1 with h1 | ⟨h, h1⟩
  · rcases h2 with h2 | ⟨h, h2⟩ <;> omega
  · rcases h2 with h2 | ⟨_, h2⟩
    · omega
    · exact lexLe_anti h h1 h2
theorem slexLe_trans {u v x : List Int} (h1 : slexLe u v) (h2 : slexLe v x) : slexLe u x := by
  rcases h1 with h1 | ⟨h1, h3⟩
  · rcases h2 with h2 | ⟨h2, h4⟩
    · exact .inl (by omega)
    · exact .inl (by omega)
  · rcases h2 with h2 | ⟨h2, h4⟩
    · exact .inl (by omega)
    · exact .inr ⟨by omega, lexLe_trans h3 h4⟩
theorem slexLe_nil (u : List Int) : slexLe [] u := by
  cases u with
  | nil => exact slexLe_refl _
  | cons a u => exact .inl (by simp)
theorem slexLe_push (u v : List Int) (a b : Int) : slexLe (u ++ [a]) (v ++ [b]) ↔ slexLt u v ∨ (u = v ∧ a ≤ b) := by
  unfold slexLt slexLe
  constructor
  · rintro (h | ⟨h, h1⟩)
    · exact .inl ⟨.inl (by simpa using h), fun he => by subst he; simp at h⟩
    · have h' : u.length = v.length := by simpa using h
      rcases (lexLe_append h' a b).1 h1 with h2 | h2
      · exact .inl ⟨.inr ⟨h', h2.1⟩, h2.2⟩
      · exact .inr h2
  · rintro (⟨h | ⟨h, h1⟩, h2⟩ | ⟨rfl, h⟩)
    · exact .inl (by simpa using h)
    · exact .inr ⟨by simpa using h, (lexLe_append h a b).2 (.inl ⟨h1, h2⟩)⟩
    · exact .inr ⟨by simp, (lexLe_append rfl a b).2 (.inr ⟨rfl, h⟩)⟩
theorem slexLt_of_not {u v : List Int} (h : ¬ slexLe u v) : slexLt v u := by
  rcases slexLe_total u v with h1 | h1
  · exact absurd h1 h
  · exact ⟨h1, fun e => h (by rw [e]; exact slexLe_refl _)⟩

def FirstIs (W : List Int → Prop) : Option (List Int) → Prop
  | none => ∀ v, ¬ W v
  | some u => W u ∧ ∀ v, W v → slexLe u v
theorem FirstIs.unique {W : List Int → Prop} {r r' : Option (List Int)} (h : FirstIs W r) (h' : FirstIs W r') : r = r' := by
  cases r with
  | none => cases r' with
    | none => rfl
    | some u => exact absurd h'.1 (h u)
  | some u => cases r' with
    | none => exact absurd h.1 (h' u)
    | some v => rw [slexLe_anti (h.2 v h'.1) (h'.2 u h.1)]
theorem FirstIs.congr {W W' : List Int → Prop} {r : Option (List Int)} (h : FirstIs W r) (e : ∀ v, W v ↔ W' v) : FirstIs W' r := by
  have : W = W' := funext fun v => propext (e v)
  rw [← this]; exact h


section
variable (N : Nat → Int → List Nat)
def Leads : Nat → List Int → Nat → Prop
  | a, [], b => a = b
  | a, l :: w, c => ∃ b, b ∈ N a l ∧ Leads b w c
theorem leads_append (a : Nat) (u v : List Int) (c : Nat) : Leads N a (u ++ v) c ↔ ∃ b, Leads N a u b ∧ Leads N b v c := by
  induction u generalizing a with
  | nil => simp [Leads]
  | cons l u ih =>
    simp only [List.cons_append, Leads, ih]
    constructor
    · rintro ⟨b, h1, b', h2, h3⟩; exact ⟨b', ⟨b, h1, h2⟩, h3⟩
    · rintro ⟨b', ⟨b, h1, h2⟩, h3⟩; exact ⟨b, h1, b', h2, h3⟩
theorem leads_push (a : Nat) (u : List Int) (l : Int) (c : Nat) : Leads N a (u ++ [l]) c ↔ ∃ b, Leads N a u b ∧ c ∈ N b l := by
  rw [leads_append]
  constructor
  · rintro ⟨b, h, b', h1, rfl⟩; exact ⟨b, h, h1⟩
  · rintro ⟨b, h, h1⟩; exact ⟨b, h, c, h1, rfl⟩

variable (L : List Int) (S : List Nat) (G : Nat → Bool)
def Gets (w : List Int) (n : Nat) : Prop := (∀ x ∈ w, x ∈ L) ∧ ∃ s ∈ S, Leads N s w n
def Wins (w : List Int) : Prop := ∃ n, Gets N L S w n ∧ G n = true
theorem gets_nil (n : Nat) : Gets N L S [] n ↔ n ∈ S := by
  unfold Gets Leads
  constructor
  · rintro ⟨_, s, h, rfl⟩; exact h
  · intro h; exact ⟨fun x hx => (by cases hx), n, h, rfl⟩
theorem gets_push (u : List Int) (l : Int) (n : Nat) : Gets N L S (u ++ [l]) n ↔ l ∈ L ∧ ∃ m, Gets N L S u m ∧ n ∈ N m l := by
  unfold Gets
  constructor
  · rintro ⟨h, s, hs, h1⟩
    obtain ⟨b, h2, h3⟩ := (leads_push N s u l n).1 h1
    exact ⟨h l (by simp), b, ⟨fun x hx => h x (by simp [hx]), s, hs, h2⟩, h3⟩
  · rintro ⟨hl, m, ⟨h, s, hs, h1⟩, h2⟩
    refine ⟨fun x hx => ?_, s, hs, (leads_push N s u l n).2 ⟨m, h1, h2⟩⟩
    rcases List.mem_append.1 hx with hx | hx
    · exact h x hx
    · simp at hx; subst hx; exact hl


structure Broad (st : List (List Int × List Nat)) (i k : Nat) : Prop where
  sorted : ∀ (a b : Nat) x y, a < b → st[a]? = some x → st[b]? = some y → slexLt x.1 y.1
  first : ∀ x ∈ st, ∀ n ∈ x.2, Gets N L S x.1 n ∧ ∀ v, Gets N L S v n → slexLe x.1 v
  nogoal : ∀ x ∈ st, ∀ n ∈ x.2, G n = false
  start : ∀ n ∈ S, ∃ x ∈ st, n ∈ x.2
  done : ∀ (j m : Nat) x l, (j < i ∨ (j = i ∧ m < k)) → st[j]? = some x → L[m]? = some l → ∀ n, n ∈ x.2 → ∀ r, r ∈ N n l → ∃ y, y ∈ st ∧ r ∈ y.2
  came : ∀ x ∈ st, x.1 = [] ∨ ∃ (j m : Nat) (y : List Int × List Nat) (l : Int), (j < i ∨ (j = i ∧ m < k)) ∧ st[j]? = some y ∧ L[m]? = some l ∧ x.1 = y.1 ++ [l]

variable {N L S G}
def Asc (L : List Int) : Prop := ∀ (a b : Nat) x y, a < b → L[a]? = some x → L[b]? = some y → x < y
theorem Asc.inj {L : List Int} (h : Asc L) {a b : Nat} {x y : Int} (hx : L[a]? = some x) (hy : L[b]? = some y) (hle : x < y) : a < b := by
  rcases Nat.lt_trichotomy a b with h1 | h1 | h1
  · exact h1
  · subst h1; rw [hx] at hy; cases hy; omega
  · have := h _ _ _ _ h1 hy hx; omega

theorem Broad.zero {ns : List Nat} (h : ∀ n, n ∈ ns ↔ n ∈ S) (hg : ∀ n ∈ ns, G n = false) : Broad N L S G [([], ns)] 0 0 where
  sorted := fun a b x y hab hx hy => by
    have := (List.getElem?_eq_some_iff.1 hy).1; simp at this; omega
  first := fun x hx n hn => by
    simp at hx; subst hx
    exact ⟨(gets_nil N L S n).2 ((h n).1 hn), fun v _ => slexLe_nil v⟩
  nogoal := fun x hx n hn => by simp at hx; subst hx; exact hg n hn
  start := fun n hn => ⟨_, List.mem_singleton.2 rfl, (h n).2 hn⟩
  done := fun j m x l hjm => by omega
  came := fun x hx => by simp at hx; subst hx; exact .inl rfl

theorem Broad.none (hS : S = []) : Broad N L S G [] 0 0 where
  sorted := fun a b x y _ hx => by simp at hx
  first := fun x hx => by cases hx
  nogoal := fun x hx => by cases hx
  start := fun n hn => by rw [hS] at hn; cases hn
  done := fun j m x l hjm => by omega
  came := fun x hx => by cases hx

theorem Broad.seen {st : List (List Int × List Nat)} {i k : Nat} (h : Broad N L S G st i k) (hA : Asc L) {x : List Int × List Nat} {l : Int} (hx : st[i]? = some x) (hl : L[k]? = some l) :
    ∀ (v : List Int) (n : Nat), Gets N L S v n → slexLt v (x.1 ++ [l]) → ∃ y ∈ st, n ∈ y.2 := by
  intro v
  induction hlen : v.length generalizing v with
  | zero =>
    intro n hn _
    obtain rfl : v = [] := List.eq_nil_of_length_eq_zero hlen
    exact h.start n ((gets_nil N L S n).1 hn)
  | succ c ih =>
    intro n hn hlt
    obtain ⟨v', l', rfl⟩ : ∃ v' l', v = v' ++ [l'] := ⟨v.dropLast, v.getLast (by intro h; simp [h] at hlen), (List.dropLast_concat_getLast _).symm⟩
    obtain ⟨hl', m, hm, hnm⟩ := (gets_push N L S v' l' n).1 hn
    have hv' : v'.length = c := by simpa using hlen
    obtain ⟨y, hy, hmy⟩ := ih v' hv' m hm ⟨.inl (by rcases hlt.1 with h1 | ⟨h1, _⟩ <;> simp at h1 ⊢ <;> omega), fun e => by
      have := congrArg List.length e
      rcases hlt.1 with h1 | ⟨h1, _⟩ <;> simp at h1 this <;> omega⟩
    obtain ⟨j, hj, hjy⟩ := List.getElem_of_mem hy
    have hj' : st[j]? = some y := by rw [List.getElem?_eq_getElem hj, hjy]
    have hle := (h.first y hy m hmy).2 v' hm
    obtain ⟨m', hm', hml⟩ := List.getElem_of_mem hl'
    have hm'' : L[m']? = some l' := by rw [List.getElem?_eq_getElem hm', hml]
    have hlt2 : slexLt (y.1 ++ [l']) (x.1 ++ [l]) := by
      have h1 : slexLe (y.1 ++ [l']) (v' ++ [l']) := by
        rw [slexLe_push]
        by_cases e : y.1 = v'
        · exact .inr ⟨e, Int.le_refl _⟩
        · exact .inl ⟨hle, e⟩
      refine ⟨slexLe_trans h1 hlt.1, fun e => hlt.2 ?_⟩
      rw [← e] at hlt ⊢
      exact slexLe_anti hlt.1 h1
    refine h.done j m' y l' ?_ hj' hm'' m hmy n hnm
    have h3 := (slexLe_push _ _ _ _).1 hlt2.1
    rcases Nat.lt_trichotomy j i with h4 | h4 | h4
    · exact .inl h4
    · refine .inr ⟨h4, ?_⟩
      subst h4
      rw [hx] at hj'; cases hj'
      rcases h3 with h3 | h3
      · exact absurd rfl h3.2
      · refine hA.inj hm'' hl ?_
        have : l' ≠ l := fun e => hlt2.2 (by rw [e])
        omega
    · exfalso
      have h5 := h.sorted i j x y h4 hx hj'
      rcases h3 with h3 | h3
      · exact h5.2 (slexLe_anti h5.1 h3.1)
      · exact h5.2 h3.1.symm

def Fresh (N : Nat → Int → List Nat) (st : List (List Int × List Nat)) (x : List Int × List Nat) (l : Int) (ns : List Nat) : Prop :=
  ∀ r, r ∈ ns ↔ ((∃ n ∈ x.2, r ∈ N n l) ∧ ¬ ∃ y ∈ st, r ∈ y.2)

theorem Broad.skip {st : List (List Int × List Nat)} {i k : Nat} (h : Broad N L S G st i k) {x : List Int × List Nat} {l : Int} (hx : st[i]? = some x) (hl : L[k]? = some l) (hf : Fresh N st x l []) : Broad N L S G st i (k + 1) where
  sorted := h.sorted
  first := h.first
  nogoal := h.nogoal
  start := h.start
  done := fun j m x' l' hjm hx' hl' n hn r hr => by
    by_cases hc : j < i ∨ (j = i ∧ m < k)
    · exact h.done j m x' l' hc hx' hl' n hn r hr
    · obtain ⟨rfl, rfl⟩ : j = i ∧ m = k := by omega
      rw [hx] at hx'; cases hx'
      rw [hl] at hl'; cases hl'
      refine Classical.byContradiction fun hne => ?_
      have := (hf r).2 ⟨⟨n, hn, hr⟩, hne⟩
      cases this
  came := fun y hy => (h.came y hy).imp id fun ⟨j, m, z, l', hjm, r⟩ => ⟨j, m, z, l', by omega, r⟩

theorem Broad.first_of {st : List (List Int × List Nat)} {i k : Nat} (h : Broad N L S G st i k) (hA : Asc L) {x : List Int × List Nat} {l : Int} (hx : st[i]? = some x) (hl : L[k]? = some l) {ns : List Nat} (hf : Fresh N st x l ns) {n : Nat} (hn : n ∈ ns) :
    Gets N L S (x.1 ++ [l]) n ∧ ∀ v, Gets N L S v n → slexLe (x.1 ++ [l]) v := by
  obtain ⟨⟨m, hm, hnm⟩, hnew⟩ := (hf n).1 hn
  refine ⟨(gets_push N L S _ _ _).2 ⟨List.mem_of_getElem? hl, m, (h.first x (List.mem_of_getElem? hx) m hm).1, hnm⟩, fun v hv => ?_⟩
  refine Classical.byContradiction fun hle => ?_
  exact hnew (h.seen hA hx hl v n hv (slexLt_of_not hle))

theorem Broad.push {st : List (List Int × List Nat)} {i k : Nat} (h : Broad N L S G st i k) (hA : Asc L) {x : List Int × List Nat} {l : Int} (hx : st[i]? = some x) (hl : L[k]? = some l) {ns : List Nat} (hf : Fresh N st x l ns) (hg : ∀ n ∈ ns, G n = false) :
    Broad N L S G (st ++ [(x.1 ++ [l], ns)]) i (k + 1) where
  sorted := fun a b y z hab hy hz => by
    by_cases hb : b < st.length
    · rw [List.getElem?_append_left hb] at hz
      rw [List.getElem?_append_left (by omega)] at hy
      exact h.sorted a b y z hab hy hz
    · have hb2 : b = st.length := by
        have := (List.getElem?_eq_some_iff.1 hz).1; simp at this; omega
      subst hb2
      rw [List.getElem?_concat_length] at hz
      cases hz
      rw [List.getElem?_append_left hab] at hy
      rcases h.came y (List.mem_of_getElem? hy) with h1 | ⟨j, m, u, l', hjm, hu, hl', h1⟩
      · rw [h1]; exact ⟨slexLe_nil _, by simp⟩
      · rw [h1]
        have hcase : slexLt u.1 x.1 ∨ (u.1 = x.1 ∧ l' < l) := by
          rcases hjm with hj | ⟨rfl, hm⟩
          · exact .inl (h.sorted j i u x hj hu hx)
          · rw [hx] at hu; cases hu
            exact .inr ⟨rfl, hA m k l' l hm hl' hl⟩
        refine ⟨(slexLe_push _ _ _ _).2 (hcase.imp id fun h => ⟨h.1, by omega⟩), fun e => ?_⟩
        have e1 := List.append_inj' e rfl
        simp at e1
        rcases hcase with h2 | h2
        · exact h2.2 e1.1
        · omega
  first := fun y hy n hn => by
    rcases List.mem_append.1 hy with hy | hy
    · exact h.first y hy n hn
    · simp at hy; subst hy
      exact h.first_of hA hx hl hf hn
  nogoal := fun y hy n hn => by
    rcases List.mem_append.1 hy with hy | hy
    · exact h.nogoal y hy n hn
    · simp at hy; subst hy
      exact hg n hn
  start := fun n hn => let ⟨y, hy, h1⟩ := h.start n hn; ⟨y, List.mem_append_left _ hy, h1⟩
  done := fun j m x' l' hjm hx' hl' n hn r hr => by
    have hil := (List.getElem?_eq_some_iff.1 hx).1
    have hj : j < st.length := by omega
    rw [List.getElem?_append_left hj] at hx'
    by_cases hc : j < i ∨ (j = i ∧ m < k)
    · obtain ⟨y, hy, h1⟩ := h.done j m x' l' hc hx' hl' n hn r hr
      exact ⟨y, List.mem_append_left _ hy, h1⟩
    · obtain ⟨rfl, rfl⟩ : j = i ∧ m = k := by omega
      rw [hx] at hx'; cases hx'
      rw [hl] at hl'; cases hl'
      by_cases hne : ∃ y ∈ st, r ∈ y.2
      · obtain ⟨y, hy, h1⟩ := hne
        exact ⟨y, List.mem_append_left _ hy, h1⟩
      · exact ⟨_, List.mem_append_right _ (List.mem_singleton.2 rfl), (hf r).2 ⟨⟨n, hn, hr⟩, hne⟩⟩
  came := fun y hy => by
    rcases List.mem_append.1 hy with hy | hy
    · rcases h.came y hy with h1 | ⟨j, m, z, l', hjm, hz, r⟩
      · exact .inl h1
      · exact .inr ⟨j, m, z, l', by omega, by rw [List.getElem?_append_left (List.getElem?_eq_some_iff.1 hz).1]; exact hz, r⟩
    · simp at hy; subst hy
      exact .inr ⟨i, k, x, l, by omega, by rw [List.getElem?_append_left (List.getElem?_eq_some_iff.1 hx).1]; exact hx, hl, rfl⟩

theorem Broad.next {st : List (List Int × List Nat)} {i : Nat} (h : Broad N L S G st i L.length) : Broad N L S G st (i + 1) 0 where
  sorted := h.sorted
  first := h.first
  nogoal := h.nogoal
  start := h.start
  done := fun j m x l hjm hx hl => h.done j m x l (by have := (List.getElem?_eq_some_iff.1 hl).1; omega) hx hl
  came := fun x hx => (h.came x hx).imp id fun ⟨j, m, y, l, hjm, r⟩ => ⟨j, m, y, l, by omega, r⟩

theorem Broad.found {st : List (List Int × List Nat)} {i k : Nat} (h : Broad N L S G st i k) (hA : Asc L) {x : List Int × List Nat} {l : Int} (hx : st[i]? = some x) (hl : L[k]? = some l) {ns : List Nat} (hf : Fresh N st x l ns) {n : Nat} (hn : n ∈ ns) (hg : G n = true) :
    FirstIs (Wins N L S G) (some (x.1 ++ [l])) := by
  obtain ⟨h1, _⟩ := h.first_of hA hx hl hf hn
  refine ⟨⟨n, h1, hg⟩, fun v ⟨m, hm, hgm⟩ => Classical.byContradiction fun hle => ?_⟩
  obtain ⟨y, hy, hmy⟩ := h.seen hA hx hl v m hm (slexLt_of_not hle)
  have := h.nogoal y hy m hmy
  rw [hgm] at this; cases this
theorem first_start {n : Nat} (hn : n ∈ S) (hg : G n = true) : FirstIs (Wins N L S G) (some []) :=
  ⟨⟨n, (gets_nil N L S n).2 hn, hg⟩, fun v _ => slexLe_nil v⟩
theorem Broad.over {st : List (List Int × List Nat)} (h : Broad N L S G st st.length 0) : FirstIs (Wins N L S G) Option.none := by
  have key : ∀ (v : List Int) (n : Nat), Gets N L S v n → ∃ y ∈ st, n ∈ y.2 := by
    intro v
    induction hlen : v.length generalizing v with
    | zero =>
      intro n hn
      obtain rfl : v = [] := List.eq_nil_of_length_eq_zero hlen
      exact h.start n ((gets_nil N L S n).1 hn)
    | succ c ih =>
      intro n hn
      obtain ⟨v', l', rfl⟩ : ∃ v' l', v = v' ++ [l'] := ⟨v.dropLast, v.getLast (by intro h; simp [h] at hlen), (List.dropLast_concat_getLast _).symm⟩
      obtain ⟨hl', m, hm, hnm⟩ := (gets_push N L S v' l' n).1 hn
      obtain ⟨y, hy, hmy⟩ := ih v' (by simpa using hlen) m hm
      obtain ⟨j, hj, hjy⟩ := List.getElem_of_mem hy
      obtain ⟨m', hm', hml⟩ := List.getElem_of_mem hl'
      exact h.done j m' y l' (.inl hj) (by rw [List.getElem?_eq_getElem hj, hjy]) (by rw [List.getElem?_eq_getElem hm', hml]) m hmy n hnm
  intro v ⟨n, hn, hg⟩
  obtain ⟨y, hy, hny⟩ := key v n hn
  have := h.nogoal y hy n hny
  rw [hg] at this; cases this

end
end Go.Proofs.YtanekmfifmkbmaaGreatDoor

namespace Go.Proofs.YtanekmfifmkbmaaGreatDoor
set_option linter.unusedSimpArgs false
set_option linter.unusedVariables false
open Go

section
variable (N : Nat → Int → List Nat) (L : List Int) (G : Nat → Bool)
variable {N L G}
end
end Go.Proofs.YtanekmfifmkbmaaGreatDoor

namespace Go.Proofs.YtanekmfifmkbmaaGreatDoor
set_option linter.unusedSimpArgs false
set_option linter.unusedVariables false
open Go

theorem ctz_form (s : Nat) (h0 : s ≠ 0) (h : s < 2 ^ 64) : ∃ m, s = 2 ^ Lib.ctz 64 s * (2 * m + 1) ∧ Lib.ctz 64 s < 64 := by
  have := Lib.ctzFrom_spec 64 s (by omega) h
  rw [show Lib.ctz 64 s = Lib.ctzFrom 64 s by simp [Lib.ctz, h0]]
  exact this
theorem ctz_bit (s : Nat) (h0 : s ≠ 0) (h : s < 2 ^ 64) : s.testBit (Lib.ctz 64 s) = true := by
  obtain ⟨m, hm, _⟩ := ctz_form s h0 h
  generalize Lib.ctz 64 s = k at hm
  rw [hm, Nat.testBit_two_pow_mul]
  simp
theorem ctz_low (s : Nat) (h0 : s ≠ 0) (h : s < 2 ^ 64) (j : Nat) (hj : j < Lib.ctz 64 s) : s.testBit j = false := by
  obtain ⟨m, hm, _⟩ := ctz_form s h0 h
  generalize Lib.ctz 64 s = k at hm hj
  rw [hm, Nat.testBit_two_pow_mul]
  simp; omega
theorem ctz_lt (s n : Nat) (h0 : s ≠ 0) (h : s < 2 ^ 64) (hn : s < 2 ^ n) : Lib.ctz 64 s < n := by
  have h1 := ctz_bit s h0 h
  refine Classical.byContradiction fun hc => ?_
  rw [Nat.testBit_lt_two_pow (Nat.lt_of_lt_of_le hn (Nat.pow_le_pow_right (by omega) (by omega)))] at h1
  cases h1
theorem and_pred (s : Nat) (h0 : s ≠ 0) (h : s < 2 ^ 64) (j : Nat) : (s &&& (s - 1)).testBit j = (s.testBit j && decide (j ≠ Lib.ctz 64 s)) := by
  obtain ⟨m, hm, _⟩ := ctz_form s h0 h
  have hb := ctz_bit s h0 h
  have hl := ctz_low s h0 h
  generalize Lib.ctz 64 s = k at hm hb hl ⊢
  rw [Nat.testBit_and]
  rcases Nat.lt_trichotomy j k with h1 | h1 | h1
  · rw [hl j h1]; simp
  · subst h1
    simp only [hb, ne_eq, not_true, decide_false, Bool.true_and]
    -- s - 1 = 2^k * 2m + (2^k - 1)
    have h2 : s - 1 = 2 ^ j * (2 * m) + (2 ^ j - 1) := by rw [hm, Nat.mul_add, Nat.mul_one]; have := Nat.two_pow_pos j; omega
    rw [h2, Nat.testBit_two_pow_mul_add _ (by have := Nat.two_pow_pos j; omega)]
    simp
  · have h2 : s - 1 = 2 ^ k * (2 * m) + (2 ^ k - 1) := by rw [hm, Nat.mul_add, Nat.mul_one]; have := Nat.two_pow_pos k; omega
    have h3 : (s - 1).testBit j = s.testBit j := by
      rw [h2, Nat.testBit_two_pow_mul_add _ (by have := Nat.two_pow_pos k; omega), if_neg (by omega), hm, Nat.testBit_two_pow_mul, decide_eq_true (by omega : j ≥ k), Bool.true_and]
      obtain ⟨i, hi⟩ : ∃ i, j - k = i + 1 := ⟨j - k - 1, by omega⟩
      rw [hi, Nat.testBit_succ, Nat.testBit_succ, show (2 * m + 1) / 2 = m by omega, show 2 * m / 2 = m by omega]
    rw [h3, decide_eq_true (by omega : j ≠ k), Bool.and_true, Bool.and_self]
theorem and_pred_lt (s : Nat) (h0 : s ≠ 0) : s &&& (s - 1) < s := Nat.lt_of_le_of_lt Nat.and_le_right (by omega)

def bitsOf (s : Nat) : List Nat := (List.range 16).filter fun q => s.testBit q
theorem bitsOf_mem (s q : Nat) : q ∈ bitsOf s ↔ (q < 16 ∧ s.testBit q = true) := by simp [bitsOf]
theorem bitsOf_len (s : Nat) : (bitsOf s).length ≤ 16 := by
  have := List.length_filter_le (fun q => s.testBit q) (List.range 16)
  simpa [bitsOf] using this
theorem bitsOf_zero : bitsOf 0 = [] := by simp [bitsOf]
theorem bitsOf_step (s : Nat) (h0 : s ≠ 0) (h : s < 65536) : bitsOf s = Lib.ctz 64 s :: bitsOf (s &&& (s - 1)) := by
  have h64 : s < 2 ^ 64 := by omega
  have hk := ctz_lt s 16 h0 h64 h
  have hb := ctz_bit s h0 h64
  have hl := ctz_low s h0 h64
  have ha := and_pred s h0 h64
  generalize Lib.ctz 64 s = k at hk hb hl ha ⊢
  unfold bitsOf
  have e : List.range 16 = List.range k ++ k :: List.range' (k + 1) (15 - k) := by
    have h1 : 16 = k + (1 + (15 - k)) := by omega
    conv => lhs; rw [h1]
    rw [List.range_add, List.range'_eq_map_range, Nat.add_comm 1, List.range_succ_eq_map]
    simp only [List.map_cons, List.map_map, Nat.add_zero]
    congr 2
    apply List.map_congr_left
    intro a _
    simp only [Function.comp]; omega
  rw [e, List.filter_append, List.filter_append, List.filter_cons, List.filter_cons]
  have f1 : ∀ p : Nat → Bool, (∀ q, q < k → p q = false) → (List.range k).filter p = [] := fun p hp => by
    rw [List.filter_eq_nil_iff]; intro q hq; simp [hp q (List.mem_range.1 hq)]
  rw [f1 _ (fun q hq => hl q hq), f1 _ (fun q hq => by rw [ha, hl q hq]; rfl), hb, ha k]
  simp only [if_true, ne_eq, not_true, decide_false, Bool.and_false, List.nil_append, Bool.false_eq_true, if_false]
  congr 1
  apply List.filter_congr
  intro q hq
  rw [ha, decide_eq_true (by have := (List.mem_range'_1.1 hq).1; omega : q ≠ k), Bool.and_true]

theorem lt_16 {a : Nat} (h : ∀ q, a.testBit q = true → q < 16) : a < 65536 := by
  refine Classical.byContradiction fun hc => ?_
  obtain ⟨q, h1, h2⟩ := Nat.exists_ge_and_testBit_of_ge_two_pow (n := 16) (x := a) (by omega)
  have := h q h2
  omega
theorem stepM_lt {s : Sys} (h : sysValid s = true) (a : Nat) (l : Int) : stepM s a l < 65536 := lt_16 fun q hq => by
  obtain ⟨e, he, _, _, h4⟩ := (stepM_bit s a l q).1 hq
  have := (edges_in h he).2.1
  omega
end Go.Proofs.YtanekmfifmkbmaaGreatDoor

namespace Go.Proofs.YtanekmfifmkbmaaGreatDoor
set_option linter.unusedSimpArgs false
set_option linter.unusedVariables false
open Go

def decode : List Nat → Nat → List Nat
  | [], _ => []
  | s :: r, node => (node / r.prod % s) :: decode r node
theorem decode_len (ss : List Nat) (n : Nat) : (decode ss n).length = ss.length := by induction ss with
  | nil => rfl
  | cons s r ih => simp [decode, ih]
theorem decode_snoc (ss : List Nat) (s n : Nat) : decode (ss ++ [s]) n = decode ss (n / s) ++ [n % s] := by
  induction ss with
  | nil => simp [decode]
  | cons a r ih =>
    simp only [List.cons_append, decode, ih]
    congr 2
    rw [List.prod_append, List.prod_singleton, Nat.div_div_eq_div_mul, Nat.mul_comm s]
theorem decode_at (ss : List Nat) (n i s : Nat) (h : ss[i]? = some s) : (decode ss n)[i]? = some (n / (ss.drop (i + 1)).prod % s) := by
  induction ss generalizing i with
  | nil => simp at h
  | cons a r ih =>
    cases i with
    | zero => simp at h; subst h; simp [decode]
    | succ i => simp only [decode, List.getElem?_cons_succ, List.drop_succ_cons]; exact ih i (by simpa using h)
theorem decode_lt (ss : List Nat) (n i s x : Nat) (hs : ss[i]? = some s) (h0 : 0 < s) (hx : (decode ss n)[i]? = some x) : x < s := by
  rw [decode_at ss n i s hs] at hx
  cases hx
  exact Nat.mod_lt _ h0

def combos : List (Nat × List Nat) → List Nat → List Nat
  | [], out => out
  | p :: r, out => combos r (out.flatMap fun o => p.2.map fun c => o * p.1 + c)
theorem combos_append (a b : List (Nat × List Nat)) (out : List Nat) : combos (a ++ b) out = combos b (combos a out) := by
  induction a generalizing out with
  | nil => rfl
  | cons p a ih => exact ih _
theorem combos_lt (ps : List (Nat × List Nat)) (out : List Nat) (B : Nat) (hB : ∀ o ∈ out, o < B) (hp : ∀ p ∈ ps, ∀ c ∈ p.2, c < p.1) : ∀ r ∈ combos ps out, r < B * (ps.map (·.1)).prod := by
  induction ps generalizing out B with
  | nil => simpa [combos] using hB
  | cons p ps ih =>
    intro r hr
    have := ih (out.flatMap fun o => p.2.map fun c => o * p.1 + c) (B * p.1) (fun o ho => by
      obtain ⟨x, hx, hc⟩ := List.mem_flatMap.1 ho
      obtain ⟨c, hc', rfl⟩ := List.mem_map.1 hc
      have h1 := hB x hx
      have h2 := hp p (by simp) c hc'
      have h3 : (x + 1) * p.1 ≤ B * p.1 := Nat.mul_le_mul_right _ h1
      rw [Nat.add_mul] at h3; omega) (fun q hq => hp q (by simp [hq])) r hr
    simpa [Nat.mul_assoc] using this
theorem combos_len (ps : List (Nat × List Nat)) (out : List Nat) (c : Nat) (hp : ∀ p ∈ ps, p.2.length ≤ c) : (combos ps out).length ≤ out.length * c ^ ps.length := by
  induction ps generalizing out with
  | nil => simp [combos]
  | cons p ps ih =>
    refine Nat.le_trans (ih _ fun q hq => hp q (by simp [hq])) ?_
    have h1 : (out.flatMap fun o => p.2.map fun c => o * p.1 + c).length ≤ out.length * c := by
      rw [List.length_flatMap]
      simp only [List.length_map]
      have := hp p (by simp)
      induction out with
      | nil => simp
      | cons o out ih2 => simp only [List.map_cons, List.sum_cons, List.length_cons, Nat.add_mul]; omega
    have := Nat.mul_le_mul_right (c ^ ps.length) h1
    simp only [List.length_cons, Nat.pow_succ]
    rw [Nat.mul_comm (c ^ ps.length), ← Nat.mul_assoc]
    exact this

def sysCh (s : Sys) (q : Nat) (l : Int) : List Nat := if bit s.alphabet l then (s.edges.filter fun e => decide (e.src = (q : Int)) && decide (e.letter = l)).map fun e => e.dst.toNat else [q]
def sysBits (s : Sys) (q : Nat) (l : Int) : List Nat := if bit s.alphabet l then bitsOf (stepM s (2 ^ q) l) else [q]
theorem ch_bits {s : Sys} (h : sysValid s = true) (q r : Nat) (l : Int) : r ∈ sysCh s q l ↔ r ∈ sysBits s q l := by
  unfold sysCh sysBits
  by_cases hb : bit s.alphabet l = true
  · rw [if_pos hb, if_pos hb, bitsOf_mem, stepM_bit]
    simp only [List.mem_map, List.mem_filter, Bool.and_eq_true, decide_eq_true_eq, Nat.testBit_two_pow]
    constructor
    · rintro ⟨e, ⟨he, h1, h2⟩, rfl⟩
      have := edges_in h he
      exact ⟨this.2.1, e, he, h2, by omega, rfl⟩
    · rintro ⟨_, e, he, h1, h2, rfl⟩
      have := edges_in h he
      exact ⟨e, ⟨he, by omega, h1⟩, rfl⟩
  · rw [if_neg hb, if_neg hb]
theorem ch_lt {s : Sys} (h : sysValid s = true) {q : Nat} (hq : q < s.states.toNat) (l : Int) : ∀ c ∈ sysCh s q l, c < s.states.toNat := by
  intro c hc
  unfold sysCh at hc
  by_cases hb : bit s.alphabet l = true
  · rw [if_pos hb] at hc
    obtain ⟨e, he, rfl⟩ := List.mem_map.1 hc
    obtain ⟨he, _⟩ := List.mem_filter.1 he
    simp only [sysValid, Bool.and_eq_true, decide_eq_true_eq, List.all_eq_true] at h
    obtain ⟨i, hi, rfl⟩ := List.getElem_of_mem he
    have h4 := h.2 i (List.mem_range.2 hi)
    unfold edgeAt at h4
    rw [List.getElem?_eq_getElem hi] at h4
    simp only [Bool.and_eq_true, edgeOk, decide_eq_true_eq] at h4
    omega
  · rw [if_neg hb] at hc
    simp at hc; omega

theorem edgeLt_trans {a b c : Edge} (h : edgeLt a b = true) (h' : edgeLt b c = true) : edgeLt a c = true := by
  simp only [edgeLt, Bool.or_eq_true, Bool.and_eq_true, decide_eq_true_eq] at *
  omega
theorem valid_asc {s : Sys} (h : sysValid s = true) : ∀ (j i : Nat) a b, i < j → s.edges[i]? = some a → s.edges[j]? = some b → edgeLt a b = true := by
  intro j
  induction j with
  | zero => intro i a b hij; omega
  | succ j ih =>
    intro i a b hij ha hb
    simp only [sysValid, Bool.and_eq_true, decide_eq_true_eq, List.all_eq_true] at h
    have h4 := h.2 (j + 1) (List.mem_range.2 (List.getElem?_eq_some_iff.1 hb).1)
    unfold edgeAt at h4
    rw [hb] at h4
    obtain ⟨c, hc⟩ : ∃ c, s.edges[j]? = some c := ⟨_, List.getElem?_eq_getElem (by have := (List.getElem?_eq_some_iff.1 hb).1; omega)⟩
    simp only [hc, Bool.and_eq_true] at h4
    by_cases hij2 : i = j
    · subst hij2; rw [hc] at ha; cases ha; exact h4.2
    · exact edgeLt_trans (ih i a c (by omega) ha hc) h4.2
theorem asc_len {l : List Nat} {lo n : Nat} (h : l.Pairwise (· < ·)) (hn : ∀ x ∈ l, lo ≤ x ∧ x < n) : l.length + lo ≤ n ∨ l = [] := by
  induction l generalizing lo with
  | nil => exact .inr rfl
  | cons x l ih =>
    obtain ⟨h1, h2⟩ := List.pairwise_cons.1 h
    have hx := hn x (by simp)
    rcases ih (lo := x + 1) h2 (fun y hy => ⟨h1 y hy, (hn y (by simp [hy])).2⟩) with h3 | h3
    · exact .inl (by simp; omega)
    · subst h3; exact .inl (by simp; omega)
theorem edges_pairwise {s : Sys} (h : sysValid s = true) : s.edges.Pairwise fun a b => edgeLt a b = true := by
  rw [List.pairwise_iff_getElem]
  intro i j hi hj hij
  exact valid_asc h j i _ _ hij (List.getElem?_eq_getElem hi) (List.getElem?_eq_getElem hj)
theorem ch_len {s : Sys} (h : sysValid s = true) (q : Nat) (l : Int) : (sysCh s q l).length ≤ 16 := by
  unfold sysCh
  by_cases hb : bit s.alphabet l = true
  · rw [if_pos hb]
    have h1 := (edges_pairwise h).filter fun e => decide (e.src = (q : Int)) && decide (e.letter = l)
    have hin : ∀ e ∈ s.edges.filter (fun e => decide (e.src = (q : Int)) && decide (e.letter = l)), e.src = q ∧ e.letter = l ∧ 0 ≤ e.dst ∧ e.dst < 16 := by
      intro e he
      obtain ⟨he, hc⟩ := List.mem_filter.1 he
      simp only [Bool.and_eq_true, decide_eq_true_eq] at hc
      have := edges_in h he
      exact ⟨hc.1, hc.2, by omega, by omega⟩
    generalize s.edges.filter (fun e => decide (e.src = (q : Int)) && decide (e.letter = l)) = es at h1 hin
    have h2 : (es.map fun e => e.dst.toNat).Pairwise (· < ·) := by
      rw [List.pairwise_map]
      refine List.Pairwise.imp_of_mem ?_ h1
      intro a b ha hb hlt
      have := hin a ha; have := hin b hb
      simp only [edgeLt, Bool.or_eq_true, Bool.and_eq_true, decide_eq_true_eq] at hlt
      omega
    rcases asc_len (lo := 0) (n := 16) h2 (fun x hx => by
      obtain ⟨e, he, rfl⟩ := List.mem_map.1 hx
      have := hin e he; omega) with h3 | h3
    · omega
    · rw [h3]; simp
  · rw [if_neg hb]; simp

structure Net where
  parts : List Sys
  autos : List Auto
  letters : Int
def sizesOf (n : Net) : List Nat := (n.parts.map fun s => s.states.toNat) ++ n.autos.map fun a => a.next.length
def pairsOf (n : Net) (states : List Nat) (l : Int) : List (Nat × List Nat) :=
  (n.parts.zip states).map (fun p => (p.1.states.toNat, sysCh p.1 p.2 l)) ++ (n.autos.zip (states.drop n.parts.length)).map fun p => (p.1.next.length, [step p.1 p.2 l])
def netN (n : Net) (node : Nat) (l : Int) : List Nat := combos (pairsOf n (decode (sizesOf n) node) l) [0]


def partsGo (l : Int) : List Sys → Nat → Nat → List Nat → List Nat
  | [], _, _, R => R
  | s :: rs, node, w, R => partsGo l rs (node / s.states.toNat) (w * s.states.toNat) ((sysBits s (node % s.states.toNat) l).flatMap fun q => R.map fun r => q * w + r)
def partsNext (parts : List Sys) (node : Nat) (l : Int) : List Nat := partsGo l parts.reverse node 1 [0]
def partSizes (parts : List Sys) : List Nat := parts.map fun s => s.states.toNat
def partPairs (parts : List Sys) (states : List Nat) (l : Int) : List (Nat × List Nat) := (parts.zip states).map fun p => (p.1.states.toNat, sysCh p.1 p.2 l)
theorem partPairs_snoc (parts : List Sys) (s : Sys) (states : List Nat) (q : Nat) (l : Int) (h : states.length = parts.length) : partPairs (parts ++ [s]) (states ++ [q]) l = partPairs parts states l ++ [(s.states.toNat, sysCh s q l)] := by
  unfold partPairs
  rw [List.zip_append h.symm, List.map_append]; rfl
theorem partsGo_mem (l : Int) (rs : List Sys) (hv : ∀ s ∈ rs, sysValid s = true) (node w : Nat) (R : List Nat) (r : Nat) :
    r ∈ partsGo l rs node w R ↔ ∃ o ∈ combos (partPairs rs.reverse (decode (partSizes rs.reverse) node) l) [0], ∃ x ∈ R, r = o * w + x := by
  induction rs generalizing node w R with
  | nil => simp [partsGo, partPairs, combos]
  | cons s rs ih =>
    rw [partsGo, ih (fun x hx => hv x (by simp [hx]))]
    have e1 : partSizes (s :: rs).reverse = partSizes rs.reverse ++ [s.states.toNat] := by simp [partSizes]
    rw [e1, decode_snoc, List.reverse_cons, partPairs_snoc _ _ _ _ _ (by rw [decode_len]; simp [partSizes]), combos_append]
    simp only [combos, List.mem_flatMap, List.mem_map]
    constructor
    · rintro ⟨o, ho, x, ⟨q, hq, y, hy, rfl⟩, rfl⟩
      exact ⟨o * s.states.toNat + q, ⟨o, ho, q, (ch_bits (hv s (by simp)) _ _ _).2 hq, rfl⟩, y, hy, by rw [Nat.add_mul, Nat.mul_assoc, Nat.mul_comm s.states.toNat]; omega⟩
    · rintro ⟨o', ⟨o, ho, q, hq, rfl⟩, y, hy, rfl⟩
      exact ⟨o, ho, q * w + y, ⟨q, (ch_bits (hv s (by simp)) _ _ _).1 hq, y, hy, rfl⟩, by rw [Nat.add_mul, Nat.mul_assoc, Nat.mul_comm s.states.toNat]; omega⟩
theorem partsNext_mem (parts : List Sys) (hv : ∀ s ∈ parts, sysValid s = true) (node : Nat) (l : Int) (r : Nat) :
    r ∈ partsNext parts node l ↔ r ∈ combos (partPairs parts (decode (partSizes parts) node) l) [0] := by
  unfold partsNext
  rw [partsGo_mem l _ (fun s hs => hv s (by simpa using hs)), List.reverse_reverse]
  simp

def brokenN (parts : List Sys) (a p : Auto) (node : Nat) (l : Int) : List Nat :=
  (partsNext parts (node / p.next.length / a.next.length) l).map fun x => x * a.next.length * p.next.length + (step a (node / p.next.length % a.next.length) l * p.next.length + step p (node % p.next.length) l)
def trivAuto : Auto := ⟨0, [[]], [true]⟩
theorem triv_step (q : Nat) (l : Int) : step trivAuto q l = q := by simp [step, trivAuto, bit]
end Go.Proofs.YtanekmfifmkbmaaGreatDoor
