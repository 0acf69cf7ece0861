/- Merged: WalkSE, WalkSF, WalkSG, WalkSH. -/
import Derived.Test.YtajafdblmphglaaGreatDoorWalkSA

namespace Go.Proofs.YtajafdblmphglaaGreatDoor
set_option linter.unusedSimpArgs false
set_option linter.unusedVariables false
open Go.RowKit

set_option maxHeartbeats 1600000
set_option maxRecDepth 100000

/-- Lists of lists, in memory of their own. -/
def LL (base : Nat) (w : World) (v : Value) (ll : List (List Int)) : Prop := ∃ vs, w.ownsRow base 81 1 v ll.length vs ∧ ∀ (i : Nat) l, ll[i]? = some l → ∃ u, vs[i]? = some u ∧ IntsOwn 3 0 w u l
def LLL (base : Nat) (w : World) (v : Value) (lll : List (List (List Int))) : Prop := ∃ vs, w.ownsRow base 26 1 v lll.length vs ∧ ∀ (i : Nat) ll, lll[i]? = some ll → ∃ u, vs[i]? = some u ∧ LL 0 w u ll
def TabsAt (w : World) (b o : Nat) (ll : List (List Int)) : Prop := ∃ v, w.cell? ⟨b, o, none⟩ = some v ∧ IntssV w v ll
abbrev IntsssV := SlV TabsAt 1
theorem TabsAt.mono {w w' : World} (h : Ext w w') {b o : Nat} {ll : List (List Int)} (k : TabsAt w b o ll) : TabsAt w' b o ll := let ⟨v, h1, h2⟩ := k; ⟨v, h.cell h1, h2.mono h⟩
theorem IntsssV.mono {w w' : World} (h : Ext w w') {v : Value} {l : List (List (List Int))} (k : IntsssV w v l) : IntsssV w' v l := SlV.mono k (fun _ _ _ _ => TabsAt.mono h) h.size
theorem LL.ext {base : Nat} {w w' : World} {v : Value} {ll : List (List Int)} (h : LL base w v ll) (he : Ext w w') : LL base w' v ll := let ⟨vs, h1, h2⟩ := h; ⟨vs, own_ext h1 he, fun i l hi => let ⟨u, h3, h4⟩ := h2 i l hi; ⟨u, h3, h4.ext he⟩⟩
theorem LL.low {base base' : Nat} {w : World} {v : Value} {ll : List (List Int)} (h : LL base w v ll) (hb : base' ≤ base) : LL base' w v ll := let ⟨vs, h1, h2⟩ := h; ⟨vs, own_base h1 hb, h2⟩
theorem LL.intss {base : Nat} {w : World} {v : Value} {ll : List (List Int)} (h : LL base w v ll) : IntssV w v ll := by
  obtain ⟨vs, h1, h2⟩ := h
  refine SlV_of_own h1 fun g cap hv i l hi => ?_
  obtain ⟨u, h3, h4⟩ := h2 i l hi
  subst hv
  rw [Nat.mul_one]
  exact ⟨u, own_cell h1 h3, h4.ints⟩
theorem LL.grown {base base' : Nat} {w w' : World} {v u : Value} {ll : List (List Int)} {e' : TypeId} {size' n' : Nat} {us : List Value} (h : LL base w v ll) (hu : w.ownsRow base' e' size' u n' us) (hg : w.grownBy w' u.ownBlock) (h1 : 81 ≠ e') (h2 : 3 ≠ e') : LL base w' v ll :=
  let ⟨vs, k1, k2⟩ := h; ⟨vs, own_grown k1 hu hg h1, fun i l hi => let ⟨x, h3, h4⟩ := k2 i l hi; ⟨x, h3, own_grown h4 hu hg h2⟩⟩
theorem LL.push {base : Nat} {w w' : World} {v v' x : Value} {ll ll' : List (List Int)} {l : List Int} {vs : List Value} (hown : w.ownsRow base 81 1 v ll.length vs) (hr : ∀ (i : Nat) l, ll[i]? = some l → ∃ u, vs[i]? = some u ∧ IntsOwn 3 0 w u l) (hx : IntsOwn 3 0 w x l)
    (h1 : w'.ownsRow base 81 1 v' (ll.length + 1) (vs ++ [x])) (hg : w.grownBy w' v.ownBlock) (hl : ll' = ll ++ [l]) : LL base w' v' ll' := by
  subst hl
  refine ⟨_, by simpa using h1, fun i m hi => ?_⟩
  have hvl : vs.length = ll.length := by have := hown.1; simpa using this
  by_cases hlt : i < ll.length
  · rw [List.getElem?_append_left hlt] at hi
    obtain ⟨u, h3, h4⟩ := hr i m hi
    exact ⟨u, by rw [List.getElem?_append_left (by omega)]; exact h3, own_grown h4 hown hg (by decide)⟩
  · have := (List.getElem?_eq_some_iff.1 hi).1
    simp at this
    obtain rfl : i = ll.length := by omega
    rw [List.getElem?_concat_length] at hi
    cases hi
    exact ⟨x, by rw [← hvl, List.getElem?_concat_length], own_grown hx hown hg (by decide)⟩
theorem LLL.ext {base : Nat} {w w' : World} {v : Value} {ll : List (List (List Int))} (h : LLL base w v ll) (he : Ext w w') : LLL base w' v ll := let ⟨vs, h1, h2⟩ := h; ⟨vs, own_ext h1 he, fun i l hi => let ⟨u, h3, h4⟩ := h2 i l hi; ⟨u, h3, h4.ext he⟩⟩
theorem LLL.push {base : Nat} {w w' : World} {v v' x : Value} {ll ll' : List (List (List Int))} {l : List (List Int)} {vs : List Value} (hown : w.ownsRow base 26 1 v ll.length vs) (hr : ∀ (i : Nat) l, ll[i]? = some l → ∃ u, vs[i]? = some u ∧ LL 0 w u l) (hx : LL 0 w x l)
    (h1 : w'.ownsRow base 26 1 v' (ll.length + 1) (vs ++ [x])) (hg : w.grownBy w' v.ownBlock) (hl : ll' = ll ++ [l]) : LLL base w' v' ll' := by
  subst hl
  refine ⟨_, by simpa using h1, fun i m hi => ?_⟩
  have hvl : vs.length = ll.length := by have := hown.1; simpa using this
  by_cases hlt : i < ll.length
  · rw [List.getElem?_append_left hlt] at hi
    obtain ⟨u, h3, h4⟩ := hr i m hi
    exact ⟨u, by rw [List.getElem?_append_left (by omega)]; exact h3, h4.grown hown hg (by decide) (by decide)⟩
  · have := (List.getElem?_eq_some_iff.1 hi).1
    simp at this
    obtain rfl : i = ll.length := by omega
    rw [List.getElem?_concat_length] at hi
    cases hi
    exact ⟨x, by rw [← hvl, List.getElem?_concat_length], hx.grown hown hg (by decide) (by decide)⟩
end Go.Proofs.YtajafdblmphglaaGreatDoor

namespace Go.Proofs.YtajafdblmphglaaGreatDoor
set_option linter.unusedSimpArgs false
set_option linter.unusedVariables false
open Go.RowKit

set_option maxHeartbeats 1600000
set_option maxRecDepth 100000

end Go.Proofs.YtajafdblmphglaaGreatDoor

namespace Go.Proofs.YtajafdblmphglaaGreatDoor
set_option linter.unusedSimpArgs false
set_option linter.unusedVariables false
open Go.RowKit

set_option maxHeartbeats 1600000
set_option maxRecDepth 100000

theorem nodup_len (l : List Nat) (n : Nat) (h : l.Nodup) (hb : ∀ x ∈ l, x < n) : l.length ≤ n := by
  induction n generalizing l with
  | zero =>
    cases l with
    | nil => simp
    | cons a l => have := hb a (by simp); omega
  | succ n ih =>
    have h1 := ih (l.erase n) (h.erase n) fun x hx => by
      obtain ⟨h2, h3⟩ := (List.Nodup.mem_erase_iff h).1 hx
      have := hb x h3
      omega
    by_cases hm : n ∈ l
    · rw [List.length_erase_of_mem hm] at h1; omega
    · rw [List.erase_of_not_mem hm] at h1; omega
end Go.Proofs.YtajafdblmphglaaGreatDoor

namespace Go.Proofs.YtajafdblmphglaaGreatDoor
set_option linter.unusedSimpArgs false
set_option linter.unusedVariables false
open Go.RowKit

set_option maxHeartbeats 1600000
set_option maxRecDepth 100000

def unsetN (D : List Int) : Nat := (D.filter fun x => x == -1).length
theorem unsetN_set {D : List Int} {i : Nat} {x : Int} (h : D[i]? = some (-1)) (hx : x ≠ -1) : unsetN (D.set i x) + 1 = unsetN D := by
  unfold unsetN
  induction D generalizing i with
  | nil => simp at h
  | cons a D ih =>
    cases i with
    | zero =>
      simp at h; subst h
      simp [List.filter_cons, hx]
    | succ i =>
      simp at h
      have := ih h
      simp only [List.set_cons_succ, List.filter_cons]
      split <;> (try simp only [List.length_cons]) <;> omega
/-- The distance that a list holds. -/
def dst (D : List Int) (m : Nat) : Int := D.getD m (-1)
theorem dst_at {D : List Int} {m : Nat} {x : Int} (h : D[m]? = some x) : dst D m = x := by unfold dst; rw [List.getD_eq_getElem?_getD, h]; rfl
theorem dst_set {D : List Int} {i : Nat} {x : Int} (h : i < D.length) (m : Nat) : dst (D.set i x) m = if m = i then x else dst D m := by
  unfold dst
  rw [List.getD_eq_getElem?_getD, List.getD_eq_getElem?_getD, List.getElem?_set]
  by_cases hm : m = i
  · subst hm; simp [h]
  · rw [if_neg hm, if_neg (Ne.symm hm)]

/-- A pass of the distances at level d has come to i. -/
structure Pass (N : Nat → Int → List Nat) (L : List Int) (G : Nat → Bool) (total d i : Nat) (D : List Int) (ch : Bool) : Prop where
  len : D.length = total
  lo : ∀ m, m < i → m < total → Lev N L G ((d : Int) + 1) m (dst D m)
  hi : ∀ m, i ≤ m → m < total → Lev N L G d m (dst D m)
  calm : ch = false → ∀ m, m < i → m < total → dst D m ≠ (d : Int) + 1
  un : unsetN D + d + (if ch = true then 1 else 0) ≤ total
theorem lev_neg {N : Nat → Int → List Nat} {L : List Int} {G : Nat → Bool} {d : Int} {n : Nat} {x : Int} (h : Lev N L G d n x) (hx : x < 0) : x = -1 := by
  rcases h with ⟨h, _⟩ | ⟨h, _⟩
  · exact h
  · omega
theorem lev_le {N : Nat → Int → List Nat} {L : List Int} {G : Nat → Bool} {d : Int} {n : Nat} {x : Int} (h : Lev N L G d n x) (hd : 0 ≤ d) : x ≤ d := by
  rcases h with ⟨h, _⟩ | ⟨_, h, _⟩ <;> omega
section
variable {N : Nat → Int → List Nat} {L : List Int} {G : Nat → Bool} {total d i : Nat} {D : List Int} {ch : Bool}
theorem Pass.any (h : Pass N L G total d i D ch) (hN : ∀ node, node < total → ∀ l ∈ L, ∀ m, m ∈ N node l → m < total) (hi : i < total) : ∀ l ∈ L, ∀ m, m ∈ N i l → Lev N L G d m (dst D m) ∨ Lev N L G ((d : Int) + 1) m (dst D m) := by
  intro l hl m hm
  have hmt := hN i hi l hl m hm
  by_cases hmi : m < i
  · exact .inr (h.lo m hmi hmt)
  · exact .inl (h.hi m (by omega) hmt)
theorem Pass.keep (h : Pass N L G total d i D ch) (hi : i < total) (hx : 0 ≤ dst D i) : Pass N L G total d (i + 1) D ch where
  len := h.len
  lo := fun m hm hmt => by
    by_cases hmi : m = i
    · subst hmi; exact (h.hi m (Nat.le_refl _) hmt).keep hx
    · exact h.lo m (by omega) hmt
  hi := fun m hm hmt => h.hi m (by omega) hmt
  calm := fun hc m hm hmt => by
    by_cases hmi : m = i
    · subst hmi; have := lev_le (h.hi m (Nat.le_refl _) hmt) (by omega); omega
    · exact h.calm hc m (by omega) hmt
  un := h.un
theorem Pass.not (h : Pass N L G total d i D ch) (hN : ∀ node, node < total → ∀ l ∈ L, ∀ m, m ∈ N node l → m < total) (hi : i < total) (hx : dst D i < 0) (hn : ¬ NearTo (N := N) (L := L) (dst D) i d) : Pass N L G total d (i + 1) D ch where
  len := h.len
  lo := fun m hm hmt => by
    by_cases hmi : m = i
    · subst hmi
      have h1 := h.hi m (Nat.le_refl _) hmt
      have h2 := lev_neg h1 hx
      rw [h2] at h1 ⊢
      exact Lev.not (by omega) (h.any hN hmt) h1 hn
    · exact h.lo m (by omega) hmt
  hi := fun m hm hmt => h.hi m (by omega) hmt
  calm := fun hc m hm hmt => by
    by_cases hmi : m = i
    · subst hmi; omega
    · exact h.calm hc m (by omega) hmt
  un := h.un
theorem Pass.set (h : Pass N L G total d i D ch) (hN : ∀ node, node < total → ∀ l ∈ L, ∀ m, m ∈ N node l → m < total) (hi : i < total) (hx : dst D i < 0) (hn : NearTo (N := N) (L := L) (dst D) i d) : Pass N L G total d (i + 1) (D.set i ((d : Int) + 1)) true where
  len := by rw [List.length_set]; exact h.len
  lo := fun m hm hmt => by
    rw [dst_set (by rw [h.len]; exact hi)]
    by_cases hmi : m = i
    · subst hmi
      rw [if_pos rfl]
      have h1 := h.hi m (Nat.le_refl _) hmt
      have h2 := lev_neg h1 hx
      rw [h2] at h1
      exact Lev.set (by omega) (h.any hN hmt) h1 hn
    · rw [if_neg hmi]; exact h.lo m (by omega) hmt
  hi := fun m hm hmt => by
    rw [dst_set (by rw [h.len]; exact hi), if_neg (by omega)]; exact h.hi m (by omega) hmt
  calm := fun hc => by cases hc
  un := by
    have h1 := h.hi i (Nat.le_refl _) hi
    have h2 := lev_neg h1 hx
    have h3 : D[i]? = some (-1) := by
      have e := List.getElem?_eq_getElem (show i < D.length by rw [h.len]; exact hi)
      rw [dst_at e] at h2
      rw [e, h2]
    have h4 := unsetN_set (x := (d : Int) + 1) h3 (by omega)
    have h5 := h.un
    simp only [if_true]
    split at h5 <;> omega
end

end Go.Proofs.YtajafdblmphglaaGreatDoor
