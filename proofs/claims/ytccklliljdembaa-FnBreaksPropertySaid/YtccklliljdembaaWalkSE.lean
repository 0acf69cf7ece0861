/- Merged: WalkSE, WalkSF, WalkSG, WalkSH. -/
import Derived.Test.YtccklliljdembaaWalkSA

namespace Go.Proofs.Ytccklliljdembaa
set_option linter.unusedSimpArgs false
set_option linter.unusedVariables false
open Go.RowKit

set_option maxHeartbeats 1600000
set_option maxRecDepth 100000

/-- Lists of lists, in memory of their own. -/
def LL (base : Nat) (w : World) (v : Value) (ll : List (List Int)) : Prop := ∃ vs, w.ownsRow base 43 1 v ll.length vs ∧ ∀ (i : Nat) l, ll[i]? = some l → ∃ u, vs[i]? = some u ∧ IntsOwn 3 0 w u l
def LLL (base : Nat) (w : World) (v : Value) (lll : List (List (List Int))) : Prop := ∃ vs, w.ownsRow base 23 1 v lll.length vs ∧ ∀ (i : Nat) ll, lll[i]? = some ll → ∃ u, vs[i]? = some u ∧ LL 0 w u ll
def TabsAt (w : World) (b o : Nat) (ll : List (List Int)) : Prop := ∃ v, w.cell? ⟨b, o, none⟩ = some v ∧ IntssV w v ll
abbrev IntsssV := SlV TabsAt 1
theorem TabsAt.mono {w w' : World} (h : Ext w w') {b o : Nat} {ll : List (List Int)} (k : TabsAt w b o ll) : TabsAt w' b o ll := let ⟨v, h1, h2⟩ := k; ⟨v, h.cell h1, h2.mono h⟩
theorem IntsssV.mono {w w' : World} (h : Ext w w') {v : Value} {l : List (List (List Int))} (k : IntsssV w v l) : IntsssV w' v l := SlV.mono k (fun _ _ _ _ => TabsAt.mono h) h.size
theorem LL.ext {base : Nat} {w w' : World} {v : Value} {ll : List (List Int)} (h : LL base w v ll) (he : Ext w w') : LL base w' v ll := let ⟨vs, h1, h2⟩ := h; ⟨vs, own_ext h1 he, fun i l hi => let ⟨u, h3, h4⟩ := h2 i l hi; ⟨u, h3, h4.ext he⟩⟩
theorem LL.low {base base' : Nat} {w : World} {v : Value} {ll : List (List Int)} (h : LL base w v ll) (hb : base' ≤ base) : LL base' w v ll := let ⟨vs, h1, h2⟩ := h; ⟨vs, own_base h1 hb, h2⟩
theorem LL.intss {base : Nat} {w : World} {v : Value} {ll : List (List Int)} (h : LL base w v ll) : IntssV w v ll := by
  obtain ⟨vs, h1, h2⟩ := h
  refine SlV_of_own h1 fun g cap hv i l hi => ?_
  obtain ⟨u, h3, h4⟩ := h2 i l hi
  subst hv
  rw [Nat.mul_one]
  exact ⟨u, own_cell h1 h3, h4.ints⟩
theorem LL.grown {base base' : Nat} {w w' : World} {v u : Value} {ll : List (List Int)} {e' : TypeId} {size' n' : Nat} {us : List Value} (h : LL base w v ll) (hu : w.ownsRow base' e' size' u n' us) (hg : w.grownBy w' u.ownBlock) (h1 : 43 ≠ e') (h2 : 3 ≠ e') : LL base w' v ll :=
  let ⟨vs, k1, k2⟩ := h; ⟨vs, own_grown k1 hu hg h1, fun i l hi => let ⟨x, h3, h4⟩ := k2 i l hi; ⟨x, h3, own_grown h4 hu hg h2⟩⟩
theorem LL.push {base : Nat} {w w' : World} {v v' x : Value} {ll ll' : List (List Int)} {l : List Int} {vs : List Value} (hown : w.ownsRow base 43 1 v ll.length vs) (hr : ∀ (i : Nat) l, ll[i]? = some l → ∃ u, vs[i]? = some u ∧ IntsOwn 3 0 w u l) (hx : IntsOwn 3 0 w x l)
    (h1 : w'.ownsRow base 43 1 v' (ll.length + 1) (vs ++ [x])) (hg : w.grownBy w' v.ownBlock) (hl : ll' = ll ++ [l]) : LL base w' v' ll' := by
  subst hl
  refine ⟨_, by simpa using h1, fun i m hi => ?_⟩
  have hvl : vs.length = ll.length := by have := hown.1; simpa using this
  by_cases hlt : i < ll.length
  · rw [List.getElem?_append_left hlt] at hi
    obtain ⟨u, h3, h4⟩ := hr i m hi
    exact ⟨u, by rw [List.getElem?_append_left (by omega)]; exact h3, own_grown h4 hown hg (by decide)⟩
  · have := (List.getElem?_eq_some_iff.1 hi).1
    simp at this
    obtain rfl : i = ll.length := by omega
    rw [List.getElem?_concat_length] at hi
    cases hi
    exact ⟨x, by rw [← hvl, List.getElem?_concat_length], own_grown hx hown hg (by decide)⟩
theorem LLL.ext {base : Nat} {w w' : World} {v : Value} {ll : List (List (List Int))} (h : LLL base w v ll) (he : Ext w w') : LLL base w' v ll := let ⟨vs, h1, h2⟩ := h; ⟨vs, own_ext h1 he, fun i l hi => let ⟨u, h3, h4⟩ := h2 i l hi; ⟨u, h3, h4.ext he⟩⟩
theorem LLL.intsss {base : Nat} {w : World} {v : Value} {ll : List (List (List Int))} (h : LLL base w v ll) : IntsssV w v ll := by
  obtain ⟨vs, h1, h2⟩ := h
  refine SlV_of_own h1 fun g cap hv i l hi => ?_
  obtain ⟨u, h3, h4⟩ := h2 i l hi
  subst hv
  rw [Nat.mul_one]
  exact ⟨u, own_cell h1 h3, h4.intss⟩
theorem LLL.push {base : Nat} {w w' : World} {v v' x : Value} {ll ll' : List (List (List Int))} {l : List (List Int)} {vs : List Value} (hown : w.ownsRow base 23 1 v ll.length vs) (hr : ∀ (i : Nat) l, ll[i]? = some l → ∃ u, vs[i]? = some u ∧ LL 0 w u l) (hx : LL 0 w x l)
    (h1 : w'.ownsRow base 23 1 v' (ll.length + 1) (vs ++ [x])) (hg : w.grownBy w' v.ownBlock) (hl : ll' = ll ++ [l]) : LLL base w' v' ll' := by
  subst hl
  refine ⟨_, by simpa using h1, fun i m hi => ?_⟩
  have hvl : vs.length = ll.length := by have := hown.1; simpa using this
  by_cases hlt : i < ll.length
  · rw [List.getElem?_append_left hlt] at hi
    obtain ⟨u, h3, h4⟩ := hr i m hi
    exact ⟨u, by rw [List.getElem?_append_left (by omega)]; exact h3, h4.grown hown hg (by decide) (by decide)⟩
  · have := (List.getElem?_eq_some_iff.1 hi).1
    simp at this
    obtain rfl : i = ll.length := by omega
    rw [List.getElem?_concat_length] at hi
    cases hi
    exact ⟨x, by rw [← hvl, List.getElem?_concat_length], hx.grown hown hg (by decide) (by decide)⟩
theorem own_shape1 {w : World} {base : Nat} {e : TypeId} {v : Value} {n : Nat} {vs : List Value} (h : w.ownsRow base e 1 v n vs) : ∃ a c, v = .slice a n c := by
  rcases own_shape h with ⟨rfl, h0⟩ | ⟨g, cap, rfl, _⟩
  · exact ⟨none, 0, by rw [h0]⟩
  · exact ⟨_, _, rfl⟩
theorem infoIntss : (Try.prog.info? 23).map (fun i => (i.zero, i.size, i.bytes)) = some (some (.slice none 0 0), 1, 24) := by kernel_rfl

/-- The rows of a node, of the first m letters; of the first k nodes. -/
def rowsTo (n : Net) (node : Nat) (L : List Int) (m : Nat) : List (List Int) := (L.take m).map fun l => ints (netN n node l)
def movesTo (n : Net) (L : List Int) (k : Nat) : List (List (List Int)) := (List.range k).map fun node => L.map fun l => ints (netN n node l)
theorem rowsTo_succ {n : Net} {node : Nat} {L : List Int} {m : Nat} {l : Int} (h : L[m]? = some l) : rowsTo n node L (m + 1) = rowsTo n node L m ++ [ints (netN n node l)] := by
  unfold rowsTo; rw [List.take_add_one, h, List.map_append]; rfl
theorem rowsTo_len (n : Net) (node : Nat) (L : List Int) (m : Nat) (h : m ≤ L.length) : (rowsTo n node L m).length = m := by unfold rowsTo; simp; omega
theorem movesTo_succ (n : Net) (L : List Int) (k : Nat) : movesTo n L (k + 1) = movesTo n L k ++ [rowsTo n k L L.length] := by
  unfold movesTo rowsTo; rw [List.range_succ, List.map_append, List.take_length]; rfl
theorem movesTo_len (n : Net) (L : List Int) (k : Nat) : (movesTo n L k).length = k := by simp [movesTo]
theorem letters_len (a : Int) : (letters a).length ≤ 6 := lettersTo_len a 6

theorem l1Letters_o (a : Int) (w : World) (ha : 0 ≤ a) (ha2 : a ≤ 63) :
    Calls Try.prog 33 #[.int .i64 a] w (Gives (fun v w' => IntsOwn 3 w.heap.size w' v (letters a)) w) := by
  go_enter Try.func33, Try.ntmps33
  go_wp2_with fail
  go_loopw [3, 4] (fun v i wr => ∃ k : Nat, k ≤ 6 ∧ i = .int .i64 k ∧ IntsOwn 3 w.heap.size wr v (lettersTo a k) ∧ Ext w wr) (fun _ i _ => 6 - (intOf i).toNat)
  case atStart => exact ⟨0, by omega, rfl, IntsOwn.lit _ _, Ext.alloc _ _⟩
  case round =>
    obtain ⟨k, hk, rfl, hown, hext⟩ := hrel
    have hsz := hext.size
    by_cases hlt : k < 6
    · have HS := Lib.hid (lettersTo_succ a k)
      have hlen := lettersTo_len a k
      by_cases hb : bit a k = true
      · go_wp2_with (first | (go_at_call 45; refine (l1Has_c _ _ _ (by omega) (by omega) (by omega) (by omega)).mono ?_; rintro e w' ⟨rfl, rfl⟩) | (at_builtin; refine app1 rfl rfl Try.underlying43 infoInt rfl (by decide) hown.own rfl rfl rfl (by simp [Value.oneCell']) (by omega) (by decide) (by omega) ?_; intro v1 w1 hown1 hgr1 hbl1))
        exact ⟨⟨k + 1, by omega, by go_num, IntsOwn.push hown1 (by rw [HS.out, if_pos hb]), Below.trans hext hbl1⟩, by simp [intOf]; omega⟩
      · go_wp2_with (first | (go_at_call 45; refine (l1Has_c _ _ _ (by omega) (by omega) (by omega) (by omega)).mono ?_; rintro e w' ⟨rfl, rfl⟩))
        exact ⟨⟨k + 1, by omega, by go_num, by rw [HS.out, if_neg hb, List.append_nil]; exact hown, hext⟩, by simp [intOf]; omega⟩
    · obtain rfl : k = 6 := by omega
      go_wp2_with fail
      go_ret
      exact Gives.mk rfl hext hown

end Go.Proofs.Ytccklliljdembaa

namespace Go.Proofs.Ytccklliljdembaa
set_option linter.unusedSimpArgs false
set_option linter.unusedVariables false
open Go.RowKit

set_option maxHeartbeats 1600000
set_option maxRecDepth 100000

/-- Is the i-th automaton of the net in a state that it accepts? -/
def okAt (n : Net) (node i : Nat) : Bool := match n.autos[i]? with
  | some a => accepts a ((decode (sizesOf n) node).getD (n.parts.length + i) 0)
  | none => false

end Go.Proofs.Ytccklliljdembaa

namespace Go.Proofs.Ytccklliljdembaa
set_option linter.unusedSimpArgs false
set_option linter.unusedVariables false
open Go.RowKit

set_option maxHeartbeats 1600000
set_option maxRecDepth 100000

theorem nodup_len (l : List Nat) (n : Nat) (h : l.Nodup) (hb : ∀ x ∈ l, x < n) : l.length ≤ n := by
  induction n generalizing l with
  | zero =>
    cases l with
    | nil => simp
    | cons a l => have := hb a (by simp); omega
  | succ n ih =>
    have h1 := ih (l.erase n) (h.erase n) fun x hx => by
      obtain ⟨h2, h3⟩ := (List.Nodup.mem_erase_iff h).1 hx
      have := hb x h3
      omega
    by_cases hm : n ∈ l
    · rw [List.length_erase_of_mem hm] at h1; omega
    · rw [List.erase_of_not_mem hm] at h1; omega
theorem mem_ints {m : Nat} {l : List Nat} : (m : Int) ∈ ints l ↔ m ∈ l := by
  unfold ints
  rw [List.mem_map]
  constructor
  · rintro ⟨x, hx, he⟩
    have : x = m := by omega
    subst this; exact hx
  · intro h; exact ⟨m, h, rfl⟩
theorem movesTo_at {n : Net} {L : List Int} {total x : Nat} (h : x < total) : (movesTo n L total)[x]? = some (L.map fun l => ints (netN n x l)) := by simp [movesTo, h]
theorem netN_len {n : Net} (h : NetOk n) (node : Nat) (l : Int) : (netN n node l).length ≤ 1048576 := by rw [← nx_full]; exact nx_len h node l _

end Go.Proofs.Ytccklliljdembaa

namespace Go.Proofs.Ytccklliljdembaa
set_option linter.unusedSimpArgs false
set_option linter.unusedVariables false
open Go.RowKit

set_option maxHeartbeats 1600000
set_option maxRecDepth 100000

def unsetN (D : List Int) : Nat := (D.filter fun x => x == -1).length
theorem unsetN_le (D : List Int) : unsetN D ≤ D.length := List.length_filter_le _ _
theorem unsetN_set {D : List Int} {i : Nat} {x : Int} (h : D[i]? = some (-1)) (hx : x ≠ -1) : unsetN (D.set i x) + 1 = unsetN D := by
  unfold unsetN
  induction D generalizing i with
  | nil => simp at h
  | cons a D ih =>
    cases i with
    | zero =>
      simp at h; subst h
      simp [List.filter_cons, hx]
    | succ i =>
      simp at h
      have := ih h
      simp only [List.set_cons_succ, List.filter_cons]
      split <;> (try simp only [List.length_cons]) <;> omega
/-- The distance that a list holds. -/
def dst (D : List Int) (m : Nat) : Int := D.getD m (-1)
theorem dst_at {D : List Int} {m : Nat} {x : Int} (h : D[m]? = some x) : dst D m = x := by unfold dst; rw [List.getD_eq_getElem?_getD, h]; rfl
theorem dst_set {D : List Int} {i : Nat} {x : Int} (h : i < D.length) (m : Nat) : dst (D.set i x) m = if m = i then x else dst D m := by
  unfold dst
  rw [List.getD_eq_getElem?_getD, List.getD_eq_getElem?_getD, List.getElem?_set]
  by_cases hm : m = i
  · subst hm; simp [h]
  · rw [if_neg hm, if_neg (Ne.symm hm)]

/-- A pass of the distances at level d has come to i. -/
structure Pass (N : Nat → Int → List Nat) (L : List Int) (G : Nat → Bool) (total d i : Nat) (D : List Int) (ch : Bool) : Prop where
  len : D.length = total
  lo : ∀ m, m < i → m < total → Lev N L G ((d : Int) + 1) m (dst D m)
  hi : ∀ m, i ≤ m → m < total → Lev N L G d m (dst D m)
  calm : ch = false → ∀ m, m < i → m < total → dst D m ≠ (d : Int) + 1
  un : unsetN D + d + (if ch = true then 1 else 0) ≤ total
theorem lev_neg {N : Nat → Int → List Nat} {L : List Int} {G : Nat → Bool} {d : Int} {n : Nat} {x : Int} (h : Lev N L G d n x) (hx : x < 0) : x = -1 := by
  rcases h with ⟨h, _⟩ | ⟨h, _⟩
  · exact h
  · omega
theorem lev_le {N : Nat → Int → List Nat} {L : List Int} {G : Nat → Bool} {d : Int} {n : Nat} {x : Int} (h : Lev N L G d n x) (hd : 0 ≤ d) : x ≤ d := by
  rcases h with ⟨h, _⟩ | ⟨_, h, _⟩ <;> omega
section
variable {N : Nat → Int → List Nat} {L : List Int} {G : Nat → Bool} {total d i : Nat} {D : List Int} {ch : Bool}
theorem Pass.any (h : Pass N L G total d i D ch) (hN : ∀ node, node < total → ∀ l ∈ L, ∀ m, m ∈ N node l → m < total) (hi : i < total) : ∀ l ∈ L, ∀ m, m ∈ N i l → Lev N L G d m (dst D m) ∨ Lev N L G ((d : Int) + 1) m (dst D m) := by
  intro l hl m hm
  have hmt := hN i hi l hl m hm
  by_cases hmi : m < i
  · exact .inr (h.lo m hmi hmt)
  · exact .inl (h.hi m (by omega) hmt)
theorem Pass.keep (h : Pass N L G total d i D ch) (hi : i < total) (hx : 0 ≤ dst D i) : Pass N L G total d (i + 1) D ch where
  len := h.len
  lo := fun m hm hmt => by
    by_cases hmi : m = i
    · subst hmi; exact (h.hi m (Nat.le_refl _) hmt).keep hx
    · exact h.lo m (by omega) hmt
  hi := fun m hm hmt => h.hi m (by omega) hmt
  calm := fun hc m hm hmt => by
    by_cases hmi : m = i
    · subst hmi; have := lev_le (h.hi m (Nat.le_refl _) hmt) (by omega); omega
    · exact h.calm hc m (by omega) hmt
  un := h.un
theorem Pass.not (h : Pass N L G total d i D ch) (hN : ∀ node, node < total → ∀ l ∈ L, ∀ m, m ∈ N node l → m < total) (hi : i < total) (hx : dst D i < 0) (hn : ¬ NearTo (N := N) (L := L) (dst D) i d) : Pass N L G total d (i + 1) D ch where
  len := h.len
  lo := fun m hm hmt => by
    by_cases hmi : m = i
    · subst hmi
      have h1 := h.hi m (Nat.le_refl _) hmt
      have h2 := lev_neg h1 hx
      rw [h2] at h1 ⊢
      exact Lev.not (by omega) (h.any hN hmt) h1 hn
    · exact h.lo m (by omega) hmt
  hi := fun m hm hmt => h.hi m (by omega) hmt
  calm := fun hc m hm hmt => by
    by_cases hmi : m = i
    · subst hmi; omega
    · exact h.calm hc m (by omega) hmt
  un := h.un
theorem Pass.set (h : Pass N L G total d i D ch) (hN : ∀ node, node < total → ∀ l ∈ L, ∀ m, m ∈ N node l → m < total) (hi : i < total) (hx : dst D i < 0) (hn : NearTo (N := N) (L := L) (dst D) i d) : Pass N L G total d (i + 1) (D.set i ((d : Int) + 1)) true where
  len := by rw [List.length_set]; exact h.len
  lo := fun m hm hmt => by
    rw [dst_set (by rw [h.len]; exact hi)]
    by_cases hmi : m = i
    · subst hmi
      rw [if_pos rfl]
      have h1 := h.hi m (Nat.le_refl _) hmt
      have h2 := lev_neg h1 hx
      rw [h2] at h1
      exact Lev.set (by omega) (h.any hN hmt) h1 hn
    · rw [if_neg hmi]; exact h.lo m (by omega) hmt
  hi := fun m hm hmt => by
    rw [dst_set (by rw [h.len]; exact hi), if_neg (by omega)]; exact h.hi m (by omega) hmt
  calm := fun hc => by cases hc
  un := by
    have h1 := h.hi i (Nat.le_refl _) hi
    have h2 := lev_neg h1 hx
    have h3 : D[i]? = some (-1) := by
      have e := List.getElem?_eq_getElem (show i < D.length by rw [h.len]; exact hi)
      rw [dst_at e] at h2
      rw [e, h2]
    have h4 := unsetN_set (x := (d : Int) + 1) h3 (by omega)
    have h5 := h.un
    simp only [if_true]
    split at h5 <;> omega
end

theorem near_iff {n : Net} {L : List Int} {D : List Int} {node : Nat} {d : Int} {total : Nat} (hD : D.length = total) (hN : ∀ l ∈ L, ∀ m, m ∈ netN n node l → m < total) :
    (∃ r ∈ L.map (fun l => ints (netN n node l)), ∃ x ∈ r, D[x.toNat]? = some d) ↔ NearTo (N := netN n) (L := L) (dst D) node d := by
  unfold NearTo
  constructor
  · rintro ⟨r, hr, x, hx, h⟩
    obtain ⟨l, hl, rfl⟩ := List.mem_map.1 hr
    unfold ints at hx
    obtain ⟨m, hm, rfl⟩ := List.mem_map.1 hx
    rw [Int.toNat_natCast] at h
    exact ⟨l, hl, m, hm, dst_at h⟩
  · rintro ⟨l, hl, m, hm, h⟩
    refine ⟨_, List.mem_map.2 ⟨l, hl, rfl⟩, (m : Int), mem_ints.2 hm, ?_⟩
    rw [Int.toNat_natCast]
    have e := List.getElem?_eq_getElem (show m < D.length by rw [hD]; exact hN l hl m hm)
    rw [dst_at e] at h
    rw [e, h]

/-- The end of l4Dist: the distances stand. -/
def DistEnd (n : Net) (L : List Int) (G : Nat → Bool) (total : Nat) (u : Value) (w0 : World) (e : Ending) (w' : World) : Prop :=
  e = .returned (.tuple #[]) ∧ Ext w0 w' ∧ ∃ D : List Int, w'.ownsRow w0.heap.size 3 1 u total (D.map (Value.int .i64)) ∧ D.length = total ∧ (∀ m, m < total → Far (netN n) L G m (dst D m)) ∧ ∀ m, m < total → dst D m ≤ (total : Int) + 1

def boolNat : Value → Nat | .bool true => 1 | _ => 0

end Go.Proofs.Ytccklliljdembaa
