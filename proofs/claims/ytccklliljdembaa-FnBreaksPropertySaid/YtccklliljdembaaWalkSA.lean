/- Merged: WalkSA, WalkSB, WalkSC, WalkSD. -/
import Derived.Test.YtccklliljdembaaWalkFB
import Derived.BigRegion

namespace Go.Proofs.Ytccklliljdembaa
set_option linter.unusedSimpArgs false
set_option linter.unusedVariables false
open Go.RowKit

set_option maxHeartbeats 1600000
set_option maxRecDepth 100000

def AutoAt (w : World) (b o : Nat) (x : Auto) : Prop := ∃ vn va, w.cell? ⟨b, o, none⟩ = some (.int .i64 x.alphabet) ∧ w.cell? ⟨b, o + 1, none⟩ = some vn ∧ w.cell? ⟨b, o + 2, none⟩ = some va ∧ IntssV w vn x.next ∧ BoolsV w va x.accept
abbrev AutosV := SlV AutoAt 3
theorem AutoAt.mono {w w' : World} (h : Ext w w') {b o : Nat} {x : Auto} (k : AutoAt w b o x) : AutoAt w' b o x := let ⟨vn, va, h1, h2, h3, h4, h5⟩ := k; ⟨vn, va, h.cell h1, h.cell h2, h.cell h3, h4.mono h, h5.mono h⟩
theorem AutosV.mono {w w' : World} (h : Ext w w') {v : Value} {l : List Auto} (k : AutosV w v l) : AutosV w' v l := SlV.mono k (fun _ _ _ _ => AutoAt.mono h) h.size

/-- A net, as it lies: its members, where it starts, its letters, which goal, which state. -/
def NetV (w : World) (v : Value) (n : Net) (st : List Int) (kind q : Int) : Prop :=
  ∃ vp va vs, v = .agg #[vp, va, vs, .int .i64 n.letters, .int .i64 kind, .int .i64 q] ∧ SyssV w vp n.parts ∧ AutosV w va n.autos ∧ IntsV w vs st
theorem NetV.mono {w w' : World} (h : Ext w w') {v : Value} {n : Net} {st : List Int} {kind q : Int} (k : NetV w v n st kind q) : NetV w' v n st kind q := let ⟨vp, va, vs, e, h1, h2, h3⟩ := k; ⟨vp, va, vs, e, h1.mono h, h2.mono h, h3.mono h⟩
structure NetOk (n : Net) : Prop where
  parts : ∀ s ∈ n.parts, sysValid s = true
  autos : ∀ a ∈ n.autos, AutoFit a
  np : n.parts.length ≤ 3
  na : n.autos.length ≤ 2
  al : 0 ≤ n.letters ∧ n.letters ≤ 63
  el : ∀ s ∈ n.parts, s.edges.length ≤ 1048576
  tot : (sizesOf n).prod ≤ 268435456
theorem sizes_at_part {n : Net} {k : Nat} {s : Sys} (h : n.parts[k]? = some s) : (sizesOf n)[k]? = some s.states.toNat := by
  unfold sizesOf
  have := (List.getElem?_eq_some_iff.1 h).1
  rw [List.getElem?_append_left (by simpa using this), List.getElem?_map, h]; rfl
theorem sizes_at_auto {n : Net} {k : Nat} {a : Auto} (h : n.autos[k]? = some a) : (sizesOf n)[n.parts.length + k]? = some a.next.length := by
  unfold sizesOf
  rw [List.getElem?_append_right (by simp), List.length_map, Nat.add_sub_cancel_left, List.getElem?_map, h]; rfl
theorem sizes_len (n : Net) : (sizesOf n).length = n.parts.length + n.autos.length := by simp [sizesOf]
theorem sizes_bound {n : Net} (h : NetOk n) : ∀ s ∈ sizesOf n, 1 ≤ s ∧ s ≤ 1048600 := by
  intro s hs
  unfold sizesOf at hs
  rcases List.mem_append.1 hs with hs | hs
  · obtain ⟨x, hx, rfl⟩ := List.mem_map.1 hs
    have := valid_alpha (h.parts x hx); omega
  · obtain ⟨x, hx, rfl⟩ := List.mem_map.1 hs
    have h1 := (h.autos x hx).n1
    have h2 := (h.autos x hx).n2
    exact ⟨h1, h2⟩

theorem set_front {α : Type} (z x : α) (j : Nat) (T : List α) : (List.replicate (j + 1) z ++ T).set j x = List.replicate j z ++ x :: T := by
  rw [List.replicate_succ', List.append_assoc, List.set_append_right _ _ (by simp)]
  simp
theorem drop_cons {α : Type} {l : List α} {j : Nat} {x : α} (h : l[j]? = some x) : l.drop j = x :: l.drop (j + 1) := by
  obtain ⟨hj, rfl⟩ := List.getElem?_eq_some_iff.1 h
  exact List.drop_eq_getElem_cons hj

end Go.Proofs.Ytccklliljdembaa

namespace Go.Proofs.Ytccklliljdembaa
set_option linter.unusedSimpArgs false
set_option linter.unusedVariables false
open Go.RowKit

set_option maxHeartbeats 1600000
set_option maxRecDepth 100000

theorem edge_dst {s : Sys} (h : sysValid s = true) {k : Nat} {e : Edge} (hk : s.edges[k]? = some e) : 0 ≤ e.dst ∧ e.dst < s.states ∧ s.states ≤ 16 := by
  have h16 := (valid_alpha h).2.2.2
  obtain ⟨hi, rfl⟩ := List.getElem?_eq_some_iff.1 hk
  simp only [sysValid, Bool.and_eq_true, decide_eq_true_eq, List.all_eq_true] at h
  have h4 := h.2 k (List.mem_range.2 hi)
  unfold edgeAt at h4
  rw [List.getElem?_eq_getElem hi] at h4
  simp only [Bool.and_eq_true, edgeOk, decide_eq_true_eq] at h4
  omega

def chTo (s : Sys) (q : Nat) (l : Int) (k : Nat) : List Nat := ((s.edges.take k).filter fun e => decide (e.src = (q : Int)) && decide (e.letter = l)).map fun e => e.dst.toNat
theorem chTo_succ {s : Sys} {q : Nat} {l : Int} {k : Nat} {e : Edge} (h : s.edges[k]? = some e) : chTo s q l (k + 1) = chTo s q l k ++ (if (decide (e.src = (q : Int)) && decide (e.letter = l)) = true then [e.dst.toNat] else []) := by
  unfold chTo
  rw [List.take_add_one, h, List.filter_append, List.map_append]
  congr 1
  simp only [Option.toList]
  split
  · rename_i hh; simp [List.filter_cons, hh]
  · rename_i hh; simp [List.filter_cons, hh]
theorem chTo_len (s : Sys) (q : Nat) (l : Int) (k : Nat) : (chTo s q l k).length ≤ k := by
  unfold chTo
  rw [List.length_map]
  exact Nat.le_trans (List.length_filter_le _ _) (by rw [List.length_take]; omega)

end Go.Proofs.Ytccklliljdembaa

namespace Go.Proofs.Ytccklliljdembaa
set_option linter.unusedSimpArgs false
set_option linter.unusedVariables false
open Go.RowKit

set_option maxHeartbeats 1600000
set_option maxRecDepth 100000

/-- What member k may choose. -/
def chN (n : Net) (k q : Nat) (l : Int) : List Nat := match n.parts[k]? with
  | some s => sysCh s q l
  | none => match n.autos[k - n.parts.length]? with
    | some a => [step a q l]
    | none => []
theorem net_pick {n : Net} {k sz : Nat} (h : (sizesOf n)[k]? = some sz) : (∃ s, n.parts[k]? = some s ∧ sz = s.states.toNat) ∨ (∃ j a, k = n.parts.length + j ∧ n.autos[j]? = some a ∧ sz = a.next.length) := by
  have hk := (List.getElem?_eq_some_iff.1 h).1
  rw [sizes_len] at hk
  by_cases h1 : k < n.parts.length
  · have e := List.getElem?_eq_getElem h1
    rw [sizes_at_part e] at h
    exact .inl ⟨_, e, (Option.some.inj h).symm⟩
  · obtain ⟨j, rfl⟩ : ∃ j, k = n.parts.length + j := ⟨k - n.parts.length, by omega⟩
    have e := List.getElem?_eq_getElem (show j < n.autos.length by omega)
    rw [sizes_at_auto e] at h
    exact .inr ⟨j, _, rfl, e, (Option.some.inj h).symm⟩
theorem chN_len {n : Net} (h : NetOk n) (k q : Nat) (l : Int) : (chN n k q l).length ≤ 16 := by
  unfold chN
  split
  · rename_i s hs; exact ch_len (h.parts s (List.mem_of_getElem? hs)) q l
  · split <;> simp
theorem chN_lt {n : Net} (h : NetOk n) {k q sz : Nat} (l : Int) (hk : (sizesOf n)[k]? = some sz) (hq : q < sz) : ∀ c ∈ chN n k q l, c < sz := by
  rcases net_pick hk with ⟨s, hs, rfl⟩ | ⟨j, a, rfl, ha, rfl⟩
  · unfold chN; rw [hs]
    exact ch_lt (h.parts s (List.mem_of_getElem? hs)) hq l
  · unfold chN
    rw [List.getElem?_eq_none (by omega), Nat.add_sub_cancel_left, ha]
    intro c hc
    simp at hc; subst hc
    exact (h.autos a (List.mem_of_getElem? ha)).step_lt hq l
theorem pairs_at {n : Net} {states : List Nat} {k sz q : Nat} (l : Int) (hlen : states.length = n.parts.length + n.autos.length) (hk : (sizesOf n)[k]? = some sz) (hq : states[k]? = some q) : (pairsOf n states l)[k]? = some (sz, chN n k q l) := by
  unfold pairsOf
  rcases net_pick hk with ⟨s, hs, rfl⟩ | ⟨j, a, rfl, ha, rfl⟩
  · have h1 := (List.getElem?_eq_some_iff.1 hs).1
    rw [List.getElem?_append_left (by simp; omega), List.getElem?_map, show (n.parts.zip states)[k]? = some (s, q) from List.getElem?_zip_eq_some.2 ⟨hs, hq⟩]
    unfold chN; rw [hs]; rfl
  · rw [List.getElem?_append_right (by simp; omega), List.getElem?_map]
    have e : ((n.parts.zip states).map fun p => (p.1.states.toNat, sysCh p.1 p.2 l)).length = n.parts.length := by simp; omega
    rw [e, Nat.add_sub_cancel_left, show (n.autos.zip (states.drop n.parts.length))[j]? = some (a, q) from List.getElem?_zip_eq_some.2 ⟨ha, by rw [List.getElem?_drop]; exact hq⟩]
    unfold chN
    rw [List.getElem?_eq_none (by omega), Nat.add_sub_cancel_left, ha]; rfl
theorem pairs_len {n : Net} {states : List Nat} (l : Int) (hlen : states.length = n.parts.length + n.autos.length) : (pairsOf n states l).length = n.parts.length + n.autos.length := by
  unfold pairsOf; simp; omega

/-- The numbers that the first k members make. -/
def nx (n : Net) (node : Nat) (l : Int) (k : Nat) : List Nat := combos ((pairsOf n (decode (sizesOf n) node) l).take k) [0]
theorem nx_zero (n : Net) (node : Nat) (l : Int) : nx n node l 0 = [0] := by simp [nx, combos]
theorem nx_full {n : Net} (node : Nat) (l : Int) : nx n node l (n.parts.length + n.autos.length) = netN n node l := by
  unfold nx netN
  rw [List.take_of_length_le]
  rw [pairs_len l (by rw [decode_len, sizes_len])]
  exact Nat.le_refl _
theorem nx_succ {n : Net} {node k sz q : Nat} {l : Int} (hk : (sizesOf n)[k]? = some sz) (hq : (decode (sizesOf n) node)[k]? = some q) : nx n node l (k + 1) = (nx n node l k).flatMap fun o => (chN n k q l).map fun c => o * sz + c := by
  unfold nx
  rw [List.take_add_one, pairs_at l (by rw [decode_len, sizes_len]) hk hq, combos_append]
  rfl
theorem nx_len {n : Net} (h : NetOk n) (node : Nat) (l : Int) (k : Nat) : (nx n node l k).length ≤ 1048576 := by
  have hp : ∀ p ∈ (pairsOf n (decode (sizesOf n) node) l).take k, p.2.length ≤ 16 := by
    intro p hp
    obtain ⟨i, hi⟩ := List.mem_iff_getElem?.1 (List.mem_of_mem_take hp)
    have hlen := pairs_len (n := n) (states := decode (sizesOf n) node) l (by rw [decode_len, sizes_len])
    have hi2 := (List.getElem?_eq_some_iff.1 hi).1
    have e1 := List.getElem?_eq_getElem (show i < (sizesOf n).length by rw [sizes_len]; omega)
    have e2 := List.getElem?_eq_getElem (show i < (decode (sizesOf n) node).length by rw [decode_len, sizes_len]; omega)
    rw [pairs_at l (by rw [decode_len, sizes_len]) e1 e2] at hi
    cases hi
    exact chN_len h _ _ _
  have h1 := combos_len _ [0] 16 hp
  have h2 : ((pairsOf n (decode (sizesOf n) node) l).take k).length ≤ 5 := by
    rw [List.length_take, pairs_len l (by rw [decode_len, sizes_len])]
    have := h.np; have := h.na; omega
  have h3 : 16 ^ ((pairsOf n (decode (sizesOf n) node) l).take k).length ≤ 16 ^ 5 := Nat.pow_le_pow_right (by omega) h2
  unfold nx
  simp only [List.length_singleton, Nat.one_mul] at h1
  exact Nat.le_trans h1 h3
theorem decode_ok {n : Net} (h : NetOk n) {node k sz q : Nat} (hk : (sizesOf n)[k]? = some sz) (hq : (decode (sizesOf n) node)[k]? = some q) : q < sz :=
  decode_lt _ node k sz q hk (sizes_bound h sz (List.mem_of_getElem? hk)).1 hq
theorem nx_lt {n : Net} (h : NetOk n) (node : Nat) (l : Int) (k : Nat) : ∀ r ∈ nx n node l k, r < ((sizesOf n).take k).prod := by
  induction k with
  | zero => intro r hr; rw [nx_zero] at hr; simp at hr; subst hr; simp
  | succ k ih =>
    intro r hr
    by_cases hk : k < (sizesOf n).length
    · have e1 := List.getElem?_eq_getElem hk
      have e2 := List.getElem?_eq_getElem (show k < (decode (sizesOf n) node).length by rw [decode_len]; exact hk)
      rw [nx_succ e1 e2] at hr
      obtain ⟨o, ho, hr⟩ := List.mem_flatMap.1 hr
      obtain ⟨c, hc, rfl⟩ := List.mem_map.1 hr
      have h1 := ih o ho
      have h2 := chN_lt h l e1 (decode_ok h e1 e2) c hc
      rw [List.take_add_one, e1, List.prod_append]
      simp only [Option.toList, List.prod_singleton]
      have h3 : (o + 1) * (sizesOf n)[k] ≤ ((sizesOf n).take k).prod * (sizesOf n)[k] := Nat.mul_le_mul_right _ h1
      rw [Nat.add_mul, Nat.one_mul] at h3
      omega
    · have hl2 := pairs_len (n := n) (states := decode (sizesOf n) node) l (by rw [decode_len, sizes_len])
      rw [sizes_len] at hk
      have e : nx n node l (k + 1) = nx n node l k := by
        unfold nx
        rw [List.take_of_length_le (by omega), List.take_of_length_le (by omega)]
      rw [e] at hr
      have h4 := ih r hr
      rw [List.take_of_length_le (by rw [sizes_len]; omega)] at h4 ⊢
      exact h4
theorem prod_le_pow (l : List Nat) (h : ∀ x ∈ l, x ≤ 16) : l.prod ≤ 16 ^ l.length := by
  induction l with
  | nil => simp
  | cons a l ih =>
    have h1 := ih fun x hx => h x (by simp [hx])
    have h2 := h a (by simp)
    rw [List.prod_cons, List.length_cons, Nat.pow_succ, Nat.mul_comm (16 ^ l.length)]
    exact Nat.mul_le_mul h2 h1
theorem prod_pos1 (l : List Nat) (h : ∀ x ∈ l, 1 ≤ x) : 1 ≤ l.prod := by
  induction l with
  | nil => simp
  | cons a l ih => rw [List.prod_cons]; exact Nat.mul_pos (h a (by simp)) (ih fun x hm => h x (by simp [hm]))
theorem take_prod_le {n : Net} (h : NetOk n) (k : Nat) : ((sizesOf n).take k).prod ≤ 268435456 := by
  have h1 : (sizesOf n).prod = ((sizesOf n).take k).prod * ((sizesOf n).drop k).prod := by rw [← List.prod_append, List.take_append_drop]
  have h2 := prod_pos1 ((sizesOf n).drop k) fun x hx => (sizes_bound h x (List.mem_of_mem_drop hx)).1
  have h3 := Nat.le_mul_of_pos_right ((sizesOf n).take k).prod (show 0 < ((sizesOf n).drop k).prod by omega)
  have := h.tot
  omega
/-- Of valid parts and automata. -/
theorem NetOk.of {n : Net} (h1 : ∀ s ∈ n.parts, sysValid s = true) (h2 : ∀ a ∈ n.autos, autoValid a = true) (h3 : n.parts.length ≤ 3) (h4 : n.autos.length ≤ 2) (h5 : 0 ≤ n.letters ∧ n.letters ≤ 63) (h6 : ∀ s ∈ n.parts, s.edges.length ≤ 1048576) : NetOk n := by
  refine ⟨h1, fun a ha => AutoFit.of (h2 a ha), h3, h4, h5, h6, ?_⟩
  have e1 := prod_le_pow (sizesOf n) fun x hx => by
    unfold sizesOf at hx
    rcases List.mem_append.1 hx with hx | hx
    · obtain ⟨y, hy, rfl⟩ := List.mem_map.1 hx
      have := valid_alpha (h1 y hy); omega
    · obtain ⟨y, hy, rfl⟩ := List.mem_map.1 hx
      have := autoValid_facts (h2 y hy); omega
  have e2 : (sizesOf n).length ≤ 5 := by rw [sizes_len]; omega
  have e3 : 16 ^ (sizesOf n).length ≤ 16 ^ 5 := Nat.pow_le_pow_right (by omega) e2
  omega

end Go.Proofs.Ytccklliljdembaa

namespace Go.Proofs.Ytccklliljdembaa
set_option linter.unusedSimpArgs false
set_option linter.unusedVariables false
open Go.RowKit

set_option maxHeartbeats 1600000
set_option maxRecDepth 100000

def mixTo (X C : List Nat) (sz m : Nat) : List Nat := (X.take m).flatMap fun o => C.map fun c => o * sz + c
theorem mixTo_succ {X : List Nat} {C : List Nat} {sz m o : Nat} (h : X[m]? = some o) : mixTo X C sz (m + 1) = mixTo X C sz m ++ C.map fun c => o * sz + c := by
  unfold mixTo; rw [List.take_add_one, h, List.flatMap_append]; simp
theorem mixTo_len (X C : List Nat) (sz m : Nat) (hC : C.length ≤ 16) : (mixTo X C sz m).length ≤ X.length * 16 := by
  unfold mixTo
  have : ∀ Y : List Nat, (Y.flatMap fun o => C.map fun c => o * sz + c).length ≤ Y.length * 16 := by
    intro Y
    induction Y with
    | nil => simp
    | cons y Y ih => simp only [List.flatMap_cons, List.length_append, List.length_map, List.length_cons]; omega
  exact Nat.le_trans (this _) (Nat.mul_le_mul_right _ (by rw [List.length_take]; omega))

end Go.Proofs.Ytccklliljdembaa
