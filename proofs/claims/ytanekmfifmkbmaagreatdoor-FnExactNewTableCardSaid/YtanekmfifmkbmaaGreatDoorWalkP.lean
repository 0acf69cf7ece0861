/- Part of this seat's proofs, cut to what its law needs. -/

import Derived.Test.YtanekmfifmkbmaaGreatDoorWalkE

namespace Go.Proofs.YtanekmfifmkbmaaGreatDoor
set_option linter.unusedSimpArgs false
set_option linter.unusedVariables false
open Go.RowKit

set_option maxHeartbeats 800000

structure Chg (lo hi : Nat) (w w' : World) : Prop where
  os : w'.os = w.os
  tape : w'.tape = w.tape
  output : w'.output = w.output
  size : w.heap.size ≤ w'.heap.size
  block : ∀ b, b < w.heap.size → ¬ (lo ≤ b ∧ b < hi) → w'.heap[b]? = w.heap[b]?
theorem Chg.refl (lo hi : Nat) (w : World) : Chg lo hi w w := ⟨rfl, rfl, rfl, Nat.le_refl _, fun _ _ _ => rfl⟩
theorem Chg.trans {lo hi : Nat} {a b c : World} (h : Chg lo hi a b) (k : Chg lo hi b c) : Chg lo hi a c :=
  ⟨k.os.trans h.os, k.tape.trans h.tape, k.output.trans h.output, Nat.le_trans h.size k.size, fun i hi hn => (k.block i (Nat.lt_of_lt_of_le hi h.size) hn).trans (h.block i hi hn)⟩
theorem Chg.grown {lo hi g : Nat} {w w' : World} (h : w.grownBy w' (some g)) (h1 : lo ≤ g) (h2 : g < hi) : Chg lo hi w w' :=
  ⟨h.os, h.tape, h.output, h.size, fun b hb hn => h.block b hb (fun e => by cases e; exact hn ⟨h1, h2⟩)⟩
theorem Chg.wide {lo hi lo' hi' : Nat} {w w' : World} (h : Chg lo hi w w') (h1 : lo' ≤ lo) (h2 : hi ≤ hi') : Chg lo' hi' w w' :=
  ⟨h.os, h.tape, h.output, h.size, fun b hb hn => h.block b hb fun e => hn ⟨by omega, by omega⟩⟩
theorem own_apart {w : World} {base base' : Nat} {e e' : TypeId} {size size' n n' : Nat} {v v' : Value} {xs xs' : List Value} (h : w.ownsRow base e size v n xs) (h' : w.ownsRow base' e' size' v' n' xs') (hne : e ≠ e') : ∀ g, v.ownBlock = some g → v'.ownBlock ≠ some g := by
  intro g hg hg'
  rcases h.2 with ⟨rfl, _⟩ | ⟨g1, cap, cur, rfl, hb, hw, r⟩
  · simp [Value.ownBlock] at hg
  · rcases h'.2 with ⟨rfl, _⟩ | ⟨g2, cap', cur', rfl, hb', hw', r'⟩
    · simp [Value.ownBlock] at hg'
    · simp [Value.ownBlock] at hg hg'
      subst hg; subst hg'
      rw [hw] at hw'
      cases hw'
      exact hne rfl

def markI (n : Int) (j : Nat) : Value := .int .i64 (n + j)
def markB (n : Int) (j : Nat) : Value := .bool (decide ((n + j) % 3 = 0))
def MarkTo (f : Nat → Value) (L : List Value) (k : Nat) : Prop := ∀ j, j < k → L[j]? = some (f j)
theorem MarkTo.set {f : Nat → Value} {L : List Value} {k : Nat} (h : MarkTo f L k) (hk : k < L.length) : MarkTo f (L.set k (f k)) (k + 1) := fun j hj => by
  by_cases he : j = k
  · subst he; rw [List.getElem?_set_self hk]
  · rw [List.getElem?_set_ne (by omega)]; exact h j (by omega)
theorem MarkTo.all {f : Nat → Value} {L : List Value} (h : MarkTo f L L.length) : L = (List.range L.length).map f := by
  apply List.ext_getElem?
  intro j
  by_cases hj : j < L.length
  · rw [h j hj]; simp [hj]
  · rw [List.getElem?_eq_none (by omega), List.getElem?_eq_none (by simp; omega)]
def Marked (e : TypeId) (size base : Nat) (w : World) (v : Value) (n : Nat) (f : Nat → Value) : Prop := w.ownsRow base e size v n ((List.range (n * size)).map f)
def Under (hi : Nat) (v : Value) : Prop := ∀ g, v.ownBlock = some g → g < hi

theorem own_any {w : World} {base : Nat} {e : TypeId} {size n : Nat} {v : Value} {xs : List Value} (h : w.ownsRow base e size v n xs) : ∃ a c, v = .slice a n c := by
  rcases own_shape h with ⟨rfl, rfl⟩ | ⟨g, cap, rfl, _⟩
  · exact ⟨_, _, rfl⟩
  · exact ⟨_, _, rfl⟩
theorem own_some {w : World} {base : Nat} {e : TypeId} {size n : Nat} {a : Option Addr} {c : Nat} {xs : List Value} (h : w.ownsRow base e size (.slice a n c) n xs) (hn : 0 < n) : ∃ g, a = some ⟨g, 0, none⟩ ∧ base ≤ g := by
  rcases own_shape h with ⟨_, rfl⟩ | ⟨g, cap, he, hb, _⟩
  · omega
  · cases he; exact ⟨g, rfl, hb⟩

theorem mark_at (f : Nat → Value) {m j : Nat} (h : j < m) : ((List.range m).map f)[j]? = some (f j) := by simp [h]

theorem markIntS_c (v : Value) (n : Int) (k : Nat) (xs : List Value) (base hi : Nat) (w : World) (h : w.ownsRow base 3 1 v k xs) (hu : Under hi v) (hn : 0 ≤ n) (hk : k ≤ 4294967296) (hn2 : n ≤ 1152921504606846976) :
    Calls Tryz.prog 171 #[v, .int .i64 n] w (fun e w' => e = .returned (.int .i64 (n + k)) ∧ Chg base hi w w' ∧ Marked 3 1 base w' v k (markI n)) := by
  obtain ⟨a, c, rfl⟩ := own_any h
  go_enter Tryz.func171, Tryz.ntmps171
  go_wp2_with fail
  go_loopw [1, 5] (fun m i wr => ∃ (j : Nat) (L : List Value), j ≤ k ∧ i = .int .i64 j ∧ m = .int .i64 (n + j) ∧ wr.ownsRow base 3 1 (.slice a k c) k L ∧ MarkTo (markI n) L j ∧ Chg base hi w wr) (fun _ i _ => k - (intOf i).toNat)
  case atStart => exact ⟨0, _, by omega, rfl, by simp, h, fun j hj => by omega, Chg.refl _ _ _⟩
  case round =>
    obtain ⟨j, L, hj, rfl, rfl, hown, hm, hc⟩ := hrel
    have hL := hown.1
    by_cases hlt : j < k
    · obtain ⟨g, rfl, hg⟩ := own_some hown (by omega)
      have hgh := hu g rfl
      obtain ⟨u, hu⟩ : ∃ u, L[j]? = some u := ⟨_, List.getElem?_eq_getElem (by omega)⟩
      have gc := own_cell hown hu
      have fz := hown.frozenAt j
      clear hu
      go_wp2_with fail
      obtain ⟨o1, o2⟩ := hown.stored j (markI n j)
      exact ⟨⟨j + 1, _, by omega, by go_num, by go_num, o1, hm.set (by omega), hc.trans (Chg.grown o2 hg hgh)⟩, by simp [intOf]; omega⟩
    · obtain rfl : j = k := by omega
      go_wp2_with fail
      go_ret
      refine ⟨rfl, hc, ?_⟩
      unfold Marked
      rw [← hL, ← MarkTo.all (by rw [hL, Nat.mul_one]; exact hm)]
      exact hown

theorem markBoolS_c (v : Value) (n : Int) (k : Nat) (xs : List Value) (base hi : Nat) (w : World) (h : w.ownsRow base 4 1 v k xs) (hu : Under hi v) (hn : 0 ≤ n) (hk : k ≤ 4294967296) (hn2 : n ≤ 1152921504606846976) :
    Calls Tryz.prog 113 #[v, .int .i64 n] w (fun e w' => e = .returned (.int .i64 (n + k)) ∧ Chg base hi w w' ∧ Marked 4 1 base w' v k (markB n)) := by
  obtain ⟨a, c, rfl⟩ := own_any h
  go_enter Tryz.func113, Tryz.ntmps113
  go_wp2_with fail
  go_loopw [1, 5] (fun m i wr => ∃ (j : Nat) (L : List Value), j ≤ k ∧ i = .int .i64 j ∧ m = .int .i64 (n + j) ∧ wr.ownsRow base 4 1 (.slice a k c) k L ∧ MarkTo (markB n) L j ∧ Chg base hi w wr) (fun _ i _ => k - (intOf i).toNat)
  case atStart => exact ⟨0, _, by omega, rfl, by simp, h, fun j hj => by omega, Chg.refl _ _ _⟩
  case round =>
    obtain ⟨j, L, hj, rfl, rfl, hown, hm, hc⟩ := hrel
    have hL := hown.1
    by_cases hlt : j < k
    · obtain ⟨g, rfl, hg⟩ := own_some hown (by omega)
      have hgh := hu g rfl
      obtain ⟨u, hu⟩ : ∃ u, L[j]? = some u := ⟨_, List.getElem?_eq_getElem (by omega)⟩
      have gc := own_cell hown hu
      have fz := hown.frozenAt j
      clear hu
      go_wp2_with fail
      obtain ⟨o1, o2⟩ := hown.stored j (markB n j)
      exact ⟨⟨j + 1, _, by omega, by go_num, by go_num, o1, hm.set (by omega), hc.trans (Chg.grown o2 hg hgh)⟩, by simp [intOf]; omega⟩
    · obtain rfl : j = k := by omega
      go_wp2_with fail
      go_ret
      refine ⟨rfl, hc, ?_⟩
      unfold Marked
      rw [← hL, ← MarkTo.all (by rw [hL, Nat.mul_one]; exact hm)]
      exact hown

theorem markEdgeS_c (v : Value) (n : Int) (k : Nat) (xs : List Value) (base hi : Nat) (w : World) (h : w.ownsRow base 87 3 v k xs) (hu : Under hi v) (hn : 0 ≤ n) (hk : k ≤ 4294967296) (hn2 : n ≤ 1152921504606846976) :
    Calls Tryz.prog 172 #[v, .int .i64 n] w (fun e w' => e = .returned (.int .i64 (n + (k * 3 : Nat))) ∧ Chg base hi w w' ∧ Marked 87 3 base w' v k (markI n)) := by
  obtain ⟨a, c, rfl⟩ := own_any h
  go_enter Tryz.func172, Tryz.ntmps172
  go_wp2_with fail
  go_loopw [1, 5] (fun m i wr => ∃ (j : Nat) (L : List Value), j ≤ k ∧ i = .int .i64 j ∧ m = .int .i64 (n + (j * 3 : Nat)) ∧ wr.ownsRow base 87 3 (.slice a k c) k L ∧ MarkTo (markI n) L (j * 3) ∧ Chg base hi w wr) (fun _ i _ => k - (intOf i).toNat)
  case atStart => exact ⟨0, _, by omega, rfl, by simp, h, fun j hj => by omega, Chg.refl _ _ _⟩
  case round =>
    obtain ⟨j, L, hj, rfl, rfl, hown, hm, hc⟩ := hrel
    have hL := hown.1
    by_cases hlt : j < k
    · obtain ⟨g, rfl, hg⟩ := own_some hown (by omega)
      have hgh := hu g rfl
      obtain ⟨u1, hu1⟩ : ∃ u, L[j * 3]? = some u := ⟨_, List.getElem?_eq_getElem (by omega)⟩
      obtain ⟨u2, hu2⟩ : ∃ u, L[j * 3 + 1]? = some u := ⟨_, List.getElem?_eq_getElem (by omega)⟩
      obtain ⟨u3, hu3⟩ : ∃ u, L[j * 3 + 2]? = some u := ⟨_, List.getElem?_eq_getElem (by omega)⟩
      have g1 := own_cell hown hu1
      have g2 := own_cell hown hu2
      have g3 := own_cell hown hu3
      have f1 := hown.frozenAt (j * 3)
      have f2 := hown.frozenAt (j * 3 + 1)
      have f3 := hown.frozenAt (j * 3 + 2)
      clear hu1 hu2 hu3
      go_wp2_with fail
      have e0 : Value.int .i64 (n + (j : Int) * 3) = markI n (j * 3) := by unfold markI; congr 1
      have e1 : Value.int .i64 (n + (j : Int) * 3 + 1) = markI n (j * 3 + 1) := by unfold markI; congr 1; omega
      have e2 : Value.int .i64 (n + (j : Int) * 3 + 1 + 1) = markI n (j * 3 + 1 + 1) := by unfold markI; congr 1; omega
      rw [e0, e1, e2]
      obtain ⟨o1, r1⟩ := hown.stored (j * 3) (markI n (j * 3))
      obtain ⟨o2, r2⟩ := o1.stored (j * 3 + 1) (markI n (j * 3 + 1))
      obtain ⟨o3, r3⟩ := o2.stored (j * 3 + 2) (markI n (j * 3 + 1 + 1))
      refine ⟨⟨j + 1, _, by omega, by go_num, by congr 1; omega, o3, ?_, ((hc.trans (Chg.grown r1 hg hgh)).trans (Chg.grown r2 hg hgh)).trans (Chg.grown r3 hg hgh)⟩, by simp [intOf]; omega⟩
      rw [show (j + 1) * 3 = j * 3 + 1 + 1 + 1 by omega]
      exact ((hm.set (by omega)).set (by rw [List.length_set]; omega)).set (by rw [List.length_set, List.length_set]; omega)
    · obtain rfl : j = k := by omega
      go_wp2_with fail
      go_ret
      refine ⟨rfl, hc, ?_⟩
      unfold Marked
      rw [← hL, ← MarkTo.all (by rw [hL]; exact hm)]
      exact hown

theorem own_tight {w : World} {base : Nat} {e : TypeId} {size n : Nat} {g c : Nat} {xs : List Value} (h : w.ownsRow base e size (.slice (some ⟨g, 0, none⟩) n c) n xs) : w.ownsRow g e size (.slice (some ⟨g, 0, none⟩) n c) n xs := by
  refine ⟨h.1, ?_⟩
  rcases h.2 with ⟨h1, _⟩ | ⟨g1, cap, cur, he, hb, hg, r⟩
  · cases h1
  · cases he; exact .inr ⟨g, c, cur, rfl, Nat.le_refl _, hg, r⟩
theorem own_nil {w w' : World} {base base' : Nat} {e : TypeId} {size : Nat} {xs : List Value} (h : w.ownsRow base e size (.slice none 0 0) 0 xs) : w'.ownsRow base' e size (.slice none 0 0) 0 xs := by
  refine ⟨h.1, ?_⟩
  rcases h.2 with h1 | ⟨g1, cap, cur, he, _⟩
  · exact .inl h1
  · cases he
theorem one_block {w : World} {base : Nat} {e : TypeId} {size k : Nat} {v r : Value} {xs : List Value} {f : Nat → Value} {F : FuncId} {args : Array Value} {P : Program} (h : w.ownsRow base e size v k xs)
    (hc : ∀ lo hi, w.ownsRow lo e size v k xs → Under hi v → Calls P F args w (fun E w' => E = .returned r ∧ Chg lo hi w w' ∧ Marked e size lo w' v k f)) :
    Calls P F args w (fun E w' => E = .returned r ∧ w.grownBy w' v.ownBlock ∧ Marked e size base w' v k f) := by
  rcases own_shape h with ⟨rfl, rfl⟩ | ⟨g, cap, rfl, hg, hlt, -, -⟩
  · refine (hc 0 0 (own_nil h) (fun g hg => by simp [Value.ownBlock] at hg)).mono fun E w' ⟨h1, h2, h3⟩ => ⟨h1, ⟨h2.os, h2.tape, h2.output, h2.size, fun b hb _ => h2.block b hb (by omega)⟩, own_nil h3⟩
  · refine (hc g (g + 1) (own_tight h) (fun g' hg' => by simp [Value.ownBlock] at hg'; omega)).mono fun E w' ⟨h1, h2, h3⟩ => ⟨h1, ⟨h2.os, h2.tape, h2.output, h2.size, fun b hb hne => h2.block b hb (fun hx => hne (by simp [Value.ownBlock]; omega))⟩, own_base h3 hg⟩
theorem markIntS_o {v : Value} {n : Int} {k : Nat} {xs : List Value} {base : Nat} {w : World} (h : w.ownsRow base 3 1 v k xs) (hn : 0 ≤ n) (hk : k ≤ 4294967296) (hn2 : n ≤ 1152921504606846976) :
    Calls Tryz.prog 171 #[v, .int .i64 n] w (fun e w' => e = .returned (.int .i64 (n + k)) ∧ w.grownBy w' v.ownBlock ∧ Marked 3 1 base w' v k (markI n)) :=
  one_block h fun lo hi ho hu => markIntS_c v n k xs lo hi w ho hu hn hk hn2
theorem markBoolS_o {v : Value} {n : Int} {k : Nat} {xs : List Value} {base : Nat} {w : World} (h : w.ownsRow base 4 1 v k xs) (hn : 0 ≤ n) (hk : k ≤ 4294967296) (hn2 : n ≤ 1152921504606846976) :
    Calls Tryz.prog 113 #[v, .int .i64 n] w (fun e w' => e = .returned (.int .i64 (n + k)) ∧ w.grownBy w' v.ownBlock ∧ Marked 4 1 base w' v k (markB n)) :=
  one_block h fun lo hi ho hu => markBoolS_c v n k xs lo hi w ho hu hn hk hn2
theorem markEdgeS_o {v : Value} {n : Int} {k : Nat} {xs : List Value} {base : Nat} {w : World} (h : w.ownsRow base 87 3 v k xs) (hn : 0 ≤ n) (hk : k ≤ 4294967296) (hn2 : n ≤ 1152921504606846976) :
    Calls Tryz.prog 172 #[v, .int .i64 n] w (fun e w' => e = .returned (.int .i64 (n + (k * 3 : Nat))) ∧ w.grownBy w' v.ownBlock ∧ Marked 87 3 base w' v k (markI n)) :=
  one_block h fun lo hi ho hu => markEdgeS_c v n k xs lo hi w ho hu hn hk hn2

structure Tnd (S : Nat → Prop) (w w' : World) : Prop where
  os : w'.os = w.os
  tape : w'.tape = w.tape
  output : w'.output = w.output
  size : w.heap.size ≤ w'.heap.size
  block : ∀ b, b < w.heap.size → ¬ S b → w'.heap[b]? = w.heap[b]?
theorem Tnd.refl (S : Nat → Prop) (w : World) : Tnd S w w := ⟨rfl, rfl, rfl, Nat.le_refl _, fun _ _ _ => rfl⟩
theorem Tnd.trans {S : Nat → Prop} {a b c : World} (h : Tnd S a b) (k : Tnd S b c) : Tnd S a c :=
  ⟨k.os.trans h.os, k.tape.trans h.tape, k.output.trans h.output, Nat.le_trans h.size k.size, fun i hi hn => (k.block i (Nat.lt_of_lt_of_le hi h.size) hn).trans (h.block i hi hn)⟩
theorem Tnd.ext {S : Nat → Prop} {w w' : World} (h : Ext w w') : Tnd S w w' := ⟨h.os, h.tape, h.output, h.size, fun b hb _ => h.block b hb⟩
theorem Tnd.grown {S : Nat → Prop} {row : Option Nat} {w w' : World} (h : w.grownBy w' row) (hS : ∀ g, row = some g → S g) : Tnd S w w' :=
  ⟨h.os, h.tape, h.output, h.size, fun b hb hn => h.block b hb (fun e => hn (hS b e.symm))⟩
theorem Tnd.imp {S S' : Nat → Prop} {w w' : World} (h : Tnd S w w') (hS : ∀ b, S b → S' b) : Tnd S' w w' := ⟨h.os, h.tape, h.output, h.size, fun b hb hn => h.block b hb fun e => hn (hS b e)⟩
theorem Tnd.below {S : Nat → Prop} {lo : Nat} {w w' : World} (h : Tnd S w w') (hl : lo ≤ w.heap.size) (hS : ∀ b, S b → lo ≤ b) : Below lo w w' :=
  ⟨h.os, h.tape, h.output, h.size, fun b hb => h.block b (by omega) fun e => by have := hS b e; omega⟩
theorem Tnd.own {S : Nat → Prop} {base : Nat} {w w' : World} {e : TypeId} {size n : Nat} {v : Value} {xs : List Value} (h : Tnd S w w') (ho : w.ownsRow base e size v n xs) (hv : ∀ g, v.ownBlock = some g → ¬ S g) : w'.ownsRow base e size v n xs := by
  refine ⟨ho.1, ?_⟩
  rcases ho.2 with h1 | ⟨g, cap, cur, rfl, hb, hg, r⟩
  · exact .inl h1
  · exact .inr ⟨g, cap, cur, rfl, hb, by rw [h.block g (Array.getElem?_eq_some_iff.1 hg).1 (hv g rfl)]; exact hg, r⟩
def RowsB (vs : List Value) (b : Nat) : Prop := ∃ (i : Nat) (x : Value), vs[i]? = some x ∧ x.ownBlock = some b
def SlB (v : Value) (b : Nat) : Prop := v.ownBlock = some b

def sumTo (ks : List Nat) (j : Nat) : Nat := (ks.take j).sum
theorem sumTo_succ {ks : List Nat} {j k : Nat} (h : ks[j]? = some k) : sumTo ks (j + 1) = sumTo ks j + k := by
  unfold sumTo; rw [List.take_add_one, h]; simp
theorem sumTo_le (ks : List Nat) (j : Nat) : sumTo ks j ≤ ks.sum := by
  unfold sumTo
  conv => rhs; rw [← List.take_append_drop j ks]
  rw [List.sum_append]; omega
theorem sumTo_full (ks : List Nat) : sumTo ks ks.length = ks.sum := by unfold sumTo; rw [List.take_length]

structure RowsMk (base : Nat) (w : World) (v : Value) (vs : List Value) (ks : List Nat) (n : Int) (j : Nat) : Prop where
  own : w.ownsRow base 80 1 v ks.length vs
  row : ∀ (i : Nat) x k, vs[i]? = some x → ks[i]? = some k → ∃ xs, w.ownsRow base 3 1 x k xs
  apart : ∀ (i i' : Nat) x y g, i ≠ i' → vs[i]? = some x → vs[i']? = some y → x.ownBlock = some g → y.ownBlock ≠ some g
  marks : ∀ (i : Nat) x k, i < j → vs[i]? = some x → ks[i]? = some k → Marked 3 1 base w x k (markI (n + sumTo ks i))

theorem markIntSS_c (v : Value) (vs : List Value) (ks : List Nat) (n : Int) (base : Nat) (w : World) (h : RowsMk base w v vs ks n 0) (hn : 0 ≤ n) (hs : ks.length + ks.sum ≤ 1048576) (hn2 : n ≤ 1099511627776) :
    Calls Tryz.prog 112 #[v, .int .i64 n] w (fun e w' => e = .returned (.int .i64 (n + ks.sum)) ∧ Tnd (RowsB vs) w w' ∧ RowsMk base w' v vs ks n ks.length) := by
  obtain ⟨a, c, rfl⟩ := own_any h.own
  go_enter Tryz.func112, Tryz.ntmps112
  go_wp2_with fail
  go_loopw [1, 5] (fun m i wr => ∃ j : Nat, j ≤ ks.length ∧ i = .int .i64 j ∧ m = .int .i64 (n + sumTo ks j) ∧ RowsMk base wr (.slice a ks.length c) vs ks n j ∧ Tnd (RowsB vs) w wr) (fun _ i _ => ks.length - (intOf i).toNat)
  case atStart => exact ⟨0, by omega, rfl, by simp [sumTo], h, Tnd.refl _ _⟩
  case round =>
    obtain ⟨j, hj, rfl, rfl, hr, hc⟩ := hrel
    by_cases hlt : j < ks.length
    · obtain ⟨g, rfl, hg⟩ := own_some hr.own (by omega)
      obtain ⟨k, hk⟩ : ∃ k, ks[j]? = some k := ⟨_, List.getElem?_eq_getElem hlt⟩
      obtain ⟨x, hx⟩ : ∃ x, vs[j]? = some x := ⟨_, List.getElem?_eq_getElem (by rw [hr.own.1, Nat.mul_one]; exact hlt)⟩
      have HX := Lib.hid hx
      have HK := Lib.hid hk
      have gc := own_cell hr.own hx
      obtain ⟨xs, hrow⟩ := hr.row j x k hx hk
      have hsl := sumTo_le ks j
      have HS := Lib.hid (sumTo_succ hk)
      have hs1 := sumTo_le ks (j + 1)
      rw [HS.out] at hs1
      obtain ⟨a', c', rfl⟩ := own_any hrow
      clear hx hk
      go_wp2_with fail
      refine (markIntS_o hrow (by omega) (by omega) (by omega)).mono ?_
      rintro e w1 ⟨rfl, hg1, hm1⟩
      go_wp2_with fail
      refine ⟨⟨j + 1, by omega, by go_num, by congr 1; rw [HS.out]; omega, ?_, ?_⟩, by simp [intOf]; omega⟩
      · have hot : ∀ g', (Value.slice a' k c').ownBlock = some g' → (Value.slice (some ⟨g, 0, none⟩) ks.length c).ownBlock ≠ some g' := own_apart hrow hr.own (by decide)
        have hkeep : ∀ {base' : Nat} {e : TypeId} {size n : Nat} {u : Value} {us : List Value}, wr.ownsRow base' e size u n us → (∀ g', (Value.slice a' k c').ownBlock = some g' → u.ownBlock ≠ some g') → w1.ownsRow base' e size u n us := fun {base' e size n u us} ho hne => by
          refine World.ownsRow.kept ho hg1 ?_
          cases hb : u.ownBlock with
          | none => exact .inl rfl
          | some q => exact .inr fun he => hne q he.symm hb
        refine ⟨hkeep hr.own hot, fun i x k' hx hk' => ?_, hr.apart, fun i x k' hi hx hk' => ?_⟩
        · by_cases hij : i = j
          · subst hij
            rw [HX.out] at hx; cases hx
            rw [HK.out] at hk'; cases hk'
            exact ⟨_, hm1⟩
          · obtain ⟨us, hu⟩ := hr.row i x k' hx hk'
            exact ⟨us, hkeep hu fun g' h1 h2 => hr.apart i j x _ g' hij hx HX.out h2 h1⟩
        · by_cases hij : i = j
          · subst hij
            rw [HX.out] at hx; cases hx
            rw [HK.out] at hk'; cases hk'
            exact hm1
          · exact hkeep (hr.marks i x k' (by omega) hx hk') fun g' h1 h2 => hr.apart i j x _ g' hij hx HX.out h2 h1
      · exact hc.trans (Tnd.grown hg1 fun b hb => ⟨j, _, HX.out, hb⟩)
    · obtain rfl : j = ks.length := by omega
      go_wp2_with fail
      go_ret
      exact ⟨by rw [sumTo_full]; rfl, hc, hr⟩

end Go.Proofs.YtanekmfifmkbmaaGreatDoor

namespace Go.Proofs.YtanekmfifmkbmaaGreatDoor
set_option linter.unusedSimpArgs false
set_option linter.unusedVariables false
open Go.RowKit

set_option maxHeartbeats 800000

def Span (lo hi : Nat) (b : Nat) : Prop := lo ≤ b ∧ b < hi
theorem own_span {w : World} {base : Nat} {e : TypeId} {size n : Nat} {v : Value} {xs : List Value} (h : w.ownsRow base e size v n xs) : ∀ b, v.ownBlock = some b → Span base w.heap.size b := fun b hb => World.ownsRow.lt h b hb
theorem RowsMk.of_own {base : Nat} {w : World} {v : Value} {ll : List (List Int)} (h : IntssOwn 80 3 base w v ll) (n : Int) : ∃ vs, RowsMk base w v vs (ll.map List.length) n 0 := by
  obtain ⟨vs, h1, h2, h3⟩ := h
  refine ⟨vs, by rw [List.length_map]; exact h1, fun i x k hx hk => ?_, fun i i' x y g hne hx hy hb hb' => ?_, fun i x k hi => by omega⟩
  · rw [List.getElem?_map] at hk
    obtain ⟨l, hl, rfl⟩ := Option.map_eq_some_iff.1 hk
    exact ⟨_, h2.row i x l hx hl⟩
  · rcases Nat.lt_or_gt_of_ne hne with h | h
    · rcases h2.apart i i' x y h hx hy with h4 | h4
      · rw [h4] at hb; cases hb
      · exact h4 (hb.trans hb'.symm)
    · rcases h2.apart i' i y x h hy hx with h4 | h4
      · rw [h4] at hb'; cases hb'
      · exact h4 (hb'.trans hb.symm)
theorem RowsMk.ext {base : Nat} {w w' : World} {v : Value} {vs : List Value} {ks : List Nat} {n : Int} {j : Nat} (h : RowsMk base w v vs ks n j) (he : Ext w w') : RowsMk base w' v vs ks n j :=
  ⟨own_ext h.own he, fun i x k hx hk => let ⟨xs, hr⟩ := h.row i x k hx hk; ⟨xs, own_ext hr he⟩, h.apart, fun i x k hi hx hk => own_ext (h.marks i x k hi hx hk) he⟩
theorem RowsMk.tnd {S : Nat → Prop} {base : Nat} {w w' : World} {v : Value} {vs : List Value} {ks : List Nat} {n : Int} {j : Nat} (h : RowsMk base w v vs ks n j) (ht : Tnd S w w') (hv : ∀ b, v.ownBlock = some b → ¬ S b) (hr : ∀ b, RowsB vs b → ¬ S b) : RowsMk base w' v vs ks n j :=
  ⟨ht.own h.own hv, fun i x k hx hk => let ⟨xs, hq⟩ := h.row i x k hx hk; ⟨xs, ht.own hq fun b hb => hr b ⟨i, x, hx, hb⟩⟩, h.apart, fun i x k hi hx hk => ht.own (h.marks i x k hi hx hk) fun b hb => hr b ⟨i, x, hx, hb⟩⟩
theorem RowsMk.span {base : Nat} {w : World} {v : Value} {vs : List Value} {ks : List Nat} {n : Int} {j : Nat} (h : RowsMk base w v vs ks n j) : ∀ b, RowsB vs b → Span base w.heap.size b := by
  rintro b ⟨i, x, hx, hb⟩
  have hl := h.own.1
  obtain ⟨k, hk⟩ : ∃ k, ks[i]? = some k := ⟨_, List.getElem?_eq_getElem (by have := (List.getElem?_eq_some_iff.1 hx).1; omega)⟩
  obtain ⟨xs, hq⟩ := h.row i x k hx hk
  exact own_span hq b hb
theorem RowsMk.apart_of {base base' : Nat} {w : World} {v u : Value} {vs us : List Value} {ks : List Nat} {n : Int} {j : Nat} {e : TypeId} {size m : Nat} (h : RowsMk base w v vs ks n j) (ho : w.ownsRow base' e size u m us) (hne : e ≠ 3) : ∀ b, u.ownBlock = some b → ¬ RowsB vs b := by
  rintro b hb ⟨i, x, hx, hb'⟩
  have hl := h.own.1
  obtain ⟨k, hk⟩ : ∃ k, ks[i]? = some k := ⟨_, List.getElem?_eq_getElem (by have := (List.getElem?_eq_some_iff.1 hx).1; omega)⟩
  obtain ⟨xs, hq⟩ := h.row i x k hx hk
  exact own_apart ho hq hne b hb hb'

theorem Blk.tnd {S : Nat → Prop} {w w' : World} {b : Nat} {cs : Array Value} {t : TypeId} (h : Blk w b cs t) (ht : Tnd S w w') (hb : ¬ S b) : Blk w' b cs t := (ht.block b h.lt hb).trans h

theorem markSystem_x {al st n : Int} {ve : Value} {k : Nat} {xs : List Value} {base : Nat} {w : World} (h : w.ownsRow base 87 3 ve k xs) (hn : 0 ≤ n) (hs : k ≤ 1048576) (hn2 : n ≤ 1099511627776) :
    Calls Tryz.prog 114 #[.agg #[.int .i64 al, .int .i64 st, ve], .int .i64 n] w (fun e w' => e = .returned (.int .i64 (n + (k * 3 : Nat))) ∧ Tnd (SlB ve) w w' ∧ Marked 87 3 base w' ve k (markI n)) := by
  obtain ⟨a, c, rfl⟩ := own_any h
  go_enter Tryz.func114, Tryz.ntmps114
  go_wp2_with fail
  refine (markEdgeS_o (own_ext h (Ext.alloc _ _)) hn (by omega) (by omega)).mono ?_
  rintro e w1 ⟨rfl, hg, hm⟩
  go_wp2_with fail
  go_ret
  exact ⟨rfl, (Tnd.ext (Ext.alloc _ _)).trans (Tnd.grown hg fun _ h => h), hm⟩
theorem markAutomaton_x {al n : Int} {vn va : Value} {vs us : List Value} {ks : List Nat} {m : Nat} {base : Nat} {w : World} (hr : RowsMk base w vn vs ks n 0) (h2 : w.ownsRow base 4 1 va m us) (hn : 0 ≤ n) (hs : ks.length + ks.sum ≤ 1048576) (hs2 : m ≤ 1048576) (hn2 : n ≤ 549755813888) :
    Calls Tryz.prog 58 #[.agg #[.int .i64 al, vn, va], .int .i64 n] w (fun e w' => e = .returned (.int .i64 (n + ks.sum + m)) ∧ Tnd (fun b => RowsB vs b ∨ SlB va b) w w' ∧ RowsMk base w' vn vs ks n ks.length ∧ Marked 4 1 base w' va m (markB (n + ks.sum))) := by
  have hsp1 := hr.span
  obtain ⟨an, cn, rfl⟩ := own_any hr.own
  obtain ⟨aa, ca, rfl⟩ := own_any h2
  go_enter Tryz.func58, Tryz.ntmps58
  go_wp2_with fail
  refine (markIntSS_c _ vs ks n base _ (hr.ext (Ext.alloc _ _)) hn hs (by omega)).mono ?_
  rintro e w1 ⟨rfl, hg, hm⟩
  have hB := (Blk.new w _ _).tnd hg (fun h => by have := (hsp1 _ h).2; omega)
  have c2 := hB.cell 2 rfl
  have h2w := own_ext h2 (Ext.alloc w (.cells #[.int .i64 al, .slice an ks.length cn, .slice aa m ca] 31))
  have h21 := hg.own h2w ((hr.ext (Ext.alloc _ _)).apart_of h2w (by decide))
  go_wp2_with fail
  refine (markBoolS_o h21 (by omega) (by omega) (by omega)).mono ?_
  rintro e w2 ⟨rfl, hg2, hm2⟩
  go_wp2_with fail
  go_ret
  refine ⟨rfl, ((Tnd.ext (Ext.alloc _ _)).trans (hg.imp fun _ h => .inl h)).trans (Tnd.grown hg2 fun _ h => .inr h), ?_, hm2⟩
  exact hm.tnd (S := SlB (.slice aa m ca)) (Tnd.grown hg2 fun g hb => hb) (fun b hb hs => own_apart hm.own h21 (by decide) b hb hs) (fun b hb hs => (hm.apart_of h21 (by decide) b hs) hb)
def TaskMk (base : Nat) (w : World) (v : Value) (k : Nat) (ks : List Nat) (m : Nat) (n : Int) : Prop := ∃ a s ve b vn va vs d, v = .agg #[.int .i64 a, .int .i64 s, ve, .int .i64 b, vn, va, .int .i64 d] ∧ Marked 87 3 base w ve k (markI n) ∧
  RowsMk base w vn vs ks (n + (k * 3 : Nat)) ks.length ∧ Marked 4 1 base w va m (markB (n + (k * 3 : Nat) + ks.sum))
end Go.Proofs.YtanekmfifmkbmaaGreatDoor
