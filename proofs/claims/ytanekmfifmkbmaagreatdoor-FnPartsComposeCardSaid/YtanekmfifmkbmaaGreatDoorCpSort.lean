/- Part of this seat's proofs, cut to what its law needs. -/

import Derived.Test.YtanekmfifmkbmaaGreatDoorWalkH
import Derived.Test.YtanekmfifmkbmaaGreatDoorSubS
import Derived.Shelf.Sort.Plain
import Derived.Shelf.SlSortCmp.NoneTotal
namespace Go.Proofs.YtanekmfifmkbmaaGreatDoor
open Go.RowKit Go.Shelf Go.Sort
set_option linter.unusedVariables false
set_option linter.unusedSimpArgs false
set_option maxHeartbeats 1600000
set_option maxRecDepth 100000


def ExtD (w w' : World) : Prop := Ext w w' ∧ w.drawn ≤ w'.drawn
theorem ExtD.refl (w : World) : ExtD w w := ⟨Ext.refl _, Nat.le_refl _⟩
theorem ExtD.trans {a b c : World} (h : ExtD a b) (k : ExtD b c) : ExtD a c := ⟨h.1.trans k.1, Nat.le_trans h.2 k.2⟩
theorem ExtD.alloc (w : World) (o : Obj) : ExtD w (w.alloc o) := ⟨Ext.alloc _ _, Nat.le_refl _⟩
theorem ExtD.grown {w w' : World} (h : ExtD w w') : ∃ q os', w' = Go.Sort.grow (w.drewN q) os' := by
  obtain ⟨p, hp⟩ := regrown_of_below h.1
  refine ⟨p.d - w.drawn, p.os, ?_⟩
  have hd : w'.drawn = p.d := by rw [hp]; rfl
  have h2 := h.2
  rw [hp]
  show Go.Sort.grow { w with drawn := p.d } p.os = Go.Sort.grow { w with drawn := w.drawn + (p.d - w.drawn) } p.os
  rw [show w.drawn + (p.d - w.drawn) = p.d by omega]
section
variable {P : Program} {Kc : FuncId → Array Value → World → Value → World → Prop} {k : Nat} {o : Oper} {l : List Oper} {ends : Nat → World} {a : Act} {w : World}
def AfterD (P : Program) (l : List Oper) (w : World) (n : Nat) (Q : Exit → Act → World → Prop) (ends : Nat → World) (a : Act) : Prop :=
  ∀ w', ExtD w.drew w' → (∀ m, m < n → ExtD (ends m) w') → wpList P l.toArray Q (l.drop n) a w'
theorem AfterD.mono {n : Nat} {L : List Oper} {Q : Exit → Act → World → Prop} (e e' : Nat → World) (a : Act) (h : ∀ j, ExtD (e j) (e' j)) (hq : AfterD P L w n Q e a) : AfterD P L w n Q e' a :=
  fun w' h0 hm => hq w' h0 fun m hmn => (h m).trans (hm m hmn)
abbrev WalkD (P : Program) (L : List Oper) (Kc : FuncId → Array Value → World → Value → World → Prop) (w : World) (n : Nat) (Q : Exit → Act → World → Prop) (k : Nat) (l : List Oper) (ends : Nat → World) (a : Act) : Prop :=
  WalkR P L.toArray Kc ExtD .any w.drew (AfterD P L w n Q) k l ends a
theorem wp_region_extd {id : Nat} {Q : Exit → Act → World → Prop} {l : List Oper} (n : Nat) (hm : P.follows .mixedOrders = true) (hB : headB l.toArray n = true)
    (h : WalkD P l Kc w n Q 0 (l.take n) (fun _ => w.drew) a) : (Code.region id l.toArray true).wp P Q a w :=
  wp_region_rel (Kc := Kc) (R := ExtD) n hm hB (fun _ => ExtD.refl _) (fun _ _ _ => ExtD.trans) h
variable {L : List Oper} {n : Nat} {Q : Exit → Act → World → Prop}
theorem WalkD.pure (hk : ends k = w.drew) (h : ∀ K : Act → Prop, (∀ a', WalkD P L Kc w n Q (k + 1) l ends a' → K a') → PureDo P L.toArray w o a K) :
    WalkD P L Kc w n Q k (o :: l) ends a := by
  have h1 := h _ (fun _ h => h)
  intro w' h0 _
  obtain ⟨p, hp⟩ := regrown_of_below h0.1
  have hp' : w' = Go.Sort.grow (redrawn w p.d) p.os := hp
  have fin : ∀ u, WalkD P L Kc w n Q (k + 1) l ends (a.put o.dst u) → WalkD P L Kc w n Q (k + 1) l (upd ends k w') (a.put o.dst u) := fun u hu =>
    WalkR.ends_mono (R := ExtD) (n := n) (fun _ _ _ => ExtD.trans) (fun e e' a h hq => AfterD.mono e e' a h hq) l (k + 1) ends (upd ends k w') _ (fun j => by
      by_cases hj : j = k
      · subst hj; rw [upd_same, hk]; exact h0
      · rw [upd_ne _ _ hj]; exact ExtD.refl _) (fun _ => ExtD.refl _) hu
  unfold PureDo at h1
  by_cases hw : Region.wanted o (yielded L.toArray a.tmps) = true
  · rw [if_pos hw] at h1
    obtain ⟨u, hr, hK⟩ := h1
    have hr' := hr p
    rw [← hp'] at hr'
    refine ⟨fun _ => by rw [hr']; trivial, fun v w2 ho => ?_⟩
    unfold OpOut at ho
    rw [if_pos hw, hr'] at ho
    obtain ⟨rfl, rfl⟩ := ho
    exact ⟨ExtD.refl _, fin _ hK⟩
  · rw [if_neg hw] at h1
    refine ⟨fun h => absurd h hw, fun v w2 ho => ?_⟩
    unfold OpOut at ho
    rw [if_neg hw] at ho
    obtain ⟨rfl, rfl⟩ := ho
    exact ⟨ExtD.refl _, fin _ h1⟩
theorem WalkD.step (h : ∀ K : Value → World → Prop, (∀ v w', WalkD P L Kc w n Q (k + 1) l (upd ends k w') (a.put o.dst v) → K v w') → ∀ wc, ExtD w.drew wc → (∀ e ∈ o.after, Region.binds .any e = true → ExtD (ends e.on) wc) → OpDo P L.toArray Kc ExtD o a wc K) :
    WalkD P L Kc w n Q k (o :: l) ends a := fun wc h0 hd => h _ (fun _ _ h => h) wc h0 hd
theorem WalkD.nil (h : ∀ w', ExtD w.drew w' → (∀ m, m < n → ExtD (ends m) w') → wpList P L.toArray Q (L.drop n) a w') : WalkD P L Kc w n Q k [] ends a := h
end
theorem compareEdges_x (x y : Edge) (w : World) : Calls Tryz.prog 37 #[edgeVal x, edgeVal y] w (fun e w' => e = .returned (.int .i64 (cmpEdges x y)) ∧ ExtD w w') := by
  unfold edgeVal
  go_enter Tryz.func37, Tryz.ntmps37
  go_wp2_with fail
  obtain ⟨wo, hwo⟩ : ∃ wo : World, wo = (w.alloc (.cells #[.int .i64 x.src, .int .i64 x.letter, .int .i64 x.dst] 87)).alloc (.cells #[.int .i64 y.src, .int .i64 y.letter, .int .i64 y.dst] 87) := ⟨_, rfl⟩
  rw [← hwo]
  have hdn : wo.drawn = w.drawn := by rw [hwo]; rfl
  have hext : Ext ((w.alloc (.cells #[.int .i64 x.src, .int .i64 x.letter, .int .i64 x.dst] 87)).alloc (.cells #[.int .i64 y.src, .int .i64 y.letter, .int .i64 y.dst] 87)) wo := by rw [hwo]; exact Ext.refl _
  clear hwo
  have q0 := fun d os => cell_regrown (hext.peel.new 0 rfl) d os
  have q1 := fun d os => cell_regrown (hext.peel.new 1 rfl) d os
  have q2 := fun d os => cell_regrown (hext.peel.new 2 rfl) d os
  have r0 := fun d os => cell_regrown (hext.new1 0 rfl) d os
  have r1 := fun d os => cell_regrown (hext.new1 1 rfl) d os
  have r2 := fun d os => cell_regrown (hext.new1 2 rfl) d os
  obtain ⟨Kc, HKc⟩ : ∃ Kc : FuncId → Array Value → World → Value → World → Prop, Hid (Kc = fun _ args w0 v w' => ExtD w0 w' ∧ ∀ a b : Int, args = #[.int .i64 a, .int .i64 b] → v = .int .i64 (cmpI a b)) := ⟨_, rfl⟩
  refine wp_region_extd (Kc := Kc) 15 (by kernel_rfl) (by kernel_rfl) ?_
  simp only [List.take_succ_cons, List.take_zero]
  repeat (refine WalkD.pure rfl (fun K hK => ?_); simp only [PureDo]; go_simp; refine hK _ ?_; clear hK K)
  refine WalkD.step (fun K hK wc hwc hdc => ?_)
  simp only [OpDo, OpSafe, OpOut]
  go_simp
  refine ⟨(Compare_c _ _ _).mono ?_, ?_⟩
  · rintro e w' ⟨rfl, rfl⟩
    exact ⟨_, rfl, by rw [HKc.out]; exact ⟨ExtD.refl _, fun a b h => by simp at h; rw [h.1, h.2]⟩⟩
  intro v1 w1 hk1
  rw [HKc.out] at hk1
  obtain rfl := hk1.2 _ _ rfl
  refine ⟨hk1.1, hK _ _ ?_⟩
  clear hK K hdc hk1 hwc
  repeat (refine WalkD.pure rfl (fun K hK => ?_); simp only [PureDo]; go_simp; refine hK _ ?_; clear hK K)
  refine WalkD.step (fun K hK wc hwc hdc => ?_)
  simp only [OpDo, OpSafe, OpOut]
  go_simp
  refine ⟨(Compare_c _ _ _).mono ?_, ?_⟩
  · rintro e w' ⟨rfl, rfl⟩
    exact ⟨_, rfl, by rw [HKc.out]; exact ⟨ExtD.refl _, fun a b h => by simp at h; rw [h.1, h.2]⟩⟩
  intro v1 w1 hk1
  rw [HKc.out] at hk1
  obtain rfl := hk1.2 _ _ rfl
  refine ⟨hk1.1, hK _ _ ?_⟩
  clear hK K hdc hk1 hwc
  repeat (refine WalkD.pure rfl (fun K hK => ?_); simp only [PureDo]; go_simp; refine hK _ ?_; clear hK K)
  refine WalkD.step (fun K hK wc hwc hdc => ?_)
  simp only [OpDo, OpSafe, OpOut]
  go_simp
  refine ⟨(Compare_c _ _ _).mono ?_, ?_⟩
  · rintro e w' ⟨rfl, rfl⟩
    exact ⟨_, rfl, by rw [HKc.out]; exact ⟨ExtD.refl _, fun a b h => by simp at h; rw [h.1, h.2]⟩⟩
  intro v1 w1 hk1
  rw [HKc.out] at hk1
  obtain rfl := hk1.2 _ _ rfl
  refine ⟨hk1.1, hK _ _ ?_⟩
  clear hK K hdc hk1 hwc
  repeat (refine WalkD.pure rfl (fun K hK => ?_); simp only [PureDo]; go_simp; refine hK _ ?_; clear hK K)
  refine WalkD.nil (fun wn hwn hm => ?_)
  simp only [List.drop_succ_cons, List.drop_zero, List.drop_nil]
  replace hwn : ExtD w wn := ⟨hext.peel.peel.trans ((Ext.drew _).trans hwn.1), by have h1 := hwn.2; have h2 : wo.drew.drawn = wo.drawn + 1 := rfl; omega⟩
  clear q0 q1 q2 r0 r1 r2 hm
  go_wp2_with fail
  refine (Or_c _ [cmpI x.src y.src, cmpI x.letter y.letter, cmpI x.dst y.dst] _ ?_).mono ?_
  · refine ⟨_, _, rfl, Nat.le_refl _, by unfold maxLen; simp, fun _ => ⟨_, _, rfl, by simp, fun i x hi => ?_⟩⟩
    unfold IntAt
    rw [Nat.zero_add, Nat.mul_one]
    refine new_cell _ _ _ _ _ ?_
    match i, hi with
    | 0, hi => simpa using hi
    | 1, hi => simpa using hi
    | 2, hi => simpa using hi
  rintro e w' ⟨rfl, rfl⟩
  go_wp2_with fail
  go_ret
  exact ⟨rfl, hwn.trans (ExtD.alloc _ _)⟩



def renS : Go.Shelf.Ren where
  f := fun x => match x with | 125 => 79 | 128 => 138 | 129 => 139 | 189 => 35 | 215 => 148 | 216 => 135 | 257 => 78 | 294 => 129 | 295 => 130 | 296 => 131 | 297 => 132 | 298 => 133 | 299 => 134 | 300 => 136 | 301 => 137 | 328 => 180 | 329 => 181 | 330 => 182 | 331 => 183 | 332 => 184 | 343 => 200 | n => n
  t := fun x => match x with | 0 => 0 | 3 => 3 | 4 => 4 | 5 => 5 | 9 => 9 | 28 => 80 | 46 => 138 | 51 => 187 | 53 => 189 | 131 => 84 | 182 => 180 | 183 => 181 | 218 => 224 | 222 => 228 | 228 => 244 | 229 => 245 | n => n
  g := fun x => x
theorem laysS : Lays.n189 Tryz.prog renS := by
  constructor
  all_goals first | kernel_rfl | (intro w; kernel_rfl)
def renF : Go.Shelf.Ren where
  f := fun x => match x with | 6 => 36 | 14 => 80 | 15 => 79 | 20 => 140 | 21 => 141 | 22 => 142 | 23 => 143 | 24 => 144 | 25 => 145 | 26 => 146 | 27 => 147 | 28 => 138 | 29 => 139 | 46 => 185 | 47 => 181 | 48 => 182 | 49 => 186 | 50 => 187 | 57 => 201 | n => n
  t := fun x => match x with | 0 => 0 | 3 => 3 | 4 => 4 | 5 => 5 | 9 => 9 | 22 => 23 | 24 => 87 | 25 => 89 | 39 => 138 | 45 => 180 | 46 => 181 | 50 => 84 | 53 => 187 | 55 => 189 | 66 => 224 | 70 => 228 | 76 => 244 | 77 => 245 | n => n
  g := fun x => x
theorem laysF : SlLaysF0.n6 Tryz.prog renF where
  mixed := by kernel_rfl
  f6 := ⟨ "slices.SortFunc[[]loop.example/assumeguarantee/impl.Edge,loop.example/assumeguarantee/impl.Edge]", by decide, by kernel_rfl⟩
  f14 := ⟨ "slices.pdqsortCmpFunc[loop.example/assumeguarantee/impl.Edge]", by decide, by kernel_rfl⟩
  f15 := by kernel_rfl
  f20 := ⟨ "slices.insertionSortCmpFunc[loop.example/assumeguarantee/impl.Edge]", by decide, by kernel_rfl⟩
  f21 := ⟨ "slices.heapSortCmpFunc[loop.example/assumeguarantee/impl.Edge]", by decide, by kernel_rfl⟩
  f22 := ⟨ "slices.breakPatternsCmpFunc[loop.example/assumeguarantee/impl.Edge]", by decide, by kernel_rfl⟩
  f23 := ⟨ "slices.choosePivotCmpFunc[loop.example/assumeguarantee/impl.Edge]", by decide, by kernel_rfl⟩
  f24 := ⟨ "slices.reverseRangeCmpFunc[loop.example/assumeguarantee/impl.Edge]", by decide, by kernel_rfl⟩
  f25 := ⟨ "slices.partialInsertionSortCmpFunc[loop.example/assumeguarantee/impl.Edge]", by decide, by kernel_rfl⟩
  f26 := ⟨ "slices.partitionEqualCmpFunc[loop.example/assumeguarantee/impl.Edge]", by decide, by kernel_rfl⟩
  f27 := ⟨ "slices.partitionCmpFunc[loop.example/assumeguarantee/impl.Edge]", by decide, by kernel_rfl⟩
  f28 := by kernel_rfl
  f29 := by kernel_rfl
  f46 := ⟨ "slices.siftDownCmpFunc[loop.example/assumeguarantee/impl.Edge]", by decide, by kernel_rfl⟩
  f47 := by kernel_rfl
  f48 := by kernel_rfl
  f49 := ⟨ "slices.medianAdjacentCmpFunc[loop.example/assumeguarantee/impl.Edge]", by decide, by kernel_rfl⟩
  f50 := ⟨ "slices.medianCmpFunc[loop.example/assumeguarantee/impl.Edge]", by decide, by kernel_rfl⟩
  f57 := ⟨ "slices.order2CmpFunc[loop.example/assumeguarantee/impl.Edge]", by decide, by kernel_rfl⟩
  t0 := by kernel_rfl
  a0 := fun w => by kernel_rfl
  z0 := fun w => by kernel_rfl
  v0 := fun w => by kernel_rfl
  t3 := by kernel_rfl
  a3 := fun w => by kernel_rfl
  z3 := fun w => by kernel_rfl
  v3 := fun w => by kernel_rfl
  t4 := by kernel_rfl
  a4 := fun w => by kernel_rfl
  z4 := fun w => by kernel_rfl
  v4 := fun w => by kernel_rfl
  t5 := by kernel_rfl
  a5 := fun w => by kernel_rfl
  z5 := fun w => by kernel_rfl
  v5 := fun w => by kernel_rfl
  t9 := by kernel_rfl
  a9 := fun w => by kernel_rfl
  z9 := fun w => by kernel_rfl
  v9 := fun w => by kernel_rfl
  t22 := by kernel_rfl
  a22 := fun w => by kernel_rfl
  z22 := fun w => by kernel_rfl
  v22 := fun w => by kernel_rfl
  t25 := by kernel_rfl
  a25 := fun w => by kernel_rfl
  z25 := fun w => by kernel_rfl
  v25 := fun w => by kernel_rfl
  t39 := by kernel_rfl
  a39 := fun w => by kernel_rfl
  z39 := fun w => by kernel_rfl
  v39 := fun w => by kernel_rfl
  t45 := by kernel_rfl
  a45 := fun w => by kernel_rfl
  z45 := fun w => by kernel_rfl
  v45 := fun w => by kernel_rfl
  t46 := by kernel_rfl
  a46 := fun w => by kernel_rfl
  z46 := fun w => by kernel_rfl
  v46 := fun w => by kernel_rfl
  t50 := by kernel_rfl
  a50 := fun w => by kernel_rfl
  z50 := fun w => by kernel_rfl
  v50 := fun w => by kernel_rfl
  t53 := by kernel_rfl
  a53 := fun w => by kernel_rfl
  z53 := fun w => by kernel_rfl
  v53 := fun w => by kernel_rfl
  t55 := by kernel_rfl
  a55 := fun w => by kernel_rfl
  z55 := fun w => by kernel_rfl
  v55 := fun w => by kernel_rfl
  t66 := by kernel_rfl
  a66 := fun w => by kernel_rfl
  z66 := fun w => by kernel_rfl
  v66 := fun w => by kernel_rfl
  t70 := by kernel_rfl
  a70 := fun w => by kernel_rfl
  z70 := fun w => by kernel_rfl
  v70 := fun w => by kernel_rfl
  t76 := by kernel_rfl
  a76 := fun w => by kernel_rfl
  z76 := fun w => by kernel_rfl
  v76 := fun w => by kernel_rfl
  t77 := by kernel_rfl
  a77 := fun w => by kernel_rfl
  z77 := fun w => by kernel_rfl
  v77 := fun w => by kernel_rfl


theorem own_putRow {α : Type} [Inhabited α] (enc : α → Value) (d : Array α) {w : World} {g base n cap sz : Nat} {e : TypeId} {xs : List Value} (h : w.ownsRow base e sz (.slice (some ⟨g, 0, none⟩) n cap) n xs) (hF : d.size = n * sz) (m : Nat) (os : Array Obj) :
    (Go.Sort.grow (putRow enc (Go.Sort.ahead w m) g 0 d) os).ownsRow base e sz (.slice (some ⟨g, 0, none⟩) n cap) n (d.toList.map enc) ∧ w.grownBy (Go.Sort.grow (putRow enc (Go.Sort.ahead w m) g 0 d) os) (some g) := by
  obtain ⟨h1, h2⟩ := h
  rcases h2 with ⟨h2, -⟩ | ⟨g1, cap1, cur, h2, hb, hw, hnc, hcm, hcs, hx⟩
  · cases h2
  cases h2
  have hlt : g < w.heap.size := (Array.getElem?_eq_some_iff.1 hw).1
  have hle : n * sz ≤ cur.size := by rw [hcs]; exact Nat.mul_le_mul_right _ hnc
  have hat : ∀ k, k < w.heap.size → (Go.Sort.grow (putRow enc (Go.Sort.ahead w m) g 0 d) os).heap[k]? = (w.heap.modify g (onCells (putCells enc 0 d)))[k]? := fun k hk => by
    show (w.heap.modify g (onCells (putCells enc 0 d)) ++ os)[k]? = _
    rw [Array.getElem?_append_left (by simpa using hk)]
  refine ⟨⟨by simp [hF], .inr ⟨g, cap, putCells enc 0 d cur, rfl, hb, ?_, hnc, hcm, by simp [putCells, hcs], ?_⟩⟩, ⟨rfl, rfl, rfl, ?_, fun k hk hne => ?_⟩⟩
  · rw [hat g hlt, Array.getElem?_modify, if_pos rfl, hw]; rfl
  · refine List.ext_getElem? fun k => ?_
    rw [List.getElem?_take]
    by_cases hk : k < n * sz
    · rw [if_pos hk, List.getElem?_map, Array.getElem?_toList, Array.getElem?_toList]
      have hc : k < cur.size := Nat.lt_of_lt_of_le hk hle
      have hd : k < d.size := by omega
      rw [Array.getElem?_eq_getElem (by simpa [putCells] using hc), Array.getElem?_eq_getElem hd]
      simp [putCells, hd, getElem!_pos]
    · rw [if_neg hk, List.getElem?_eq_none (by simp; omega)]
  · show w.heap.size ≤ (w.heap.modify g (onCells (putCells enc 0 d)) ++ os).size
    simp
  · rw [hat k hk, Array.getElem?_modify, if_neg (fun e => hne (by rw [e]))]
theorem holds_of {α : Type} [Inhabited α] (enc : α → Value) (d : Array α) {w : World} {g base n cap sz : Nat} {e : TypeId} (h : w.ownsRow base e sz (.slice (some ⟨g, 0, none⟩) n cap) n (d.toList.map enc)) : Holds enc w g 0 d := by
  intro j hj
  rw [Nat.zero_add]
  refine ⟨own_cell h (by rw [List.getElem?_map, Array.getElem?_toList, Array.getElem?_eq_getElem hj]; simp [getElem!_pos, hj]), h.frozenAt j⟩


theorem sortInts_c (v : Value) (l : List Int) (base n : Nat) (w : World) (h : w.ownsRow base 3 1 v n (l.map (Value.int .i64))) (hn : l.length = n) (h0 : 0 < n) (h1 : n ≤ 4294967296) :
    Calls Tryz.prog 35 #[v] w (fun e w' => e = .returned (.tuple #[]) ∧ w'.ownsRow base 3 1 v n ((l.mergeSort fun x y => decide (x ≤ y)).map (Value.int .i64)) ∧ w.grownBy w' v.ownBlock) := by
  subst hn
  rcases own_shape h with ⟨rfl, h2⟩ | ⟨g, cap, rfl, -⟩
  · omega
  have hlt : g < w.heap.size := (own_lt h rfl).2
  have hH : Holds (Value.int .i64) w g 0 l.toArray := holds_of (Value.int .i64) l.toArray (by simpa using h)
  have hc := Any.slices_Sort_int laysS g 0 cap l w hH hlt (by omega)
  refine (show Calls Tryz.prog 35 _ _ _ from hc).mono ?_
  rintro e w' ⟨rfl, m, os, rfl⟩
  have hs : (l.mergeSort fun x y => decide (x ≤ y)).length = l.length := List.length_mergeSort _
  obtain ⟨k1, k2⟩ := own_putRow (Value.int .i64) (l.mergeSort fun x y => decide (x ≤ y)).toArray h (by simp [hs]) m os
  exact ⟨rfl, by simpa using k1, k2⟩


def encE (x : Edge) : List Value := [.int .i64 x.src, .int .i64 x.letter, .int .i64 x.dst]
theorem flat_at {α : Type} (enc : α → List Value) (k : Nat) (hk : ∀ x, (enc x).length = k) : ∀ (l : List α) (t : Nat), t < l.length * k → (l.flatMap enc)[t]? = (l[t / k]?).bind fun x => (enc x)[t % k]?
  | [], t, h => by simp at h
  | x :: l, t, h => by
    have k0 : 0 < k := by rcases Nat.eq_zero_or_pos k with h0 | h0; · subst h0; simp at h
                          · exact h0
    rw [List.flatMap_cons]
    rcases Nat.lt_or_ge t k with h1 | h1
    · rw [List.getElem?_append_left (by rw [hk]; exact h1), Nat.div_eq_of_lt h1, Nat.mod_eq_of_lt h1]; rfl
    · rw [List.getElem?_append_right (by rw [hk]; exact h1), hk, flat_at enc k hk l (t - k) (by simp only [List.length_cons, Nat.add_mul, Nat.one_mul] at h; omega)]
      have e1 : t / k = (t - k) / k + 1 := by rw [← Nat.add_div_right _ k0, Nat.sub_add_cancel h1]
      have e2 : t % k = (t - k) % k := by rw [← Nat.add_mod_right (t - k) k, Nat.sub_add_cancel h1]
      rw [e1, e2]; rfl
instance : Inhabited Edge := ⟨⟨0, 0, 0⟩⟩
theorem flatK_eq {α : Type} [Inhabited α] (enc : α → List Value) (k : Nat) (hk : ∀ x, (enc x).length = k) (l : List α) : (flatK enc k l.toArray).toList = l.flatMap enc := by
  have hl : (l.flatMap enc).length = l.length * k := by
    rw [List.length_flatMap]
    induction l with
    | nil => simp
    | cons x l ih => simp only [List.map_cons, List.sum_cons, hk, List.length_cons, Nat.add_mul] at ih ⊢; omega
  refine List.ext_getElem? fun t => ?_
  by_cases ht : t < l.length * k
  · have k0 : 0 < k := by rcases Nat.eq_zero_or_pos k with h0 | h0; · subst h0; simp at ht
                          · exact h0
    have hd : t / k < l.length := Nat.div_lt_of_lt_mul (by rw [Nat.mul_comm]; exact ht)
    have hm : t % k < (enc l[t / k]).length := by rw [hk]; exact Nat.mod_lt _ k0
    rw [flat_at enc k hk l t ht, Array.getElem?_toList, List.getElem?_eq_getElem hd]
    simp only [Option.bind_some]
    rw [List.getElem?_eq_getElem hm, Array.getElem?_eq_getElem (by simpa using ht)]
    simp [flatK, getElem!_pos, hd, hm]
  · rw [List.getElem?_eq_none (by simp; omega), List.getElem?_eq_none (by omega)]
theorem ltOf_edge (x y : Edge) : ltOf cmpEdges x y = edgeLt x y := by
  unfold ltOf cmpEdges
  obtain ⟨a, b, c⟩ := x
  obtain ⟨a', b', c'⟩ := y
  rw [Bool.eq_iff_iff]
  simp only [edgeLt, orI, cmpI, decide_eq_true_eq, Bool.or_eq_true, Bool.and_eq_true]
  by_cases h1 : a < a' <;> by_cases h2 : a' < a <;> by_cases h3 : b < b' <;> by_cases h4 : b' < b <;> by_cases h5 : c < c' <;> by_cases h6 : c' < c <;> simp [h1, h2, h3, h4, h5, h6] <;> omega
theorem swoEdge : SWO (ltOf cmpEdges) where
  irrefl x := by rw [ltOf_edge]; simp [edgeLt]
  trans x y z h1 h2 := by rw [ltOf_edge] at *; simp only [edgeLt, Bool.or_eq_true, Bool.and_eq_true, decide_eq_true_eq] at *; omega
  ntrans x y z h1 h2 := by
    rw [ltOf_edge] at *
    simp only [edgeLt, Bool.or_eq_false_iff, Bool.and_eq_false_iff, decide_eq_false_iff_not] at *
    omega
theorem edge_total (x y : Edge) (h1 : ltOf cmpEdges x y = false) (h2 : ltOf cmpEdges y x = false) : x = y := by
  rw [ltOf_edge] at *
  obtain ⟨a, b, c⟩ := x
  obtain ⟨a', b', c'⟩ := y
  simp only [edgeLt, Bool.or_eq_false_iff, Bool.and_eq_false_iff, decide_eq_false_iff_not] at *
  have e1 : a = a' := by omega
  have e2 : b = b' := by omega
  have e3 : c = c' := by omega
  rw [e1, e2, e3]
theorem cmpLaysE (blk off size : Nat) (w : World) : CmpLays Tryz.prog 37 #[] encE 3 cmpEdges blk off size w :=
  fun _ _ _ _ x y => (compareEdges_x x y _).mono fun _ _ ⟨h1, h2⟩ => ⟨h1, h2.grown⟩
theorem sortEdges_c (v : Value) (l : List Edge) (base : Nat) (w : World) (h : EdgesOwn 87 base w v l) (hl : l.length ≤ 4294967296) (hp : l.Pairwise fun a b => edgeLt a b = true) :
    Calls Tryz.prog 36 #[v, .func (.func 37) #[] #[]] w (fun e w' => e = .returned (.tuple #[]) ∧ EdgesOwn 87 base w' v l ∧ w.grownBy w' v.ownBlock) := by
  rcases own_shape h with ⟨rfl, h2⟩ | ⟨g, cap, rfl, -⟩
  · have hc := AnyF.slices_SortFunc_none laysF none 0 (.func (.func 37) #[] #[]) w
    refine (show Calls Tryz.prog 36 _ _ _ from hc).mono ?_
    rintro e w' ⟨rfl, rfl⟩
    exact ⟨rfl, h, ⟨rfl, rfl, rfl, Nat.le_refl _, fun _ _ _ => rfl⟩⟩
  have hlt : g < w.heap.size := (own_lt h rfl).2
  have hk : ∀ x : Edge, (encE x).length = 3 := fun _ => rfl
  have hfl := flatK_eq encE 3 hk l
  have hce : edgeCells l = l.flatMap encE := rfl
  have hown : w.ownsRow base 87 3 (.slice (some ⟨g, 0, none⟩) l.length cap) l.length ((flatK encE 3 l.toArray).toList.map id) := by rw [List.map_id, hfl, ← hce]; exact h
  have hH : HoldsK encE 3 w g 0 l.toArray := holds_of id (flatK encE 3 l.toArray) hown
  have hc := AnyQ.slices_SortFunc_total laysF 3 (fun w => by kernel_rfl) (fun w => by kernel_rfl) encE hk (fun x v hv => by simp [encE] at hv; rcases hv with rfl | rfl | rfl <;> rfl) cmpEdges swoEdge 37 #[] g 0 cap l.toArray w (fun _ _ => rfl) (cmpLaysE g 0 _ w) hH hlt (by simp; omega) edge_total
  have hs : l.mergeSort (fun x y => !ltOf cmpEdges y x) = l := List.mergeSort_of_pairwise (hp.imp fun {a b} hab => by
    rw [ltOf_edge]
    simp only [edgeLt, Bool.or_eq_true, Bool.and_eq_true, decide_eq_true_eq, Bool.not_eq_true', Bool.or_eq_false_iff, Bool.and_eq_false_iff, decide_eq_false_iff_not] at *
    omega)
  simp only [List.toList_toArray] at hc
  rw [hs] at hc
  refine (show Calls Tryz.prog 36 _ _ _ from hc).mono ?_
  rintro e w' ⟨rfl, m, os, rfl⟩
  obtain ⟨k1, k2⟩ := own_putRow id (flatK encE 3 l.toArray) h (by simp) m os
  rw [List.map_id, hfl, ← hce] at k1
  exact ⟨rfl, k1, k2⟩
end Go.Proofs.YtanekmfifmkbmaaGreatDoor
