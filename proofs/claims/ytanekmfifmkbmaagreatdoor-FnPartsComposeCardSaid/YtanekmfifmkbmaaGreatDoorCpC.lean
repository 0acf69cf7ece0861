/- Part of this seat's proofs, cut to what its law needs. -/

import Derived.Test.YtanekmfifmkbmaaGreatDoorPlainCp
import Derived.Test.YtanekmfifmkbmaaGreatDoorCpSort
import Derived.Test.YtanekmfifmkbmaaGreatDoorWalkFB
import Derived.Test.YtanekmfifmkbmaaGreatDoorWalkN
import Derived.Deep.DeepCutAuto
namespace Go.Proofs.YtanekmfifmkbmaaGreatDoor
open Go Go.RowKit Go.Maps
set_option linter.unusedVariables false
set_option linter.unusedSimpArgs false
set_option maxHeartbeats 4000000
set_option maxRecDepth 100000


def alC (a b : Sys) : Int := bits .or .i64 a.alphabet b.alphabet
theorem alC_facts {a b : Sys} (ha : sysValid a = true) (hb : sysValid b = true) : 0 ≤ alC a b ∧ alC a b ≤ 63 ∧ ∀ l, bit (alC a b) l = (bit a.alphabet l || bit b.alphabet l) := by
  obtain ⟨a0, a63⟩ := sys_alpha ha
  obtain ⟨b0, b63⟩ := sys_alpha hb
  unfold alC
  obtain ⟨m, hm⟩ := Int.eq_ofNat_of_zero_le a0
  obtain ⟨n, hn⟩ := Int.eq_ofNat_of_zero_le b0
  rw [hm, hn, i64_or_nat m n (by omega) (by omega)]
  have : m ||| n < 2 ^ 6 := Nat.or_lt_two_pow (by omega) (by omega)
  exact ⟨by omega, by omega, fun l => bit_or m n l⟩
def FullP (a b : Sys) (al : Int) : Prop := ∃ L : List Nat, L.Nodup ∧ 16 < L.length ∧ ∀ x ∈ L, ReachP a b al x
def CompIs (a b : Sys) (base : Nat) (w' : World) (v' : Value) (f : Bool) : Prop :=
  (f = true ∧ sysValid a = true ∧ sysValid b = true ∧ ∃ nodes, Pairs a b (alC a b) nodes ∧ nodes.length ≤ 16 ∧ ∃ ve, v' = .agg #[.int .i64 (alC a b), .int .i64 (nodes.length : Nat), ve] ∧ EdgesOwn 87 base w' ve (compTo a b (alC a b) nodes nodes.length)) ∨
    (f = false ∧ v' = .agg #[.int .i64 0, .int .i64 0, .slice none 0 0] ∧ (sysValid a = false ∨ sysValid b = false ∨ (sysValid a = true ∧ sysValid b = true ∧ FullP a b (alC a b))))


def slN (v : Value) (L : List Nat) : Slc := ⟨3, 1, v, L.length, (ints L).map (Value.int .i64)⟩
def HasM (D : DataW Unit) (L : List Nat) : Prop := ∀ x : Nat, x < 300 → Maps.has D (.int .i64 (x : Int)) = decide (x ∈ L)
theorem HasM.push {D : DataW Unit} {L : List Nat} (h : HasM D L) (hD : IsMap D) {x : Nat} (hx : x < 300) (u : DataW Unit) : HasM (D.put (.int .i64 (x : Int)) u) (L ++ [x]) := by
  intro y hy
  have hk := lawInt.key (key_int (x := x) (by omega))
  by_cases hxy : y = x
  · subst hxy
    rw [has_put_same hD hk]; simp
  · have hne : (Lit.int .i64 (y : Int)) ≠ .int .i64 (x : Int) := fun e => hxy (by injection e with _ e; omega)
    rw [has_put_other hne, h y hy]; simp [hxy]
theorem HasM.one : HasM ((DataW.map [] : DataW Unit).put (.int .i64 ((0 : Nat) : Int)) (.lit (.int .i64 0))) [0] := by
  have h0 : HasM (DataW.map []) [] := fun x _ => by simp [has_eq]
  have := h0.push isMap_empty (x := 0) (by omega) (.lit (.int .i64 0))
  simpa using this
def AtM (D : DataW Unit) (nodes : List Nat) (k : Nat) : Prop := ∀ j : Nat, j < k → ∀ x : Nat, nodes[j]? = some x → D.atKey (.int .i64 (x : Int)) (.lit (.int .i64 0)) = .lit (.int .i64 (j : Int))
theorem AtM.push {D : DataW Unit} {nodes : List Nat} {k : Nat} (h : AtM D nodes k) (hD : IsMap D) (hn : nodes.Pairwise (· < ·)) {x : Nat} (hx : nodes[k]? = some x) (hx3 : x < 300) : AtM (D.put (.int .i64 (x : Int)) (.lit (.int .i64 (k : Int)))) nodes (k + 1) := by
  intro j hj y hy
  have hk := lawInt.key (key_int (x := x) (by omega))
  rcases Nat.lt_or_ge j k with h1 | h1
  · have hlt := (List.pairwise_iff_getElem.1 hn) j k (List.getElem?_eq_some_iff.1 hy).1 (List.getElem?_eq_some_iff.1 hx).1 h1
    obtain ⟨_, e1⟩ := List.getElem?_eq_some_iff.1 hy
    obtain ⟨_, e2⟩ := List.getElem?_eq_some_iff.1 hx
    have hne : (Lit.int .i64 (y : Int)) ≠ .int .i64 (x : Int) := fun e => by injection e with _ e; omega
    rw [atKey_put_other hne]
    exact h j h1 y hy
  · obtain rfl : j = k := by omega
    rw [hx] at hy; cases hy
    exact atKey_put_same hD hk _ _
theorem SyssV.lit2 {w : World} {s t : Sys} {bl : Nat} {ve vf : Value} (hb : Blk w bl #[.int .i64 s.alphabet, .int .i64 s.states, ve, .int .i64 t.alphabet, .int .i64 t.states, vf] 25) (h : EdgesV w ve s.edges) (k : EdgesV w vf t.edges) :
    SyssV w (.slice (some ⟨bl, 0, none⟩) 2 2) [s, t] := by
  refine ⟨_, 2, rfl, Nat.le_refl _, by decide, fun _ => ⟨bl, 0, rfl, hb.lt, fun i x hi => ?_⟩⟩
  match i, hi with
  | 0, hi => simp at hi; subst hi; exact ⟨ve, hb.cell 0 rfl, hb.cell 1 rfl, hb.cell 2 rfl, h⟩
  | 1, hi => simp at hi; subst hi; exact ⟨vf, hb.cell 3 rfl, hb.cell 4 rfl, hb.cell 5 rfl, k⟩
  | i + 2, hi => simp at hi
theorem MvsTo.tnd {S : Nat → Prop} {base g : Nat} {cs : Array Value} {w w' : World} {v : Value} {l : List Sys} {k : Nat} {ps : List Value} (h : MvsTo base w v l k ps) (ht : Tnd S w w') (hG : Blk w g cs 25) (hS : ∀ b, S b → b = g ∨ w.heap.size ≤ b) : MvsTo base w' v l k ps := by
  have h0 : ∀ q, v.ownBlock = some q → ¬ S q := by
    intro q hq hs
    rcases hS q hs with h1 | h1
    · subst h1
      rcases h.own.2 with ⟨h2, -⟩ | ⟨g1, cap, cur, h2, -, h3, -⟩
      · rw [h2] at hq; cases hq
      · rw [h2] at hq; cases hq
        have h4 : w.heap[g1]? = _ := hG
        rw [h3] at h4; cases h4
    · have := (own_lt h.own hq).2; omega
  refine ⟨ht.own h.own h0, fun i s hi hs => ?_⟩
  obtain ⟨p, h1, bm, cm, rfl, hm⟩ := h.each i s hi hs
  have h2 : ¬ S bm := by
    intro hs2
    rcases hS bm hs2 with h5 | h5
    · subst h5
      have h4 : w.heap[bm]? = _ := hG
      have h6 : w.heap[bm]? = _ := hm.blk
      rw [h6] at h4; cases h4
    · have := hm.blk.lt; omega
  exact ⟨_, h1, bm, cm, rfl, ⟨hm.blk.tnd ht h2, hm.size, hm.cell⟩⟩
theorem map_tnd {S : Nat → Prop} {P : Program} {k : TypeId} {R : Value → Option (DataW Unit × List MemPlace)} {b n : Nat} {D : DataW Unit} {w w' : World} (h : w.ownsMap P k R b n D) (ht : Tnd S w w') (hb : ¬ S b) : w'.ownsMap P k R b n D := by
  have hlt := h.lt
  obtain ⟨es, clock, hq, r⟩ := h
  exact ⟨es, clock, (ht.block b hlt hb).trans hq, r⟩
theorem map_blk_ne {P : Program} {k : TypeId} {R : Value → Option (DataW Unit × List MemPlace)} {b n g : Nat} {D : DataW Unit} {w : World} {cs : Array Value} {T : TypeId} (h : w.ownsMap P k R b n D) (hG : Blk w g cs T) : b ≠ g := by
  rintro rfl
  obtain ⟨es, clock, hq, r⟩ := h
  have h2 : w.heap[b]? = _ := hG
  rw [hq] at h2; cases h2
theorem sort_ints (L : List Nat) : (ints L).mergeSort (fun x y => decide (x ≤ y)) = ints (L.mergeSort fun x y => decide (x ≤ y)) := by
  unfold ints
  exact (List.map_mergeSort (fun a _ b _ => by simp)).symm
theorem sorted_asc {L : List Nat} (h : L.Nodup) : (L.mergeSort fun x y => decide (x ≤ y)).Pairwise (· < ·) := by
  have h1 : (L.mergeSort fun x y => decide (x ≤ y)).Pairwise fun a b => decide (a ≤ b) = true := List.pairwise_mergeSort (fun a b c h1 h2 => by simp at *; omega) (fun a b => by simp; omega) L
  have h2 : (L.mergeSort fun x y => decide (x ≤ y)).Nodup := (List.mergeSort_perm L _).nodup_iff.2 h
  rw [List.nodup_iff_pairwise_ne] at h2
  exact (h1.and h2).imp fun {a b} h => by simp at h; omega
theorem sorted_mem {L : List Nat} (x : Nat) : x ∈ (L.mergeSort fun x y => decide (x ≤ y)) ↔ x ∈ L := (List.mergeSort_perm L _).mem_iff
theorem sorted_len (L : List Nat) : (L.mergeSort fun x y => decide (x ≤ y)).length = L.length := List.length_mergeSort _

theorem flatMap_le {α β : Type} (f : α → List β) (c : Nat) (h : ∀ x, (f x).length ≤ c) : ∀ l : List α, (l.flatMap f).length ≤ l.length * c
  | [] => by simp
  | x :: l => by
    have h1 := h x
    have h2 := flatMap_le f c h l
    rw [List.flatMap_cons, List.length_append, List.length_cons, Nat.add_mul]; omega
theorem compE_len (a b : Sys) (nodes : List Nat) (i : Nat) (l : Int) : (compE a b nodes i l).length ≤ 256 := by
  unfold compE; rw [List.length_map]; exact cpN_len _ _ _ _
theorem compRow_len (a b : Sys) (al : Int) (nodes : List Nat) (i : Nat) : (compRow a b al nodes i).length ≤ 1536 := by
  have h1 := flatMap_le (compE a b nodes i) 256 (compE_len a b nodes i) (letters al)
  have h2 : (letters al).length ≤ 6 := lettersTo_len al 6
  unfold compRow; omega
theorem compTo_len (a b : Sys) (al : Int) (nodes : List Nat) (k : Nat) : (compTo a b al nodes k).length ≤ k * 1536 := by
  have h1 := flatMap_le (compRow a b al nodes) 1536 (compRow_len a b al nodes) (List.range k)
  rw [List.length_range] at h1; exact h1
theorem compTo_succ (a b : Sys) (al : Int) (nodes : List Nat) (k : Nat) : compTo a b al nodes (k + 1) = compTo a b al nodes k ++ compRow a b al nodes k := by
  unfold compTo; rw [List.range_succ, List.flatMap_append]; simp
def compMid (a b : Sys) (al : Int) (nodes : List Nat) (i m : Nat) : List Edge := compTo a b al nodes i ++ ((letters al).take m).flatMap (compE a b nodes i)
def compIn (a b : Sys) (al : Int) (nodes : List Nat) (i m q : Nat) (l : Int) : List Edge := compMid a b al nodes i m ++ (compE a b nodes i l).take q
theorem compMid_zero (a b : Sys) (al : Int) (nodes : List Nat) (i : Nat) : compMid a b al nodes i 0 = compTo a b al nodes i := by simp [compMid]
theorem compMid_full (a b : Sys) (al : Int) (nodes : List Nat) (i : Nat) : compMid a b al nodes i (letters al).length = compTo a b al nodes (i + 1) := by
  rw [compTo_succ]; unfold compMid compRow; rw [List.take_length]
theorem compIn_zero (a b : Sys) (al : Int) (nodes : List Nat) (i m : Nat) (l : Int) : compIn a b al nodes i m 0 l = compMid a b al nodes i m := by simp [compIn]
theorem compIn_full {a b : Sys} {al : Int} {nodes : List Nat} {i m : Nat} {l : Int} (hl : (letters al)[m]? = some l) : compIn a b al nodes i m (compE a b nodes i l).length l = compMid a b al nodes i (m + 1) := by
  unfold compIn compMid; rw [List.take_length, List.take_add_one, hl, List.flatMap_append]; simp
theorem compIn_succ {a b : Sys} {al : Int} {nodes : List Nat} {i m q : Nat} {l : Int} {e : Edge} (he : (compE a b nodes i l)[q]? = some e) : compIn a b al nodes i m (q + 1) l = compIn a b al nodes i m q l ++ [e] := by
  unfold compIn; rw [List.take_add_one, he, Option.toList_some, List.append_assoc]
theorem compIn_len (a b : Sys) (al : Int) (nodes : List Nat) (i m q : Nat) (l : Int) : (compIn a b al nodes i m q l).length ≤ i * 1536 + 2000 := by
  have h1 := compTo_len a b al nodes i
  have h2 := flatMap_le (compE a b nodes i) 256 (compE_len a b nodes i) ((letters al).take m)
  have h3 : (letters al).length ≤ 6 := lettersTo_len al 6
  have h4 := compE_len a b nodes i l
  unfold compIn compMid
  simp only [List.length_append, List.length_take] at h2 ⊢
  omega
theorem edgeCells_snoc (l : List Edge) (e : Edge) : edgeCells (l ++ [e]) = edgeCells l ++ [.int .i64 e.src, .int .i64 e.letter, .int .i64 e.dst] := by simp [edgeCells]
theorem tnd_put {S : Nat → Prop} (w : World) {b : Nat} (hS : S b) (j : Nat) (v : Value) : Tnd S w (w.setCell ⟨b, j, none⟩ v) :=
  ⟨rfl, rfl, rfl, by simp, fun c _ hc => Below.heap_setCell w ⟨b, j, none⟩ v c (fun e => hc (by rw [e]; exact hS))⟩

set_option maxHeartbeats 8000000 in
theorem ComposeSystems_c (va vb : Value) (a b : Sys) (w : World) (hva : SysV w va a) (hvb : SysV w vb b) (hT : Deb w) :
    Calls Tryz.prog 7 #[va, vb] w (fun e w' => ∃ v' f, e = .returned (.tuple #[v', .bool f]) ∧ Ext w w' ∧ CompIs a b w.heap.size w' v' f) := by
  have HA := Lib.hid hva
  obtain ⟨vE1, rfl, k1⟩ := hva
  obtain ⟨aE1, cE1, rfl, -, -⟩ := k1.open
  have HB := Lib.hid hvb
  obtain ⟨vE2, rfl, k3⟩ := hvb
  obtain ⟨aE2, cE2, rfl, -, -⟩ := k3.open
  have KE1 := Lib.hid k1
  have KE2 := Lib.hid k3
  have HDb := Lib.hid hT
  clear k1 k3 hT
  unfold CompIs
  obtain ⟨al, hal⟩ : ∃ al, alC a b = al := ⟨_, rfl⟩
  have HAL := Lib.hid hal
  rw [hal]
  clear hal
  obtain ⟨wo, hwo⟩ : ∃ wo, wo = ((w.alloc (.cells #[.int .i64 a.alphabet, .int .i64 a.states, .slice aE1 a.edges.length cE1] 25)).alloc (.cells #[.int .i64 b.alphabet, .int .i64 b.states, .slice aE2 b.edges.length cE2] 25)).alloc (.cells #[.int .i64 0, .int .i64 0, .slice none 0 0] 25) := ⟨_, rfl⟩
  have he : Ext w wo := by rw [hwo]; exact ((Ext.alloc _ _).trans (Ext.alloc _ _)).trans (Ext.alloc _ _)
  have b1 : Blk wo w.heap.size #[.int .i64 a.alphabet, .int .i64 a.states, .slice aE1 a.edges.length cE1] 25 := by rw [hwo]; exact Ext.blk ((Ext.alloc _ _).trans (Ext.alloc _ _))
  have b2 : Blk wo (w.heap.size + 1) #[.int .i64 b.alphabet, .int .i64 b.states, .slice aE2 b.edges.length cE2] 25 := by rw [hwo]; exact Ext.blk1 (Ext.alloc _ _)
  have b4 : Blk wo (w.heap.size + 1 + 1) #[.int .i64 0, .int .i64 0, .slice none 0 0] 25 := by rw [hwo]; exact Ext.blk2 (Ext.refl _)
  go_enter Tryz.func7, Tryz.ntmps7
  go_upto_region 1 with fail
  rw [← hwo]
  clear hwo
  have b1_0 := b1.cell 0 rfl; have b1_1 := b1.cell 1 rfl; have b1_2 := b1.cell 2 rfl
  by_cases ha : sysValid a = true
  case neg =>
    have ha' : sysValid a = false := by simpa using ha
    go_wp2_with fail
    refine (SystemValid_b ha' (HA.out.mono he)).mono ?_
    rintro e w1 ⟨rfl, he1⟩
    replace he := he.trans he1
    replace b4 := b4.ext he1
    have rc0 := b4.cell 0 rfl; have rf0 := b4.fr 0; have rc1 := b4.cell 1 rfl; have rf1 := b4.fr 1; have rc2 := b4.cell 2 rfl; have rf2 := b4.fr 2
    go_wp2_with fail
    refine bodyPost_ret (v := .tuple #[.agg #[.int .i64 0, .int .i64 0, .slice none 0 0], .bool false]) (by simp [results, Tryz.results7, go_sem, rc0, rc1, rc2, rf0, rf1, rf2]) rfl ?_
    exact ⟨_, false, rfl, (((he.setCell (p := ⟨(w.heap.size + 1 + 1), 0, none⟩) (by simp only []; omega) _).setCell (p := ⟨(w.heap.size + 1 + 1), 1, none⟩) (by simp only []; omega) _).setCell (p := ⟨(w.heap.size + 1 + 1), 2, none⟩) (by simp only []; omega) _), .inr ⟨rfl, rfl, .inl ha'⟩⟩
  have HSA := Lib.hid ha
  go_wp2_with fail
  refine (SystemValid_b ha (HA.out.mono he)).mono ?_
  rintro e w1 ⟨rfl, he1⟩
  clear b1_0 b1_1 b1_2 ha
  replace he := he.trans he1
  replace b1 := b1.ext he1
  replace b2 := b2.ext he1
  replace b4 := b4.ext he1
  clear he1
  have b2_0 := b2.cell 0 rfl; have b2_1 := b2.cell 1 rfl; have b2_2 := b2.cell 2 rfl
  by_cases hb : sysValid b = true
  case neg =>
    have hb' : sysValid b = false := by simpa using hb
    go_wp2_with fail
    refine (SystemValid_b hb' (HB.out.mono he)).mono ?_
    rintro e w1 ⟨rfl, he1⟩
    replace he := he.trans he1
    replace b4 := b4.ext he1
    have rc0 := b4.cell 0 rfl; have rf0 := b4.fr 0; have rc1 := b4.cell 1 rfl; have rf1 := b4.fr 1; have rc2 := b4.cell 2 rfl; have rf2 := b4.fr 2
    go_wp2_with fail
    refine bodyPost_ret (v := .tuple #[.agg #[.int .i64 0, .int .i64 0, .slice none 0 0], .bool false]) (by simp [results, Tryz.results7, go_sem, rc0, rc1, rc2, rf0, rf1, rf2]) rfl ?_
    exact ⟨_, false, rfl, (((he.setCell (p := ⟨(w.heap.size + 1 + 1), 0, none⟩) (by simp only []; omega) _).setCell (p := ⟨(w.heap.size + 1 + 1), 1, none⟩) (by simp only []; omega) _).setCell (p := ⟨(w.heap.size + 1 + 1), 2, none⟩) (by simp only []; omega) _), .inr ⟨rfl, rfl, .inr (.inl hb')⟩⟩
  have HSB := Lib.hid hb
  go_wp2_with fail
  refine (SystemValid_b hb (HB.out.mono he)).mono ?_
  rintro e w2 ⟨rfl, he1⟩
  clear b2_0 b2_1 b2_2 hb
  replace he := he.trans he1
  replace b1 := b1.ext he1
  replace b2 := b2.ext he1
  replace b4 := b4.ext he1
  clear he1
  obtain ⟨al0, al63, -⟩ := alC_facts HSA.out HSB.out
  rw [HAL.out] at al0 al63
  have eal : bits .or .i64 a.alphabet b.alphabet = al := HAL.out
  have b1_0 := b1.cell 0 rfl; have b1_1 := b1.cell 1 rfl; have b1_2 := b1.cell 2 rfl
  have b2_0 := b2.cell 0 rfl; have b2_1 := b2.cell 1 rfl; have b2_2 := b2.cell 2 rfl
  go_upto_region 4 with fail
  obtain ⟨w3, hw3⟩ : ∃ w3, w3 = w2.alloc (.cells #[.int .i64 al, .int .i64 0, .slice none 0 0] 25) := ⟨_, rfl⟩
  have y3 : Ext w2 w3 := by rw [hw3]; exact Ext.alloc _ _
  have b6 : Blk w3 w2.heap.size #[.int .i64 al, .int .i64 0, .slice none 0 0] 25 := by rw [hw3]; exact Blk.new _ _ _
  rw [← hw3]
  clear hw3 eal
  have hg6 : w.heap.size + 1 + 1 < w2.heap.size := b4.lt
  generalize w2.heap.size = G6 at b6 hg6 ⊢
  replace he := he.trans y3
  replace b1 := b1.ext y3
  replace b2 := b2.ext y3
  replace b4 := b4.ext y3
  clear y3 b1_0 b1_1 b1_2 b2_0 b2_1 b2_2
  have b1_0 := b1.cell 0 rfl; have b1_1 := b1.cell 1 rfl; have b1_2 := b1.cell 2 rfl
  have b2_0 := b2.cell 0 rfl; have b2_1 := b2.cell 1 rfl; have b2_2 := b2.cell 2 rfl
  have yl := Ext.alloc w3 (.cells #[.int .i64 a.alphabet, .int .i64 a.states, .slice aE1 a.edges.length cE1, .int .i64 b.alphabet, .int .i64 b.states, .slice aE2 b.edges.length cE2] 25)
  have bl := Blk.new w3 #[.int .i64 a.alphabet, .int .i64 a.states, .slice aE1 a.edges.length cE1, .int .i64 b.alphabet, .int .i64 b.states, .slice aE2 b.edges.length cE2] 25
  have hgl : G6 < w3.heap.size := b6.lt
  have hSY := SyssV.lit2 (s := a) (t := b) bl (KE1.out.mono (he.trans yl)) (KE2.out.mono (he.trans yl))
  go_wp2_with fail
  refine (newParts_o _ [a, b] _ hSY (by simp) (fun s hs => by
    simp at hs
    rcases hs with rfl | rfl
    · exact HSA.out
    · exact HSB.out)).mono ?_
  rintro e w4 ⟨vp, rfl, he4, vm, ps, rfl, hMv⟩
  clear b1_0 b1_1 b1_2 b2_0 b2_1 b2_2 b1 b2 hSY
  replace he := (he.trans yl).trans he4
  replace b4 := (b4.ext yl).ext he4
  replace b6 := (b6.ext yl).ext he4
  replace bl := bl.ext he4
  clear yl he4
  generalize w3.heap.size = GL at bl hgl ⊢
  obtain ⟨aM, cM, rfl⟩ := own_any' hMv.own
  go_upto_region 5 with fail
  obtain ⟨w5, hw5⟩ : ∃ w5, w5 = w4.alloc (.cells #[.slice (some ⟨GL, 0, none⟩) 2 2, .slice aM 2 cM] 78) := ⟨_, rfl⟩
  have y5 : Ext w4 w5 := by rw [hw5]; exact Ext.alloc _ _
  have b7 : Blk w5 w4.heap.size #[.slice (some ⟨GL, 0, none⟩) 2 2, .slice aM 2 cM] 78 := by rw [hw5]; exact Blk.new _ _ _
  rw [← hw5]
  clear hw5
  have hg7 : G6 < w4.heap.size := b6.lt
  generalize w4.heap.size = G7 at b7 hg7 ⊢
  replace he := he.trans y5
  replace b4 := b4.ext y5
  replace b6 := b6.ext y5
  replace bl := bl.ext y5
  have hMv5 : ∃ base, MvsTo base w5 (.slice aM 2 cM) [a, b] 2 ps := ⟨_, own_ext hMv.own y5, fun i s hi hs => let ⟨p, h3, h4⟩ := hMv.each i s hi hs; ⟨p, h3, h4.mono y5⟩⟩
  clear y5 hMv
  have b6_0 := b6.cell 0 rfl; have b6_1 := b6.cell 1 rfl; have b6_2 := b6.cell 2 rfl
  go_wp2_with fail
  refine (lettersOf_o _ _ al0 al63).mono ?_
  rintro e w6 ⟨vl, rfl, he6, hl⟩
  obtain ⟨aL, cL, rfl⟩ := hl.shape
  have hg65 : G6 < w5.heap.size := b6.lt
  clear b6_0 b6_1 b6_2
  replace he := he.trans he6
  replace b4 := b4.ext he6
  replace b6 := b6.ext he6
  replace b7 := b7.ext he6
  replace bl := bl.ext he6
  obtain ⟨mb, hMv⟩ := hMv5
  have hMv6 : MvsTo mb w6 (.slice aM 2 cM) [a, b] 2 ps := ⟨own_ext hMv.own he6, fun i s hi hs => let ⟨p, h3, h4⟩ := hMv.each i s hi hs; ⟨p, h3, h4.mono he6⟩⟩
  clear hMv he6
  have lw6 := he.size
  have l46 := b4.lt
  have l66 := b6.lt
  have l76 := b7.lt
  have ll6 := bl.lt
  -- all that the search leans on stays where only the box of the result and new blocks turn
  have HW := Lib.hid (show ∀ w', Tnd (fun q => q = G6 ∨ w6.heap.size ≤ q) w6 w' → Ext w w' from fun w' h => Below.trans he (h.below lw6 fun q e => by rcases e with rfl | e <;> omega))
  have HPV := Lib.hid (show ∀ w', Tnd (fun q => q = G6 ∨ w6.heap.size ≤ q) w6 w' → PartsV w' (.agg #[.slice (some ⟨GL, 0, none⟩) 2 2, .slice aM 2 cM]) [a, b] from fun w' h =>
    ⟨_, _, rfl, SyssV.lit2 (bl.tnd h (by omega)) (KE1.out.mono (HW.out _ h)) (KE2.out.mono (HW.out _ h)), (hMv6.tnd h b6 fun q hq => hq).movess⟩)
  have HLV := Lib.hid (show ∀ w', Tnd (fun q => q = G6 ∨ w6.heap.size ≤ q) w6 w' → Deb w' from fun w' h => HDb.out.ext (HW.out _ h))
  have H4 := Lib.hid (show ∀ w', Tnd (fun q => q = G6 ∨ w6.heap.size ≤ q) w6 w' → Blk w' (w.heap.size + 1 + 1) #[.int .i64 0, .int .i64 0, .slice none 0 0] 25 from fun w' h => b4.tnd h (by omega))
  have H7 := Lib.hid (show ∀ w', Tnd (fun q => q = G6 ∨ w6.heap.size ≤ q) w6 w' → Blk w' G7 #[.slice (some ⟨GL, 0, none⟩) 2 2, .slice aM 2 cM] 78 from fun w' h => b7.tnd h (by omega))
  have H6 := Lib.hid b6
  have HLT6 := Lib.hid (show ∀ w', Tnd (fun q => q = G6 ∨ w6.heap.size ≤ q) w6 w' → ∀ (m : Nat) (l : Int), (letters al)[m]? = some l → ∃ bq oq, aL = some ⟨bq, oq, none⟩ ∧ w'.cell? ⟨bq, oq + m, none⟩ = some (.int .i64 l) from fun w' h m l hm => by
    have h2 : IntsOwn 3 w5.heap.size w' (.slice aL (letters al).length cL) (letters al) := h.own hl.own fun q hq hs => by
      have h3 := own_lt hl.own hq
      rcases hs with hs | hs <;> omega
    obtain ⟨aq, cq, e9, -, hat⟩ := h2.ints.open
    cases e9
    obtain ⟨bq, oq, e8, -, hc⟩ := hat m l hm
    have := hc m l hm
    unfold IntAt at this
    rw [Nat.mul_one] at this
    exact ⟨bq, oq, e8, this⟩)
  clear bl hl b7 b6 b4
  generalize hB : w6.heap.size = B at *
  have hmm := @run_makeMap Tryz.prog
  have hm0 : (((w6.alloc (.cells #[.int .i64 0] 3)).alloc (.map #[] 0))).ownsMap Tryz.prog 3 (plainElem (H := Unit) Tryz.prog 3) (w6.alloc (.cells #[.int .i64 0] 3)).heap.size 0 (.map []) := World.ownsMap_made _ _ _ _
  rw [World.size_alloc, hB] at hm0
  go_wp2_with (refine wpList_insert_own _ rfl _ _ _ 82 rfl 3 3 lawInt Tryz.underlying82 _ (B + 1) 0 _ (by rw [← hB]; rfl) hm0 (by unfold maxLen; omega) _ _ _ rfl rfl (key_int (x := 0) (by omega)) _ [] (elem_int (x := 0) (by omega)) ?_; intro w7 hm7 hg7)
  have hx7 : Ext w6 w7 := grown_below (B := w6.heap.size) ((Ext.alloc _ _).trans (Ext.alloc _ _)) hg7 (by simp; omega) (fun k hk => by cases hk; omega)
  have hP7 : Pool B w7 [slN (.slice (some ⟨B, 0, none⟩) 1 1) [0]] := by
    refine Pool.mapped ⟨fun t ht => ?_, List.pairwise_singleton _ _⟩ hm0 hg7
    simp only [List.mem_singleton] at ht
    subst ht
    have := own_ext (IntsOwn.one 3 w6 0).own (Ext.alloc (w6.alloc (.cells #[.int .i64 0] 3)) (.map #[] 0))
    rw [hB] at this
    exact this
  have hM7 : Hid (HasM ((DataW.map [] : DataW Unit).put (.int .i64 ((0 : Nat) : Int)) (.lit (.int .i64 0))) [0]) := Lib.hid HasM.one
  clear hm0 hg7 hmm
  generalize (DataW.map [] : DataW Unit).put (.int .i64 ((0 : Nat) : Int)) (.lit (.int .i64 0)) = D1 at hm7 hM7
  obtain ⟨bm, hbm⟩ : ∃ bm, B + 1 = bm := ⟨_, rfl⟩
  rw [hbm] at hm7 ⊢
  have hbml : B ≤ bm := by omega
  clear hbm
  have HX6 := Lib.hid (show ∀ w', Ext w6 w' → Tnd (fun q => q = G6 ∨ B ≤ q) w6 w' from fun w' h => Tnd.ext h)
  have hst7 : Hid (BfsSt a b al [0] 0 0 0) := Lib.hid (BfsSt.start a b al)
  have hL6 := lettersTo_len al 6
  have hL6' : (letters al).length ≤ 6 := hL6
  clear hL6
  obtain ⟨-, -, n1, n16⟩ := valid_alpha HSA.out
  obtain ⟨-, -, m1, m16⟩ := valid_alpha HSB.out
  have HPT := Lib.hid (show areParts [a, b] = true by simp [areParts, HSA.out, HSB.out])
  have HLAT := Lib.hid (show ∀ w', Ext w6 w' → ∀ (m : Nat) (l : Int), (letters al)[m]? = some l → ∃ bq oq, aL = some ⟨bq, oq, none⟩ ∧ w'.cell? ⟨bq, oq + m, none⟩ = some (.int .i64 l) from fun w' h => HLT6.out w' (HX6.out w' h))
  go_loopw [9, 11] (fun vP i wr => ∃ (k : Nat) (L : List Nat) (D : DataW Unit) (nm : Nat), i = .int .i64 k ∧ k ≤ L.length ∧ L.length ≤ 16 ∧ Hid (BfsSt a b al L k 0 0) ∧ Pool B wr [slN vP L] ∧ wr.ownsMap Tryz.prog 3 (plainElem (H := Unit) Tryz.prog 3) bm nm D ∧ nm ≤ L.length ∧ Hid (HasM D L) ∧ Ext w6 wr) (fun _ i _ => 17 - (intOf i).toNat)
  case atStart => exact ⟨0, [0], D1, 1, rfl, by simp, by simp, hst7, hP7, hm7, by simp, hM7, hx7⟩
  case round =>
    clear hst7 hP7 hm7 hM7 hx7
    obtain ⟨k, L, D, nm, rfl, hkL, hL16, HST, hP, hm, hnm, HM, hx⟩ := hrel
    obtain ⟨aS, cS, rfl⟩ := own_any' (Pool.hd hP)
    by_cases hlt : k < L.length
    case neg =>
      obtain rfl : k = L.length := by omega
      obtain ⟨nodes, hno⟩ : ∃ nodes, (L.mergeSort fun x y => decide (x ≤ y)) = nodes := ⟨_, rfl⟩
      have hlen : nodes.length = L.length := by rw [← hno]; exact sorted_len L
      have HPAIR := Lib.hid (show Pairs a b al nodes from by rw [← hno]; exact HST.out.pairs (sorted_asc HST.out.nodup) (fun x => sorted_mem x))
      have hpos : 0 < L.length := (List.getElem?_eq_some_iff.1 HST.out.head).1
      have CS := sortInts_c (.slice aS L.length cS) (ints L) B L.length wr (Pool.hd hP) (ints_len L) hpos (by omega)
      rw [sort_ints, hno] at CS
      have CS := Lib.hid CS
      have hPH := Lib.hid (Pool.hd hP)
      clear hP hno HM HST hkL hlt
      generalize L.length = N at *
      have HLN := Lib.hid hlen
      clear hlen
      go_wp2_with fail
      refine CS.out.mono ?_
      rintro e w8 ⟨rfl, hown, hg⟩
      have hx8 : Ext w6 w8 := hx.grown hg hx.size (fun j hj => by have := (own_lt hPH.out hj).1; omega)
      have hm8 := map_grown hm hPH.out hg
      have hP8 : Pool B w8 [⟨3, 1, .slice aS N cS, N, (ints nodes).map (Value.int .i64)⟩] := ⟨fun t ht => by simp only [List.mem_singleton] at ht; subst ht; exact hown, List.pairwise_singleton _ _⟩
      have hA8 : Hid (AtM D nodes 0) := Lib.hid (fun j hj => absurd hj (Nat.not_lt_zero _))
      clear hown hg hm hx CS hPH
      have HASC := Lib.hid HPAIR.out.asc
      have HPL := Lib.hid (show ∀ x ∈ nodes, x < 256 from fun x hx => Nat.lt_of_lt_of_le (HPAIR.out.lt HSA.out HSB.out x hx) (Nat.mul_le_mul (by omega : a.states.toNat ≤ 16) (by omega : b.states.toNat ≤ 16)))
      go_wp2_with fail
      go_loopw [99] (fun j wr => ∃ (i : Nat) (D : DataW Unit) (nm : Nat), j = .int .i64 i ∧ i ≤ N ∧ Pool B wr [⟨3, 1, .slice aS N cS, N, (ints nodes).map (Value.int .i64)⟩] ∧ wr.ownsMap Tryz.prog 3 (plainElem (H := Unit) Tryz.prog 3) bm nm D ∧ nm ≤ 16 + i ∧ Hid (AtM D nodes i) ∧ Ext w6 wr) (fun j _ => N - (intOf j).toNat)
      case atStart => exact ⟨0, D, nm, rfl, by omega, hP8, hm8, by omega, hA8, hx8⟩
      case round =>
        clear hP8 hm8 hA8 hx8 hnm
        obtain ⟨i, D, nm, rfl, hi, hP, hm, hnm, HAT, hx⟩ := hrel
        by_cases hiN : i < N
        · obtain ⟨x, hxn⟩ : ∃ x, nodes[i]? = some x := ⟨_, List.getElem?_eq_getElem (by rw [HLN.out]; exact hiN)⟩
          obtain ⟨gS, cS', e6, gs⟩ := own_at (Pool.hd hP) (j := i) (u := .int .i64 x) (by rw [List.getElem?_map, ints_at hxn]; rfl)
          cases e6
          have hx256 := HPL.out x (List.mem_of_getElem? hxn)
          have HN := Lib.hid (HAT.out.push hm.isMap HASC.out hxn (by omega))
          have hkey := Lib.hid (key_int (x := x) (by omega))
          have hnm2 : nm < maxLen := by unfold maxLen; omega
          have hiN' : (i : Int) < (N : Int) := by omega
          clear hxn
          go_wp2_with (first
            | (at_mapUpdate; refine wpList_mapUpdate_own _ rfl _ _ _ 82 rfl 3 3 lawInt Tryz.underlying82 _ bm nm D rfl hm hnm2 _ _ _ rfl rfl hkey.out _ [] (elem_int (x := i) (by omega)) ?_; intro w6' hm6 hg6; have hPs2 := Pool.mapped hP hm hg6; have hx6 : Ext w6 w6' := grown_below (B := w6.heap.size) hx hg6 hx.size (fun k hk => by cases hk; omega)))
          exact ⟨⟨i + 1, _, nm + 1, by go_num, by omega, hPs2, hm6, by omega, HN, hx6⟩, by simp [intOf]; omega⟩
        obtain rfl : i = N := by omega
        have b6r := H6.out.ext hx
        have gc0 := b6r.cell 0 rfl; have gf0 := b6r.fr 0; have gc1 := b6r.cell 1 rfl; have gf1 := b6r.fr 1; have gc2 := b6r.cell 2 rfl; have gf2 := b6r.fr 2
        have hne6 := map_blk_ne hm b6r
        go_upto_region 32 with fail
        obtain ⟨wq, hwq⟩ : ∃ wq, wq = wr.setCell ⟨G6, 1, none⟩ (.int .i64 (i : Int)) := ⟨_, rfl⟩
        have Tq : Tnd (fun q => q = G6 ∨ B ≤ q) w6 wq := by rw [hwq]; exact (HX6.out _ hx).trans (tnd_put _ (.inl rfl) _ _)
        have bG : Blk wq G6 #[.int .i64 al, .int .i64 (i : Int), .slice none 0 0] 25 := by rw [hwq]; exact b6r.set 1 _
        have hPq : wq.ownsRow B 3 1 (.slice aS i cS) i ((ints nodes).map (Value.int .i64)) := by rw [hwq]; exact own_store (Pool.hd hP) b6r (by decide) 1 _
        have hmq : wq.ownsMap Tryz.prog 3 (plainElem (H := Unit) Tryz.prog 3) bm nm D := by rw [hwq]; exact map_tnd (S := fun q => q = G6) hm (tnd_put (S := fun q => q = G6) _ rfl _ _) hne6
        rw [← hwq]
        have hBq : B ≤ wq.heap.size := by rw [← hB]; exact Tq.size
        have hGB : G6 < B := by omega
        clear hwq gc0 gc1 gc2 gf0 gf1 gf2 b6r hP hm hx hne6
        have HX3 := Lib.hid (show ∀ w', Tnd (fun q => q = G6 ∨ wq.heap.size ≤ q) wq w' → Tnd (fun q => q = G6 ∨ B ≤ q) w6 w' from fun w' h => Tq.trans (h.imp fun q hq => hq.elim .inl fun h => .inr (Nat.le_trans hBq h)))
        have HPR := Lib.hid (show ∀ w', Tnd (fun q => q = G6 ∨ wq.heap.size ≤ q) wq w' → w'.ownsRow B 3 1 (.slice aS i cS) i ((ints nodes).map (Value.int .i64)) from fun w' h => h.own hPq fun g hg hs => by
          have h1 := own_lt hPq hg
          rcases hs with hs | hs <;> omega)
        have hbq := hmq.lt
        have HMP := Lib.hid (show ∀ w', Tnd (fun q => q = G6 ∨ wq.heap.size ≤ q) wq w' → w'.ownsMap Tryz.prog 3 (plainElem (H := Unit) Tryz.prog 3) bm nm D from fun w' h => map_tnd hmq h (by omega))
        clear hPq hmq Tq hbq
        have HLAT3 := Lib.hid (show ∀ w', Tnd (fun q => q = G6 ∨ wq.heap.size ≤ q) wq w' → ∀ (m : Nat) (l : Int), (letters al)[m]? = some l → ∃ bq oq, aL = some ⟨bq, oq, none⟩ ∧ w'.cell? ⟨bq, oq + m, none⟩ = some (.int .i64 l) from fun w' h => HLT6.out w' (HX3.out w' h))
        go_wp2_with fail
        go_loopw [113] (fun j wr => ∃ (r : Nat) (ve : Value), j = .int .i64 r ∧ r ≤ i ∧ Tnd (fun q => q = G6 ∨ wq.heap.size ≤ q) wq wr ∧ Blk wr G6 #[.int .i64 al, .int .i64 (i : Int), ve] 25 ∧ EdgesOwn 87 wq.heap.size wr ve (compTo a b al nodes r)) (fun j _ => i - (intOf j).toNat)
        case atStart => exact ⟨0, _, rfl, by omega, Tnd.refl _ _, bG, EdgesOwn.nil _ _ _⟩
        case round =>
          clear bG
          obtain ⟨r, ve, rfl, hr, hT, bG, hE⟩ := hrel
          obtain ⟨aE, cE, rfl⟩ := own_any' hE
          by_cases hri : r < i
          case neg =>
            obtain rfl : r = i := by omega
            have hEL := compTo_len a b al nodes r
            have CSF := sortEdges_c _ (compTo a b al nodes r) wq.heap.size wr hE (by omega) (by
              have h1 := comp_asc (s := a) HSB.out HPAIR.out
              rwa [HLN.out] at h1)
            have hEH := Lib.hid hE
            have gc0 := bG.cell 0 rfl; have gc1 := bG.cell 1 rfl; have gc2 := bG.cell 2 rfl
            clear hE
            go_wp2_with fail
            refine CSF.mono ?_
            rintro e w9 ⟨rfl, hE9, hg9⟩
            have b69 := bG.grown hEH.out hg9 (by decide)
            have hT9 := hT.trans (Tnd.grown hg9 (S := fun q => q = G6 ∨ wq.heap.size ≤ q) (fun g hg => .inr (own_lt hEH.out hg).1))
            have b4 := H4.out _ (HX3.out _ hT9)
            have hxw := HW.out _ (HX3.out _ hT9)
            have HE9 := Lib.hid hE9
            clear gc0 gc1 gc2 bG hT hT9 hg9 hE9 CSF
            have gc0 := b69.cell 0 rfl; have gc1 := b69.cell 1 rfl; have gc2 := b69.cell 2 rfl
            have rc0 := b4.cell 0 rfl; have rf0 := b4.fr 0; have rc1 := b4.cell 1 rfl; have rf1 := b4.fr 1; have rc2 := b4.cell 2 rfl; have rf2 := b4.fr 2
            go_wp2_with fail
            refine bodyPost_ret (v := .tuple #[.agg #[.int .i64 al, .int .i64 (r : Int), .slice aE (compTo a b al nodes r).length cE], .bool true]) (by simp [results, Tryz.results7, go_sem, rc0, rc1, rc2, rf0, rf1, rf2]) rfl ?_
            refine ⟨_, true, rfl, (((hxw.setCell (p := ⟨(w.heap.size + 1 + 1), 0, none⟩) (by simp only []; omega) _).setCell (p := ⟨(w.heap.size + 1 + 1), 1, none⟩) (by simp only []; omega) _).setCell (p := ⟨(w.heap.size + 1 + 1), 2, none⟩) (by simp only []; omega) _), .inl ⟨rfl, HSA.out, HSB.out, nodes, HPAIR.out, by rw [HLN.out]; exact hL16, _, by rw [HLN.out], ?_⟩⟩
            rw [HLN.out]
            exact own_base (own_store (own_store (own_store HE9.out b4 (by decide) 0 _) (b4.set 0 _) (by decide) 1 _) ((b4.set 0 _).set 1 _) (by decide) 2 _) (by have := hBq; omega)
          obtain ⟨x, hxn⟩ : ∃ x, nodes[r]? = some x := ⟨_, List.getElem?_eq_getElem (by rw [HLN.out]; exact hri)⟩
          obtain ⟨gS, cS', e6, gs⟩ := own_at (HPR.out _ hT) (j := r) (u := .int .i64 x) (by rw [List.getElem?_map, ints_at hxn]; rfl)
          cases e6
          have HXN := Lib.hid hxn
          have hx256 := HPL.out x (List.mem_of_getElem? hxn)
          have hri' : (r : Int) < (i : Int) := by omega
          have hE0 : EdgesOwn 87 wq.heap.size wr (.slice aE (compTo a b al nodes r).length cE) (compMid a b al nodes r 0) := by rw [compMid_zero]; exact hE
          clear hxn hE
          go_wp2_with fail
          clear gs
          go_loopw [120] (fun j wr => ∃ (m : Nat) (ve : Value), j = .int .i64 m ∧ m ≤ (letters al).length ∧ Tnd (fun q => q = G6 ∨ wq.heap.size ≤ q) wq wr ∧ Blk wr G6 #[.int .i64 al, .int .i64 (i : Int), ve] 25 ∧ EdgesOwn 87 wq.heap.size wr ve (compMid a b al nodes r m)) (fun j _ => (letters al).length - (intOf j).toNat)
          case atStart => exact ⟨0, _, rfl, by omega, hT, bG, hE0⟩
          case round =>
            clear hT bG hE0
            obtain ⟨m, ve, rfl, hm6, hT, bG, hE⟩ := hrel
            by_cases hml : m < (letters al).length
            case neg =>
              obtain rfl : m = (letters al).length := by omega
              rw [compMid_full] at hE
              go_wp2_with fail
              exact ⟨⟨r + 1, ve, by go_num, by omega, hT, bG, hE⟩, by simp [intOf]; omega⟩
            obtain ⟨l, hl⟩ : ∃ l, (letters al)[m]? = some l := ⟨_, List.getElem?_eq_getElem hml⟩
            have HLM := Lib.hid hl
            obtain ⟨bq, oq, rfl, cl⟩ := HLAT3.out wr hT m l hl
            obtain ⟨hl0, hl6⟩ := letters_lt6 al63 l (List.mem_of_getElem? hl)
            obtain ⟨lt, hlt2⟩ := Int.eq_ofNat_of_zero_le hl0
            rw [hlt2] at cl
            have HLT := Lib.hid hlt2
            have hlt6 : lt < 6 := by omega
            have hml' : (m : Int) < ((letters al).length : Int) := by omega
            clear hl hl0 hl6 hlt2
            obtain ⟨nx, hnx⟩ : ∃ nx, cpN a b x (lt : Int) = nx := ⟨_, rfl⟩
            have HNX := Lib.hid hnx
            have hnl : nx.length ≤ 256 := by rw [← hnx]; exact cpN_len _ _ _ _
            have CN := (next_c _ [a, b] x lt (.slice none 0 0) [] wr.heap.size wr (HPV.out _ (HX3.out _ hT)) HPT.out (by omega) hlt6 (HLV.out _ (HX3.out _ hT)) (IntsOwn.nil _ _ _) (by simp) (Nat.le_refl _))
            have b7 := H7.out _ (HX3.out _ hT)
            have b7c0 := b7.cell 0 rfl
            have b7c1 := b7.cell 1 rfl
            clear b7
            go_wp2_with fail
            refine CN.mono ?_
            rintro e w4 ⟨vn, rfl, ho, ht4, -⟩
            have he4 : Ext wr w4 := ht4.below (Nat.le_refl _) (fun q hq => by cases hq)
            have ho2 : w4.ownsRow 0 3 1 vn nx.length ((ints nx).map (Value.int .i64)) := by
              have e1 : partsNext [a, b] x (lt : Int) = nx := hnx
              unfold IntsOwn at ho
              rw [e1, List.nil_append, ints_len] at ho
              exact own_base ho (Nat.zero_le _)
            obtain ⟨aN, cN, rfl⟩ := own_any' ho2
            have hT4 := hT.trans (Tnd.ext he4)
            have bG4 := bG.ext he4
            have hE4 : EdgesOwn 87 wq.heap.size w4 ve (compIn a b al nodes r m 0 (lt : Int)) := by rw [compIn_zero]; exact own_ext hE he4
            clear hT bG hE he4 ht4 ho b7c0 b7c1 cl CN hnx
            go_wp2_with fail
            go_loopw [129] (fun j wr => ∃ (q : Nat) (ve : Value), j = .int .i64 q ∧ q ≤ nx.length ∧ Tnd (fun q => q = G6 ∨ wq.heap.size ≤ q) wq wr ∧ Blk wr G6 #[.int .i64 al, .int .i64 (i : Int), ve] 25 ∧ EdgesOwn 87 wq.heap.size wr ve (compIn a b al nodes r m q (lt : Int)) ∧ wr.ownsRow 0 3 1 (.slice aN nx.length cN) nx.length ((ints nx).map (Value.int .i64))) (fun j _ => nx.length - (intOf j).toNat)
            case atStart => exact ⟨0, ve, rfl, by omega, hT4, bG4, hE4, ho2⟩
            case round =>
              clear hT4 bG4 hE4 ho2
              obtain ⟨q, ve, rfl, hq, hT, bG, hE, ho⟩ := hrel
              have hce : (compE a b nodes r (lt : Int)) = nx.map fun y2 => ⟨(r : Int), (lt : Int), (nodes.idxOf y2 : Nat)⟩ := by
                unfold compE
                rw [List.getD_eq_getElem?_getD, HXN.out, Option.getD_some, HNX.out]
              have hHL : (letters al)[m]? = some (lt : Int) := by rw [← HLT.out]; exact HLM.out
              by_cases hqn : q < nx.length
              case neg =>
                obtain rfl : q = nx.length := by omega
                have hE2 : EdgesOwn 87 wq.heap.size wr ve (compMid a b al nodes r (m + 1)) := by
                  rw [← compIn_full hHL, hce, List.length_map]; exact hE
                clear hE hce hHL
                go_wp2_with fail
                exact ⟨⟨m + 1, ve, by go_num, by omega, hT, bG, hE2⟩, by simp [intOf]; omega⟩
              obtain ⟨y, hy⟩ : ∃ y, nx[q]? = some y := ⟨_, List.getElem?_eq_getElem hqn⟩
              obtain ⟨gN, cN', e6, gn⟩ := own_at ho (j := q) (u := .int .i64 y) (by rw [List.getElem?_map, ints_at hy]; rfl)
              cases e6
              have hym : y ∈ nodes := HPAIR.out.next (List.mem_of_getElem? HXN.out) (List.mem_of_getElem? hHL) (by rw [HNX.out]; exact List.mem_of_getElem? hy)
              have hyB := HPL.out y hym
              have hkey := Lib.hid (key_int (x := y) (by omega))
              have HIX := Lib.hid (HAT.out (nodes.idxOf y) (by rw [← HLN.out]; exact List.idxOf_lt_length_iff.2 hym) y (idxAt hym))
              have HSU := Lib.hid (compIn_succ (a := a) (b := b) (al := al) (nodes := nodes) (i := r) (m := m) (q := q) (l := (lt : Int)) (e := ⟨(r : Int), (lt : Int), (nodes.idxOf y : Nat)⟩) (by rw [hce, List.getElem?_map, hy]; rfl))
              have hixl : nodes.idxOf y < 16 := by have h1 := List.idxOf_lt_length_iff.2 hym; rw [HLN.out] at h1; omega
              obtain ⟨ix, hix⟩ : ∃ ix, nodes.idxOf y = ix := ⟨_, rfl⟩
              rw [hix] at HIX HSU hixl
              have hEL := compIn_len a b al nodes r m q (lt : Int)
              have hqn' : (q : Int) < (nx.length : Int) := by omega
              obtain ⟨E, hEe⟩ : ∃ E, compIn a b al nodes r m q (lt : Int) = E := ⟨_, rfl⟩
              rw [hEe] at hE HSU hEL
              obtain ⟨aE, cE, rfl⟩ := own_any' hE
              have hm := HMP.out _ hT
              have hP : Pool wq.heap.size wr [⟨87, 3, .slice aE E.length cE, E.length, edgeCells E⟩] := ⟨fun t ht => by simp only [List.mem_singleton] at ht; subst ht; exact hE, List.pairwise_singleton _ _⟩
              have hsz := hT.size
              have gc0 := bG.cell 0 rfl; have gc1 := bG.cell 1 rfl; have gc2 := bG.cell 2 rfl
              clear hce hHL hy hym hix hEe hE
              go_wp2_with (first
                | (at_lookup; refine wpList_lookup_own_int _ rfl _ _ 82 rfl 3 3 .i64 lawInt Tryz.underlying82 Tryz.underlying3 (zeroInt _) bm nm D rfl hm _ _ rfl hkey.out ?_; intro c hat hwc; obtain rfl : c = (ix : Int) := (by have h9 := hat.symm.trans HIX.out; injection h9 with h9; injection h9); clear hat hwc)
                | (at_builtin; refine appP (news := [Value.int .i64 (r : Int), .int .i64 (lt : Int), .int .i64 (ix : Int)]) rfl rfl Tryz.underlying23 infoEdge rfl (by decide) hP rfl rfl rfl (by simp [Value.oneCell']) (by omega) (by decide) hsz ?_; intro v1 w7' hP1 hg1 hb1; obtain ⟨a1, c1, rfl⟩ := own_any' (Pool.hd hP1); have b74 := bG.grown (Pool.hd hP) hg1 (by decide); have g2 := b74.cell 2 rfl; have f2 := b74.fr 2))
              refine ⟨⟨q + 1, _, by go_num, by omega, (hT.trans (Tnd.grown hg1 (S := fun q => q = G6 ∨ wq.heap.size ≤ q) (fun g hg => .inr (own_lt (Pool.hd hP) hg).1))).trans (tnd_put _ (.inl rfl) 2 _), b74.set 2 _, ?_, own_store (own_grown ho (Pool.hd hP) hg1 (by decide)) b74 (by decide) 2 _⟩, by simp [intOf]; omega⟩
              rw [HSU.out]
              unfold EdgesOwn
              rw [edgeCells_snoc, List.length_append]
              exact own_store (Pool.hd hP1) b74 (by decide) 2 _
    obtain ⟨n, hn⟩ : ∃ n, L[k]? = some n := ⟨_, List.getElem?_eq_getElem hlt⟩
    have HNK := Lib.hid hn
    have hlt' : (k : Int) < (L.length : Int) := by omega
    clear hn
    go_wp2_with fail
    go_loopw [9, 59] (fun vP j wr => ∃ (m : Nat) (L : List Nat) (D : DataW Unit) (nm : Nat), j = .int .i64 m ∧ m ≤ (letters al).length ∧ k < L.length ∧ L.length ≤ 16 ∧ Hid (L[k]? = some n) ∧ Hid (BfsSt a b al L k m 0) ∧ Pool B wr [slN vP L] ∧ wr.ownsMap Tryz.prog 3 (plainElem (H := Unit) Tryz.prog 3) bm nm D ∧ nm ≤ L.length ∧ Hid (HasM D L) ∧ Ext w6 wr) (fun _ j _ => (letters al).length - (intOf j).toNat)
    case atStart => exact ⟨0, L, D, nm, rfl, by omega, hlt, hL16, HNK, HST, hP, hm, hnm, HM, hx⟩
    case round =>
      clear hP hm hnm HM hx HST HNK hlt' hlt hL16 hkL
      obtain ⟨m, L, D, nm, rfl, hmL, hlt, hL16, HNK, HST, hP, hm, hnm, HM, hx⟩ := hrel
      obtain ⟨aS, cS, rfl⟩ := own_any' (Pool.hd hP)
      by_cases hml : m < (letters al).length
      case neg =>
        obtain rfl : m = (letters al).length := by omega
        have HN := Lib.hid (HST.out.node HNK.out)
        go_wp2_with fail
        exact ⟨⟨k + 1, L, D, nm, by go_num, by omega, hL16, HN, hP, hm, hnm, HM, hx⟩, by simp [intOf]; omega⟩
      obtain ⟨l, hl⟩ : ∃ l, (letters al)[m]? = some l := ⟨_, List.getElem?_eq_getElem hml⟩
      have HLM := Lib.hid hl
      obtain ⟨bq, oq, rfl, cl⟩ := HLAT.out wr hx m l hl
      obtain ⟨hl0, hl6⟩ := letters_lt6 al63 l (List.mem_of_getElem? hl)
      obtain ⟨lt, hlt2⟩ := Int.eq_ofNat_of_zero_le hl0
      rw [hlt2] at cl
      have HLT := Lib.hid hlt2
      have hlt6 : lt < 6 := by omega
      have hml' : (m : Int) < ((letters al).length : Int) := by omega
      have hlt' : (k : Int) < (L.length : Int) := by omega
      obtain ⟨gS, cS', e6, gs⟩ := own_at (Pool.hd hP) (j := k) (u := .int .i64 n) (by rw [List.getElem?_map, ints_at HNK.out]; rfl)
      cases e6
      have hnB := HST.out.lt HSA.out HSB.out n (List.mem_of_getElem? HNK.out)
      have hnB2 : n < 256 := Nat.lt_of_lt_of_le hnB (Nat.mul_le_mul (by omega : a.states.toNat ≤ 16) (by omega : b.states.toNat ≤ 16))
      clear hl hl0 hl6 hlt2 hnB
      go_wp2_with fail
      clear cl
      have b7 := H7.out _ (HX6.out _ hx)
      have D0 := fun d os => cell_regrown (b7.cell 0 rfl) d os
      have D1' := fun d os => cell_regrown (b7.cell 1 rfl) d os
      have D2 := fun d os => cell_regrown gs d os
      obtain ⟨nx, hnx⟩ : ∃ nx, cpN a b n (lt : Int) = nx := ⟨_, rfl⟩
      have HNX := Lib.hid hnx
      have hnl : nx.length ≤ 256 := by rw [← hnx]; exact cpN_len _ _ _ _
      have CN := Lib.hid (show ∀ w', Ext w6 w' → Calls Tryz.prog 34 #[.agg #[.slice (some ⟨GL, 0, none⟩) 2 2, .slice aM 2 cM], .int .i64 n, .int .i64 lt, .slice none 0 0] w' (fun e w'' => ∃ v, e = .returned v ∧ Ext w' w'' ∧ w''.ownsRow w'.heap.size 3 1 v nx.length ((ints nx).map (Value.int .i64))) from fun w' h =>
        (next_c _ [a, b] n lt _ [] w'.heap.size w' (HPV.out _ (HX6.out _ h)) HPT.out (by omega) hlt6 (HLV.out _ (HX6.out _ h)) (IntsOwn.nil _ _ _) (by simp) (Nat.le_refl _)).mono (by
          rintro e w'' ⟨v, rfl, ho, ht, -⟩
          refine ⟨v, rfl, ht.below (Nat.le_refl _) (fun q hq => by cases hq), ?_⟩
          have e1 : partsNext [a, b] n (lt : Int) = nx := hnx
          unfold IntsOwn at ho
          rw [e1, List.nil_append, ints_len] at ho
          exact ho))
      clear b7 hnx
      obtain ⟨Kc, HKc⟩ : ∃ Kc : FuncId → Array Value → World → Value → World → Prop, Hid (Kc = fun (_ : FuncId) (_ : Array Value) (w0 : World) (v : Value) (w' : World) => Ext w0 w' ∧ w'.ownsRow w0.heap.size 3 1 v nx.length ((ints nx).map (Value.int .i64))) := ⟨_, rfl⟩
      refine wp_region_ext (Kc := Kc) 9 (by kernel_rfl) (by kernel_rfl) ?_
      simp only [List.take_succ_cons, List.take_zero]
      repeat (refine WalkE.pure rfl (fun K hK => ?_); simp only [PureDo]; go_simp; refine hK _ ?_; clear hK K)
      refine WalkE.step (fun K hK wd hwd hdd => ?_)
      simp only [OpDo, OpSafe, OpOut]
      go_simp
      refine ⟨(CN.out _ (hx.trans ((Ext.drew _).trans hwd))).mono ?_, ?_⟩
      · rintro e w' ⟨v, rfl, he9, hv⟩
        exact ⟨v, rfl, by rw [HKc.out]; exact ⟨he9, hv⟩⟩
      intro u1 w5' hk1
      rw [HKc.out] at hk1
      obtain ⟨hk1, ho⟩ := hk1
      obtain ⟨aN, cN, rfl⟩ := own_any' ho
      refine ⟨hk1, hK _ _ ?_⟩
      clear hK K hdd
      repeat (refine WalkE.pure rfl (fun K hK => ?_); simp only [PureDo]; go_simp; refine hK _ ?_; clear hK K)
      refine WalkE.nil (fun wn hwn hmn => ?_)
      simp only [List.drop_succ_cons, List.drop_zero, List.drop_nil]
      have hxn : Ext wr wn := (Ext.drew _).trans hwn
      have hP2 : Pool B wn [slN (.slice aN nx.length cN) nx, slN (.slice (some ⟨gS, 0, none⟩) L.length cS) L] := Pool.add (b := wd.heap.size) hP hxn _ (Nat.le_trans (Ext.drew _).size hwd.size) (by have h1 := hx.size; have h2 := hwd.size; have h3 := (Ext.drew wr).size; omega) (own_ext ho (hmn 6 (by omega)))
      have hP2 := hP2.perm (List.Perm.swap _ _ _)
      have hm2 := map_ext hm hxn
      have hx2 := hx.trans hxn
      clear hmn HKc D0 D1' D2 hwn hwd hk1 ho hP hm hx gs hxn
      have HST0 := HST
      go_wp2_with fail
      go_loopw [9, 71] (fun vP j wr => ∃ (q : Nat) (L : List Nat) (D : DataW Unit) (nm : Nat), j = .int .i64 q ∧ q ≤ nx.length ∧ k < L.length ∧ L.length ≤ 16 ∧ Hid (L[k]? = some n) ∧ Hid (BfsSt a b al L k m q) ∧ Pool B wr [slN vP L, slN (.slice aN nx.length cN) nx] ∧ wr.ownsMap Tryz.prog 3 (plainElem (H := Unit) Tryz.prog 3) bm nm D ∧ nm ≤ L.length ∧ Hid (HasM D L) ∧ Ext w6 wr) (fun _ j _ => nx.length - (intOf j).toNat)
      case atStart => exact ⟨0, L, D, nm, rfl, by omega, hlt, hL16, HNK, HST, hP2, hm2, hnm, HM, hx2⟩
      case round =>
        clear hP2 hm2 hnm HM hx2 HST HST0 HNK hlt' hlt hL16 CN
        obtain ⟨q, L, D, nm, rfl, hq, hlt, hL16, HNK, HST, hP, hm, hnm, HM, hx⟩ := hrel
        obtain ⟨aS, cS, rfl⟩ := own_any' (Pool.hd hP)
        by_cases hqn : q < nx.length
        case neg =>
          obtain rfl : q = nx.length := by omega
          have HN := Lib.hid (show BfsSt a b al L k (m + 1) 0 from by
            have h1 := HLM.out
            rw [HLT.out] at h1
            exact HST.out.letter h1 HNK.out (by rw [HNX.out]))
          have hP1 := (hP.perm (List.Perm.swap _ _ _)).tail
          clear hP
          go_wp2_with fail
          exact ⟨⟨m + 1, L, D, nm, by go_num, by omega, hlt, hL16, HNK, HN, hP1, hm, hnm, HM, hx⟩, by simp [intOf]; omega⟩
        obtain ⟨y, hy⟩ : ∃ y, nx[q]? = some y := ⟨_, List.getElem?_eq_getElem hqn⟩
        obtain ⟨gN, cN', e6, gn⟩ := own_at (Pool.hd2 hP) (j := q) (u := .int .i64 y) (by rw [List.getElem?_map, ints_at hy]; rfl)
        cases e6
        have hyB : y < a.states.toNat * b.states.toNat := cpN_lt HSA.out HSB.out n (lt : Int) y (by rw [HNX.out]; exact List.mem_of_getElem? hy)
        have hyB2 : y < 256 := Nat.lt_of_lt_of_le hyB (Nat.mul_le_mul (by omega : a.states.toNat ≤ 16) (by omega : b.states.toNat ≤ 16))
        have HY := Lib.hid (show (cpN a b n (lt : Int))[q]? = some y by rw [HNX.out]; exact hy)
        have HL' := Lib.hid (show (letters al)[m]? = some (lt : Int) by rw [← HLT.out]; exact HLM.out)
        have hqn' : (q : Int) < (nx.length : Int) := by omega
        have hkey := Lib.hid (key_int (x := y) (by omega))
        clear hy hyB
        by_cases hmem : y ∈ L
        · have hhas : Maps.has D (.int .i64 (y : Int)) = true := by rw [HM.out y (by omega)]; simpa using hmem
          have HN := Lib.hid (HST.out.skip HL'.out HNK.out HY.out hmem)
          clear hmem
          go_wp2_with (first
            | (at_lookup; refine wpList_lookup_own_ok_int _ rfl _ _ 82 rfl 3 3 .i64 lawInt Tryz.underlying82 Tryz.underlying3 (zeroInt _) bm nm D rfl hm _ _ rfl hkey.out ?_; intro c hat hwc; rw [hhas]; clear hat hwc))
          exact ⟨⟨q + 1, L, D, nm, by go_num, by omega, hlt, hL16, HNK, HN, hP, hm, hnm, HM, hx⟩, by simp [intOf]; omega⟩
        · have hhas : Maps.has D (.int .i64 (y : Int)) = false := by rw [HM.out y (by omega)]; simpa using hmem
          have HN := Lib.hid (HST.out.push HL'.out HNK.out HY.out hmem)
          have HMP := Lib.hid (HM.out.push hm.isMap (x := y) (by omega) (.lit (.int .i64 0)))
          clear hmem
          by_cases hfull : L.length = 16
          · have hFULL := Lib.hid (show FullP a b al from ⟨L ++ [y], HN.out.nodup, by rw [List.length_append, hfull]; simp, fun x hx => HN.out.reach x hx⟩)
            have b4 := H4.out _ (HX6.out _ hx)
            have hxw := HW.out _ (HX6.out _ hx)
            have hfi : ((L.length : Int) == 16) = true := by rw [hfull]; rfl
            have rc0 := b4.cell 0 rfl; have rf0 := b4.fr 0; have rc1 := b4.cell 1 rfl; have rf1 := b4.fr 1; have rc2 := b4.cell 2 rfl; have rf2 := b4.fr 2
            clear hfull
            go_wp2_with (first
              | (at_lookup; refine wpList_lookup_own_ok_int _ rfl _ _ 82 rfl 3 3 .i64 lawInt Tryz.underlying82 Tryz.underlying3 (zeroInt _) bm nm D rfl hm _ _ rfl hkey.out ?_; intro c hat hwc; rw [hhas]; clear hat hwc))
            refine bodyPost_ret (v := .tuple #[.agg #[.int .i64 0, .int .i64 0, .slice none 0 0], .bool false]) (by simp [results, Tryz.results7, go_sem, rc0, rc1, rc2, rf0, rf1, rf2]) rfl ?_
            exact ⟨_, false, rfl, (((hxw.setCell (p := ⟨(w.heap.size + 1 + 1), 0, none⟩) (by simp only []; omega) _).setCell (p := ⟨(w.heap.size + 1 + 1), 1, none⟩) (by simp only []; omega) _).setCell (p := ⟨(w.heap.size + 1 + 1), 2, none⟩) (by simp only []; omega) _), .inr ⟨rfl, rfl, .inr (.inr ⟨HSA.out, HSB.out, hFULL.out⟩)⟩⟩
          · have hfi : ((L.length : Int) == 16) = false := beq_eq_false_iff_ne.2 (by omega)
            have hL15 : L.length < 16 := by omega
            have hnm2 : nm < maxLen := by unfold maxLen; omega
            clear hfull
            go_wp2_with (first
              | (at_lookup; refine wpList_lookup_own_ok_int _ rfl _ _ 82 rfl 3 3 .i64 lawInt Tryz.underlying82 Tryz.underlying3 (zeroInt _) bm nm D rfl hm _ _ rfl hkey.out ?_; intro c hat hwc; rw [hhas]; clear hat hwc)
              | (at_mapUpdate; refine wpList_mapUpdate_own _ rfl _ _ _ 82 rfl 3 3 lawInt Tryz.underlying82 _ bm nm D rfl hm hnm2 _ _ _ rfl rfl hkey.out _ [] (elem_int (x := 0) (by omega)) ?_; intro w6' hm6 hg6; have hPs2 := Pool.mapped hP hm hg6; have hx6 : Ext w6 w6' := grown_below (B := w6.heap.size) hx hg6 hx.size (fun k hk => by cases hk; omega))
              | (at_builtin; refine appP (news := [Value.int .i64 (y : Int)]) rfl rfl Tryz.underlying80 infoInt rfl (by decide) hPs2 rfl rfl rfl (by simp [Value.oneCell']) (by omega) (by decide) (by rw [← hB]; exact hx6.size) ?_; intro v1 w7' hP1 hg1 hb1; obtain ⟨a1, c1, rfl⟩ := own_any' (Pool.hd hP1); have hm7 := map_grown hm6 (Pool.hd hPs2) hg1; have hx7 : Ext w6 w7' := Below.trans hx6 (by rw [hB]; exact hb1)))
            exact ⟨⟨q + 1, L ++ [y], _, nm + 1, by go_num, by omega, by simp; omega, by simp; omega, Lib.hid (by rw [List.getElem?_append_left hlt]; exact HNK.out), HN, by unfold slN at hP1 ⊢; rw [ints_append, List.map_append, List.length_append]; exact hP1, hm7, by simp; omega, HMP, hx7⟩, by simp [intOf]; omega⟩
end Go.Proofs.YtanekmfifmkbmaaGreatDoor
