/- Part of this seat's proofs, cut to what its law needs. -/

import Derived.Test.YtanekmfifmkbmaaGreatDoorWalkFB
import Derived.BigRegion

namespace Go.Proofs.YtanekmfifmkbmaaGreatDoor
set_option linter.unusedSimpArgs false
set_option linter.unusedVariables false
open Go.RowKit

set_option maxHeartbeats 1600000
set_option maxRecDepth 100000

def AutoAt (w : World) (b o : Nat) (x : Auto) : Prop := ∃ vn va, w.cell? ⟨b, o, none⟩ = some (.int .i64 x.alphabet) ∧ w.cell? ⟨b, o + 1, none⟩ = some vn ∧ w.cell? ⟨b, o + 2, none⟩ = some va ∧ IntssV w vn x.next ∧ BoolsV w va x.accept
abbrev AutosV := SlV AutoAt 3
theorem AutoAt.mono {w w' : World} (h : Ext w w') {b o : Nat} {x : Auto} (k : AutoAt w b o x) : AutoAt w' b o x := let ⟨vn, va, h1, h2, h3, h4, h5⟩ := k; ⟨vn, va, h.cell h1, h.cell h2, h.cell h3, h4.mono h, h5.mono h⟩
theorem AutosV.mono {w w' : World} (h : Ext w w') {v : Value} {l : List Auto} (k : AutosV w v l) : AutosV w' v l := SlV.mono k (fun _ _ _ _ => AutoAt.mono h) h.size

def NetV (w : World) (v : Value) (n : Net) (st : List Int) (kind q : Int) : Prop :=
  ∃ vp va vs, v = .agg #[vp, va, vs, .int .i64 n.letters, .int .i64 kind, .int .i64 q] ∧ SyssV w vp n.parts ∧ AutosV w va n.autos ∧ IntsV w vs st
theorem NetV.mono {w w' : World} (h : Ext w w') {v : Value} {n : Net} {st : List Int} {kind q : Int} (k : NetV w v n st kind q) : NetV w' v n st kind q := let ⟨vp, va, vs, e, h1, h2, h3⟩ := k; ⟨vp, va, vs, e, h1.mono h, h2.mono h, h3.mono h⟩
structure NetOk (n : Net) : Prop where
  parts : ∀ s ∈ n.parts, sysValid s = true
  autos : ∀ a ∈ n.autos, AutoFit a
  np : n.parts.length ≤ 3
  na : n.autos.length ≤ 2
  al : 0 ≤ n.letters ∧ n.letters ≤ 63
  el : ∀ s ∈ n.parts, s.edges.length ≤ 1048576
  tot : (sizesOf n).prod ≤ 268435456
theorem sizes_at_part {n : Net} {k : Nat} {s : Sys} (h : n.parts[k]? = some s) : (sizesOf n)[k]? = some s.states.toNat := by
  unfold sizesOf
  have := (List.getElem?_eq_some_iff.1 h).1
  rw [List.getElem?_append_left (by simpa using this), List.getElem?_map, h]; rfl
theorem sizes_at_auto {n : Net} {k : Nat} {a : Auto} (h : n.autos[k]? = some a) : (sizesOf n)[n.parts.length + k]? = some a.next.length := by
  unfold sizesOf
  rw [List.getElem?_append_right (by simp), List.length_map, Nat.add_sub_cancel_left, List.getElem?_map, h]; rfl
theorem sizes_len (n : Net) : (sizesOf n).length = n.parts.length + n.autos.length := by simp [sizesOf]
theorem sizes_bound {n : Net} (h : NetOk n) : ∀ s ∈ sizesOf n, 1 ≤ s ∧ s ≤ 1048600 := by
  intro s hs
  unfold sizesOf at hs
  rcases List.mem_append.1 hs with hs | hs
  · obtain ⟨x, hx, rfl⟩ := List.mem_map.1 hs
    have := valid_alpha (h.parts x hx); omega
  · obtain ⟨x, hx, rfl⟩ := List.mem_map.1 hs
    have h1 := (h.autos x hx).n1
    have h2 := (h.autos x hx).n2
    exact ⟨h1, h2⟩

theorem l4Sizes_c (v : Value) (n : Net) (st : List Int) (kind q : Int) (w : World) (hv : NetV w v n st kind q) (h : NetOk n) :
    Calls Tryz.prog 39 #[v] w (Gives (fun v w' => IntsOwn 3 w.heap.size w' v (ints (sizesOf n))) w) := by
  obtain ⟨vp, va, vs, rfl, h1, h2, h3⟩ := hv
  obtain ⟨ap, cp, rfl, -, hp⟩ := h1.open
  obtain ⟨aa, ca, rfl, -, ha⟩ := h2.open
  have hnp := h.np
  have hna := h.na
  go_enter Tryz.func39, Tryz.ntmps39
  go_wp2_with fail
  have he : Ext w (w.alloc (.cells #[.slice ap n.parts.length cp, .slice aa n.autos.length ca, vs, .int .i64 n.letters, .int .i64 kind, .int .i64 q] 92)) := Ext.alloc _ _
  have hB := Blk.new w #[.slice ap n.parts.length cp, .slice aa n.autos.length ca, vs, .int .i64 n.letters, .int .i64 kind, .int .i64 q] 92
  have hsz : (w.alloc (.cells #[.slice ap n.parts.length cp, .slice aa n.autos.length ca, vs, .int .i64 n.letters, .int .i64 kind, .int .i64 q] 92)).heap.size = w.heap.size + 1 := by simp
  generalize w.alloc (.cells #[.slice ap n.parts.length cp, .slice aa n.autos.length ca, vs, .int .i64 n.letters, .int .i64 kind, .int .i64 q] 92) = wo at he hB hsz ⊢
  have hlit := IntsOwn.lit 3 wo
  rw [hsz] at hlit
  have hB2 := hB.ext (Ext.alloc wo (.cells #[] 3))
  have HSB := Lib.hid (sizes_bound h)
  go_loopw [3, 4] (fun o i wr => ∃ k : Nat, k ≤ n.parts.length ∧ i = .int .i64 k ∧ IntsOwn 3 (w.heap.size + 1) wr o (ints ((sizesOf n).take k)) ∧ Ext wo wr) (fun _ i _ => n.parts.length - (intOf i).toNat)
  case atStart => exact ⟨0, by omega, rfl, hlit, Ext.alloc _ _⟩
  case round =>
    obtain ⟨k, hk, rfl, hown, hext⟩ := hrel
    have hws := hext.size
    have hlen : (ints ((sizesOf n).take k)).length = k := by rw [ints_len, List.length_take, sizes_len]; omega
    have cc0 := (hB.ext hext).cell 0 rfl; have cc1 := (hB.ext hext).cell 1 rfl; have cc2 := (hB.ext hext).cell 2 rfl; have cc3 := (hB.ext hext).cell 3 rfl; have cc4 := (hB.ext hext).cell 4 rfl; have cc5 := (hB.ext hext).cell 5 rfl
    by_cases hlt : k < n.parts.length
    · obtain ⟨x, hx⟩ : ∃ x, n.parts[k]? = some x := ⟨_, List.getElem?_eq_getElem hlt⟩
      obtain ⟨b, off, rfl, -, hc⟩ := hp k x hx
      obtain ⟨ve, g1, g2, g3, hve⟩ := (hc k x hx).mono (he.trans hext)
      have hst := valid_alpha (h.parts x (List.mem_of_getElem? hx))
      have HS := Lib.hid (show (sizesOf n).take (k + 1) = (sizesOf n).take k ++ [x.states.toNat] by rw [List.take_add_one, sizes_at_part hx]; rfl)
      clear hc hx
      go_wp2_with (at_builtin; refine app1 rfl rfl Tryz.underlying80 infoInt rfl (by decide) hown.own rfl rfl rfl (by simp [Value.oneCell']) (by omega) (by decide) (by omega) ?_; intro v1 w1 hown1 hgr1 hbl1)
      refine ⟨⟨k + 1, by omega, by go_num, IntsOwn.push hown1 ?_, Below.trans hext (hbl1.mono (by omega))⟩, by simp [intOf]; omega⟩
      rw [HS.out, ints_append]
      simp [ints]; omega
    · obtain rfl : k = n.parts.length := by omega
      obtain ⟨ao, co, rfl⟩ := hown.shape
      go_wp2_with fail
      go_loopw [3, 5] (fun o i wr => ∃ k : Nat, k ≤ n.autos.length ∧ i = .int .i64 k ∧ IntsOwn 3 (w.heap.size + 1) wr o (ints ((sizesOf n).take (n.parts.length + k))) ∧ Ext wo wr) (fun _ i _ => n.autos.length - (intOf i).toNat)
      case atStart => exact ⟨0, by omega, rfl, hown, hext⟩
      case round =>
        obtain ⟨k, hk, rfl, hown, hext⟩ := hrel
        have hws := hext.size
        have hlen : (ints ((sizesOf n).take (n.parts.length + k))).length = n.parts.length + k := by rw [ints_len, List.length_take, sizes_len]; omega
        have cc0 := (hB.ext hext).cell 0 rfl; have cc1 := (hB.ext hext).cell 1 rfl; have cc2 := (hB.ext hext).cell 2 rfl; have cc3 := (hB.ext hext).cell 3 rfl; have cc4 := (hB.ext hext).cell 4 rfl; have cc5 := (hB.ext hext).cell 5 rfl
        by_cases hlt : k < n.autos.length
        · obtain ⟨x, hx⟩ : ∃ x, n.autos[k]? = some x := ⟨_, List.getElem?_eq_getElem hlt⟩
          obtain ⟨b, off, rfl, -, hc⟩ := ha k x hx
          obtain ⟨vn, va, g1, g2, g3, hvn, hva⟩ := (hc k x hx).mono (he.trans hext)
          obtain ⟨an, cn, rfl, -, -⟩ := hvn.open
          have HS := Lib.hid (show (sizesOf n).take (n.parts.length + (k + 1)) = (sizesOf n).take (n.parts.length + k) ++ [x.next.length] by rw [← Nat.add_assoc, List.take_add_one, sizes_at_auto hx]; rfl)
          clear hc hx
          go_wp2_with (at_builtin; refine app1 rfl rfl Tryz.underlying80 infoInt rfl (by decide) hown.own rfl rfl rfl (by simp [Value.oneCell']) (by omega) (by decide) (by omega) ?_; intro v1 w1 hown1 hgr1 hbl1)
          refine ⟨⟨k + 1, by omega, by go_num, IntsOwn.push hown1 ?_, Below.trans hext (hbl1.mono (by omega))⟩, by simp [intOf]; omega⟩
          rw [HS.out, ints_append]
          simp [ints]
        · obtain rfl : k = n.autos.length := by omega
          go_wp2_with fail
          go_ret
          refine Gives.mk rfl (he.trans hext) ?_
          rw [List.take_of_length_le (by rw [sizes_len]; omega)] at hown
          exact hown.low (by omega)

theorem set_front {α : Type} (z x : α) (j : Nat) (T : List α) : (List.replicate (j + 1) z ++ T).set j x = List.replicate j z ++ x :: T := by
  rw [List.replicate_succ', List.append_assoc, List.set_append_right _ _ (by simp)]
  simp
theorem drop_cons {α : Type} {l : List α} {j : Nat} {x : α} (h : l[j]? = some x) : l.drop j = x :: l.drop (j + 1) := by
  obtain ⟨hj, rfl⟩ := List.getElem?_eq_some_iff.1 h
  exact List.drop_eq_getElem_cons hj

theorem l4Decode_c (v : Value) (ss : List Nat) (node : Nat) (w : World) (hv : IntsV w v (ints ss)) (hs : ∀ s ∈ ss, 1 ≤ s ∧ s ≤ 1048600) (hl : ss.length ≤ 8) (hn : node ≤ 1099511627776) :
    Calls Tryz.prog 44 #[v, .int .i64 node] w (Gives (fun v w' => IntsOwn 3 w.heap.size w' v (ints (decode ss node))) w) := by
  obtain ⟨a, c, rfl, -, h2⟩ := hv.open
  have hil := ints_len ss
  have hdl := decode_len ss node
  rw [hil]
  go_enter Tryz.func44, Tryz.ntmps44
  go_wp2_with (at_make; refine make1 rfl rfl Tryz.underlying80 infoInt rfl rfl rfl rfl (by omega) (by decide) (Nat.le_refl _) ?_; intro w1 hown hext hlt)
  go_loopw [1, 6] (fun m i wr => ∃ j : Nat, j ≤ ss.length ∧ i = .int .i64 ((j : Int) - 1) ∧ m = .int .i64 (node / (ss.drop j).prod : Nat) ∧ wr.ownsRow w.heap.size 3 1 (.slice (some ⟨w.heap.size, 0, none⟩) ss.length ss.length) ss.length (List.replicate j (.int .i64 0) ++ ((ints (decode ss node)).map (Value.int .i64)).drop j) ∧ Ext w wr) (fun _ i _ => (intOf i + 1).toNat)
  case atStart =>
    refine ⟨ss.length, Nat.le_refl _, rfl, by simp, ?_, hext⟩
    rw [List.drop_of_length_le (by rw [List.length_map, ints_len, hdl]; exact Nat.le_refl _), List.append_nil]
    simpa [toList_madeCells_one, Value.cells] using hown
  case round =>
    obtain ⟨j, hj, rfl, rfl, hown, hext⟩ := hrel
    cases j with
    | zero =>
      go_wp2_with fail
      go_ret
      refine Gives.mk rfl hext ?_
      have : (List.replicate 0 (Value.int .i64 0) ++ ((ints (decode ss node)).map (Value.int .i64)).drop 0) = (ints (decode ss node)).map (Value.int .i64) := by simp
      rw [this] at hown
      unfold IntsOwn
      rw [ints_len, hdl]
      exact hown
    | succ j =>
      obtain ⟨s, hsj⟩ : ∃ s, ss[j]? = some s := ⟨_, List.getElem?_eq_getElem (by omega)⟩
      obtain ⟨hs1, hs2⟩ := hs s (List.mem_of_getElem? hsj)
      obtain ⟨b, off, rfl, hbl, hc⟩ := h2 j s (ints_at hsj)
      have hbn : ¬ b = w.heap.size := by omega
      have hbn' : ¬ w.heap.size = b := by omega
      have g1 := hext.cell (hc j s (ints_at hsj))
      rw [Nat.mul_one] at g1
      obtain ⟨A, hA⟩ : ∃ A, Hid (A = node / (ss.drop (j + 1)).prod) := ⟨_, rfl⟩
      have hA1 : A ≤ node := by rw [hA.out]; exact Nat.div_le_self _ _
      have HD := Lib.hid (show ((ints (decode ss node)).map (Value.int .i64)).drop j = .int .i64 ((A : Int) % (s : Int)) :: ((ints (decode ss node)).map (Value.int .i64)).drop (j + 1) from drop_cons (by rw [List.getElem?_map, ints_at (decode_at ss node j s hsj), hA.out]; simp))
      have HM := Lib.hid (show node / (ss.drop j).prod = A / s by rw [drop_cons hsj, List.prod_cons, Nat.mul_comm, ← Nat.div_div_eq_div_mul, hA.out])
      have e1 : Int.tdiv (A : Int) (s : Int) = ((A / s : Nat) : Int) := by simp [Int.tdiv_eq_ediv_of_nonneg]
      have e2 : Int.tmod (A : Int) (s : Int) = ((A % s : Nat) : Int) := by simp [Int.tmod_eq_emod_of_nonneg]
      have e3 : ¬ (s : Int) = 0 := by omega
      have e4 : ¬ s = 0 := by omega
      have e5 : IntKind.i64.wrap ((A / s : Nat) : Int) = ((A / s : Nat) : Int) := by have h5 := Nat.div_le_self A s; generalize A / s = d5 at h5 ⊢; rw [IntKind.wrap_i64]; omega
      have e6 : wrap64 ((A : Int) / (s : Int)) = (A : Int) / (s : Int) := by
        have h5 := Nat.div_le_self A s
        rw [show (A : Int) / (s : Int) = ((A / s : Nat) : Int) by simp]
        generalize A / s = d5 at h5 ⊢
        exact IntWalk.wrap64_in _ (by omega)
      have gx := own_cell hown (j := j) (u := .int .i64 0) (by rw [List.getElem?_append_left (by simp)]; simp)
      have fx := hown.frozenAt j
      rw [← hA.out]
      clear hc h2 hsj
      go_wp2_with fail
      obtain ⟨o1, p1⟩ := hown.stored j (.int .i64 ((A : Int) % (s : Int)))
      rw [set_front] at o1
      refine ⟨⟨j, by omega, by go_num, by rw [HM.out]; simp [e6], ?_, ?_⟩, by simp [intOf]⟩
      · rw [HD.out]; exact o1
      · exact Below.setCell (p := ⟨w.heap.size, j, none⟩) hext (Nat.le_refl _) _
end Go.Proofs.YtanekmfifmkbmaaGreatDoor

namespace Go.Proofs.YtanekmfifmkbmaaGreatDoor
set_option linter.unusedSimpArgs false
set_option linter.unusedVariables false
open Go.RowKit

set_option maxHeartbeats 1600000
set_option maxRecDepth 100000

theorem edge_dst {s : Sys} (h : sysValid s = true) {k : Nat} {e : Edge} (hk : s.edges[k]? = some e) : 0 ≤ e.dst ∧ e.dst < s.states ∧ s.states ≤ 16 := by
  have h16 := (valid_alpha h).2.2.2
  obtain ⟨hi, rfl⟩ := List.getElem?_eq_some_iff.1 hk
  simp only [sysValid, Bool.and_eq_true, decide_eq_true_eq, List.all_eq_true] at h
  have h4 := h.2 k (List.mem_range.2 hi)
  unfold edgeAt at h4
  rw [List.getElem?_eq_getElem hi] at h4
  simp only [Bool.and_eq_true, edgeOk, decide_eq_true_eq] at h4
  omega

theorem l4In_c (v : Value) (l : List Int) (x : Int) (w : World) (hv : IntsV w v l) (hl : l.length ≤ 4294967296) :
    Calls Tryz.prog 126 #[v, .int .i64 x] w (Same (.bool (decide (x ∈ l))) w) := by
  obtain ⟨a, c, rfl, -, h2⟩ := hv.open
  go_enter Tryz.func126, Tryz.ntmps126
  go_wp2_with fail
  go_loop [5] (fun i => ∃ k : Nat, k ≤ l.length ∧ i = .int .i64 k ∧ Hid (x ∉ l.take k)) (fun i => l.length - (intOf i).toNat)
  case atStart => exact ⟨0, by omega, rfl, Lib.hid (by simp)⟩
  case round =>
    obtain ⟨k, hk, rfl, hno⟩ := hrel
    by_cases hlt : k < l.length
    · obtain ⟨y, hy⟩ : ∃ y, l[k]? = some y := ⟨_, List.getElem?_eq_getElem hlt⟩
      obtain ⟨b, off, rfl, -, hc⟩ := h2 k y hy
      have g1 := hc k y hy
      unfold IntAt at g1
      rw [Nat.mul_one] at g1
      have HY := Lib.hid hy
      clear hc hy h2
      by_cases hxy : y = x
      · subst hxy
        go_wp2_with fail
        go_ret
        exact Same.mk (by simp [List.mem_of_getElem? HY.out])
      · go_wp2_with fail
        refine ⟨⟨k + 1, by omega, by go_num, Lib.hid ?_⟩, by simp [intOf]; omega⟩
        rw [List.take_add_one, HY.out]
        intro hm
        rcases List.mem_append.1 hm with hm | hm
        · exact hno.out hm
        · simp at hm; exact hxy hm.symm
    · obtain rfl : k = l.length := by omega
      go_wp2_with fail
      go_ret
      have := hno.out
      rw [List.take_length] at this
      exact Same.mk (by simp [this])

theorem l4Choices_a (v : Value) (n : Net) (st : List Int) (kind q : Int) (j : Nat) (a : Auto) (qs : Nat) (l : Int) (w : World) (hv : NetV w v n st kind q) (hi : n.autos[j]? = some a) (ha : AutoFit a) (hlt : qs < a.next.length) (hl : 0 ≤ l) (hl2 : l < 6) (hnp : n.parts.length ≤ 3) :
    Calls Tryz.prog 86 #[v, .int .i64 (n.parts.length + j : Nat), .int .i64 qs, .int .i64 l] w (Gives (fun v w' => IntsOwn 3 w.heap.size w' v (ints [step a qs l])) w) := by
  obtain ⟨vp, va, vs, rfl, h1, h2, h3⟩ := hv
  obtain ⟨ap, cp, rfl, -, -⟩ := h1.open
  obtain ⟨aa, ca, rfl, haln, hha⟩ := h2.open
  have hilt := (List.getElem?_eq_some_iff.1 hi).1
  obtain ⟨b, off, rfl, hbl, hc⟩ := hha j a hi
  obtain ⟨vn, vb, g1, g2, g3, hvn, hvb⟩ := hc j a hi
  obtain ⟨an, cn, rfl, -, -⟩ := hvn.open
  obtain ⟨ab, cb, rfl, -, -⟩ := hvb.open
  clear hc hha hi
  go_enter Tryz.func86, Tryz.ntmps86
  go_wp2_with fail
  have he : Ext w (w.alloc (.cells #[.slice ap n.parts.length cp, .slice (some ⟨b, off, none⟩) n.autos.length ca, vs, .int .i64 n.letters, .int .i64 kind, .int .i64 q] 92)) := Ext.alloc _ _
  have hB := Blk.new w #[.slice ap n.parts.length cp, .slice (some ⟨b, off, none⟩) n.autos.length ca, vs, .int .i64 n.letters, .int .i64 kind, .int .i64 q] 92
  generalize w.alloc (.cells #[.slice ap n.parts.length cp, .slice (some ⟨b, off, none⟩) n.autos.length ca, vs, .int .i64 n.letters, .int .i64 kind, .int .i64 q] 92) = wo at he hB ⊢
  have hsz := hB.lt
  refine (l3Go_f _ a qs l _ ⟨_, _, rfl, hvn.mono he, hvb.mono he⟩ ha hlt hl hl2).mono ?_
  rintro e w1 ⟨rfl, he1⟩
  go_wp2_with fail
  go_ret
  exact Gives.mk rfl ((he.trans he1).trans (Ext.alloc _ _)) ((IntsOwn.one 3 w1 _).low (he.trans he1).size)

def chTo (s : Sys) (q : Nat) (l : Int) (k : Nat) : List Nat := ((s.edges.take k).filter fun e => decide (e.src = (q : Int)) && decide (e.letter = l)).map fun e => e.dst.toNat
theorem chTo_succ {s : Sys} {q : Nat} {l : Int} {k : Nat} {e : Edge} (h : s.edges[k]? = some e) : chTo s q l (k + 1) = chTo s q l k ++ (if (decide (e.src = (q : Int)) && decide (e.letter = l)) = true then [e.dst.toNat] else []) := by
  unfold chTo
  rw [List.take_add_one, h, List.filter_append, List.map_append]
  congr 1
  simp only [Option.toList]
  split
  · rename_i hh; simp [List.filter_cons, hh]
  · rename_i hh; simp [List.filter_cons, hh]
theorem chTo_len (s : Sys) (q : Nat) (l : Int) (k : Nat) : (chTo s q l k).length ≤ k := by
  unfold chTo
  rw [List.length_map]
  exact Nat.le_trans (List.length_filter_le _ _) (by rw [List.length_take]; omega)

theorem l4Choices_p (v : Value) (n : Net) (st : List Int) (kind q : Int) (i : Nat) (s : Sys) (qs : Nat) (l : Int) (w : World) (hv : NetV w v n st kind q) (hi : n.parts[i]? = some s) (hs : sysValid s = true) (hl : 0 ≤ l) (hl2 : l < 6) (hel : s.edges.length ≤ 1048576) (hqs : qs < 16) :
    Calls Tryz.prog 86 #[v, .int .i64 i, .int .i64 qs, .int .i64 l] w (Gives (fun v w' => IntsOwn 3 w.heap.size w' v (ints (sysCh s qs l))) w) := by
  obtain ⟨vp, va, vs, rfl, h1, h2, h3⟩ := hv
  obtain ⟨ap, cp, rfl, -, hhp⟩ := h1.open
  obtain ⟨aa, ca, rfl, -, -⟩ := h2.open
  have hilt := (List.getElem?_eq_some_iff.1 hi).1
  obtain ⟨b, off, rfl, hbl, hc⟩ := hhp i s hi
  obtain ⟨ve, g1, g2, g3, hve⟩ := hc i s hi
  obtain ⟨ae, ce, rfl, hel2, hhe⟩ := hve.open
  have hal := valid_alpha hs
  have hdst := Lib.hid (fun (k : Nat) (e : Edge) (hk : s.edges[k]? = some e) => edge_dst hs hk)
  clear hc hhp hi
  go_enter Tryz.func86, Tryz.ntmps86
  go_wp2_with fail
  have he : Ext w (w.alloc (.cells #[.slice (some ⟨b, off, none⟩) n.parts.length cp, .slice aa n.autos.length ca, vs, .int .i64 n.letters, .int .i64 kind, .int .i64 q] 92)) := Ext.alloc _ _
  have hB := Blk.new w #[.slice (some ⟨b, off, none⟩) n.parts.length cp, .slice aa n.autos.length ca, vs, .int .i64 n.letters, .int .i64 kind, .int .i64 q] 92
  generalize w.alloc (.cells #[.slice (some ⟨b, off, none⟩) n.parts.length cp, .slice aa n.autos.length ca, vs, .int .i64 n.letters, .int .i64 kind, .int .i64 q] 92) = wo at he hB ⊢
  have hsz := hB.lt
  refine (l1Has_c _ _ _ (by omega) (by omega) hl (by omega)).mono ?_
  rintro e w1 ⟨rfl, rfl⟩
  by_cases hb : bit s.alphabet l = true
  · have HC := Lib.hid (show sysCh s qs l = chTo s qs l s.edges.length by unfold sysCh chTo; rw [if_pos hb, List.take_length])
    rw [hb]
    clear hb
    have c0 := hB.cell 0 rfl
    have r2 := he.cell g3
    have D0 : ∀ o, (wo.alloc o).cell? ⟨w.heap.size, 0, none⟩ = _ := fun o => (hB.ext (Ext.alloc wo o)).cell 0 rfl
    have D2 : ∀ o, (wo.alloc o).cell? _ = _ := fun o => (Ext.alloc wo o).cell (he.cell g3)
    go_wp2_with fail
    have hwo := he.size
    go_loopw [9, 11] (fun o i wr => ∃ k : Nat, k ≤ s.edges.length ∧ i = .int .i64 k ∧ IntsOwn 3 wo.heap.size wr o (ints (chTo s qs l k)) ∧ Ext wo wr) (fun _ i _ => s.edges.length - (intOf i).toNat)
    case atStart => exact ⟨0, by omega, rfl, IntsOwn.lit _ _, Ext.alloc _ _⟩
    case round =>
      obtain ⟨k, hk, rfl, hown, hext⟩ := hrel
      have hws := hext.size
      have hlen := ints_len (chTo s qs l k)
      have hlen2 := chTo_len s qs l k
      by_cases hlt : k < s.edges.length
      · obtain ⟨x, hx⟩ : ∃ x, s.edges[k]? = some x := ⟨_, List.getElem?_eq_getElem hlt⟩
        obtain ⟨be, offe, rfl, hbe, hce⟩ := hhe k x hx
        obtain ⟨k1, k2, k3⟩ := (hce k x hx).mono (he.trans hext)
        have HS := Lib.hid (chTo_succ (q := qs) (l := l) hx)
        have hd := hdst.out k x hx
        clear hce hx
        by_cases h1 : x.src = (qs : Int)
        · by_cases h2 : x.letter = l
          · go_wp2_with (at_builtin; refine app1 rfl rfl Tryz.underlying80 infoInt rfl (by decide) hown.own rfl rfl rfl (by simp [Value.oneCell']) (by omega) (by decide) (by omega) ?_; intro v1 w1 hown1 hgr1 hbl1)
            refine ⟨⟨k + 1, by omega, by go_num, IntsOwn.push hown1 ?_, Below.trans hext hbl1⟩, by simp [intOf]; omega⟩
            rw [HS.out, if_pos (by simp [h1, h2]), ints_append]
            simp [ints]; omega
          · go_wp2_with fail
            refine ⟨⟨k + 1, by omega, by go_num, ?_, hext⟩, by simp [intOf]; omega⟩
            rw [HS.out, if_neg (by simp [h2]), List.append_nil]
            exact hown
        · go_wp2_with fail
          refine ⟨⟨k + 1, by omega, by go_num, ?_, hext⟩, by simp [intOf]; omega⟩
          rw [HS.out, if_neg (by simp [h1]), List.append_nil]
          exact hown
      · obtain rfl : k = s.edges.length := by omega
        go_wp2_with fail
        go_ret
        rw [HC.out]
        exact Gives.mk rfl (he.trans hext) (hown.low hwo)
  · have HC := Lib.hid (show sysCh s qs l = [qs] by unfold sysCh; rw [if_neg hb])
    have hb' : bit s.alphabet l = false := by simpa using hb
    rw [hb']
    go_wp2_with fail
    go_ret
    rw [HC.out]
    exact Gives.mk rfl (he.trans (Ext.alloc _ _)) ((IntsOwn.one 3 wo _).low he.size)
end Go.Proofs.YtanekmfifmkbmaaGreatDoor

namespace Go.Proofs.YtanekmfifmkbmaaGreatDoor
set_option linter.unusedSimpArgs false
set_option linter.unusedVariables false
open Go.RowKit

set_option maxHeartbeats 1600000
set_option maxRecDepth 100000

def chN (n : Net) (k q : Nat) (l : Int) : List Nat := match n.parts[k]? with
  | some s => sysCh s q l
  | none => match n.autos[k - n.parts.length]? with
    | some a => [step a q l]
    | none => []
theorem net_pick {n : Net} {k sz : Nat} (h : (sizesOf n)[k]? = some sz) : (∃ s, n.parts[k]? = some s ∧ sz = s.states.toNat) ∨ (∃ j a, k = n.parts.length + j ∧ n.autos[j]? = some a ∧ sz = a.next.length) := by
  have hk := (List.getElem?_eq_some_iff.1 h).1
  rw [sizes_len] at hk
  by_cases h1 : k < n.parts.length
  · have e := List.getElem?_eq_getElem h1
    rw [sizes_at_part e] at h
    exact .inl ⟨_, e, (Option.some.inj h).symm⟩
  · obtain ⟨j, rfl⟩ : ∃ j, k = n.parts.length + j := ⟨k - n.parts.length, by omega⟩
    have e := List.getElem?_eq_getElem (show j < n.autos.length by omega)
    rw [sizes_at_auto e] at h
    exact .inr ⟨j, _, rfl, e, (Option.some.inj h).symm⟩
theorem chN_len {n : Net} (h : NetOk n) (k q : Nat) (l : Int) : (chN n k q l).length ≤ 16 := by
  unfold chN
  split
  · rename_i s hs; exact ch_len (h.parts s (List.mem_of_getElem? hs)) q l
  · split <;> simp
theorem chN_lt {n : Net} (h : NetOk n) {k q sz : Nat} (l : Int) (hk : (sizesOf n)[k]? = some sz) (hq : q < sz) : ∀ c ∈ chN n k q l, c < sz := by
  rcases net_pick hk with ⟨s, hs, rfl⟩ | ⟨j, a, rfl, ha, rfl⟩
  · unfold chN; rw [hs]
    exact ch_lt (h.parts s (List.mem_of_getElem? hs)) hq l
  · unfold chN
    rw [List.getElem?_eq_none (by omega), Nat.add_sub_cancel_left, ha]
    intro c hc
    simp at hc; subst hc
    exact (h.autos a (List.mem_of_getElem? ha)).step_lt hq l
theorem pairs_at {n : Net} {states : List Nat} {k sz q : Nat} (l : Int) (hlen : states.length = n.parts.length + n.autos.length) (hk : (sizesOf n)[k]? = some sz) (hq : states[k]? = some q) : (pairsOf n states l)[k]? = some (sz, chN n k q l) := by
  unfold pairsOf
  rcases net_pick hk with ⟨s, hs, rfl⟩ | ⟨j, a, rfl, ha, rfl⟩
  · have h1 := (List.getElem?_eq_some_iff.1 hs).1
    rw [List.getElem?_append_left (by simp; omega), List.getElem?_map, show (n.parts.zip states)[k]? = some (s, q) from List.getElem?_zip_eq_some.2 ⟨hs, hq⟩]
    unfold chN; rw [hs]; rfl
  · rw [List.getElem?_append_right (by simp; omega), List.getElem?_map]
    have e : ((n.parts.zip states).map fun p => (p.1.states.toNat, sysCh p.1 p.2 l)).length = n.parts.length := by simp; omega
    rw [e, Nat.add_sub_cancel_left, show (n.autos.zip (states.drop n.parts.length))[j]? = some (a, q) from List.getElem?_zip_eq_some.2 ⟨ha, by rw [List.getElem?_drop]; exact hq⟩]
    unfold chN
    rw [List.getElem?_eq_none (by omega), Nat.add_sub_cancel_left, ha]; rfl
theorem pairs_len {n : Net} {states : List Nat} (l : Int) (hlen : states.length = n.parts.length + n.autos.length) : (pairsOf n states l).length = n.parts.length + n.autos.length := by
  unfold pairsOf; simp; omega

def nx (n : Net) (node : Nat) (l : Int) (k : Nat) : List Nat := combos ((pairsOf n (decode (sizesOf n) node) l).take k) [0]
theorem nx_zero (n : Net) (node : Nat) (l : Int) : nx n node l 0 = [0] := by simp [nx, combos]
theorem nx_full {n : Net} (node : Nat) (l : Int) : nx n node l (n.parts.length + n.autos.length) = netN n node l := by
  unfold nx netN
  rw [List.take_of_length_le]
  rw [pairs_len l (by rw [decode_len, sizes_len])]
  exact Nat.le_refl _
theorem nx_succ {n : Net} {node k sz q : Nat} {l : Int} (hk : (sizesOf n)[k]? = some sz) (hq : (decode (sizesOf n) node)[k]? = some q) : nx n node l (k + 1) = (nx n node l k).flatMap fun o => (chN n k q l).map fun c => o * sz + c := by
  unfold nx
  rw [List.take_add_one, pairs_at l (by rw [decode_len, sizes_len]) hk hq, combos_append]
  rfl
theorem nx_len {n : Net} (h : NetOk n) (node : Nat) (l : Int) (k : Nat) : (nx n node l k).length ≤ 1048576 := by
  have hp : ∀ p ∈ (pairsOf n (decode (sizesOf n) node) l).take k, p.2.length ≤ 16 := by
    intro p hp
    obtain ⟨i, hi⟩ := List.mem_iff_getElem?.1 (List.mem_of_mem_take hp)
    have hlen := pairs_len (n := n) (states := decode (sizesOf n) node) l (by rw [decode_len, sizes_len])
    have hi2 := (List.getElem?_eq_some_iff.1 hi).1
    have e1 := List.getElem?_eq_getElem (show i < (sizesOf n).length by rw [sizes_len]; omega)
    have e2 := List.getElem?_eq_getElem (show i < (decode (sizesOf n) node).length by rw [decode_len, sizes_len]; omega)
    rw [pairs_at l (by rw [decode_len, sizes_len]) e1 e2] at hi
    cases hi
    exact chN_len h _ _ _
  have h1 := combos_len _ [0] 16 hp
  have h2 : ((pairsOf n (decode (sizesOf n) node) l).take k).length ≤ 5 := by
    rw [List.length_take, pairs_len l (by rw [decode_len, sizes_len])]
    have := h.np; have := h.na; omega
  have h3 : 16 ^ ((pairsOf n (decode (sizesOf n) node) l).take k).length ≤ 16 ^ 5 := Nat.pow_le_pow_right (by omega) h2
  unfold nx
  simp only [List.length_singleton, Nat.one_mul] at h1
  exact Nat.le_trans h1 h3
theorem decode_ok {n : Net} (h : NetOk n) {node k sz q : Nat} (hk : (sizesOf n)[k]? = some sz) (hq : (decode (sizesOf n) node)[k]? = some q) : q < sz :=
  decode_lt _ node k sz q hk (sizes_bound h sz (List.mem_of_getElem? hk)).1 hq
theorem nx_lt {n : Net} (h : NetOk n) (node : Nat) (l : Int) (k : Nat) : ∀ r ∈ nx n node l k, r < ((sizesOf n).take k).prod := by
  induction k with
  | zero => intro r hr; rw [nx_zero] at hr; simp at hr; subst hr; simp
  | succ k ih =>
    intro r hr
    by_cases hk : k < (sizesOf n).length
    · have e1 := List.getElem?_eq_getElem hk
      have e2 := List.getElem?_eq_getElem (show k < (decode (sizesOf n) node).length by rw [decode_len]; exact hk)
      rw [nx_succ e1 e2] at hr
      obtain ⟨o, ho, hr⟩ := List.mem_flatMap.1 hr
      obtain ⟨c, hc, rfl⟩ := List.mem_map.1 hr
      have h1 := ih o ho
      have h2 := chN_lt h l e1 (decode_ok h e1 e2) c hc
      rw [List.take_add_one, e1, List.prod_append]
      simp only [Option.toList, List.prod_singleton]
      have h3 : (o + 1) * (sizesOf n)[k] ≤ ((sizesOf n).take k).prod * (sizesOf n)[k] := Nat.mul_le_mul_right _ h1
      rw [Nat.add_mul, Nat.one_mul] at h3
      omega
    · have hl2 := pairs_len (n := n) (states := decode (sizesOf n) node) l (by rw [decode_len, sizes_len])
      rw [sizes_len] at hk
      have e : nx n node l (k + 1) = nx n node l k := by
        unfold nx
        rw [List.take_of_length_le (by omega), List.take_of_length_le (by omega)]
      rw [e] at hr
      have h4 := ih r hr
      rw [List.take_of_length_le (by rw [sizes_len]; omega)] at h4 ⊢
      exact h4
theorem prod_pos1 (l : List Nat) (h : ∀ x ∈ l, 1 ≤ x) : 1 ≤ l.prod := by
  induction l with
  | nil => simp
  | cons a l ih => rw [List.prod_cons]; exact Nat.mul_pos (h a (by simp)) (ih fun x hm => h x (by simp [hm]))
theorem take_prod_le {n : Net} (h : NetOk n) (k : Nat) : ((sizesOf n).take k).prod ≤ 268435456 := by
  have h1 : (sizesOf n).prod = ((sizesOf n).take k).prod * ((sizesOf n).drop k).prod := by rw [← List.prod_append, List.take_append_drop]
  have h2 := prod_pos1 ((sizesOf n).drop k) fun x hx => (sizes_bound h x (List.mem_of_mem_drop hx)).1
  have h3 := Nat.le_mul_of_pos_right ((sizesOf n).take k).prod (show 0 < ((sizesOf n).drop k).prod by omega)
  have := h.tot
  omega
theorem l4Choices_c (v : Value) (n : Net) (st : List Int) (kind q : Int) (k qs sz : Nat) (l : Int) (w : World) (hv : NetV w v n st kind q) (h : NetOk n) (hk : (sizesOf n)[k]? = some sz) (hq : qs < sz) (hl : 0 ≤ l) (hl2 : l < 6) :
    Calls Tryz.prog 86 #[v, .int .i64 k, .int .i64 qs, .int .i64 l] w (Gives (fun v w' => IntsOwn 3 w.heap.size w' v (ints (chN n k qs l))) w) := by
  have hsz := sizes_bound h sz (List.mem_of_getElem? hk)
  rcases net_pick hk with ⟨s, hs, rfl⟩ | ⟨j, a, rfl, ha, rfl⟩
  · have : chN n k qs l = sysCh s qs l := by unfold chN; rw [hs]
    rw [this]
    exact l4Choices_p v n st kind q k s qs l w hv hs (h.parts s (List.mem_of_getElem? hs)) hl hl2 (h.el s (List.mem_of_getElem? hs)) (by have := valid_alpha (h.parts s (List.mem_of_getElem? hs)); omega)
  · have : chN n (n.parts.length + j) qs l = [step a qs l] := by
      unfold chN; rw [List.getElem?_eq_none (by omega), Nat.add_sub_cancel_left, ha]
    rw [this]
    exact l4Choices_a v n st kind q j a qs l w hv ha (h.autos a (List.mem_of_getElem? ha)) hq hl hl2 h.np
end Go.Proofs.YtanekmfifmkbmaaGreatDoor

namespace Go.Proofs.YtanekmfifmkbmaaGreatDoor
set_option linter.unusedSimpArgs false
set_option linter.unusedVariables false
open Go.RowKit

set_option maxHeartbeats 1600000
set_option maxRecDepth 100000

def mixTo (X C : List Nat) (sz m : Nat) : List Nat := (X.take m).flatMap fun o => C.map fun c => o * sz + c
theorem mixTo_succ {X : List Nat} {C : List Nat} {sz m o : Nat} (h : X[m]? = some o) : mixTo X C sz (m + 1) = mixTo X C sz m ++ C.map fun c => o * sz + c := by
  unfold mixTo; rw [List.take_add_one, h, List.flatMap_append]; simp
theorem mixTo_len (X C : List Nat) (sz m : Nat) (hC : C.length ≤ 16) : (mixTo X C sz m).length ≤ X.length * 16 := by
  unfold mixTo
  have : ∀ Y : List Nat, (Y.flatMap fun o => C.map fun c => o * sz + c).length ≤ Y.length * 16 := by
    intro Y
    induction Y with
    | nil => simp
    | cons y Y ih => simp only [List.flatMap_cons, List.length_append, List.length_map, List.length_cons]; omega
  exact Nat.le_trans (this _) (Nat.mul_le_mul_right _ (by rw [List.length_take]; omega))

theorem l4Nexts_c (v sv qv : Value) (n : Net) (st : List Int) (kind q : Int) (node : Nat) (l : Int) (w : World) (hv : NetV w v n st kind q) (h : NetOk n) (hsv : IntsV w sv (ints (sizesOf n))) (hqv : IntsV w qv (ints (decode (sizesOf n) node))) (hl : 0 ≤ l) (hl2 : l < 6) :
    Calls Tryz.prog 43 #[v, sv, qv, .int .i64 l] w (Gives (fun v w' => IntsOwn 3 w.heap.size w' v (ints (netN n node l))) w) := by
  have HV := Lib.hid hv
  obtain ⟨vp, va, vs, rfl, -, -, -⟩ := hv
  obtain ⟨asz, csz, rfl, -, hhs⟩ := hsv.open
  obtain ⟨aq, cq, rfl, -, hhq⟩ := hqv.open
  have hls := ints_len (sizesOf n)
  have hlq := ints_len (decode (sizesOf n) node)
  rw [decode_len] at hlq
  have hln := sizes_len n
  have hnp := h.np
  have hna := h.na
  rw [hls, hlq]
  obtain ⟨T, hT⟩ : ∃ T, T = (sizesOf n).length := ⟨_, rfl⟩
  rw [← hT] at hln hls hlq ⊢
  have HT := Lib.hid hT
  have HLN := Lib.hid hln
  have hT5 : T ≤ 5 := by omega
  have hTd : (decode (sizesOf n) node).length = T := by rw [decode_len, hT]
  have hTs := hT.symm
  clear hT hln
  go_enter Tryz.func43, Tryz.ntmps43
  go_wp2_with fail
  have he : Ext w (w.alloc (.cells #[vp, va, vs, .int .i64 n.letters, .int .i64 kind, .int .i64 q] 92)) := Ext.alloc _ _
  have hB := Blk.new w #[vp, va, vs, .int .i64 n.letters, .int .i64 kind, .int .i64 q] 92
  have hsz0 : (w.alloc (.cells #[vp, va, vs, .int .i64 n.letters, .int .i64 kind, .int .i64 q] 92)).heap.size = w.heap.size + 1 := by simp
  generalize w.alloc (.cells #[vp, va, vs, .int .i64 n.letters, .int .i64 kind, .int .i64 q] 92) = wo at he hB hsz0 ⊢
  have hone := IntsOwn.one 3 wo 0
  rw [hsz0] at hone
  have hwo := he.size
  go_loopw [9, 10] (fun o i wr => ∃ k : Nat, k ≤ T ∧ i = .int .i64 k ∧ IntsOwn 3 w.heap.size wr o (ints (nx n node l k)) ∧ Ext wo wr) (fun _ i _ => T - (intOf i).toNat)
  case atStart => exact ⟨0, by omega, rfl, by rw [nx_zero]; exact hone.low (by omega), Ext.alloc _ _⟩
  case round =>
    obtain ⟨k, hk, rfl, hown, hext⟩ := hrel
    by_cases hlt : k < T
    · obtain ⟨sz, hsz⟩ : ∃ s, (sizesOf n)[k]? = some s := ⟨_, List.getElem?_eq_getElem (by omega)⟩
      obtain ⟨qs, hqs⟩ : ∃ s, (decode (sizesOf n) node)[k]? = some s := ⟨_, List.getElem?_eq_getElem (by omega)⟩
      have hqlt := decode_ok h hsz hqs
      obtain ⟨hsz1, hsz2⟩ := sizes_bound h sz (List.mem_of_getElem? hsz)
      obtain ⟨b, off, rfl, -, hc⟩ := hhs k sz (ints_at hsz)
      obtain ⟨b', off', rfl, -, hc'⟩ := hhq k qs (ints_at hqs)
      have g1 := (he.trans hext).cell (hc k sz (ints_at hsz))
      have g2 := (he.trans hext).cell (hc' k qs (ints_at hqs))
      rw [Nat.mul_one] at g1 g2
      have HNS := Lib.hid (nx_succ (l := l) hsz hqs)
      have hCL := chN_len h k qs l
      have hCT := Lib.hid (chN_lt h l hsz hqlt)
      have HSZ := Lib.hid hsz
      have hXL := nx_len h node l k
      have hXT := Lib.hid (fun r hr => Nat.lt_of_lt_of_le (nx_lt h node l k r hr) (take_prod_le h k))
      clear hc hc' hsz hqs
      obtain ⟨C, hC⟩ : ∃ C, Hid (C = chN n k qs l) := ⟨_, rfl⟩
      obtain ⟨X, hX⟩ : ∃ X, Hid (X = nx n node l k) := ⟨_, rfl⟩
      rw [← hC.out] at HNS hCL hCT
      rw [← hX.out] at HNS hXL hXT hown
      have HVr := Lib.hid (HV.out.mono (he.trans hext))
      have hBr := hB.ext hext
      have i1 : (k : Int) < (T : Int) := by omega
      go_wp2_with fail
      have D0 := fun d os => cell_regrown (hBr.cell 0 rfl) d os
      have D1 := fun d os => cell_regrown (hBr.cell 1 rfl) d os
      have D2 := fun d os => cell_regrown (hBr.cell 2 rfl) d os
      have D3 := fun d os => cell_regrown (hBr.cell 3 rfl) d os
      have D4 := fun d os => cell_regrown (hBr.cell 4 rfl) d os
      have D5 := fun d os => cell_regrown (hBr.cell 5 rfl) d os
      have D6 := fun d os => cell_regrown g2 d os
      obtain ⟨Kc, HKc⟩ : ∃ Kc : FuncId → Array Value → World → Value → World → Prop, Hid (Kc = fun (_ : FuncId) (_ : Array Value) (w0 : World) (v : Value) (w' : World) => Ext w0 w') := ⟨_, rfl⟩
      refine wp_region_ext (Kc := Kc) 7 (by kernel_rfl) (by kernel_rfl) ?_
      simp only [List.take_succ_cons, List.take_zero]
      repeat (refine WalkE.pure rfl (fun K hK => ?_); simp only [PureDo]; go_simp; refine hK _ ?_; clear hK K)
      refine WalkE.nil (fun wn hwn hmn => ?_)
      simp only [List.drop_succ_cons, List.drop_zero, List.drop_nil]
      clear hmn HKc D0 D1 D2 D3 D4 D5 D6
      have hxn : Ext wr wn := (Ext.drew _).trans hwn
      have HCH := Lib.hid (l4Choices_c _ n st kind q k qs sz l wn (HVr.out.mono hxn) h HSZ.out hqlt hl hl2)
      rw [← hC.out] at HCH
      go_wp2_with (refine (HCH.out).mono ?_; rintro e w1 ⟨vc, rfl, he1, hvc⟩; obtain ⟨ac, cc, rfl⟩ := hvc.shape)
      clear HCH
      have hx1 : Ext wr w1 := hxn.trans he1
      have h1 := hx1.cell g1
      have hown1 := hown.ext hx1
      obtain ⟨ax, cx, rfl⟩ := hown.shape
      have hcl := ints_len C
      have hxl := ints_len X
      have hext1 := hext.trans hx1
      rw [hcl, hxl]
      have hvc' := hvc.ints.open
      have hvx' := hown1.ints.open
      obtain ⟨ac1, cc1, hca, -, hcc⟩ := hvc'
      obtain ⟨ax1, cx1, hcx, -, hxx⟩ := hvx'
      cases hca
      cases hcx
      clear hone HVr hown hvc
      go_loopw [12, 13] (fun o i wt => ∃ m : Nat, m ≤ X.length ∧ i = .int .i64 m ∧ IntsOwn 3 w1.heap.size wt o (ints (mixTo X C sz m)) ∧ Ext w1 wt) (fun _ i _ => X.length - (intOf i).toNat)
      case atStart => exact ⟨0, by omega, rfl, IntsOwn.lit _ _, Ext.alloc _ _⟩
      case round =>
        obtain ⟨m, hm, rfl, how, hxt⟩ := hrel
        by_cases hlm : m < X.length
        · obtain ⟨x, hx⟩ : ∃ x, X[m]? = some x := ⟨_, List.getElem?_eq_getElem hlm⟩
          obtain ⟨bx, offx, rfl, -, hxc⟩ := hxx m x (ints_at hx)
          have gx := hxc m x (ints_at hx)
          unfold IntAt at gx
          rw [Nat.mul_one] at gx
          have HMS := Lib.hid (mixTo_succ (C := C) (sz := sz) hx)
          have hxlt := hXT.out x (List.mem_of_getElem? hx)
          have hml := mixTo_len X C sz m hCL
          clear hxc hx
          go_wp2_with fail
          go_loopw [12, 14] (fun o i ws => ∃ j : Nat, j ≤ C.length ∧ i = .int .i64 j ∧ IntsOwn 3 w1.heap.size ws o (ints (mixTo X C sz m ++ (C.take j).map fun c => x * sz + c)) ∧ Ext w1 ws) (fun _ i _ => C.length - (intOf i).toNat)
          case atStart => exact ⟨0, by omega, rfl, by simpa using how, hxt⟩
          case round =>
            obtain ⟨j, hj, rfl, hos, hxs⟩ := hrel
            by_cases hlj : j < C.length
            · obtain ⟨y, hy⟩ : ∃ y, C[j]? = some y := ⟨_, List.getElem?_eq_getElem hlj⟩
              obtain ⟨bc, offc, rfl, -, hyc⟩ := hcc j y (ints_at hy)
              have gy := hxs.cell (hyc j y (ints_at hy))
              rw [Nat.mul_one] at gy
              have gx2 := hxs.cell gx
              have h12 := hxs.cell h1
              have hylt := hCT.out y (List.mem_of_getElem? hy)
              have HTK := Lib.hid (show C.take (j + 1) = C.take j ++ [y] by rw [List.take_add_one, hy]; rfl)
              have hmul : x * sz ≤ 268435456 * 1048600 := Nat.mul_le_mul (Nat.le_of_lt hxlt) hsz2
              have e1 : IntKind.i64.wrap ((x : Int) * (sz : Int)) = (x : Int) * (sz : Int) := by rw [show (x : Int) * (sz : Int) = ((x * sz : Nat) : Int) by simp, IntKind.wrap_i64]; omega
              have e2 : IntKind.i64.wrap ((x : Int) * (sz : Int) + (y : Int)) = ((x * sz + y : Nat) : Int) := by rw [show (x : Int) * (sz : Int) + (y : Int) = ((x * sz + y : Nat) : Int) by simp, IntKind.wrap_i64]; omega
              have i1 : (m : Int) < (X.length : Int) := by omega
              have i2 : (j : Int) < (C.length : Int) := by omega
              have i3 : (k : Int) < (T : Int) := by omega
              have hll := ints_len (mixTo X C sz m ++ (C.take j).map fun c => x * sz + c)
              rw [List.length_append, List.length_map, List.length_take] at hll
              have hws := hxs.size
              clear hyc hy
              obtain ⟨LL, hLL⟩ : ∃ LL, Hid (LL = mixTo X C sz m ++ (C.take j).map fun c => x * sz + c) := ⟨_, rfl⟩
              rw [← hLL.out] at hos hll
              have hll2 : (ints LL).length ≤ 4294967295 := by omega
              clear hll
              obtain ⟨ao, co, rfl⟩ := hos.shape
              go_wp2_with fail
              have D1 := fun d os => cell_regrown gx2 d os
              have D2 := fun d os => cell_regrown h12 d os
              have D3 := fun d os => cell_regrown gy d os
              obtain ⟨Kc, HKc⟩ : ∃ Kc : FuncId → Array Value → World → Value → World → Prop, Hid (Kc = fun (_ : FuncId) (_ : Array Value) (w0 : World) (v : Value) (w' : World) => Ext w0 w') := ⟨_, rfl⟩
              refine wp_region_ext (Kc := Kc) 16 (by kernel_rfl) (by kernel_rfl) ?_
              simp only [List.take_succ_cons, List.take_zero]
              repeat (refine WalkE.pure rfl (fun K hK => ?_); simp only [PureDo]; go_simp; refine hK _ ?_; clear hK K)
              refine WalkE.step (fun K hK wd hwd hdd => ?_)
              simp only [OpDo, OpSafe, OpOut]
              go_simp
              refine ⟨Ext.alloc _ _, hK _ _ ?_⟩
              clear hK K hdd
              refine WalkE.nil (fun wz hwz hmz => ?_)
              simp only [List.drop_succ_cons, List.drop_zero, List.drop_nil]
              have hbz := (Blk.new wd _ _).ext (hmz 15 (by omega))
              have hcell : ∀ (j' : Nat) (u : Value), [Value.int .i64 ((x * sz + y : Nat) : Int)][j']? = some u → wz.cell? ((⟨wd.heap.size, 0, none⟩ : Addr).add j') = some u := fun j' u hu => by
                rw [add_none]
                cases j' with
                | zero => simp at hu; subst hu; exact hbz.cell 0 (by simp)
                | succ j' => simp at hu
              clear hmz HKc D1 D2 D3 e1 e2 i1 i2 i3 hbz hwd
              have hx9 := (Ext.drew _).trans hwz
              have hoz := hos.ext hx9
              have hxz := hxs.trans hx9
              have hzs := hxz.size
              generalize wd.heap.size = bq at hcell ⊢
              clear wd
              go_wp2_with (at_builtin; refine appN (news := [Value.int .i64 ((x * sz + y : Nat) : Int)]) rfl rfl Tryz.underlying80 infoInt rfl (by decide) hoz.own rfl rfl (by simp) hcell (by simp [Value.oneCell']) (by omega) (by decide) hzs ?_; intro v1 w2 hown2 hgr2 hbl2)
              refine ⟨⟨j + 1, by omega, by go_num, IntsOwn.push hown2 ?_, Below.trans hxz hbl2⟩, by simp [intOf]; omega⟩
              rw [HTK.out, List.map_append, ← List.append_assoc, ← hLL.out, ints_append LL]
              simp [ints]
            · obtain rfl : j = C.length := by omega
              go_wp2_with fail
              refine ⟨⟨m + 1, by omega, by go_num, ?_, hxs⟩, by simp [intOf]; omega⟩
              rw [HMS.out]
              rw [List.take_length] at hos
              exact hos
        · obtain rfl : m = X.length := by omega
          obtain ⟨ao, co, rfl⟩ := how.shape
          go_wp2_with fail
          refine ⟨⟨k + 1, by omega, by go_num, ?_, hext1.trans hxt⟩, by simp [intOf]; omega⟩
          rw [HNS.out]
          have e : mixTo X C sz X.length = X.flatMap fun o => C.map fun c => o * sz + c := by unfold mixTo; rw [List.take_length]
          rw [← e]
          exact how.low (Nat.le_trans (he.trans hext1).size (Nat.le_refl _))
    · obtain rfl : k = T := by omega
      obtain ⟨ao, co, rfl⟩ := hown.shape
      go_wp2_with fail
      go_ret
      refine Gives.mk rfl (he.trans hext) ?_
      rw [← nx_full node l, ← HLN.out]
      exact hown
end Go.Proofs.YtanekmfifmkbmaaGreatDoor
