/- Part of this seat's proofs, cut to what its law needs. -/

import Derived.Test.YtanekmfifmkbmaaGreatDoorRows
import Derived.Test.YtanekmfifmkbmaaGreatDoorLaws
import Derived.Test.YtanekmfifmkbmaaGreatDoorPlain2

namespace Go.Proofs.YtanekmfifmkbmaaGreatDoor
set_option linter.unusedSimpArgs false
set_option linter.unusedVariables false
open Go.RowKit

set_option maxHeartbeats 400000

theorem isAlphabet_c (a : Int) (w : World) : Calls Tryz.prog 73 #[.int .i64 a] w (Same (.bool (isAlpha a)) w) := by
  by_cases h : 0 ≤ a
  · go_enter Tryz.func73, Tryz.ntmps73
    go_wp2
    go_ret
    exact ⟨by simp [isAlpha, h], rfl⟩
  · go_enter Tryz.func73, Tryz.ntmps73
    go_wp2
    go_ret
    exact ⟨by simp [isAlpha]; omega, rfl⟩

theorem l1Alphabet_c (a : Int) (w : World) : Calls Tryz.prog 83 #[.int .i64 a] w (Same (.bool (isAlpha a)) w) := by
  by_cases h : 0 ≤ a
  · go_enter Tryz.func83, Tryz.ntmps83
    go_wp2
    go_ret
    exact ⟨by simp [isAlpha, h], rfl⟩
  · go_enter Tryz.func83, Tryz.ntmps83
    go_wp2
    go_ret
    exact ⟨by simp [isAlpha]; omega, rfl⟩

theorem has_c (s n : Int) (w : World) (hs : 0 ≤ s) (hs2 : s ≤ 9223372036854775807) (hn : n < 64) :
    Calls Tryz.prog 75 #[.int .i64 s, .int .i64 n] w (Same (.bool (bit s n)) w) := by
  by_cases h : 0 ≤ n
  · go_enter Tryz.func75, Tryz.ntmps75
    go_wp2
    go_ret
    exact ⟨by rw [bit_nonneg h, ← has_bit s n hs hs2]; rfl, rfl⟩
  · have h : n < 0 := by omega
    go_enter Tryz.func75, Tryz.ntmps75
    go_wp2
    go_ret
    exact ⟨by rw [bit_neg h]; rfl, rfl⟩

theorem l1Has_c (s n : Int) (w : World) (hs : 0 ≤ s) (hs2 : s ≤ 9223372036854775807) (h : 0 ≤ n) (hn : n < 64) :
    Calls Tryz.prog 85 #[.int .i64 s, .int .i64 n] w (Same (.bool (bit s n)) w) := by
  go_enter Tryz.func85, Tryz.ntmps85
  go_wp2
  go_ret
  exact ⟨by rw [bit_nonneg h, ← has_bit s n hs hs2]; rfl, rfl⟩

theorem infoInt : (Tryz.prog.info? 3).map (fun i => (i.zero, i.size, i.bytes)) = some (some (.int .i64 0), 1, 8) := by kernel_rfl

theorem lettersOf_o (a : Int) (w : World) (ha : 0 ≤ a) (ha2 : a ≤ 63) :
    Calls Tryz.prog 33 #[.int .i64 a] w (Gives (fun v w' => IntsOwn 3 w.heap.size w' v (letters a)) w) := by
  go_enter Tryz.func33, Tryz.ntmps33
  go_wp2_with fail
  go_loopw [3, 5] (fun v i wr => ∃ k : Nat, k ≤ 6 ∧ i = .int .i64 k ∧ IntsOwn 3 w.heap.size wr v (lettersTo a k) ∧ Ext w wr) (fun _ i _ => 6 - (intOf i).toNat)
  case atStart => exact ⟨0, by omega, rfl, IntsOwn.nil _ _ _, Ext.refl _⟩
  case round =>
    obtain ⟨k, hk, rfl, hown, hext⟩ := hrel
    have hsz := hext.size
    by_cases hlt : k < 6
    · have HS := Lib.hid (lettersTo_succ a k)
      have hlen := lettersTo_len a k
      by_cases hb : bit a k = true
      · go_wp2_with (first | (go_at_call 75; refine (has_c _ _ _ (by omega) (by omega) (by omega)).mono ?_; rintro e w' ⟨rfl, rfl⟩) | (at_builtin; refine app1 rfl rfl Tryz.underlying80 infoInt rfl (by decide) hown.own rfl rfl rfl (by simp [Value.oneCell']) (by omega) (by decide) (by omega) ?_; intro v1 w1 hown1 hgr1 hbl1))
        exact ⟨⟨k + 1, by omega, by go_num, IntsOwn.push hown1 (by rw [HS.out, if_pos hb]), Below.trans hext hbl1⟩, by simp [intOf]; omega⟩
      · go_wp2_with (first | (go_at_call 75; refine (has_c _ _ _ (by omega) (by omega) (by omega)).mono ?_; rintro e w' ⟨rfl, rfl⟩))
        exact ⟨⟨k + 1, by omega, by go_num, by rw [HS.out, if_neg hb, List.append_nil]; exact hown, hext⟩, by simp [intOf]; omega⟩
    · obtain rfl : k = 6 := by omega
      go_wp2_with fail
      go_ret
      exact Gives.mk rfl hext hown
theorem lettersOf_c (a : Int) (w : World) (ha : 0 ≤ a) (ha2 : a ≤ 63) :
    Calls Tryz.prog 33 #[.int .i64 a] w (Gives (fun v w' => IntsV w' v (letters a)) w) :=
  (lettersOf_o a w ha ha2).mono fun _ _ ⟨v, h1, h2, h3⟩ => ⟨v, h1, h2, h3.ints⟩

theorem IntsOwn.lit (e : TypeId) (w : World) : IntsOwn e w.heap.size (w.alloc (.cells #[] e)) (.slice (some ⟨w.heap.size, 0, none⟩) 0 0) [] :=
  World.ownsRow_made w #[] 0 (Nat.le_refl _) (by unfold maxLen; omega) (by simp)

theorem l1Letters_c (a : Int) (w : World) (ha : 0 ≤ a) (ha2 : a ≤ 63) :
    Calls Tryz.prog 42 #[.int .i64 a] w (Gives (fun v w' => IntsV w' v (letters a)) w) := by
  go_enter Tryz.func42, Tryz.ntmps42
  go_wp2_with fail
  go_loopw [3, 4] (fun v i wr => ∃ k : Nat, k ≤ 6 ∧ i = .int .i64 k ∧ IntsOwn 3 w.heap.size wr v (lettersTo a k) ∧ Ext w wr) (fun _ i _ => 6 - (intOf i).toNat)
  case atStart => exact ⟨0, by omega, rfl, IntsOwn.lit _ _, Ext.alloc _ _⟩
  case round =>
    obtain ⟨k, hk, rfl, hown, hext⟩ := hrel
    have hsz := hext.size
    by_cases hlt : k < 6
    · have HS := Lib.hid (lettersTo_succ a k)
      have hlen := lettersTo_len a k
      by_cases hb : bit a k = true
      · go_wp2_with (first | (go_at_call 85; refine (l1Has_c _ _ _ (by omega) (by omega) (by omega) (by omega)).mono ?_; rintro e w' ⟨rfl, rfl⟩) | (at_builtin; refine app1 rfl rfl Tryz.underlying80 infoInt rfl (by decide) hown.own rfl rfl rfl (by simp [Value.oneCell']) (by omega) (by decide) (by omega) ?_; intro v1 w1 hown1 hgr1 hbl1))
        exact ⟨⟨k + 1, by omega, by go_num, IntsOwn.push hown1 (by rw [HS.out, if_pos hb]), Below.trans hext hbl1⟩, by simp [intOf]; omega⟩
      · go_wp2_with (first | (go_at_call 85; refine (l1Has_c _ _ _ (by omega) (by omega) (by omega) (by omega)).mono ?_; rintro e w' ⟨rfl, rfl⟩))
        exact ⟨⟨k + 1, by omega, by go_num, by rw [HS.out, if_neg hb, List.append_nil]; exact hown, hext⟩, by simp [intOf]; omega⟩
    · obtain rfl : k = 6 := by omega
      go_wp2_with fail
      go_ret
      exact Gives.mk rfl hext hown.ints

theorem szIntS_c (v : Value) (l : List Int) (left : Int) (w : World) (hv : IntsV w v l) (hl : 0 ≤ left) (hl2 : left ≤ 1048576) :
    Calls Tryz.prog 153 #[v, .int .i64 left] w (Same (.int .i64 (if left - l.length < 0 then -1 else left - l.length)) w) := by
  obtain ⟨a, c, rfl, h0, h1, -⟩ := hv
  unfold maxLen at h1
  by_cases h : left - l.length < 0
  · go_enter Tryz.func153, Tryz.ntmps153
    go_wp2
    go_ret
    exact Same.mk (by rfl)
  · go_enter Tryz.func153, Tryz.ntmps153
    go_wp2
    go_ret
    exact Same.mk (by rfl)

theorem eqIntS_c (v u : Value) (l m : List Int) (w : World) (hv : IntsV w v l) (hu : IntsV w u m) :
    Calls Tryz.prog 169 #[v, u] w (Grows (.bool (decide (l = m))) w) := by
  obtain ⟨a, c, rfl, h1, h2⟩ := hv.open
  obtain ⟨a', c', rfl, h1', h2'⟩ := hu.open
  by_cases hlen : l.length = m.length
  · have HL := Lib.hid hlen
    rw [← hlen]
    clear hlen hv hu
    go_enter Tryz.func169, Tryz.ntmps169
    go_wp2_with fail
    go_loopw [5] (fun i wr => ∃ k : Nat, k ≤ l.length ∧ i = .int .i64 k ∧ Hid (l.take k = m.take k) ∧ Ext w wr) (fun i _ => l.length - (intOf i).toNat)
    case atStart => exact ⟨0, by omega, rfl, by simp [Hid], Ext.refl _⟩
    case round =>
      obtain ⟨k, hk, rfl, heq, hext⟩ := hrel
      by_cases hlt : k < l.length
      · obtain ⟨x, hx⟩ : ∃ x, l[k]? = some x := ⟨_, List.getElem?_eq_getElem hlt⟩
        obtain ⟨y, hy⟩ : ∃ x, m[k]? = some x := ⟨_, List.getElem?_eq_getElem (by rw [← HL.out]; exact hlt)⟩
        obtain ⟨b, off, rfl, -, hc⟩ := h2 k x hx
        obtain ⟨b', off', rfl, -, hc'⟩ := h2' k y hy
        have g1 : wr.cell? ⟨b, off + k, none⟩ = some (.int .i64 x) := by have := hc k x hx; rw [Nat.mul_one] at this; exact hext.cell this
        have g2 : wr.cell? ⟨b', off' + k, none⟩ = some (.int .i64 y) := by have := hc' k y hy; rw [Nat.mul_one] at this; exact hext.cell this
        clear hc hc' h2 h2'
        have HX := Lib.hid hx
        have HY := Lib.hid hy
        clear hx hy
        by_cases hxy : x = y
        · subst hxy
          go_wp2_with fail
          go_quiet (fail)
          go_wp2_with fail
          exact ⟨⟨k + 1, by omega, by go_num, by simp [Hid, List.take_add_one, HX.out, HY.out, heq.out], hext.trans (Ext.drewN _ _)⟩, by simp [intOf]; omega⟩
        · go_wp2_with fail
          go_quiet (fail)
          go_wp2_with fail
          go_ret
          refine Grows.mk ?_ (hext.trans (Ext.drewN _ _))
          have : ¬ l = m := fun h => by subst h; have := HX.out; rw [HY.out] at this; cases this; exact hxy rfl
          simp [this]
      · obtain rfl : k = l.length := by omega
        go_wp2_with fail
        go_ret
        refine Grows.mk ?_ hext
        have := heq.out
        rw [List.take_length, HL.out, List.take_length] at this
        simp [this]
  · have hne : l ≠ m := fun h => hlen (by rw [h])
    go_enter Tryz.func169, Tryz.ntmps169
    go_wp2_with fail
    go_ret
    exact Grows.mk (by simp [hne]) (Ext.refl _)
theorem szBoolS_c (v : Value) (l : List Bool) (left : Int) (w : World) (hv : BoolsV w v l) (hl : 0 ≤ left) (hl2 : left ≤ 1048576) :
    Calls Tryz.prog 96 #[v, .int .i64 left] w (Same (.int .i64 (if left - l.length < 0 then -1 else left - l.length)) w) := by
  obtain ⟨a, c, rfl, h0, h1, -⟩ := hv
  unfold maxLen at h1
  by_cases h : left - l.length < 0
  · go_enter Tryz.func96, Tryz.ntmps96
    go_wp2
    go_ret
    exact Same.mk (by rfl)
  · go_enter Tryz.func96, Tryz.ntmps96
    go_wp2
    go_ret
    exact Same.mk (by rfl)

theorem szEdgeS_c (v : Value) (l : List Edge) (left : Int) (w : World) (hv : EdgesV w v l) (hl : 0 ≤ left) (hl2 : left ≤ 1048576) :
    Calls Tryz.prog 154 #[v, .int .i64 left] w (Same (.int .i64 (if left - l.length < 0 then -1 else left - l.length)) w) := by
  obtain ⟨a, c, rfl, h0, h1, -⟩ := hv
  unfold maxLen at h1
  by_cases h : left - l.length < 0
  · go_enter Tryz.func154, Tryz.ntmps154
    go_wp2
    go_ret
    exact Same.mk (by rfl)
  · go_enter Tryz.func154, Tryz.ntmps154
    go_wp2
    go_ret
    exact Same.mk (by rfl)

theorem eqBoolS_c (v u : Value) (l m : List Bool) (w : World) (hv : BoolsV w v l) (hu : BoolsV w u m) :
    Calls Tryz.prog 110 #[v, u] w (Grows (.bool (decide (l = m))) w) := by
  obtain ⟨a, c, rfl, h1, h2⟩ := hv.open
  obtain ⟨a', c', rfl, h1', h2'⟩ := hu.open
  by_cases hlen : l.length = m.length
  · have HL := Lib.hid hlen
    rw [← hlen]
    clear hlen hv hu
    go_enter Tryz.func110, Tryz.ntmps110
    go_wp2_with fail
    go_loopw [5] (fun i wr => ∃ k : Nat, k ≤ l.length ∧ i = .int .i64 k ∧ Hid (l.take k = m.take k) ∧ Ext w wr) (fun i _ => l.length - (intOf i).toNat)
    case atStart => exact ⟨0, by omega, rfl, by simp [Hid], Ext.refl _⟩
    case round =>
      obtain ⟨k, hk, rfl, heq, hext⟩ := hrel
      by_cases hlt : k < l.length
      · obtain ⟨x, hx⟩ : ∃ x, l[k]? = some x := ⟨_, List.getElem?_eq_getElem hlt⟩
        obtain ⟨y, hy⟩ : ∃ x, m[k]? = some x := ⟨_, List.getElem?_eq_getElem (by rw [← HL.out]; exact hlt)⟩
        obtain ⟨b, off, rfl, -, hc⟩ := h2 k x hx
        obtain ⟨b', off', rfl, -, hc'⟩ := h2' k y hy
        have g1 : wr.cell? ⟨b, off + k, none⟩ = some (.bool x) := by have := hc k x hx; rw [Nat.mul_one] at this; exact hext.cell this
        have g2 : wr.cell? ⟨b', off' + k, none⟩ = some (.bool y) := by have := hc' k y hy; rw [Nat.mul_one] at this; exact hext.cell this
        clear hc hc' h2 h2'
        have HX := Lib.hid hx
        have HY := Lib.hid hy
        clear hx hy
        by_cases hxy : x = y
        · subst hxy
          go_wp2_with fail
          go_quiet (fail)
          go_wp2_with fail
          exact ⟨⟨k + 1, by omega, by go_num, by simp [Hid, List.take_add_one, HX.out, HY.out, heq.out], hext.trans (Ext.drewN _ _)⟩, by simp [intOf]; omega⟩
        · have hd : (x == y) = false := beq_eq_false_iff_ne.2 hxy
          go_wp2_with fail
          go_quiet (fail)
          go_wp2_with fail
          go_ret
          refine Grows.mk ?_ (hext.trans (Ext.drewN _ _))
          have : ¬ l = m := fun h => by subst h; have := HX.out; rw [HY.out] at this; cases this; exact hxy rfl
          simp [this]
      · obtain rfl : k = l.length := by omega
        go_wp2_with fail
        go_ret
        refine Grows.mk ?_ hext
        have := heq.out
        rw [List.take_length, HL.out, List.take_length] at this
        simp [this]
  · have hne : l ≠ m := fun h => hlen (by rw [h])
    go_enter Tryz.func110, Tryz.ntmps110
    go_wp2_with fail
    go_ret
    exact Grows.mk (by simp [hne]) (Ext.refl _)
end Go.Proofs.YtanekmfifmkbmaaGreatDoor

namespace Go.Proofs.YtanekmfifmkbmaaGreatDoor
set_option linter.unusedSimpArgs false
set_option linter.unusedVariables false
open Go.RowKit

set_option maxHeartbeats 400000

theorem eqEdge_c (x y : Edge) (w : World) : Calls Tryz.prog 199 #[edgeVal x, edgeVal y] w (Grows (.bool (decide (x = y))) w) := by
  obtain ⟨a, b, c⟩ := x
  obtain ⟨a', b', c'⟩ := y
  unfold edgeVal
  by_cases h1 : a = a'
  · subst h1
    by_cases h2 : b = b'
    · subst h2
      by_cases h3 : c = c'
      · subst h3
        go_enter Tryz.func199, Tryz.ntmps199
        go_wp2
        go_ret
        exact Grows.mk (by simp) ((Ext.alloc _ _).trans (Ext.alloc _ _))
      · go_enter Tryz.func199, Tryz.ntmps199
        go_wp2
        go_ret
        exact Grows.mk (by simp [h3]) ((Ext.alloc _ _).trans (Ext.alloc _ _))
    · go_enter Tryz.func199, Tryz.ntmps199
      go_wp2
      go_ret
      exact Grows.mk (by simp [h2]) ((Ext.alloc _ _).trans (Ext.alloc _ _))
  · go_enter Tryz.func199, Tryz.ntmps199
    go_wp2
    go_ret
    exact Grows.mk (by simp [h1]) ((Ext.alloc _ _).trans (Ext.alloc _ _))

theorem eqEdgeS_c (v u : Value) (l m : List Edge) (w : World) (hv : EdgesV w v l) (hu : EdgesV w u m) :
    Calls Tryz.prog 170 #[v, u] w (Grows (.bool (decide (l = m))) w) := by
  obtain ⟨a, c, rfl, h1, h2⟩ := hv.open
  obtain ⟨a', c', rfl, h1', h2'⟩ := hu.open
  by_cases hlen : l.length = m.length
  · have HL := Lib.hid hlen
    rw [← hlen]
    clear hlen hv hu
    go_enter Tryz.func170, Tryz.ntmps170
    go_wp2_with fail
    go_loopw [5] (fun i wr => ∃ k : Nat, k ≤ l.length ∧ i = .int .i64 k ∧ Hid (l.take k = m.take k) ∧ Ext w wr) (fun i _ => l.length - (intOf i).toNat)
    case atStart => exact ⟨0, by omega, rfl, by simp [Hid], Ext.refl _⟩
    case round =>
      obtain ⟨k, hk, rfl, heq, hext⟩ := hrel
      by_cases hlt : k < l.length
      · obtain ⟨x, hx⟩ : ∃ x, l[k]? = some x := ⟨_, List.getElem?_eq_getElem hlt⟩
        obtain ⟨y, hy⟩ : ∃ x, m[k]? = some x := ⟨_, List.getElem?_eq_getElem (by rw [← HL.out]; exact hlt)⟩
        obtain ⟨b, off, rfl, -, hc⟩ := h2 k x hx
        obtain ⟨b', off', rfl, -, hc'⟩ := h2' k y hy
        have HX := Lib.hid hx
        have HY := Lib.hid hy
        obtain ⟨q1, q2, q3⟩ := (hc k x hx).mono hext
        obtain ⟨r1, r2, r3⟩ := (hc' k y hy).mono hext
        clear hc hc' h2 h2' hx hy
        have g1 := fun d os => cell_regrown q1 d os
        have g2 := fun d os => cell_regrown q2 d os
        have g3 := fun d os => cell_regrown q3 d os
        have f1 := fun d os => cell_regrown r1 d os
        have f2 := fun d os => cell_regrown r2 d os
        have f3 := fun d os => cell_regrown r3 d os
        by_cases hxy : x = y
        · subst hxy
          go_wp2_with fail
          refine wp_region_quiet_below (by kernel_rfl) (by kernel_rfl) ?_
          repeat (go_big_quiet_step ((go_at_call 199; exact Grows.quiet (eqEdge_c x x _))))
          refine wpQuiet_nil ?_
          intro _ hw'
          obtain ⟨⟨dq, osq⟩, hw''⟩ := hw'
          subst hw''
          have hq : Ext wr (Go.Sort.grow (redrawn wr dq) osq) := below_regrown wr dq osq
          generalize Go.Sort.grow (redrawn wr dq) osq = wq at hq ⊢
          go_wp2_with fail
          exact ⟨⟨k + 1, by omega, by go_num, by simp [Hid, List.take_add_one, HX.out, HY.out, heq.out], hext.trans hq⟩, by simp [intOf]; omega⟩
        · have hd : decide (x = y) = false := decide_eq_false hxy
          go_wp2_with fail
          refine wp_region_quiet_below (by kernel_rfl) (by kernel_rfl) ?_
          repeat (go_big_quiet_step ((go_at_call 199; exact Grows.quiet (eqEdge_c x y _))))
          refine wpQuiet_nil ?_
          intro _ hw'
          obtain ⟨⟨dq, osq⟩, hw''⟩ := hw'
          subst hw''
          have hq : Ext wr (Go.Sort.grow (redrawn wr dq) osq) := below_regrown wr dq osq
          generalize Go.Sort.grow (redrawn wr dq) osq = wq at hq ⊢
          go_wp2_with fail
          go_ret
          refine Grows.mk ?_ (hext.trans hq)
          have : ¬ l = m := fun h => by subst h; have := HX.out; rw [HY.out] at this; cases this; exact hxy rfl
          simp [this]
      · obtain rfl : k = l.length := by omega
        go_wp2_with fail
        go_ret
        refine Grows.mk ?_ hext
        have := heq.out
        rw [List.take_length, HL.out, List.take_length] at this
        simp [this]
  · have hne : l ≠ m := fun h => hlen (by rw [h])
    go_enter Tryz.func170, Tryz.ntmps170
    go_wp2_with fail
    go_ret
    exact Grows.mk (by simp [hne]) (Ext.refl _)
end Go.Proofs.YtanekmfifmkbmaaGreatDoor

namespace Go.Proofs.YtanekmfifmkbmaaGreatDoor
set_option linter.unusedSimpArgs false
set_option linter.unusedVariables false
open Go.RowKit

set_option maxHeartbeats 400000

def SzS (left : Int) (size : Nat) (w : World) (e : Ending) (w' : World) : Prop := ∃ r : Int, e = .returned (.int .i64 r) ∧ Ext w w' ∧ (r = -1 ∨ (0 ≤ r ∧ Hid (r + size = left)))
def szss (ll : List (List Int)) : Nat := ll.length + (ll.map List.length).sum
def szAuto (a : Auto) : Nat := szss a.next + a.accept.length
def szSys (s : Sys) : Nat := s.edges.length
def szTsk (t : Task) : Nat := szSys t.sys + szAuto t.prop
def szTch (t : Teacher) : Nat := szAuto t.target + szTsk t.task

theorem szIntS_s (v : Value) (l : List Int) (left : Int) (w : World) (hv : IntsV w v l) (hl : 0 ≤ left) (hl2 : left ≤ 1048576) :
    Calls Tryz.prog 153 #[v, .int .i64 left] w (SzS left l.length w) :=
  (szIntS_c v l left w hv hl hl2).mono fun _ _ ⟨he, hw⟩ => ⟨_, he, hw ▸ Ext.refl _, by split; exact .inl rfl; exact .inr ⟨by omega, by show _ = _; omega⟩⟩
theorem szBoolS_s (v : Value) (l : List Bool) (left : Int) (w : World) (hv : BoolsV w v l) (hl : 0 ≤ left) (hl2 : left ≤ 1048576) :
    Calls Tryz.prog 96 #[v, .int .i64 left] w (SzS left l.length w) :=
  (szBoolS_c v l left w hv hl hl2).mono fun _ _ ⟨he, hw⟩ => ⟨_, he, hw ▸ Ext.refl _, by split; exact .inl rfl; exact .inr ⟨by omega, by show _ = _; omega⟩⟩
theorem szEdgeS_s (v : Value) (l : List Edge) (left : Int) (w : World) (hv : EdgesV w v l) (hl : 0 ≤ left) (hl2 : left ≤ 1048576) :
    Calls Tryz.prog 154 #[v, .int .i64 left] w (SzS left l.length w) :=
  (szEdgeS_c v l left w hv hl hl2).mono fun _ _ ⟨he, hw⟩ => ⟨_, he, hw ▸ Ext.refl _, by split; exact .inl rfl; exact .inr ⟨by omega, by show _ = _; omega⟩⟩

theorem szIntSS_s (v : Value) (ll : List (List Int)) (left : Int) (w : World) (hv : IntssV w v ll) (hl : 0 ≤ left) (hl2 : left ≤ 1048576) :
    Calls Tryz.prog 95 #[v, .int .i64 left] w (SzS left (szss ll) w) := by
  obtain ⟨a, c, rfl, h1, h2⟩ := hv.open
  by_cases h : left - ll.length < 0
  · go_enter Tryz.func95, Tryz.ntmps95
    go_wp2_with fail
    go_ret
    exact ⟨_, rfl, Ext.refl _, .inl rfl⟩
  · go_enter Tryz.func95, Tryz.ntmps95
    go_wp2_with fail
    go_loopw [1, 5] (fun l i wr => ∃ (k : Nat) (r : Int), k ≤ ll.length ∧ i = .int .i64 k ∧ l = .int .i64 r ∧ 0 ≤ r ∧ r ≤ 1048576 ∧ Hid (r + (ll.length + ((ll.take k).map List.length).sum : Nat) = left) ∧ Ext w wr) (fun _ i _ => ll.length - (intOf i).toNat)
    case atStart => exact ⟨0, left - ll.length, by omega, rfl, rfl, by omega, by omega, by show _ = _; simp, Ext.refl _⟩
    case round =>
      obtain ⟨k, r, hk, rfl, rfl, hr0, hr1, hr, hext⟩ := hrel
      by_cases hlt : k < ll.length
      · obtain ⟨x, hx⟩ : ∃ x, ll[k]? = some x := ⟨_, List.getElem?_eq_getElem hlt⟩
        obtain ⟨b, off, rfl, -, hc⟩ := h2 k x hx
        obtain ⟨vx, g1, hvx⟩ := (hc k x hx).mono hext
        rw [Nat.mul_one] at g1
        have HX := Lib.hid hx
        clear hc hx h2
        go_wp2_with (go_at_call 153; refine (szIntS_s _ x _ _ hvx (by omega) (by omega)).mono ?_; rintro e w' ⟨s, rfl, hext2, hs⟩; rcases hs with rfl | ⟨hs0, hs⟩)
        · go_ret
          exact ⟨_, rfl, hext.trans hext2, .inl rfl⟩
        · have hs' := hs.out
          have hr' := hr.out
          exact ⟨⟨k + 1, s, by omega, by go_num, rfl, by omega, by omega, by show _ = _; rw [List.take_add_one, HX.out, List.map_append, List.sum_append]; simp only [Option.toList_some, List.map_cons, List.map_nil, List.sum_cons, List.sum_nil]; omega, hext.trans hext2⟩, by simp [intOf]; omega⟩
      · obtain rfl : k = ll.length := by omega
        go_wp2_with fail
        go_ret
        refine ⟨_, rfl, hext, .inr ⟨hr0, ?_⟩⟩
        have hr' := hr.out
        rw [List.take_length] at hr'
        exact hr'

theorem szAutomaton_s (v : Value) (x : Auto) (left : Int) (w : World) (hv : AutoV w v x) (hl : 0 ≤ left) (hl2 : left ≤ 1048576) :
    Calls Tryz.prog 48 #[v, .int .i64 left] w (SzS left (szAuto x) w) := by
  obtain ⟨vn, va, rfl, h1, h2⟩ := hv
  go_enter Tryz.func48, Tryz.ntmps48
  go_wp2_with fail
  refine (szIntSS_s _ _ _ _ (h1.mono (Ext.alloc _ _)) hl hl2).mono ?_
  rintro e w1 ⟨r, rfl, he1, hr⟩
  have c2 := he1.new 2 rfl
  replace h2 := h2.mono he1.peel
  rcases hr with rfl | ⟨hr0, hr⟩
  · go_wp2_with fail
    go_ret
    exact ⟨_, rfl, he1.peel, .inl rfl⟩
  · have hr' := hr.out
    have hr1 : r ≤ 1048576 := by omega
    clear hr'
    go_wp2_with fail
    refine (szBoolS_s _ _ _ _ h2 hr0 hr1).mono ?_
    rintro e w2 ⟨s, rfl, he2, hs⟩
    rcases hs with rfl | ⟨hs0, hs⟩
    · go_wp2_with fail
      go_ret
      exact ⟨_, rfl, he1.peel.trans he2, .inl rfl⟩
    · go_wp2_with fail
      go_ret
      refine ⟨_, rfl, he1.peel.trans he2, .inr ⟨hs0, ?_⟩⟩
      have := hr.out; have := hs.out
      show _ = _
      unfold szAuto; omega

theorem szSystem_s (v : Value) (x : Sys) (left : Int) (w : World) (hv : SysV w v x) (hl : 0 ≤ left) (hl2 : left ≤ 1048576) :
    Calls Tryz.prog 97 #[v, .int .i64 left] w (SzS left (szSys x) w) := by
  obtain ⟨ve, rfl, h1⟩ := hv
  go_enter Tryz.func97, Tryz.ntmps97
  go_wp2_with fail
  refine (szEdgeS_s _ _ _ _ (h1.mono (Ext.alloc _ _)) hl hl2).mono ?_
  rintro e w1 ⟨r, rfl, he1, hr⟩
  rcases hr with rfl | ⟨hr0, hr⟩
  · go_wp2_with fail
    go_ret
    exact ⟨_, rfl, he1.peel, .inl rfl⟩
  · go_wp2_with fail
    go_ret
    exact ⟨_, rfl, he1.peel, .inr ⟨hr0, hr⟩⟩

theorem szTask_s (v : Value) (x : Task) (left : Int) (w : World) (hv : TaskV w v x) (hl : 0 ≤ left) (hl2 : left ≤ 1048576) :
    Calls Tryz.prog 49 #[v, .int .i64 left] w (SzS left (szTsk x) w) := by
  obtain ⟨ve, vn, va, rfl, h1, h2, h3⟩ := hv
  go_enter Tryz.func49, Tryz.ntmps49
  go_wp2_with fail
  refine (szSystem_s _ x.sys _ _ ⟨ve, rfl, h1.mono (Ext.alloc _ _)⟩ hl hl2).mono ?_
  rintro e w1 ⟨r, rfl, he1, hr⟩
  have c3 := he1.new 3 rfl
  have c4 := he1.new 4 rfl
  have c5 := he1.new 5 rfl
  rcases hr with rfl | ⟨hr0, hr⟩
  · go_wp2_with fail
    go_ret
    exact ⟨_, rfl, he1.peel, .inl rfl⟩
  · have hr' := hr.out
    have hr1 : r ≤ 1048576 := by omega
    clear hr'
    go_wp2_with fail
    refine (szAutomaton_s _ x.prop _ _ ⟨vn, va, rfl, h2.mono he1.peel, h3.mono he1.peel⟩ hr0 hr1).mono ?_
    rintro e w2 ⟨s, rfl, he2, hs⟩
    rcases hs with rfl | ⟨hs0, hs⟩
    · go_wp2_with fail
      go_ret
      exact ⟨_, rfl, he1.peel.trans he2, .inl rfl⟩
    · go_wp2_with fail
      go_ret
      refine ⟨_, rfl, he1.peel.trans he2, .inr ⟨hs0, ?_⟩⟩
      have := hr.out; have := hs.out
      show _ = _
      unfold szTsk; omega

theorem szTeacher_s (v : Value) (x : Teacher) (left : Int) (w : World) (hv : TeacherV w v x) (hl : 0 ≤ left) (hl2 : left ≤ 1048576) :
    Calls Tryz.prog 12 #[v, .int .i64 left] w (SzS left (szTch x) w) := by
  obtain ⟨vn, va, ve, vn', va', rfl, h1, h2, h3, h4, h5⟩ := hv
  go_enter Tryz.func12, Tryz.ntmps12
  go_wp2_with fail
  refine (szAutomaton_s _ x.target _ _ ⟨vn, va, rfl, h1.mono (Ext.alloc _ _), h2.mono (Ext.alloc _ _)⟩ hl hl2).mono ?_
  rintro e w1 ⟨r, rfl, he1, hr⟩
  have c4 := he1.new 4 rfl
  have c5 := he1.new 5 rfl
  have c6 := he1.new 6 rfl
  have c7 := he1.new 7 rfl
  have c8 := he1.new 8 rfl
  have c9 := he1.new 9 rfl
  have c10 := he1.new 10 rfl
  rcases hr with rfl | ⟨hr0, hr⟩
  · go_wp2_with fail
    go_ret
    exact ⟨_, rfl, he1.peel, .inl rfl⟩
  · have hr' := hr.out
    have hr1 : r ≤ 1048576 := by omega
    clear hr'
    go_wp2_with fail
    refine (szTask_s _ x.task _ _ ⟨ve, vn', va', rfl, h3.mono he1.peel, h4.mono he1.peel, h5.mono he1.peel⟩ hr0 hr1).mono ?_
    rintro e w2 ⟨s, rfl, he2, hs⟩
    rcases hs with rfl | ⟨hs0, hs⟩
    · go_wp2_with fail
      go_ret
      exact ⟨_, rfl, he1.peel.trans he2, .inl rfl⟩
    · go_wp2_with fail
      go_ret
      refine ⟨_, rfl, he1.peel.trans he2, .inr ⟨hs0, ?_⟩⟩
      have := hr.out; have := hs.out
      show _ = _
      unfold szTch; omega

end Go.Proofs.YtanekmfifmkbmaaGreatDoor

namespace Go.Proofs.YtanekmfifmkbmaaGreatDoor
set_option linter.unusedSimpArgs false
set_option linter.unusedVariables false
open Go.RowKit

set_option maxHeartbeats 400000

theorem infoBool : (Tryz.prog.info? 4).map (fun i => (i.zero, i.size, i.bytes)) = some (some (.bool false), 1, 1) := by kernel_rfl
theorem infoInts : (Tryz.prog.info? 80).map (fun i => (i.zero, i.size, i.bytes)) = some (some (.slice none 0 0), 1, 24) := by kernel_rfl

theorem toIntS_c (v : Value) (l : List Int) (w : World) (hv : IntsV w v l) (hn : l.length ≤ 1048576) :
    Calls Tryz.prog 161 #[v] w (Gives (fun v w' => IntsOwn 3 w.heap.size w' v l) w) := by
  obtain ⟨a, c, rfl, h1, h2⟩ := hv.open
  go_enter Tryz.func161, Tryz.ntmps161
  go_wp2_with (at_make; refine make1 rfl rfl Tryz.underlying80 infoInt rfl rfl rfl rfl (by omega) (by decide) (Nat.le_refl _) ?_; intro w1 hown hext hlt)
  go_loopw [4] (fun i wr => ∃ k : Nat, k ≤ l.length ∧ i = .int .i64 k ∧ wr.ownsRow w.heap.size 3 1 (.slice (some ⟨w.heap.size, 0, none⟩) l.length l.length) l.length (filled (l.map (Value.int .i64)) k (.int .i64 0)) ∧ Ext w wr) (fun i _ => l.length - (intOf i).toNat)
  case atStart => exact ⟨0, by omega, rfl, by rw [filled_zero]; simpa [toList_madeCells_one, Value.cells] using hown, hext⟩
  case round =>
    obtain ⟨k, hk, rfl, hown, hext⟩ := hrel
    by_cases hlt : k < l.length
    · obtain ⟨x, hx⟩ : ∃ x, l[k]? = some x := ⟨_, List.getElem?_eq_getElem hlt⟩
      obtain ⟨b, off, rfl, -, hc⟩ := h2 k x hx
      have g1 : wr.cell? ⟨b, off + k, none⟩ = some (.int .i64 x) := by have := hc k x hx; rw [Nat.mul_one] at this; exact hext.cell this
      have g2 := own_cell hown (filled_at (l.map (Value.int .i64)) k (.int .i64 0) (by simpa using hlt))
      have g3 := hown.frozenAt k
      have HX := Lib.hid hx
      clear hc hx h2
      go_wp2_with fail
      obtain ⟨o1, o2⟩ := hown.stored k (.int .i64 x)
      rw [filled_set _ _ _ _ (by simp [HX.out])] at o1
      exact ⟨⟨k + 1, by omega, by go_num, o1, hext.grown o2 hext.size fun j hj => by cases hj; exact Nat.le_refl _⟩, by simp [intOf]; omega⟩
    · obtain rfl : k = l.length := by omega
      go_wp2_with fail
      go_ret
      refine Gives.mk rfl hext ?_
      have := filled_full (l.map (Value.int .i64)) (.int .i64 0)
      rw [List.length_map] at this
      rw [this] at hown
      exact hown

theorem toBoolS_c (v : Value) (l : List Bool) (w : World) (hv : BoolsV w v l) (hn : l.length ≤ 1048576) :
    Calls Tryz.prog 101 #[v] w (Gives (fun v w' => BoolsOwn 4 w.heap.size w' v l) w) := by
  obtain ⟨a, c, rfl, h1, h2⟩ := hv.open
  go_enter Tryz.func101, Tryz.ntmps101
  go_wp2_with (at_make; refine make1 rfl rfl Tryz.underlying29 infoBool rfl rfl rfl rfl (by omega) (by decide) (Nat.le_refl _) ?_; intro w1 hown hext hlt)
  go_loopw [4] (fun i wr => ∃ k : Nat, k ≤ l.length ∧ i = .int .i64 k ∧ wr.ownsRow w.heap.size 4 1 (.slice (some ⟨w.heap.size, 0, none⟩) l.length l.length) l.length (filled (l.map (Value.bool)) k (.bool false)) ∧ Ext w wr) (fun i _ => l.length - (intOf i).toNat)
  case atStart => exact ⟨0, by omega, rfl, by rw [filled_zero]; simpa [toList_madeCells_one, Value.cells] using hown, hext⟩
  case round =>
    obtain ⟨k, hk, rfl, hown, hext⟩ := hrel
    by_cases hlt : k < l.length
    · obtain ⟨x, hx⟩ : ∃ x, l[k]? = some x := ⟨_, List.getElem?_eq_getElem hlt⟩
      obtain ⟨b, off, rfl, -, hc⟩ := h2 k x hx
      have g1 : wr.cell? ⟨b, off + k, none⟩ = some (.bool x) := by have := hc k x hx; rw [Nat.mul_one] at this; exact hext.cell this
      have g2 := own_cell hown (filled_at (l.map (Value.bool)) k (.bool false) (by simpa using hlt))
      have g3 := hown.frozenAt k
      have HX := Lib.hid hx
      clear hc hx h2
      go_wp2_with fail
      obtain ⟨o1, o2⟩ := hown.stored k (.bool x)
      rw [filled_set _ _ _ _ (by simp [HX.out])] at o1
      exact ⟨⟨k + 1, by omega, by go_num, o1, hext.grown o2 hext.size fun j hj => by cases hj; exact Nat.le_refl _⟩, by simp [intOf]; omega⟩
    · obtain rfl : k = l.length := by omega
      go_wp2_with fail
      go_ret
      refine Gives.mk rfl hext ?_
      have := filled_full (l.map (Value.bool)) (.bool false)
      rw [List.length_map] at this
      rw [this] at hown
      exact hown

theorem toIntSS_c (v : Value) (ll : List (List Int)) (w : World) (hv : IntssV w v ll) (hn : szss ll ≤ 1048576) :
    Calls Tryz.prog 100 #[v] w (Gives (fun v w' => IntssOwn 80 3 w.heap.size w' v ll) w) := by
  obtain ⟨a, c, rfl, h1, h2⟩ := hv.open
  have hlen : ll.length ≤ 1048576 := by unfold szss at hn; omega
  go_enter Tryz.func100, Tryz.ntmps100
  go_wp2_with (at_make; refine make1 rfl rfl Tryz.underlying28 infoInts rfl rfl rfl rfl (by omega) (by decide) (Nat.le_refl _) ?_; intro w1 hown hext hlt)
  go_loopw [4] (fun i wr => ∃ (k : Nat) (vs : List Value), k ≤ ll.length ∧ i = .int .i64 k ∧ wr.ownsRow w.heap.size 80 1 (.slice (some ⟨w.heap.size, 0, none⟩) ll.length ll.length) ll.length (vs ++ List.replicate (ll.length - k) (.slice none 0 0)) ∧ RowsAre 3 (w.heap.size + 1) wr vs (ll.take k) ∧ w.heap.size < wr.heap.size ∧ Ext w wr) (fun i _ => ll.length - (intOf i).toNat)
  case atStart => exact ⟨0, [], by omega, rfl, by simpa [toList_madeCells_one, Value.cells] using hown, RowsAre.nil _ _ _, hlt, hext⟩
  case round =>
    obtain ⟨k, vs, hk, rfl, hown, hrows, hsz, hext⟩ := hrel
    by_cases hlt : k < ll.length
    · obtain ⟨x, hx⟩ : ∃ x, ll[k]? = some x := ⟨_, List.getElem?_eq_getElem hlt⟩
      obtain ⟨b, off, rfl, -, hc⟩ := h2 k x hx
      obtain ⟨vx, g1, hvx⟩ := (hc k x hx).mono hext
      rw [Nat.mul_one] at g1
      have HX := Lib.hid hx
      have hxl : x.length ≤ 1048576 := by
        have h3 : x.length ≤ (ll.map List.length).sum := le_sum_of_mem (List.mem_map_of_mem (List.mem_of_getElem? hx))
        unfold szss at hn; omega
      have hvl := hrows.len
      rw [List.length_take, Nat.min_eq_left hk] at hvl
      have HVL := Lib.hid hvl
      clear hc hx h2 hvl
      go_wp2_with fail
      refine (toIntS_c _ x _ hvx hxl).mono ?_
      rintro e w2 ⟨vy, rfl, he2, hy⟩
      obtain ⟨ay, cy, rfl⟩ := hy.shape
      have hown2 := own_ext hown he2
      have g2 := own_cell hown2 (j := k) (u := .slice none 0 0) (by rw [List.getElem?_append_right (by rw [HVL.out]; exact Nat.le_refl _), HVL.out, Nat.sub_self, List.getElem?_replicate, if_pos (by omega)])
      have g3 := hown2.frozenAt k
      go_wp2_with fail
      obtain ⟨o1, o2⟩ := hown2.stored k (.slice ay x.length cy)
      have hp := (hrows.push (ll' := ll.take (k + 1)) he2 hy (by omega) (by rw [List.take_add_one, HX.out]; rfl)).kept o2 (by omega)
      refine ⟨⟨k + 1, vs ++ [.slice ay x.length cy], by omega, by go_num, ?_, hp, ?_, (hext.trans he2).grown o2 (hext.trans he2).size fun j hj => by cases hj; exact Nat.le_refl _⟩, by simp [intOf]; omega⟩
      · obtain ⟨m, hm⟩ : ∃ m, ll.length - k = m + 1 := ⟨ll.length - k - 1, by omega⟩
        rw [List.set_append_right _ _ (by rw [HVL.out]; exact Nat.le_refl _), HVL.out, Nat.sub_self, hm, List.replicate_succ, List.set_cons_zero] at o1
        rw [show ll.length - (k + 1) = m by omega, List.append_assoc]
        exact o1
      · have := o2.size; have := he2.size; omega
    · obtain rfl : k = ll.length := by omega
      go_wp2_with fail
      go_ret
      refine Gives.mk rfl hext ⟨vs, ?_, ?_, ?_⟩
      · simpa using hown
      · have h3 := hrows
        rw [List.take_length] at h3
        exact ⟨h3.len, fun j x l hx hl => (h3.row j x l hx hl).low (by omega), h3.apart⟩
      · intro j x hx
        rw [List.take_length] at hrows
        obtain ⟨l, hl⟩ : ∃ l, ll[j]? = some l := ⟨_, List.getElem?_eq_getElem (by rw [← hrows.len]; exact (List.getElem?_eq_some_iff.1 hx).1)⟩
        have h3 := hrows.row j x l hx hl
        cases hb : x.ownBlock with
        | none => exact .inl rfl
        | some g => have := (World.ownsRow.lt h3 g hb).1; exact .inr (fun h => by simp [Value.ownBlock] at h; omega)

end Go.Proofs.YtanekmfifmkbmaaGreatDoor
