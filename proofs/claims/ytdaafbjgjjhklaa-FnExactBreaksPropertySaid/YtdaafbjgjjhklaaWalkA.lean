/- Walks: letters, sizes, copies, equalities. -/
import Derived.Test.YtdaafbjgjjhklaaRows
import Derived.Test.YtdaafbjgjjhklaaLaws
import Derived.Test.YtdaafbjgjjhklaaPlain1
namespace Go.Proofs.Ytdaafbjgjjhklaa
set_option linter.unusedSimpArgs false
set_option linter.unusedVariables false
open Go.RowKit

set_option maxHeartbeats 400000

theorem isAlphabet_c (a : Int) (w : World) : Calls Try.prog 62 #[.int .i64 a] w (Same (.bool (isAlpha a)) w) := by
  by_cases h : 0 ≤ a
  · go_enter Try.func62, Try.ntmps62
    go_wp2
    go_ret
    exact ⟨by simp [isAlpha, h], rfl⟩
  · go_enter Try.func62, Try.ntmps62
    go_wp2
    go_ret
    exact ⟨by simp [isAlpha]; omega, rfl⟩

theorem l1Alphabet_c (a : Int) (w : World) : Calls Try.prog 61 #[.int .i64 a] w (Same (.bool (isAlpha a)) w) := by
  by_cases h : 0 ≤ a
  · go_enter Try.func61, Try.ntmps61
    go_wp2
    go_ret
    exact ⟨by simp [isAlpha, h], rfl⟩
  · go_enter Try.func61, Try.ntmps61
    go_wp2
    go_ret
    exact ⟨by simp [isAlpha]; omega, rfl⟩

theorem has_c (s n : Int) (w : World) (hs : 0 ≤ s) (hs2 : s ≤ 9223372036854775807) (hn : n < 64) :
    Calls Try.prog 91 #[.int .i64 s, .int .i64 n] w (Same (.bool (bit s n)) w) := by
  by_cases h : 0 ≤ n
  · go_enter Try.func91, Try.ntmps91
    go_wp2
    go_ret
    exact ⟨by rw [bit_nonneg h, ← has_bit s n hs hs2]; rfl, rfl⟩
  · have h : n < 0 := by omega
    go_enter Try.func91, Try.ntmps91
    go_wp2
    go_ret
    exact ⟨by rw [bit_neg h]; rfl, rfl⟩

theorem l1Has_c (s n : Int) (w : World) (hs : 0 ≤ s) (hs2 : s ≤ 9223372036854775807) (h : 0 ≤ n) (hn : n < 64) :
    Calls Try.prog 109 #[.int .i64 s, .int .i64 n] w (Same (.bool (bit s n)) w) := by
  go_enter Try.func109, Try.ntmps109
  go_wp2
  go_ret
  exact ⟨by rw [bit_nonneg h, ← has_bit s n hs hs2]; rfl, rfl⟩

theorem infoInt : (Try.prog.info? 3).map (fun i => (i.zero, i.size, i.bytes)) = some (some (.int .i64 0), 1, 8) := by kernel_rfl

theorem lettersOf_o (a : Int) (w : World) (ha : 0 ≤ a) (ha2 : a ≤ 63) :
    Calls Try.prog 67 #[.int .i64 a] w (Gives (fun v w' => IntsOwn 3 w.heap.size w' v (letters a)) w) := by
  go_enter Try.func67, Try.ntmps67
  go_wp2_with fail
  go_loopw [3, 5] (fun v i wr => ∃ k : Nat, k ≤ 6 ∧ i = .int .i64 k ∧ IntsOwn 3 w.heap.size wr v (lettersTo a k) ∧ Ext w wr) (fun _ i _ => 6 - (intOf i).toNat)
  case atStart => exact ⟨0, by omega, rfl, IntsOwn.nil _ _ _, Ext.refl _⟩
  case round =>
    obtain ⟨k, hk, rfl, hown, hext⟩ := hrel
    have hsz := hext.size
    by_cases hlt : k < 6
    · have HS := Lib.hid (lettersTo_succ a k)
      have hlen := lettersTo_len a k
      by_cases hb : bit a k = true
      · go_wp2_with (first | (go_at_call 91; refine (has_c _ _ _ (by omega) (by omega) (by omega)).mono ?_; rintro e w' ⟨rfl, rfl⟩) | (at_builtin; refine app1 rfl rfl Try.underlying94 infoInt rfl (by decide) hown.own rfl rfl rfl (by simp [Value.oneCell']) (by omega) (by decide) (by omega) ?_; intro v1 w1 hown1 hgr1 hbl1))
        exact ⟨⟨k + 1, by omega, by go_num, IntsOwn.push hown1 (by rw [HS.out, if_pos hb]), Below.trans hext hbl1⟩, by simp [intOf]; omega⟩
      · go_wp2_with (first | (go_at_call 91; refine (has_c _ _ _ (by omega) (by omega) (by omega)).mono ?_; rintro e w' ⟨rfl, rfl⟩))
        exact ⟨⟨k + 1, by omega, by go_num, by rw [HS.out, if_neg hb, List.append_nil]; exact hown, hext⟩, by simp [intOf]; omega⟩
    · obtain rfl : k = 6 := by omega
      go_wp2_with fail
      go_ret
      exact Gives.mk rfl hext hown
theorem lettersOf_c (a : Int) (w : World) (ha : 0 ≤ a) (ha2 : a ≤ 63) :
    Calls Try.prog 67 #[.int .i64 a] w (Gives (fun v w' => IntsV w' v (letters a)) w) :=
  (lettersOf_o a w ha ha2).mono fun _ _ ⟨v, h1, h2, h3⟩ => ⟨v, h1, h2, h3.ints⟩

theorem IntsOwn.lit (e : TypeId) (w : World) : IntsOwn e w.heap.size (w.alloc (.cells #[] e)) (.slice (some ⟨w.heap.size, 0, none⟩) 0 0) [] :=
  World.ownsRow_made w #[] 0 (Nat.le_refl _) (by unfold maxLen; omega) (by simp)

theorem l1Letters_c (a : Int) (w : World) (ha : 0 ≤ a) (ha2 : a ≤ 63) :
    Calls Try.prog 87 #[.int .i64 a] w (Gives (fun v w' => IntsV w' v (letters a)) w) := by
  go_enter Try.func87, Try.ntmps87
  go_wp2_with fail
  go_loopw [3, 4] (fun v i wr => ∃ k : Nat, k ≤ 6 ∧ i = .int .i64 k ∧ IntsOwn 3 w.heap.size wr v (lettersTo a k) ∧ Ext w wr) (fun _ i _ => 6 - (intOf i).toNat)
  case atStart => exact ⟨0, by omega, rfl, IntsOwn.lit _ _, Ext.alloc _ _⟩
  case round =>
    obtain ⟨k, hk, rfl, hown, hext⟩ := hrel
    have hsz := hext.size
    by_cases hlt : k < 6
    · have HS := Lib.hid (lettersTo_succ a k)
      have hlen := lettersTo_len a k
      by_cases hb : bit a k = true
      · go_wp2_with (first | (go_at_call 109; refine (l1Has_c _ _ _ (by omega) (by omega) (by omega) (by omega)).mono ?_; rintro e w' ⟨rfl, rfl⟩) | (at_builtin; refine app1 rfl rfl Try.underlying94 infoInt rfl (by decide) hown.own rfl rfl rfl (by simp [Value.oneCell']) (by omega) (by decide) (by omega) ?_; intro v1 w1 hown1 hgr1 hbl1))
        exact ⟨⟨k + 1, by omega, by go_num, IntsOwn.push hown1 (by rw [HS.out, if_pos hb]), Below.trans hext hbl1⟩, by simp [intOf]; omega⟩
      · go_wp2_with (first | (go_at_call 109; refine (l1Has_c _ _ _ (by omega) (by omega) (by omega) (by omega)).mono ?_; rintro e w' ⟨rfl, rfl⟩))
        exact ⟨⟨k + 1, by omega, by go_num, by rw [HS.out, if_neg hb, List.append_nil]; exact hown, hext⟩, by simp [intOf]; omega⟩
    · obtain rfl : k = 6 := by omega
      go_wp2_with fail
      go_ret
      exact Gives.mk rfl hext hown.ints

theorem szIntS_c (v : Value) (l : List Int) (left : Int) (w : World) (hv : IntsV w v l) (hl : 0 ≤ left) (hl2 : left ≤ 1048576) :
    Calls Try.prog 85 #[v, .int .i64 left] w (Same (.int .i64 (if left - l.length < 0 then -1 else left - l.length)) w) := by
  obtain ⟨a, c, rfl, h0, h1, -⟩ := hv
  unfold maxLen at h1
  by_cases h : left - l.length < 0
  · go_enter Try.func85, Try.ntmps85
    go_wp2
    go_ret
    exact Same.mk (by rfl)
  · go_enter Try.func85, Try.ntmps85
    go_wp2
    go_ret
    exact Same.mk (by rfl)

theorem eqIntS_c (v u : Value) (l m : List Int) (w : World) (hv : IntsV w v l) (hu : IntsV w u m) :
    Calls Try.prog 93 #[v, u] w (Grows (.bool (decide (l = m))) w) := by
  obtain ⟨a, c, rfl, h1, h2⟩ := hv.open
  obtain ⟨a', c', rfl, h1', h2'⟩ := hu.open
  by_cases hlen : l.length = m.length
  · have HL := Lib.hid hlen
    rw [← hlen]
    clear hlen hv hu
    go_enter Try.func93, Try.ntmps93
    go_wp2_with fail
    go_loopw [5] (fun i wr => ∃ k : Nat, k ≤ l.length ∧ i = .int .i64 k ∧ Hid (l.take k = m.take k) ∧ Ext w wr) (fun i _ => l.length - (intOf i).toNat)
    case atStart => exact ⟨0, by omega, rfl, by simp [Hid], Ext.refl _⟩
    case round =>
      obtain ⟨k, hk, rfl, heq, hext⟩ := hrel
      by_cases hlt : k < l.length
      · obtain ⟨x, hx⟩ : ∃ x, l[k]? = some x := ⟨_, List.getElem?_eq_getElem hlt⟩
        obtain ⟨y, hy⟩ : ∃ x, m[k]? = some x := ⟨_, List.getElem?_eq_getElem (by rw [← HL.out]; exact hlt)⟩
        obtain ⟨b, off, rfl, -, hc⟩ := h2 k x hx
        obtain ⟨b', off', rfl, -, hc'⟩ := h2' k y hy
        have g1 : wr.cell? ⟨b, off + k, none⟩ = some (.int .i64 x) := by have := hc k x hx; rw [Nat.mul_one] at this; exact hext.cell this
        have g2 : wr.cell? ⟨b', off' + k, none⟩ = some (.int .i64 y) := by have := hc' k y hy; rw [Nat.mul_one] at this; exact hext.cell this
        clear hc hc' h2 h2'
        have HX := Lib.hid hx
        have HY := Lib.hid hy
        clear hx hy
        by_cases hxy : x = y
        · subst hxy
          go_wp2_with fail
          go_quiet (fail)
          go_wp2_with fail
          exact ⟨⟨k + 1, by omega, by go_num, by simp [Hid, List.take_add_one, HX.out, HY.out, heq.out], hext.trans (Ext.drewN _ _)⟩, by simp [intOf]; omega⟩
        · go_wp2_with fail
          go_quiet (fail)
          go_wp2_with fail
          go_ret
          refine Grows.mk ?_ (hext.trans (Ext.drewN _ _))
          have : ¬ l = m := fun h => by subst h; have := HX.out; rw [HY.out] at this; cases this; exact hxy rfl
          simp [this]
      · obtain rfl : k = l.length := by omega
        go_wp2_with fail
        go_ret
        refine Grows.mk ?_ hext
        have := heq.out
        rw [List.take_length, HL.out, List.take_length] at this
        simp [this]
  · have hne : l ≠ m := fun h => hlen (by rw [h])
    go_enter Try.func93, Try.ntmps93
    go_wp2_with fail
    go_ret
    exact Grows.mk (by simp [hne]) (Ext.refl _)
theorem szBoolS_c (v : Value) (l : List Bool) (left : Int) (w : World) (hv : BoolsV w v l) (hl : 0 ≤ left) (hl2 : left ≤ 1048576) :
    Calls Try.prog 47 #[v, .int .i64 left] w (Same (.int .i64 (if left - l.length < 0 then -1 else left - l.length)) w) := by
  obtain ⟨a, c, rfl, h0, h1, -⟩ := hv
  unfold maxLen at h1
  by_cases h : left - l.length < 0
  · go_enter Try.func47, Try.ntmps47
    go_wp2
    go_ret
    exact Same.mk (by rfl)
  · go_enter Try.func47, Try.ntmps47
    go_wp2
    go_ret
    exact Same.mk (by rfl)

theorem szEdgeS_c (v : Value) (l : List Edge) (left : Int) (w : World) (hv : EdgesV w v l) (hl : 0 ≤ left) (hl2 : left ≤ 1048576) :
    Calls Try.prog 56 #[v, .int .i64 left] w (Same (.int .i64 (if left - l.length < 0 then -1 else left - l.length)) w) := by
  obtain ⟨a, c, rfl, h0, h1, -⟩ := hv
  unfold maxLen at h1
  by_cases h : left - l.length < 0
  · go_enter Try.func56, Try.ntmps56
    go_wp2
    go_ret
    exact Same.mk (by rfl)
  · go_enter Try.func56, Try.ntmps56
    go_wp2
    go_ret
    exact Same.mk (by rfl)

theorem eqBoolS_c (v u : Value) (l m : List Bool) (w : World) (hv : BoolsV w v l) (hu : BoolsV w u m) :
    Calls Try.prog 55 #[v, u] w (Grows (.bool (decide (l = m))) w) := by
  obtain ⟨a, c, rfl, h1, h2⟩ := hv.open
  obtain ⟨a', c', rfl, h1', h2'⟩ := hu.open
  by_cases hlen : l.length = m.length
  · have HL := Lib.hid hlen
    rw [← hlen]
    clear hlen hv hu
    go_enter Try.func55, Try.ntmps55
    go_wp2_with fail
    go_loopw [5] (fun i wr => ∃ k : Nat, k ≤ l.length ∧ i = .int .i64 k ∧ Hid (l.take k = m.take k) ∧ Ext w wr) (fun i _ => l.length - (intOf i).toNat)
    case atStart => exact ⟨0, by omega, rfl, by simp [Hid], Ext.refl _⟩
    case round =>
      obtain ⟨k, hk, rfl, heq, hext⟩ := hrel
      by_cases hlt : k < l.length
      · obtain ⟨x, hx⟩ : ∃ x, l[k]? = some x := ⟨_, List.getElem?_eq_getElem hlt⟩
        obtain ⟨y, hy⟩ : ∃ x, m[k]? = some x := ⟨_, List.getElem?_eq_getElem (by rw [← HL.out]; exact hlt)⟩
        obtain ⟨b, off, rfl, -, hc⟩ := h2 k x hx
        obtain ⟨b', off', rfl, -, hc'⟩ := h2' k y hy
        have g1 : wr.cell? ⟨b, off + k, none⟩ = some (.bool x) := by have := hc k x hx; rw [Nat.mul_one] at this; exact hext.cell this
        have g2 : wr.cell? ⟨b', off' + k, none⟩ = some (.bool y) := by have := hc' k y hy; rw [Nat.mul_one] at this; exact hext.cell this
        clear hc hc' h2 h2'
        have HX := Lib.hid hx
        have HY := Lib.hid hy
        clear hx hy
        by_cases hxy : x = y
        · subst hxy
          go_wp2_with fail
          go_quiet (fail)
          go_wp2_with fail
          exact ⟨⟨k + 1, by omega, by go_num, by simp [Hid, List.take_add_one, HX.out, HY.out, heq.out], hext.trans (Ext.drewN _ _)⟩, by simp [intOf]; omega⟩
        · have hd : (x == y) = false := beq_eq_false_iff_ne.2 hxy
          go_wp2_with fail
          go_quiet (fail)
          go_wp2_with fail
          go_ret
          refine Grows.mk ?_ (hext.trans (Ext.drewN _ _))
          have : ¬ l = m := fun h => by subst h; have := HX.out; rw [HY.out] at this; cases this; exact hxy rfl
          simp [this]
      · obtain rfl : k = l.length := by omega
        go_wp2_with fail
        go_ret
        refine Grows.mk ?_ hext
        have := heq.out
        rw [List.take_length, HL.out, List.take_length] at this
        simp [this]
  · have hne : l ≠ m := fun h => hlen (by rw [h])
    go_enter Try.func55, Try.ntmps55
    go_wp2_with fail
    go_ret
    exact Grows.mk (by simp [hne]) (Ext.refl _)
end Go.Proofs.Ytdaafbjgjjhklaa
