/- Walks: runs of the program's automata, words that break a property. -/
import Derived.Test.YtdaafbjgjjhklaaWalkL
import Derived.Test.YtdaafbjgjjhklaaWalkM
namespace Go.Proofs.Ytdaafbjgjjhklaa
set_option linter.unusedSimpArgs false
set_option linter.unusedVariables false
open Go.RowKit

set_option maxHeartbeats 800000

theorem accepts_at {x : Auto} (hx : autoValid x = true) {q : Nat} (hq : q < x.next.length) : x.accept[q]? = some (accepts x q) := by
  obtain ⟨_, _, _, _, h⟩ := autoValid_facts hx
  unfold accepts
  rw [List.getElem?_eq_getElem (by omega)]; rfl

theorem BreaksProperty_s (v : Value) (x : Auto) (s : ByteArray) (w : World) (hv : AutoV w v x) (hs : s.size ≤ 1048576) :
    Calls Try.prog 11 #[v, .string s] w (Grows (.bool (breaks x s)) w) := by
  have HV := Lib.hid hv
  obtain ⟨vn, va, rfl, h2, h3⟩ := hv
  obtain ⟨an, cn, rfl, -, -⟩ := h2.open
  obtain ⟨aa, ca, rfl, -, hacc⟩ := h3.open
  clear h2 h3
  by_cases hx : autoValid x = true
  case neg =>
    have hx : autoValid x = false := by simpa using hx
    go_enter Try.func11, Try.ntmps11
    go_wp2_with fail
    refine (AutomatonValid_s _ x _ (HV.out.mono (Ext.alloc _ _))).mono ?_
    rintro e w1 ⟨rfl, he1⟩
    go_wp2_with fail
    go_ret
    exact Grows.mk (by simp [breaks, hx]) he1.peel
  by_cases hw : wordValid s = true
  case neg =>
    have hw : wordValid s = false := by simpa using hw
    go_enter Try.func11, Try.ntmps11
    go_wp2_with fail
    refine (AutomatonValid_s _ x _ (HV.out.mono (Ext.alloc _ _))).mono ?_
    rintro e w1 ⟨rfl, he1⟩
    go_wp2_with (go_at_call 49; refine (WordValid_s s _ hs).mono ?_; rintro e w' ⟨rfl, rfl⟩)
    go_ret
    exact Grows.mk (by simp [breaks, hw]) he1.peel
  have HX := Lib.hid hx
  have HW := Lib.hid hw
  obtain ⟨-, -, hn0, hn, hal⟩ := autoValid_facts hx
  have hr := run_lt hx (chars s) (q := 0) (by omega)
  obtain ⟨b, off, rfl, -, hc⟩ := hacc _ _ (accepts_at hx hr)
  have hc := hc _ _ (accepts_at hx hr)
  rw [Nat.mul_one] at hc
  unfold BoolAt at hc
  have hra : run x 0 (chars s) < x.accept.length := by omega
  clear hacc hal
  go_enter Try.func11, Try.ntmps11
  go_wp2_with fail
  refine (AutomatonValid_s _ x _ (HV.out.mono (Ext.alloc _ _))).mono ?_
  rintro e w1 ⟨rfl, he1⟩
  go_wp2_with (go_at_call 49; refine (WordValid_s s _ hs).mono ?_; rintro e w' ⟨rfl, rfl⟩)
  have hB := he1.blk
  have hw1 := he1.peel
  have D0 := fun d os => cell_regrown (hB.cell 0 rfl) d os
  have D1 := fun d os => cell_regrown (hB.cell 1 rfl) d os
  have D2 := fun d os => cell_regrown (hB.cell 2 rfl) d os
  have D3 := fun d os => cell_regrown (hw1.cell hc) d os
  have HE := Lib.hid (fun d os => HV.out.mono (hw1.trans (below_regrown w1 d os)))
  clear hc he1 hB
  refine wp_region_quiet_below (by kernel_rfl) (by kernel_rfl) ?_
  repeat (go_big_quiet_step ((go_at_call 50; exact Grows.quiet (l3Run_c _ x 0 s _ (HE.out _ _) HX.out (by omega) HW.out))))
  refine wpQuiet_nil ?_
  intro _ hw'
  obtain ⟨⟨dq, osq⟩, hw''⟩ := hw'
  subst hw''
  have hq2 : Ext w1 (Go.Sort.grow (redrawn w1 dq) osq) := below_regrown w1 dq osq
  generalize Go.Sort.grow (redrawn w1 dq) osq = wq at hq2 ⊢
  go_wp2_with fail
  go_ret
  exact Grows.mk (by simp [breaks, hx, hw]) (hw1.trans hq2)

theorem letterAt_in (s : ByteArray) (i j : Nat) (w : World) (h : i < s.size) (hs : s.size ≤ 1048576) (hj : chAt s i = j) (hj6 : j < 6) :
    Calls Try.prog 92 #[.string s, .int .i64 i] w (Same (.int .i64 j) w) := by
  have := letterAt_c s i w h (by omega)
  rwa [show chOr s i = j by unfold chOr; rw [hj, if_pos (by omega)]] at this

theorem StateAfter_c (v : Value) (x : Auto) (s : ByteArray) (w : World) (hv : AutoV w v x) (hs : s.size ≤ 1048576) :
    Calls Try.prog 71 #[v, .string s] w (Grows (.int .i64 (stateAfter x s)) w) := by
  have HV := Lib.hid hv
  obtain ⟨vn, va, rfl, h2, h3⟩ := hv
  obtain ⟨an, cn, rfl, -, -⟩ := h2.open
  obtain ⟨aa, ca, rfl, -, -⟩ := h3.open
  clear h2 h3
  by_cases hx : autoValid x = true
  case neg =>
    have hx : autoValid x = false := by simpa using hx
    go_enter Try.func71, Try.ntmps71
    go_wp2_with fail
    refine (AutomatonValid_c _ x _ (HV.out.mono (Ext.alloc _ _))).mono ?_
    rintro e w1 ⟨rfl, he1⟩
    go_wp2_with fail
    go_ret
    exact Grows.mk (by simp [stateAfter, hx]) he1.peel
  by_cases hw : wordIn s x.alphabet = true
  case neg =>
    have hw : wordIn s x.alphabet = false := by simpa using hw
    go_enter Try.func71, Try.ntmps71
    go_wp2_with fail
    refine (AutomatonValid_c _ x _ (HV.out.mono (Ext.alloc _ _))).mono ?_
    rintro e w1 ⟨rfl, he1⟩
    have c0 := he1.blk.cell 0 rfl
    go_wp2_with (go_at_call 68; refine (WordWithin_c s _ _ hs).mono ?_; rintro e w' ⟨rfl, rfl⟩)
    go_ret
    exact Grows.mk (by simp [stateAfter, hw]) he1.peel
  have HX := Lib.hid hx
  have HW := Lib.hid hw
  obtain ⟨-, ha2, hn0, hn, -⟩ := autoValid_facts hx
  go_enter Try.func71, Try.ntmps71
  go_wp2_with fail
  refine (AutomatonValid_c _ x _ (HV.out.mono (Ext.alloc _ _))).mono ?_
  rintro e w1 ⟨rfl, he1⟩
  have c0 := he1.blk.cell 0 rfl
  have c1 := he1.blk.cell 1 rfl
  have c2 := he1.blk.cell 2 rfl
  have hw1 := he1.peel
  go_wp2_with (go_at_call 68; refine (WordWithin_c s _ _ hs).mono ?_; rintro e w' ⟨rfl, rfl⟩)
  clear he1
  refine (tableOf_c _ x _ (HV.out.mono hw1) HX.out).mono ?_
  rintro e w2 ⟨vt, rfl, he2, ht⟩
  clear c0 c1 c2
  obtain ⟨at_, ct, rfl, -, hto⟩ := ht.open
  rw [table_len] at *
  have HT := Lib.hid hto
  clear ht hto
  go_wp2_with fail
  go_loopw [6, 22] (fun p i wr => ∃ k : Nat, k ≤ s.size ∧ i = .int .i64 k ∧ p = .int .i64 (run x 0 ((chars s).take k) : Nat) ∧ Ext w2 wr) (fun _ i _ => s.size - (intOf i).toNat)
  case atStart => exact ⟨0, by omega, rfl, rfl, Ext.refl _⟩
  case round =>
    obtain ⟨k, hk, rfl, rfl, hext⟩ := hrel
    by_cases hlt : k < s.size
    · have hq := run_lt HX.out ((chars s).take k) (q := 0) (by omega)
      obtain ⟨hl0, hl6⟩ := bit_range ha2 (wordIn_at HW.out hlt)
      obtain ⟨j, hj⟩ := Int.eq_ofNat_of_zero_le hl0
      have HR := Lib.hid (run_take (x := x) (q := 0) (chars_at s k hlt))
      have HJ := Lib.hid hj
      obtain ⟨b, off, rfl, -, hc⟩ := HT.out _ _ (table_at x _ hq)
      have hc := hext.cell (hc _ _ (table_at x _ hq) j (by omega))
      unfold tabRow at hc
      have hj6 : j < 6 := by omega
      have hj6i : (j : Int) < 6 := by omega
      have D0 := fun d os => cell_regrown hc d os
      clear hc hl0 hl6 hj
      go_wp2_with fail
      refine wp_region_quiet_below (by kernel_rfl) (by kernel_rfl) ?_
      repeat (go_big_quiet_step ((go_at_call 92; exact Same.quiet (letterAt_in s k j _ hlt hs HJ.out hj6))))
      refine wpQuiet_nil ?_
      intro _ hw'
      obtain ⟨⟨dq, osq⟩, hw''⟩ := hw'
      subst hw''
      have hq2 : Ext wr (Go.Sort.grow (redrawn wr dq) osq) := below_regrown wr dq osq
      generalize Go.Sort.grow (redrawn wr dq) osq = wq at hq2 ⊢
      go_wp2_with fail
      exact ⟨⟨k + 1, by omega, by go_num, by rw [HR.out, HJ.out], hext.trans hq2⟩, by simp [intOf]; omega⟩
    · obtain rfl : k = s.size := by omega
      go_wp2_with fail
      go_ret
      refine Grows.mk ?_ ((hw1.trans he2).trans hext)
      rw [← chars_len, List.take_length]
      simp [stateAfter, HX.out, HW.out]

theorem AcceptsWord_c (v : Value) (x : Auto) (s : ByteArray) (w : World) (hv : AutoV w v x) (hs : s.size ≤ 1048576) :
    Calls Try.prog 34 #[v, .string s] w (Grows (.bool (acceptsWord x s)) w) := by
  have HV := Lib.hid hv
  obtain ⟨vn, va, rfl, h2, h3⟩ := hv
  obtain ⟨an, cn, rfl, -, -⟩ := h2.open
  obtain ⟨aa, ca, rfl, -, hacc⟩ := h3.open
  clear h2 h3
  by_cases hx : (autoValid x && wordIn s x.alphabet) = true
  case neg =>
    have hx : (autoValid x && wordIn s x.alphabet) = false := by simpa using hx
    have hsa : stateAfter x s = -1 := by unfold stateAfter; rw [hx]; rfl
    go_enter Try.func34, Try.ntmps34
    go_wp2_with fail
    refine (StateAfter_c _ x s _ (HV.out.mono (Ext.alloc _ _)) hs).mono ?_
    rintro e w1 ⟨rfl, he1⟩
    rw [hsa]
    clear hsa
    go_wp2_with fail
    go_ret
    exact Grows.mk (by unfold acceptsWord; rw [hx]; rfl) he1.peel
  have hsa : stateAfter x s = (run x 0 (chars s) : Nat) := by unfold stateAfter; rw [hx]; rfl
  have hax : acceptsWord x s = accepts x (run x 0 (chars s)) := by unfold acceptsWord; rw [hx]; rfl
  rw [hax]
  have hx1 : autoValid x = true := by revert hx; cases autoValid x <;> simp
  obtain ⟨-, -, hn0, hn, hal⟩ := autoValid_facts hx1
  have hr := run_lt hx1 (chars s) (q := 0) (by omega)
  obtain ⟨b, off, rfl, -, hc⟩ := hacc _ _ (accepts_at hx1 hr)
  have hc := hc _ _ (accepts_at hx1 hr)
  rw [Nat.mul_one] at hc
  unfold BoolAt at hc
  have HA := Lib.hid hsa
  have hra : run x 0 (chars s) < x.accept.length := by omega
  clear hacc hsa hax hx1 hx hal
  go_enter Try.func34, Try.ntmps34
  go_wp2_with fail
  refine (StateAfter_c _ x s _ (HV.out.mono (Ext.alloc _ _)) hs).mono ?_
  rintro e w1 ⟨rfl, he1⟩
  rw [HA.out]
  have c2 := he1.blk.cell 2 rfl
  have c3 := he1.peel.cell hc
  clear hc
  go_wp2_with fail
  go_ret
  exact Grows.mk rfl he1.peel

end Go.Proofs.Ytdaafbjgjjhklaa
