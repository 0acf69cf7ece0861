/- Walks: runs of automata and words that break a property, of the reference. -/
import Derived.Test.YtdaafbjgjjhklaaWalkK
import Derived.Test.YtdaafbjgjjhklaaWalkH
namespace Go.Proofs.Ytdaafbjgjjhklaa
set_option linter.unusedSimpArgs false
set_option linter.unusedVariables false
open Go.RowKit

set_option maxHeartbeats 800000

theorem l1Place_c (a l : Int) (w : World) (ha : 0 ≤ a) (ha2 : a ≤ 63) (hl : 0 ≤ l) (hl2 : l < 6) :
    Calls Try.prog 117 #[.int .i64 a, .int .i64 l] w (Same (.int .i64 (place a l : Nat)) w) := by
  obtain ⟨n, rfl⟩ := Int.eq_ofNat_of_zero_le hl
  go_enter Try.func117, Try.ntmps117
  go_wp2_with fail
  go_loop [5, 6] (fun p i => ∃ k : Nat, k ≤ n ∧ i = .int .i64 k ∧ p = .int .i64 ((lettersTo a k).length : Nat)) (fun _ i => n - (intOf i).toNat)
  case atStart => exact ⟨0, by omega, rfl, rfl⟩
  case round =>
    obtain ⟨k, hk, rfl, rfl⟩ := hrel
    by_cases hlt : k < n
    · have HS := Lib.hid (lettersTo_succ a k)
      have hlen := lettersTo_len a k
      by_cases hb : bit a k = true
      · go_wp2_with (go_at_call 109; refine (l1Has_c _ _ _ (by omega) (by omega) (by omega) (by omega)).mono ?_; rintro e w' ⟨rfl, rfl⟩)
        exact ⟨⟨k + 1, by omega, by go_num, by rw [HS.out, if_pos hb]; simp⟩, by simp [intOf]; omega⟩
      · have hb : bit a k = false := by simpa using hb
        go_wp2_with (go_at_call 109; refine (l1Has_c _ _ _ (by omega) (by omega) (by omega) (by omega)).mono ?_; rintro e w' ⟨rfl, rfl⟩)
        exact ⟨⟨k + 1, by omega, by go_num, by rw [HS.out, hb]; simp⟩, by simp [intOf]; omega⟩
    · obtain rfl : k = n := by omega
      go_wp2_with fail
      go_ret
      exact Same.mk (by unfold place; rfl)

theorem l3Go_c (v : Value) (x : Auto) (q : Nat) (l : Int) (w : World) (hv : AutoV w v x) (hx : autoValid x = true) (hq : q < x.next.length) (hl : 0 ≤ l) (hl2 : l < 6) :
    Calls Try.prog 89 #[v, .int .i64 q, .int .i64 l] w (Grows (.int .i64 (step x q l : Nat)) w) := by
  obtain ⟨vn, va, rfl, h2, -⟩ := hv
  obtain ⟨ha, ha2, hn0, hn, -⟩ := autoValid_facts hx
  obtain ⟨an, cn, rfl, hn1, hn2⟩ := h2.open
  clear h2
  obtain ⟨wo, hwo⟩ : ∃ wo, wo = w.alloc (.cells #[.int .i64 x.alphabet, .slice an x.next.length cn, va] 28) := ⟨_, rfl⟩
  have he : Ext w wo := by rw [hwo]; exact Ext.alloc _ _
  have hB : Blk wo w.heap.size #[.int .i64 x.alphabet, .slice an x.next.length cn, va] 28 := by rw [hwo]; exact Blk.new _ _ _
  by_cases hb : bit x.alphabet l = true
  · obtain ⟨row, y, hr, hy, rfl, hlt⟩ := step_facts hx hq hb
    have hpl := (List.getElem?_eq_some_iff.1 hy).1
    obtain ⟨b, off, rfl, -, hc⟩ := hn2 q row hr
    obtain ⟨vr, g1, hvr⟩ := (hc q row hr).mono he
    rw [Nat.mul_one] at g1
    obtain ⟨ar, cr, rfl, hr1, hr2⟩ := hvr.open
    obtain ⟨b2, off2, rfl, -, hc2⟩ := hr2 _ _ hy
    have g2 := hc2 _ _ hy
    rw [Nat.mul_one] at g2
    unfold IntAt at g2
    have D0 := fun d os => cell_regrown (hB.cell 0 rfl) d os
    have D1 := fun d os => cell_regrown (hB.cell 1 rfl) d os
    have D2 := fun d os => cell_regrown g1 d os
    have D3 := fun d os => cell_regrown g2 d os
    clear hc hc2 hr2 hvr hn2 hr hy g1 g2
    go_enter Try.func89, Try.ntmps89
    go_wp2_with (go_at_call 109; refine (l1Has_c _ _ _ (by omega) (by omega) (by omega) (by omega)).mono ?_; rintro e w' ⟨rfl, rfl⟩)
    rw [← hwo]
    clear hwo hB
    refine wp_region_quiet_below (by kernel_rfl) (by kernel_rfl) ?_
    repeat (go_big_quiet_step ((go_at_call 117; exact Same.quiet (l1Place_c _ _ _ (by omega) (by omega) (by omega) (by omega)))))
    refine wpQuiet_nil ?_
    intro _ hw'
    obtain ⟨⟨dq, osq⟩, hw''⟩ := hw'
    subst hw''
    have hq2 : Ext wo (Go.Sort.grow (redrawn wo dq) osq) := below_regrown wo dq osq
    generalize Go.Sort.grow (redrawn wo dq) osq = wq at hq2 ⊢
    go_wp2_with fail
    go_ret
    exact Grows.mk rfl (he.trans hq2)
  · have hb : bit x.alphabet l = false := by simpa using hb
    go_enter Try.func89, Try.ntmps89
    go_wp2_with (go_at_call 109; refine (l1Has_c _ _ _ (by omega) (by omega) (by omega) (by omega)).mono ?_; rintro e w' ⟨rfl, rfl⟩)
    go_ret
    rw [← hwo]
    exact Grows.mk (by simp [step, hb]) he

theorem l3Run_c (v : Value) (x : Auto) (q : Nat) (s : ByteArray) (w : World) (hv : AutoV w v x) (hx : autoValid x = true) (hq : q < x.next.length) (hs : wordValid s = true) :
    Calls Try.prog 50 #[v, .int .i64 q, .string s] w (Grows (.int .i64 (run x q (chars s) : Nat)) w) := by
  have hsz := wordValid_size hs
  have HL := Lib.hid (fun i (h : i < s.size) => wordValid_at hs h)
  have HV := Lib.hid hv
  obtain ⟨vn, va, rfl, h2, h3⟩ := hv
  obtain ⟨an, cn, rfl, -, -⟩ := h2.open
  obtain ⟨aa, ca, rfl, -, -⟩ := h3.open
  have HX := Lib.hid hx
  have HQ := Lib.hid (fun ls => run_lt hx ls hq)
  clear hx hs h2 h3
  obtain ⟨wo, hwo⟩ : ∃ wo, wo = w.alloc (.cells #[.int .i64 x.alphabet, .slice an x.next.length cn, .slice aa x.accept.length ca] 28) := ⟨_, rfl⟩
  have he : Ext w wo := by rw [hwo]; exact Ext.alloc _ _
  have hB : Blk wo w.heap.size #[.int .i64 x.alphabet, .slice an x.next.length cn, .slice aa x.accept.length ca] 28 := by rw [hwo]; exact Blk.new _ _ _
  have HB := Lib.hid hB
  clear hB
  go_enter Try.func50, Try.ntmps50
  go_wp2_with fail
  rw [← hwo]
  clear hwo
  go_loopw [1, 7] (fun p i wr => ∃ k : Nat, k ≤ s.size ∧ i = .int .i64 k ∧ p = .int .i64 (run x q ((chars s).take k) : Nat) ∧ Ext wo wr) (fun _ i _ => s.size - (intOf i).toNat)
  case atStart => exact ⟨0, by omega, rfl, rfl, Ext.refl _⟩
  case round =>
    obtain ⟨k, hk, rfl, rfl, hext⟩ := hrel
    by_cases hlt : k < s.size
    · have HR := Lib.hid (run_take (x := x) (q := q) (chars_at s k hlt))
      have hlq := HQ.out ((chars s).take k)
      obtain ⟨hl0, hl6⟩ := HL.out k hlt
      have hBr := HB.out.ext hext
      have D0 := fun d os => cell_regrown (hBr.cell 0 rfl) d os
      have D1 := fun d os => cell_regrown (hBr.cell 1 rfl) d os
      have D2 := fun d os => cell_regrown (hBr.cell 2 rfl) d os
      have HE := Lib.hid (fun d os => HV.out.mono ((he.trans hext).trans (below_regrown wr d os)))
      clear hBr
      go_wp2_with fail
      refine wp_region_quiet_below (by kernel_rfl) (by kernel_rfl) ?_
      repeat (go_big_quiet_step (first | (go_at_call 88; exact Same.quiet (l1At_c s k _ hlt (by omega))) | (go_at_call 89; exact Grows.quiet (l3Go_c _ x _ _ _ (HE.out _ _) HX.out hlq hl0 hl6))))
      refine wpQuiet_nil ?_
      intro _ hw'
      obtain ⟨⟨dq, osq⟩, hw''⟩ := hw'
      subst hw''
      have hq2 : Ext wr (Go.Sort.grow (redrawn wr dq) osq) := below_regrown wr dq osq
      generalize Go.Sort.grow (redrawn wr dq) osq = wq at hq2 ⊢
      go_wp2_with fail
      exact ⟨⟨k + 1, by omega, by go_num, by rw [HR.out], hext.trans hq2⟩, by simp [intOf]; omega⟩
    · obtain rfl : k = s.size := by omega
      go_wp2_with fail
      go_ret
      refine Grows.mk ?_ (he.trans hext)
      rw [← chars_len, List.take_length]; rfl

end Go.Proofs.Ytdaafbjgjjhklaa
