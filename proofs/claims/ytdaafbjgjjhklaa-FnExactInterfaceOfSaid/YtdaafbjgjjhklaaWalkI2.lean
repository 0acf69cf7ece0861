/- Walks: valid systems (the program). -/
import Derived.Test.YtdaafbjgjjhklaaWalkI
namespace Go.Proofs.Ytdaafbjgjjhklaa
open Go.RowKit

set_option maxHeartbeats 400000

theorem edgeOk_false (al st : Int) (es : List Edge) (x : Edge) (h : inSt st x.src = false ∨ inSt st x.dst = false ∨ 6 ≤ x.letter ∨ bit al x.letter = false) : edgeOk ⟨al, st, es⟩ x = false := by
  unfold edgeOk inSt at *
  rcases h with h | h | h | h
  · simp only [h, Bool.false_and]
  · rw [Bool.and_assoc (_ && _) (decide (0 ≤ x.dst)), h]; simp
  · have : ¬ x.letter < 6 := by omega
    simp [this]
  · simp [h]
theorem edgeOk_true (al st : Int) (es : List Edge) (x : Edge) (h1 : inSt st x.src = true) (h2 : inSt st x.dst = true) (h3 : x.letter < 6) (h4 : bit al x.letter = true) : edgeOk ⟨al, st, es⟩ x = true := by
  unfold inSt at *
  simp only [Bool.and_eq_true, decide_eq_true_eq] at h1 h2
  have h5 : 0 ≤ x.letter := by
    rcases Int.lt_or_le x.letter 0 with h | h
    · rw [bit_neg h] at h4; cases h4
    · exact h
  simp [edgeOk, h1, h2, h3, h4, h5]

theorem SystemValid_c (v : Value) (x : Sys) (w : World) (hv : SysV w v x) :
    Calls Try.prog 59 #[v] w (Grows (.bool (sysValid x)) w) := by
  obtain ⟨ve, rfl, h1⟩ := hv
  obtain ⟨al, st, es⟩ := x
  simp only at h1
  obtain ⟨an, cn, rfl, hn1, hn2⟩ := h1.open
  have hE := Ext.alloc w
  by_cases hA : isAlpha al = true
  · by_cases hB : st < 1
    · go_enter Try.func59, Try.ntmps59
      go_wp2_with (go_at_call 62; refine (isAlphabet_c _ _).mono ?_; rintro e w' ⟨rfl, rfl⟩)
      go_ret
      exact Grows.mk (by simp [sysValid]; omega) (hE _)
    by_cases hC : 16 < st
    · go_enter Try.func59, Try.ntmps59
      go_wp2_with (go_at_call 62; refine (isAlphabet_c _ _).mono ?_; rintro e w' ⟨rfl, rfl⟩)
      go_ret
      exact Grows.mk (by simp [sysValid]; omega) (hE _)
    have hal : 0 ≤ al ∧ al ≤ 63 := by simpa [isAlpha] using hA
    obtain ⟨hal0, hal1⟩ := hal
    go_enter Try.func59, Try.ntmps59
    go_wp2_with (go_at_call 62; refine (isAlphabet_c _ _).mono ?_; rintro e w' ⟨rfl, rfl⟩)
    go_loopw [22] (fun i wr => ∃ k : Nat, k ≤ es.length ∧ i = .int .i64 k ∧ Hid ((List.range k).all (edgeAt ⟨al, st, es⟩) = true) ∧ Ext (w.alloc (.cells #[.int .i64 al, .int .i64 st, .slice an es.length cn] 39)) wr) (fun i _ => es.length - (intOf i).toNat)
    case atStart => exact ⟨0, by omega, rfl, rfl, Ext.refl _⟩
    case round =>
      obtain ⟨k, hk, rfl, hall, hext⟩ := hrel
      by_cases hlt : k < es.length
      · obtain ⟨x, hx⟩ : ∃ x, es[k]? = some x := ⟨_, List.getElem?_eq_getElem hlt⟩
        obtain ⟨b, off, rfl, hbl, hc⟩ := hn2 k x hx
        obtain ⟨q1, q2, q3⟩ := (hc k x hx).mono hext.peel
        have HX := Lib.hid hx
        clear hx
        have h1' := fun (w' : World) (he : Ext w w') => SysV.mono he (v := .agg #[.int .i64 al, .int .i64 st, .slice (some ⟨b, off, none⟩) es.length cn]) (s := ⟨al, st, es⟩) ⟨_, rfl, h1⟩
        clear h1
        go_wp2_with fail
        obtain ⟨wo, hwo⟩ : ∃ wo : World, wo = wr.alloc (.cells #[.int .i64 x.src, .int .i64 x.letter, .int .i64 x.dst] 106) := ⟨_, rfl⟩
        rw [← hwo]
        have ho : Ext (wr.alloc (.cells #[.int .i64 x.src, .int .i64 x.letter, .int .i64 x.dst] 106)) wo := by rw [hwo]; exact Ext.refl _
        clear hwo q1 q2 q3
        have hwo := hext.trans ho.peel
        have d0 := fun d os => cell_regrown (hwo.new 0 rfl) d os
        have d1 := fun d os => cell_regrown (hwo.new 1 rfl) d os
        have d2 := fun d os => cell_regrown (hwo.new 2 rfl) d os
        have e0 := fun d os => cell_regrown (ho.new 0 rfl) d os
        have e1 := fun d os => cell_regrown (ho.new 1 rfl) d os
        have e2 := fun d os => cell_regrown (ho.new 2 rfl) d os
        have hsys : ∀ d os, SysV (Go.Sort.grow (redrawn wo d) os) (.agg #[.int .i64 al, .int .i64 st, .slice (some ⟨b, off, none⟩) es.length cn]) ⟨al, st, es⟩ := fun d os => h1' _ (hwo.peel.trans (below_regrown _ _ _))
        have HS := Lib.hid hsys
        clear h1' hsys
        have fin : edgeAt ⟨al, st, es⟩ k = false → ∀ wq, Ext wo wq → Grows (.bool (sysValid ⟨al, st, es⟩)) w (.returned (.bool false)) wq := fun hf wq hq =>
          Grows.mk (by rw [sysValid, range_not_all hlt hf, Bool.and_false]) (hwo.peel.trans hq)
        have FIN := Lib.hid fin
        clear fin
        have hbad : edgeOk ⟨al, st, es⟩ x = false → edgeAt ⟨al, st, es⟩ k = false := fun h => by simp only [edgeAt, HX.out, h, Bool.false_and]
        have HBAD := Lib.hid hbad
        clear hbad
        by_cases k1 : inSt st x.src = true
        case neg =>
          have k1 : inSt st x.src = false := by simpa using k1
          clear hc hn2
          refine wp_region_quiet_below (by kernel_rfl) (by kernel_rfl) ?_
          repeat (go_big_quiet_step ((go_at_call 97; exact Grows.quiet (isState_c _ ⟨al, st, es⟩ _ _ (HS.out _ _)))))
          refine wpQuiet_nil ?_
          intro _ hw'
          obtain ⟨⟨dq, osq⟩, hw''⟩ := hw'
          subst hw''
          have hq : Ext wo (Go.Sort.grow (redrawn wo dq) osq) := below_regrown wo dq osq
          generalize Go.Sort.grow (redrawn wo dq) osq = wq at hq ⊢
          go_wp2_with fail
          go_ret
          exact FIN.out (HBAD.out (edgeOk_false _ _ _ _ (.inl k1))) _ hq
        by_cases k2 : inSt st x.dst = true
        case neg =>
          have k2 : inSt st x.dst = false := by simpa using k2
          clear hc hn2
          refine wp_region_quiet_below (by kernel_rfl) (by kernel_rfl) ?_
          repeat (go_big_quiet_step ((go_at_call 97; exact Grows.quiet (isState_c _ ⟨al, st, es⟩ _ _ (HS.out _ _)))))
          refine wpQuiet_nil ?_
          intro _ hw'
          obtain ⟨⟨dq, osq⟩, hw''⟩ := hw'
          subst hw''
          have hq : Ext wo (Go.Sort.grow (redrawn wo dq) osq) := below_regrown wo dq osq
          generalize Go.Sort.grow (redrawn wo dq) osq = wq at hq ⊢
          go_wp2_with fail
          go_ret
          exact FIN.out (HBAD.out (edgeOk_false _ _ _ _ (.inr (.inl k2)))) _ hq
        by_cases k3 : 6 ≤ x.letter
        case pos =>
          clear hc hn2
          refine wp_region_quiet_below (by kernel_rfl) (by kernel_rfl) ?_
          repeat (go_big_quiet_step ((go_at_call 97; exact Grows.quiet (isState_c _ ⟨al, st, es⟩ _ _ (HS.out _ _)))))
          refine wpQuiet_nil ?_
          intro _ hw'
          obtain ⟨⟨dq, osq⟩, hw''⟩ := hw'
          subst hw''
          have hq : Ext wo (Go.Sort.grow (redrawn wo dq) osq) := below_regrown wo dq osq
          generalize Go.Sort.grow (redrawn wo dq) osq = wq at hq ⊢
          go_wp2_with fail
          go_ret
          exact FIN.out (HBAD.out (edgeOk_false _ _ _ _ (.inr (.inr (.inl k3))))) _ hq
        by_cases k4 : bit al x.letter = true
        case neg =>
          have k4 : bit al x.letter = false := by simpa using k4
          clear hc hn2
          refine wp_region_quiet_below (by kernel_rfl) (by kernel_rfl) ?_
          repeat (go_big_quiet_step (first | (go_at_call 97; exact Grows.quiet (isState_c _ ⟨al, st, es⟩ _ _ (HS.out _ _))) | (go_at_call 91; exact Same.quiet (has_c _ _ _ (by omega) (by omega) (by omega)))))
          refine wpQuiet_nil ?_
          intro _ hw'
          obtain ⟨⟨dq, osq⟩, hw''⟩ := hw'
          subst hw''
          have hq : Ext wo (Go.Sort.grow (redrawn wo dq) osq) := below_regrown wo dq osq
          generalize Go.Sort.grow (redrawn wo dq) osq = wq at hq ⊢
          go_wp2_with fail
          go_ret
          exact FIN.out (HBAD.out (edgeOk_false _ _ _ _ (.inr (.inr (.inr k4))))) _ hq
        have hgood : edgeOk ⟨al, st, es⟩ x = true := edgeOk_true _ _ _ _ k1 k2 (by omega) k4
        have HG := Lib.hid hgood
        clear hgood
        cases k with
        | zero =>
          clear hc hn2
          refine wp_region_quiet_below (by kernel_rfl) (by kernel_rfl) ?_
          repeat (go_big_quiet_step (first | (go_at_call 97; exact Grows.quiet (isState_c _ ⟨al, st, es⟩ _ _ (HS.out _ _))) | (go_at_call 91; exact Same.quiet (has_c _ _ _ (by omega) (by omega) (by omega)))))
          refine wpQuiet_nil ?_
          intro _ hw'
          obtain ⟨⟨dq, osq⟩, hw''⟩ := hw'
          subst hw''
          have hq : Ext wo (Go.Sort.grow (redrawn wo dq) osq) := below_regrown wo dq osq
          generalize Go.Sort.grow (redrawn wo dq) osq = wq at hq ⊢
          go_wp2_with fail
          exact ⟨⟨0 + 1, by omega, by go_num, by show _ = _; rw [range_all_succ, hall.out]; simp only [edgeAt, HX.out, HG.out]; rfl, hwo.trans hq⟩, by simp [intOf]; omega⟩
        | succ j =>
          obtain ⟨y, hy⟩ : ∃ y, es[j]? = some y := ⟨_, List.getElem?_eq_getElem (by omega)⟩
          obtain ⟨p1, p2, p3⟩ := (hc j y hy).mono hwo.peel
          have f1 := fun d os => cell_regrown p1 d os
          have f2 := fun d os => cell_regrown p2 d os
          have f3 := fun d os => cell_regrown p3 d os
          have HY := Lib.hid hy
          have hlt2 := cmpEdges_lt y x
          clear hc hn2 hy p1 p2 p3
          by_cases k5 : 0 ≤ cmpEdges y x
          · have hz : edgeLt y x = false := by simpa [k5] using hlt2.symm
            have HZ := Lib.hid hz
            clear hlt2 hz
            refine wp_region_quiet_below (by kernel_rfl) (by kernel_rfl) ?_
            repeat (go_big_quiet_step (first | (go_at_call 97; exact Grows.quiet (isState_c _ ⟨al, st, es⟩ _ _ (HS.out _ _))) | (go_at_call 91; exact Same.quiet (has_c _ _ _ (by omega) (by omega) (by omega))) | (go_at_call 98; exact Grows.quiet (compareEdges_c y x _))))
            refine wpQuiet_nil ?_
            intro _ hw'
            obtain ⟨⟨dq, osq⟩, hw''⟩ := hw'
            subst hw''
            have hq : Ext wo (Go.Sort.grow (redrawn wo dq) osq) := below_regrown wo dq osq
            generalize Go.Sort.grow (redrawn wo dq) osq = wq at hq ⊢
            go_wp2_with fail
            go_ret
            exact FIN.out (by simp only [edgeAt, HX.out, HY.out, HZ.out, Bool.and_false]) _ hq
          · have hz : edgeLt y x = true := by simpa [k5] using hlt2.symm
            have HZ := Lib.hid hz
            clear hlt2 hz
            refine wp_region_quiet_below (by kernel_rfl) (by kernel_rfl) ?_
            repeat (go_big_quiet_step (first | (go_at_call 97; exact Grows.quiet (isState_c _ ⟨al, st, es⟩ _ _ (HS.out _ _))) | (go_at_call 91; exact Same.quiet (has_c _ _ _ (by omega) (by omega) (by omega))) | (go_at_call 98; exact Grows.quiet (compareEdges_c y x _))))
            refine wpQuiet_nil ?_
            intro _ hw'
            obtain ⟨⟨dq, osq⟩, hw''⟩ := hw'
            subst hw''
            have hq : Ext wo (Go.Sort.grow (redrawn wo dq) osq) := below_regrown wo dq osq
            generalize Go.Sort.grow (redrawn wo dq) osq = wq at hq ⊢
            go_wp2_with fail
            exact ⟨⟨j + 1 + 1, by omega, by go_num, by show _ = _; rw [range_all_succ, hall.out]; simp only [edgeAt, HX.out, HY.out, HZ.out, HG.out]; rfl, hwo.trans hq⟩, by simp [intOf]; omega⟩
      · obtain rfl : k = es.length := by omega
        go_wp2_with fail
        go_ret
        exact Grows.mk (by simp only [sysValid, hA, hall.out]; simp; omega) hext.peel
  · have hA : isAlpha al = false := by simpa using hA
    go_enter Try.func59, Try.ntmps59
    go_wp2_with (go_at_call 62; refine (isAlphabet_c _ _).mono ?_; rintro e w' ⟨rfl, rfl⟩)
    go_ret
    exact Grows.mk (by simp [sysValid, hA]) (hE _)

end Go.Proofs.Ytdaafbjgjjhklaa
