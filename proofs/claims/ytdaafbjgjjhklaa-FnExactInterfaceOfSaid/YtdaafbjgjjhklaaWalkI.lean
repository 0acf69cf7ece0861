/- Walks: valid systems. -/
import Derived.Test.YtdaafbjgjjhklaaWalkH
namespace Go.Proofs.Ytdaafbjgjjhklaa
open Go.RowKit

set_option maxHeartbeats 400000

theorem isNaN_c (a : Int) (w : World) : Calls Try.prog 128 #[.int .i64 a] w (Same (.bool false) w) := by
  go_enter Try.func128, Try.ntmps128
  go_wp2_with fail
  go_ret
  exact Same.mk (by simp)

theorem Compare_c (a b : Int) (w : World) : Calls Try.prog 119 #[.int .i64 a, .int .i64 b] w (Same (.int .i64 (cmpI a b)) w) := by
  by_cases h1 : a < b
  · go_enter Try.func119, Try.ntmps119
    go_wp2_with (go_at_call 128; refine (isNaN_c _ _).mono ?_; rintro e w' ⟨rfl, rfl⟩)
    go_ret
    exact Same.mk (by simp [cmpI, h1])
  · by_cases h2 : b < a
    · go_enter Try.func119, Try.ntmps119
      go_wp2_with (go_at_call 128; refine (isNaN_c _ _).mono ?_; rintro e w' ⟨rfl, rfl⟩)
      go_ret
      exact Same.mk (by simp [cmpI, h1, h2])
    · go_enter Try.func119, Try.ntmps119
      go_wp2_with (go_at_call 128; refine (isNaN_c _ _).mono ?_; rintro e w' ⟨rfl, rfl⟩)
      go_ret
      exact Same.mk (by unfold cmpI; rw [if_neg (by omega), if_neg (by omega)]; rfl)

theorem Or_c (v : Value) (l : List Int) (w : World) (hv : IntsV w v l) : Calls Try.prog 118 #[v] w (Same (.int .i64 (orI l)) w) := by
  obtain ⟨a, c, rfl, h1, h2⟩ := hv.open
  go_enter Try.func118, Try.ntmps118
  go_wp2_with fail
  go_loop [8] (fun i => ∃ k : Nat, k ≤ l.length ∧ i = .int .i64 k ∧ Hid (l.find? (fun x => x != 0) = (l.drop k).find? (fun x => x != 0))) (fun i => l.length - (intOf i).toNat)
  case atStart => exact ⟨0, by omega, rfl, rfl⟩
  case round =>
    obtain ⟨k, hk, rfl, hf⟩ := hrel
    by_cases hlt : k < l.length
    · obtain ⟨x, hx⟩ : ∃ x, l[k]? = some x := ⟨_, List.getElem?_eq_getElem hlt⟩
      obtain ⟨b, off, rfl, -, hc⟩ := h2 k x hx
      have g1 : w.cell? ⟨b, off + k, none⟩ = some (.int .i64 x) := by have := hc k x hx; rwa [Nat.mul_one] at this
      have HX := Lib.hid (show l.drop k = x :: l.drop (k + 1) by rw [List.drop_eq_getElem_cons hlt]; congr 1; rw [List.getElem?_eq_getElem hlt] at hx; exact Option.some.inj hx)
      clear hc h2 hx hv
      by_cases h0 : x = 0
      · subst h0
        go_wp2_with fail
        exact ⟨⟨k + 1, by omega, by go_num, by show _ = _; rw [hf.out, HX.out]; simp⟩, by simp [intOf]; omega⟩
      · have h0' : (x != 0) = true := by simp [h0]
        go_wp2_with fail
        go_ret
        exact Same.mk (by rw [orI, hf.out, HX.out]; simp [h0])
    · obtain rfl : k = l.length := by omega
      go_wp2_with fail
      go_ret
      exact Same.mk (by rw [orI, hf.out]; simp)

theorem compareEdges_c (x y : Edge) (w : World) : Calls Try.prog 98 #[edgeVal x, edgeVal y] w (Grows (.int .i64 (cmpEdges x y)) w) := by
  unfold edgeVal
  go_enter Try.func98, Try.ntmps98
  go_wp2_with fail
  obtain ⟨wo, hwo⟩ : ∃ wo : World, wo = (w.alloc (.cells #[.int .i64 x.src, .int .i64 x.letter, .int .i64 x.dst] 106)).alloc (.cells #[.int .i64 y.src, .int .i64 y.letter, .int .i64 y.dst] 106) := ⟨_, rfl⟩
  rw [← hwo]
  have hext : Ext ((w.alloc (.cells #[.int .i64 x.src, .int .i64 x.letter, .int .i64 x.dst] 106)).alloc (.cells #[.int .i64 y.src, .int .i64 y.letter, .int .i64 y.dst] 106)) wo := by rw [hwo]; exact Ext.refl _
  clear hwo
  have q0 := fun d os => cell_regrown (hext.peel.new 0 rfl) d os
  have q1 := fun d os => cell_regrown (hext.peel.new 1 rfl) d os
  have q2 := fun d os => cell_regrown (hext.peel.new 2 rfl) d os
  have r0 := fun d os => cell_regrown (hext.new1 0 rfl) d os
  have r1 := fun d os => cell_regrown (hext.new1 1 rfl) d os
  have r2 := fun d os => cell_regrown (hext.new1 2 rfl) d os
  obtain ⟨Kc, HKc⟩ : ∃ Kc : FuncId → Array Value → World → Value → World → Prop, Hid (Kc = fun _ args w0 v w' => Ext w0 w' ∧ ∀ a b : Int, args = #[.int .i64 a, .int .i64 b] → v = .int .i64 (cmpI a b)) := ⟨_, rfl⟩
  refine wp_region_ext (Kc := Kc) 15 (by kernel_rfl) (by kernel_rfl) ?_
  simp only [List.take_succ_cons, List.take_zero]
  repeat (refine WalkE.pure rfl (fun K hK => ?_); simp only [PureDo]; go_simp; refine hK _ ?_; clear hK K)
  refine WalkE.step (fun K hK wc hwc hdc => ?_)
  simp only [OpDo, OpSafe, OpOut]
  go_simp
  refine ⟨(Compare_c _ _ _).mono ?_, ?_⟩
  · rintro e w' ⟨rfl, rfl⟩
    exact ⟨_, rfl, by rw [HKc.out]; exact ⟨Ext.refl _, fun a b h => by simp at h; rw [h.1, h.2]⟩⟩
  intro v1 w1 hk1
  rw [HKc.out] at hk1
  obtain rfl := hk1.2 _ _ rfl
  refine ⟨hk1.1, hK _ _ ?_⟩
  clear hK K hdc hk1 hwc
  repeat (refine WalkE.pure rfl (fun K hK => ?_); simp only [PureDo]; go_simp; refine hK _ ?_; clear hK K)
  refine WalkE.step (fun K hK wc hwc hdc => ?_)
  simp only [OpDo, OpSafe, OpOut]
  go_simp
  refine ⟨(Compare_c _ _ _).mono ?_, ?_⟩
  · rintro e w' ⟨rfl, rfl⟩
    exact ⟨_, rfl, by rw [HKc.out]; exact ⟨Ext.refl _, fun a b h => by simp at h; rw [h.1, h.2]⟩⟩
  intro v1 w1 hk1
  rw [HKc.out] at hk1
  obtain rfl := hk1.2 _ _ rfl
  refine ⟨hk1.1, hK _ _ ?_⟩
  clear hK K hdc hk1 hwc
  repeat (refine WalkE.pure rfl (fun K hK => ?_); simp only [PureDo]; go_simp; refine hK _ ?_; clear hK K)
  refine WalkE.step (fun K hK wc hwc hdc => ?_)
  simp only [OpDo, OpSafe, OpOut]
  go_simp
  refine ⟨(Compare_c _ _ _).mono ?_, ?_⟩
  · rintro e w' ⟨rfl, rfl⟩
    exact ⟨_, rfl, by rw [HKc.out]; exact ⟨Ext.refl _, fun a b h => by simp at h; rw [h.1, h.2]⟩⟩
  intro v1 w1 hk1
  rw [HKc.out] at hk1
  obtain rfl := hk1.2 _ _ rfl
  refine ⟨hk1.1, hK _ _ ?_⟩
  clear hK K hdc hk1 hwc
  repeat (refine WalkE.pure rfl (fun K hK => ?_); simp only [PureDo]; go_simp; refine hK _ ?_; clear hK K)
  refine WalkE.nil (fun wn hwn hm => ?_)
  simp only [List.drop_succ_cons, List.drop_zero, List.drop_nil]
  replace hwn := hext.peel.peel.trans ((Ext.drew _).trans hwn)
  clear q0 q1 q2 r0 r1 r2 hm
  go_wp2_with fail
  refine (Or_c _ [cmpI x.src y.src, cmpI x.letter y.letter, cmpI x.dst y.dst] _ ?_).mono ?_
  · refine ⟨_, _, rfl, Nat.le_refl _, by unfold maxLen; simp, fun _ => ⟨_, _, rfl, by simp, fun i x hi => ?_⟩⟩
    unfold IntAt
    rw [Nat.zero_add, Nat.mul_one]
    refine new_cell _ _ _ _ _ ?_
    match i, hi with
    | 0, hi => simpa using hi
    | 1, hi => simpa using hi
    | 2, hi => simpa using hi
  rintro e w' ⟨rfl, rfl⟩
  go_wp2_with fail
  go_ret
  exact Grows.mk rfl (hwn.trans (Ext.alloc _ _))

theorem l2Before_c (x y : Edge) (w : World) : Calls Try.prog 95 #[edgeVal x, edgeVal y] w (Grows (.bool (edgeLt x y)) w) := by
  obtain ⟨a, b, c⟩ := x
  obtain ⟨a', b', c'⟩ := y
  unfold edgeVal
  have hE : ∀ o o', Ext w ((w.alloc o).alloc o') := fun _ _ => (Ext.alloc _ _).trans (Ext.alloc _ _)
  by_cases h1 : a = a'
  · subst h1
    by_cases h2 : b = b'
    · subst h2
      go_enter Try.func95, Try.ntmps95
      go_wp2_with fail
      go_ret
      exact Grows.mk (by simp [edgeLt]) (hE _ _)
    · go_enter Try.func95, Try.ntmps95
      go_wp2_with fail
      go_ret
      exact Grows.mk (by simp [edgeLt, h2]) (hE _ _)
  · go_enter Try.func95, Try.ntmps95
    go_wp2_with fail
    go_ret
    exact Grows.mk (by simp [edgeLt, h1]) (hE _ _)

theorem l2Edge_c (al st : Int) (x : Edge) (w : World) (h0 : 0 ≤ al) (h63 : al ≤ 63) : Calls Try.prog 94 #[.int .i64 al, .int .i64 st, edgeVal x] w (Grows (.bool (edgeOk ⟨al, st, []⟩ x)) w) := by
  obtain ⟨a, b, c⟩ := x
  unfold edgeVal
  have hE : ∀ o, Ext w (w.alloc o) := fun _ => (Ext.alloc _ _)
  by_cases h1 : a < 0
  · go_enter Try.func94, Try.ntmps94
    go_wp2_with fail
    go_ret
    exact Grows.mk (by simp [edgeOk]; omega) (hE _)
  by_cases h2 : st ≤ a
  · go_enter Try.func94, Try.ntmps94
    go_wp2_with fail
    go_ret
    exact Grows.mk (by simp [edgeOk]; omega) (hE _)
  by_cases h3 : c < 0
  · go_enter Try.func94, Try.ntmps94
    go_wp2_with fail
    go_ret
    exact Grows.mk (by simp [edgeOk]; omega) (hE _)
  by_cases h4 : st ≤ c
  · go_enter Try.func94, Try.ntmps94
    go_wp2_with fail
    go_ret
    exact Grows.mk (by simp [edgeOk]; omega) (hE _)
  by_cases h5 : b < 0
  · go_enter Try.func94, Try.ntmps94
    go_wp2_with fail
    go_ret
    exact Grows.mk (by simp [edgeOk]; omega) (hE _)
  by_cases h6 : 6 ≤ b
  · go_enter Try.func94, Try.ntmps94
    go_wp2_with fail
    go_ret
    exact Grows.mk (by simp [edgeOk]; omega) (hE _)
  · go_enter Try.func94, Try.ntmps94
    go_wp2_with (go_at_call 109; refine (l1Has_c _ _ _ (by omega) (by omega) (by omega) (by omega)).mono ?_; rintro e w' ⟨rfl, rfl⟩)
    go_ret
    have e1 : 0 ≤ a := by omega
    have e2 : a < st := by omega
    have e3 : 0 ≤ c := by omega
    have e4 : c < st := by omega
    have e5 : 0 ≤ b := by omega
    have e6 : b < 6 := by omega
    exact Grows.mk (by simp [edgeOk, e1, e2, e3, e4, e5, e6]) (hE _)

def inSt (st q : Int) : Bool := decide (0 ≤ q) && decide (q < st)
theorem isState_c (v : Value) (x : Sys) (q : Int) (w : World) (hv : SysV w v x) : Calls Try.prog 97 #[v, .int .i64 q] w (Grows (.bool (inSt x.states q)) w) := by
  obtain ⟨ve, rfl, h1⟩ := hv
  have hE := Ext.alloc w
  by_cases h : 0 ≤ q
  · go_enter Try.func97, Try.ntmps97
    go_wp2_with fail
    go_ret
    exact Grows.mk (by simp [inSt, h]) (hE _)
  · go_enter Try.func97, Try.ntmps97
    go_wp2_with fail
    go_ret
    exact Grows.mk (by simp [inSt]; omega) (hE _)

theorem edgeOk_of (s : Sys) (e : Edge) : edgeOk ⟨s.alphabet, s.states, []⟩ e = edgeOk s e := rfl

theorem SystemValid_s (v : Value) (x : Sys) (w : World) (hv : SysV w v x) :
    Calls Try.prog 57 #[v] w (Grows (.bool (sysValid x)) w) := by
  obtain ⟨ve, rfl, h1⟩ := hv
  obtain ⟨al, st, es⟩ := x
  simp only at h1
  obtain ⟨an, cn, rfl, hn1, hn2⟩ := h1.open
  clear h1
  have hE := Ext.alloc w
  by_cases hA : isAlpha al = true
  · by_cases hB : st < 1
    · go_enter Try.func57, Try.ntmps57
      go_wp2_with (go_at_call 61; refine (l1Alphabet_c _ _).mono ?_; rintro e w' ⟨rfl, rfl⟩)
      go_ret
      exact Grows.mk (by simp [sysValid]; omega) (hE _)
    by_cases hC : 16 < st
    · go_enter Try.func57, Try.ntmps57
      go_wp2_with (go_at_call 61; refine (l1Alphabet_c _ _).mono ?_; rintro e w' ⟨rfl, rfl⟩)
      go_ret
      exact Grows.mk (by simp [sysValid]; omega) (hE _)
    have hal : 0 ≤ al ∧ al ≤ 63 := by simpa [isAlpha] using hA
    obtain ⟨hal0, hal1⟩ := hal
    go_enter Try.func57, Try.ntmps57
    go_wp2_with (go_at_call 61; refine (l1Alphabet_c _ _).mono ?_; rintro e w' ⟨rfl, rfl⟩)
    go_loopw [3] (fun i wr => ∃ k : Nat, k ≤ es.length ∧ i = .int .i64 k ∧ Hid ((List.range k).all (edgeAt ⟨al, st, es⟩) = true) ∧ Ext (w.alloc (.cells #[.int .i64 al, .int .i64 st, .slice an es.length cn] 39)) wr) (fun i _ => es.length - (intOf i).toNat)
    case atStart => exact ⟨0, by omega, rfl, rfl, Ext.refl _⟩
    case round =>
      obtain ⟨k, hk, rfl, hall, hext⟩ := hrel
      have c2 := hext.new 2 rfl
      by_cases hlt : k < es.length
      · obtain ⟨x, hx⟩ : ∃ x, es[k]? = some x := ⟨_, List.getElem?_eq_getElem hlt⟩
        obtain ⟨b, off, rfl, -, hc⟩ := hn2 k x hx
        have d0 := fun d os => cell_regrown (hext.new 0 rfl) d os
        have d1 := fun d os => cell_regrown (hext.new 1 rfl) d os
        have d2 := fun d os => cell_regrown (hext.new 2 rfl) d os
        obtain ⟨q1, q2, q3⟩ := (hc k x hx).mono hext.peel
        have g1 := fun d os => cell_regrown q1 d os
        have g2 := fun d os => cell_regrown q2 d os
        have g3 := fun d os => cell_regrown q3 d os
        have HX := Lib.hid hx
        by_cases hok : edgeOk ⟨al, st, []⟩ x = true
        · cases k with
          | zero =>
            simp only [Nat.zero_mul, Nat.add_zero] at g1 g2 g3
            clear hc hn2 hx q1 q2 q3
            go_wp2_with fail
            refine wp_region_quiet_below (by kernel_rfl) (by kernel_rfl) ?_
            repeat (go_big_quiet_step ((go_at_call 94; exact Grows.quiet (l2Edge_c al st x _ hal0 hal1))))
            refine wpQuiet_nil ?_
            intro _ hw'
            obtain ⟨⟨dq, osq⟩, hw''⟩ := hw'
            subst hw''
            have hq : Ext wr (Go.Sort.grow (redrawn wr dq) osq) := below_regrown wr dq osq
            generalize Go.Sort.grow (redrawn wr dq) osq = wq at hq ⊢
            go_wp2_with fail
            exact ⟨⟨0 + 1, by omega, by go_num, by show _ = _; rw [range_all_succ, hall.out]; simp only [edgeAt, HX.out]; rw [← edgeOk_of]; simp only [hok]; rfl, hext.trans hq⟩, by simp [intOf]; omega⟩
          | succ j =>
            obtain ⟨y, hy⟩ : ∃ y, es[j]? = some y := ⟨_, List.getElem?_eq_getElem (by omega)⟩
            obtain ⟨p1, p2, p3⟩ := (hc j y hy).mono hext.peel
            have f1 := fun d os => cell_regrown p1 d os
            have f2 := fun d os => cell_regrown p2 d os
            have f3 := fun d os => cell_regrown p3 d os
            have HY := Lib.hid hy
            clear hc hn2 hx hy q1 q2 q3 p1 p2 p3
            by_cases hbef : edgeLt y x = true
            · go_wp2_with fail
              refine wp_region_quiet_below (by kernel_rfl) (by kernel_rfl) ?_
              repeat (go_big_quiet_step (first | (go_at_call 94; exact Grows.quiet (l2Edge_c al st x _ hal0 hal1)) | (go_at_call 95; exact Grows.quiet (l2Before_c y x _))))
              refine wpQuiet_nil ?_
              intro _ hw'
              obtain ⟨⟨dq, osq⟩, hw''⟩ := hw'
              subst hw''
              have hq : Ext wr (Go.Sort.grow (redrawn wr dq) osq) := below_regrown wr dq osq
              generalize Go.Sort.grow (redrawn wr dq) osq = wq at hq ⊢
              go_wp2_with fail
              exact ⟨⟨j + 1 + 1, by omega, by go_num, by show _ = _; rw [range_all_succ, hall.out]; simp only [edgeAt, HX.out, HY.out]; rw [← edgeOk_of]; simp only [hok, hbef]; rfl, hext.trans hq⟩, by simp [intOf]; omega⟩
            · have hbef : edgeLt y x = false := by simpa using hbef
              go_wp2_with fail
              refine wp_region_quiet_below (by kernel_rfl) (by kernel_rfl) ?_
              repeat (go_big_quiet_step (first | (go_at_call 94; exact Grows.quiet (l2Edge_c al st x _ hal0 hal1)) | (go_at_call 95; exact Grows.quiet (l2Before_c y x _))))
              refine wpQuiet_nil ?_
              intro _ hw'
              obtain ⟨⟨dq, osq⟩, hw''⟩ := hw'
              subst hw''
              have hq : Ext wr (Go.Sort.grow (redrawn wr dq) osq) := below_regrown wr dq osq
              generalize Go.Sort.grow (redrawn wr dq) osq = wq at hq ⊢
              go_wp2_with fail
              go_ret
              refine Grows.mk ?_ (hext.peel.trans hq)
              show Value.bool false = _
              rw [sysValid, range_not_all hlt (by simp only [edgeAt, HX.out, HY.out]; rw [← edgeOk_of]; simp only [hbef]; simp), Bool.and_false]
        · have hok : edgeOk ⟨al, st, []⟩ x = false := by simpa using hok
          clear hc hn2 hx q1 q2 q3
          go_wp2_with fail
          refine wp_region_quiet_below (by kernel_rfl) (by kernel_rfl) ?_
          repeat (go_big_quiet_step ((go_at_call 94; exact Grows.quiet (l2Edge_c al st x _ hal0 hal1))))
          refine wpQuiet_nil ?_
          intro _ hw'
          obtain ⟨⟨dq, osq⟩, hw''⟩ := hw'
          subst hw''
          have hq : Ext wr (Go.Sort.grow (redrawn wr dq) osq) := below_regrown wr dq osq
          generalize Go.Sort.grow (redrawn wr dq) osq = wq at hq ⊢
          go_wp2_with fail
          go_ret
          refine Grows.mk ?_ (hext.peel.trans hq)
          show Value.bool false = _
          rw [sysValid, range_not_all hlt (by simp only [edgeAt, HX.out]; rw [← edgeOk_of]; simp only [hok]; rfl), Bool.and_false]
      · obtain rfl : k = es.length := by omega
        go_wp2_with fail
        go_ret
        exact Grows.mk (by simp only [sysValid, hA, hall.out]; simp; omega) hext.peel
  · have hA : isAlpha al = false := by simpa using hA
    go_enter Try.func57, Try.ntmps57
    go_wp2_with (go_at_call 61; refine (l1Alphabet_c _ _).mono ?_; rintro e w' ⟨rfl, rfl⟩)
    go_ret
    exact Grows.mk (by simp [sysValid, hA]) (hE _)

end Go.Proofs.Ytdaafbjgjjhklaa
