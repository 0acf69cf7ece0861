/- Merged: WalkH, WalkI, WalkI2, WalkJ. -/
import Derived.Test.YtccklliljdembaaWalkA
import Derived.Test.YtccklliljdembaaPlain2
import Derived.Test.YtccklliljdembaaRegion

namespace Go.Proofs.Ytccklliljdembaa
set_option linter.unusedSimpArgs false
set_option linter.unusedVariables false
open Go.RowKit

set_option maxHeartbeats 400000

theorem l3Row_c (v : Value) (l : List Int) (k n : Nat) (w : World) (hv : IntsV w v l) (_hk : k ≤ 100) (_hn : n ≤ 100) :
    Calls Try.prog 38 #[v, .int .i64 k, .int .i64 n] w (Same (.bool (rowOk l k n)) w) := by
  obtain ⟨a, c, rfl, h1, h2⟩ := hv.open
  by_cases hl : l.length = k
  · subst hl
    clear hv
    go_enter Try.func38, Try.ntmps38
    go_wp2_with fail
    go_loop [7] (fun i => ∃ j : Nat, j ≤ l.length ∧ i = .int .i64 j ∧ Hid ((l.take j).all (qOk n) = true)) (fun i => l.length - (intOf i).toNat)
    case atStart => exact ⟨0, by omega, rfl, rfl⟩
    case round =>
      obtain ⟨j, hj, rfl, hall⟩ := hrel
      by_cases hlt : j < l.length
      · obtain ⟨x, hx⟩ : ∃ x, l[j]? = some x := ⟨_, List.getElem?_eq_getElem hlt⟩
        obtain ⟨b, off, rfl, -, hc⟩ := h2 j x hx
        have g1 : w.cell? ⟨b, off + j, none⟩ = some (.int .i64 x) := by have := hc j x hx; rwa [Nat.mul_one] at this
        have HX := Lib.hid hx
        clear hc h2 hx
        by_cases hx0 : x < 0
        · go_wp2_with fail
          go_ret
          exact Same.mk (by simp [rowOk, not_all_of HX.out (p := qOk n) (by simp [qOk]; omega)])
        · by_cases hx1 : (n : Int) ≤ x
          · go_wp2_with fail
            go_ret
            exact Same.mk (by simp [rowOk, not_all_of HX.out (p := qOk n) (by simp [qOk]; omega)])
          · go_wp2_with fail
            exact ⟨⟨j + 1, by omega, by go_num, by show _ = _; rw [all_take_succ HX.out, hall.out]; simp [qOk]; omega⟩, by simp [intOf]; omega⟩
      · obtain rfl : j = l.length := by omega
        go_wp2_with fail
        go_ret
        have := hall.out
        rw [List.take_length] at this
        exact Same.mk (by simp [rowOk, this])
  · go_enter Try.func38, Try.ntmps38
    go_wp2_with fail
    go_ret
    exact Same.mk (by simp [rowOk, hl])

theorem AutomatonValid_s (v : Value) (x : Auto) (w : World) (hv : AutoV w v x) :
    Calls Try.prog 17 #[v] w (Grows (.bool (autoValid x)) w) := by
  obtain ⟨vn, va, rfl, h1, h2⟩ := hv
  obtain ⟨al, nx, ac⟩ := x
  simp only at h1 h2
  obtain ⟨an, cn, rfl, hn1, hn2⟩ := h1.open
  obtain ⟨aa, ca, rfl, ha1, ha2⟩ := h2.open
  clear h1 h2 ha2
  have hE := Ext.alloc w
  by_cases hA : isAlpha al = true
  · by_cases hB : nx.length < 1
    · go_enter Try.func17, Try.ntmps17
      go_wp2_with (go_at_call 37; refine (l1Alphabet_c _ _).mono ?_; rintro e w' ⟨rfl, rfl⟩)
      go_ret
      exact Grows.mk (by simp [autoValid]; omega) (hE _)
    · by_cases hC : 12 < nx.length
      · go_enter Try.func17, Try.ntmps17
        go_wp2_with (go_at_call 37; refine (l1Alphabet_c _ _).mono ?_; rintro e w' ⟨rfl, rfl⟩)
        go_ret
        exact Grows.mk (by simp [autoValid]; omega) (hE _)
      · by_cases hD : ac.length = nx.length
        · have hal : 0 ≤ al ∧ al ≤ 63 := by simpa [isAlpha] using hA
          obtain ⟨hal0, hal1⟩ := hal
          have HD := Lib.hid hD
          rw [hD]
          clear hD
          go_enter Try.func17, Try.ntmps17
          go_wp2_with (go_at_call 37; refine (l1Alphabet_c _ _).mono ?_; rintro e w' ⟨rfl, rfl⟩)
          go_loopw [4] (fun i wr => ∃ k : Nat, k ≤ nx.length ∧ i = .int .i64 k ∧ Hid ((nx.take k).all (fun row => rowOk row (nletters al) nx.length) = true) ∧ Ext (w.alloc (.cells #[.int .i64 al, .slice an nx.length cn, .slice aa nx.length ca] 26)) wr) (fun i _ => nx.length - (intOf i).toNat)
          case atStart => exact ⟨0, by omega, rfl, rfl, Ext.refl _⟩
          case round =>
            obtain ⟨k, hk, rfl, hall, hext⟩ := hrel
            by_cases hlt : k < nx.length
            · obtain ⟨x, hx⟩ : ∃ x, nx[k]? = some x := ⟨_, List.getElem?_eq_getElem hlt⟩
              obtain ⟨b, off, rfl, -, hc⟩ := hn2 k x hx
              obtain ⟨vx, g1, hvx⟩ := (hc k x hx).mono hext.peel
              rw [Nat.mul_one] at g1
              have c0 := hext.new 0 rfl
              have c1 := hext.new 1 rfl
              have HX := Lib.hid hx
              clear hc hn2 hx
              have d1 := fun d os => cell_regrown g1 d os
              have d2 := fun d os => cell_regrown c0 d os
              have d3 := fun d os => cell_regrown c1 d os
              go_wp2_with fail
              obtain ⟨rb, HRB⟩ : ∃ rb, Hid (rowOk x (nletters al) nx.length = rb) := ⟨_, rfl⟩
              obtain ⟨Kc, HKc⟩ : ∃ Kc : FuncId → Array Value → World → Value → World → Prop, Hid (Kc = fun f _ w0 v w' => Ext w0 w' ∧ (f = 33 → IntsV w' v (letters al)) ∧ (f = 38 → v = .bool rb)) := ⟨_, rfl⟩
              refine wp_region_ext (Kc := Kc) 12 (by kernel_rfl) (by kernel_rfl) ?_
              simp only [List.take_succ_cons, List.take_zero]
              repeat (refine WalkE.pure rfl (fun K hK => ?_); simp only [PureDo]; go_simp; refine hK _ ?_; clear hK K)
              refine WalkE.step (fun K hK wc hwc hdc => ?_)
              simp only [OpDo, OpSafe, OpOut]
              go_simp
              refine ⟨(l1Letters_c _ _ hal0 hal1).mono ?_, ?_⟩
              · rintro e w' ⟨v, rfl, he, hv⟩
                exact ⟨v, rfl, by rw [HKc.out]; exact ⟨he, fun _ => hv, fun h => by cases h⟩⟩
              intro v1 w1 hk1
              rw [HKc.out] at hk1
              obtain ⟨he1, hv1, -⟩ := hk1
              obtain ⟨a1, c1, rfl, hl1, -⟩ := (hv1 rfl).open
              refine ⟨he1, hK _ _ ?_⟩
              clear hK K hdc hv1
              repeat (refine WalkE.pure rfl (fun K hK => ?_); simp only [PureDo]; go_simp; refine hK _ ?_; clear hK K)
              refine WalkE.step (fun K hK wd hwd hdd => ?_)
              simp only [OpDo, OpSafe, OpOut]
              go_simp
              refine ⟨(l3Row_c _ x _ _ _ (hvx.mono ((Ext.drew _).trans hwd)) (by have := lettersTo_len al 6; unfold letters; omega) (by omega)).mono ?_, ?_⟩
              · rintro e w' ⟨rfl, rfl⟩
                exact ⟨_, rfl, by rw [HKc.out]; exact ⟨Ext.refl _, fun h => by (first | (cases h; done) | skip), fun _ => by rw [← HRB.out]; rfl⟩⟩
              intro v2 w2 hk2
              rw [HKc.out] at hk2
              obtain ⟨he2, -, hv2⟩ := hk2
              obtain rfl := hv2 rfl
              refine ⟨he2, hK _ _ ?_⟩
              clear hK K hdd hv2
              repeat (refine WalkE.pure rfl (fun K hK => ?_); simp only [PureDo]; go_simp; refine hK _ ?_; clear hK K)
              refine WalkE.nil (fun wn hwn hm => ?_)
              simp only [List.drop_succ_cons, List.drop_zero, List.drop_nil]
              replace hwn := hext.trans ((Ext.drew _).trans hwn)
              cases rb
              · go_wp2_with fail
                go_ret
                exact Grows.mk (by simp [autoValid, not_all_of HX.out (p := fun row => rowOk row (nletters al) nx.length) HRB.out]) hwn.peel
              · go_wp2_with fail
                exact ⟨⟨k + 1, by omega, by go_num, by show _ = _; rw [all_take_succ HX.out, hall.out, HRB.out]; rfl, hwn⟩, by simp [intOf]; omega⟩
            · obtain rfl : k = nx.length := by omega
              go_wp2_with fail
              go_ret
              have := hall.out
              rw [List.take_length] at this
              exact Grows.mk (by simp only [autoValid, hA, this, HD.out]; simp; omega) hext.peel
        · have hD2 : ((ac.length : Int) != (nx.length : Int)) = true := by rw [bne_iff_ne]; omega
          go_enter Try.func17, Try.ntmps17
          go_wp2_with (go_at_call 37; refine (l1Alphabet_c _ _).mono ?_; rintro e w' ⟨rfl, rfl⟩)
          go_ret
          exact Grows.mk (by simp [autoValid, hD]) (hE _)
  · have hA : isAlpha al = false := by simpa using hA
    go_enter Try.func17, Try.ntmps17
    go_wp2_with (go_at_call 37; refine (l1Alphabet_c _ _).mono ?_; rintro e w' ⟨rfl, rfl⟩)
    go_ret
    exact Grows.mk (by simp [autoValid, hA]) (hE _)

theorem AutomatonValid_c (v : Value) (x : Auto) (w : World) (hv : AutoV w v x) :
    Calls Try.prog 7 #[v] w (Grows (.bool (autoValid x)) w) := by
  obtain ⟨vn, va, rfl, h1, h2⟩ := hv
  obtain ⟨al, nx, ac⟩ := x
  simp only at h1 h2
  obtain ⟨an, cn, rfl, hn1, hn2⟩ := h1.open
  obtain ⟨aa, ca, rfl, ha1, ha2⟩ := h2.open
  clear h1 h2 ha2
  have hE := Ext.alloc w
  by_cases hA : isAlpha al = true
  · by_cases hB : nx.length < 1
    · go_enter Try.func7, Try.ntmps7
      go_wp2_with (go_at_call 20; refine (isAlphabet_c _ _).mono ?_; rintro e w' ⟨rfl, rfl⟩)
      go_ret
      exact Grows.mk (by simp [autoValid]; omega) (hE _)
    · by_cases hC : 12 < nx.length
      · go_enter Try.func7, Try.ntmps7
        go_wp2_with (go_at_call 20; refine (isAlphabet_c _ _).mono ?_; rintro e w' ⟨rfl, rfl⟩)
        go_ret
        exact Grows.mk (by simp [autoValid]; omega) (hE _)
      · by_cases hD : ac.length = nx.length
        · have hal : 0 ≤ al ∧ al ≤ 63 := by simpa [isAlpha] using hA
          obtain ⟨hal0, hal1⟩ := hal
          have HD := Lib.hid hD
          rw [hD]
          clear hD
          go_enter Try.func7, Try.ntmps7
          go_wp2_with (go_at_call 20; refine (isAlphabet_c _ _).mono ?_; rintro e w' ⟨rfl, rfl⟩)
          refine (lettersOf_c _ _ hal0 hal1).mono ?_
          rintro e w1 ⟨vl, rfl, he1, hvl⟩
          obtain ⟨al1, cl1, rfl, hl1, -⟩ := hvl.open
          have hll : (letters al).length ≤ 6 := lettersTo_len al 6
          have c1 := he1.new 1 rfl
          clear hvl
          go_wp2_with fail
          go_loopw [40] (fun i wr => ∃ k : Nat, k ≤ nx.length ∧ i = .int .i64 k ∧ Hid ((nx.take k).all (fun row => rowOk row (nletters al) nx.length) = true) ∧ Ext w1 wr) (fun i _ => nx.length - (intOf i).toNat)
          case atStart => exact ⟨0, by omega, rfl, rfl, Ext.refl _⟩
          case round =>
            obtain ⟨k, hk, rfl, hall, hext⟩ := hrel
            by_cases hlt : k < nx.length
            · obtain ⟨x, hx⟩ : ∃ x, nx[k]? = some x := ⟨_, List.getElem?_eq_getElem hlt⟩
              obtain ⟨b, off, rfl, -, hc⟩ := hn2 k x hx
              obtain ⟨vx, g1, hvx⟩ := (hc k x hx).mono (he1.peel.trans hext)
              rw [Nat.mul_one] at g1
              have c2 := hext.cell c1
              have HX := Lib.hid hx
              obtain ⟨ax, cx, rfl, hx1, hx2⟩ := hvx.open
              clear hc hn2 hx hvx
              by_cases hw : x.length = (letters al).length
              · have HW := Lib.hid hw
                rw [hw] at g1
                clear hw
                go_wp2_with fail
                obtain ⟨wo, hwo⟩ : ∃ wo : World, wo = wr := ⟨_, rfl⟩
                subst hwo
                go_loopw [50] (fun i wr => ∃ j : Nat, j ≤ (letters al).length ∧ i = .int .i64 j ∧ Hid ((x.take j).all (qOk nx.length) = true) ∧ Ext wo wr) (fun i _ => (letters al).length - (intOf i).toNat)
                case atStart => exact ⟨0, by omega, rfl, rfl, Ext.refl _⟩
                case round =>
                  obtain ⟨j, hj, rfl, hall2, hext2⟩ := hrel
                  by_cases hjl : j < (letters al).length
                  · obtain ⟨q, hq⟩ : ∃ q, x[j]? = some q := ⟨_, List.getElem?_eq_getElem (by rw [HW.out]; exact hjl)⟩
                    obtain ⟨b2, off2, rfl, -, hc2⟩ := hx2 j q hq
                    have g2 := (hc2 j q hq).mono hext2
                    rw [Nat.mul_one] at g2
                    unfold IntAt at g2
                    have c3 := hext2.cell c2
                    have HQ := Lib.hid hq
                    clear hc2 hx2 hq
                    by_cases hq0 : q < 0
                    · go_wp2_with fail
                      go_ret
                      exact Grows.mk (by simp [autoValid, not_all_of HX.out (p := fun row => rowOk row (nletters al) nx.length) (by simp [rowOk, not_all_of HQ.out (p := qOk nx.length) (by simp [qOk]; omega)])]) (he1.peel.trans (hext.trans hext2))
                    · by_cases hq1 : (nx.length : Int) ≤ q
                      · go_wp2_with fail
                        go_ret
                        exact Grows.mk (by simp [autoValid, not_all_of HX.out (p := fun row => rowOk row (nletters al) nx.length) (by simp [rowOk, not_all_of HQ.out (p := qOk nx.length) (by simp [qOk]; omega)])]) (he1.peel.trans (hext.trans hext2))
                      · go_wp2_with fail
                        exact ⟨⟨j + 1, by omega, by go_num, by show _ = _; rw [all_take_succ HQ.out, hall2.out]; simp [qOk]; omega, hext2⟩, by simp [intOf]; omega⟩
                  · obtain rfl : j = (letters al).length := by omega
                    have hr : rowOk x (nletters al) nx.length = true := by
                      have := hall2.out
                      rw [← HW.out, List.take_length] at this
                      simp [rowOk, this, nletters, HW.out]
                    have HR := Lib.hid hr
                    clear hr
                    go_wp2_with fail
                    exact ⟨⟨k + 1, by omega, by go_num, by show _ = _; rw [all_take_succ HX.out, hall.out, HR.out]; rfl, hext.trans hext2⟩, by simp [intOf]; omega⟩
              · have hw2 : ((x.length : Int) != ((letters al).length : Int)) = true := by rw [bne_iff_ne]; omega
                go_wp2_with fail
                go_ret
                exact Grows.mk (by simp [autoValid, not_all_of HX.out (p := fun row => rowOk row (nletters al) nx.length) (by simp [rowOk, nletters, hw])]) (he1.peel.trans hext)
            · obtain rfl : k = nx.length := by omega
              go_wp2_with fail
              go_ret
              have := hall.out
              rw [List.take_length] at this
              exact Grows.mk (by simp only [autoValid, hA, this, HD.out]; simp; omega) (he1.peel.trans hext)
        · have hD2 : ((ac.length : Int) != (nx.length : Int)) = true := by rw [bne_iff_ne]; omega
          go_enter Try.func7, Try.ntmps7
          go_wp2_with (go_at_call 20; refine (isAlphabet_c _ _).mono ?_; rintro e w' ⟨rfl, rfl⟩)
          go_ret
          exact Grows.mk (by simp [autoValid, hD]) (hE _)
  · have hA : isAlpha al = false := by simpa using hA
    go_enter Try.func7, Try.ntmps7
    go_wp2_with (go_at_call 20; refine (isAlphabet_c _ _).mono ?_; rintro e w' ⟨rfl, rfl⟩)
    go_ret
    exact Grows.mk (by simp [autoValid, hA]) (hE _)

end Go.Proofs.Ytccklliljdembaa

namespace Go.Proofs.Ytccklliljdembaa
set_option linter.unusedSimpArgs false
set_option linter.unusedVariables false
open Go.RowKit

set_option maxHeartbeats 400000

def inSt (st q : Int) : Bool := decide (0 ≤ q) && decide (q < st)
theorem edgeOk_of (s : Sys) (e : Edge) : edgeOk ⟨s.alphabet, s.states, []⟩ e = edgeOk s e := rfl

end Go.Proofs.Ytccklliljdembaa

namespace Go.Proofs.Ytccklliljdembaa
set_option linter.unusedSimpArgs false
set_option linter.unusedVariables false
open Go.RowKit

set_option maxHeartbeats 400000

theorem edgeOk_false (al st : Int) (es : List Edge) (x : Edge) (h : inSt st x.src = false ∨ inSt st x.dst = false ∨ 6 ≤ x.letter ∨ bit al x.letter = false) : edgeOk ⟨al, st, es⟩ x = false := by
  unfold edgeOk inSt at *
  rcases h with h | h | h | h
  · simp only [h, Bool.false_and]
  · rw [Bool.and_assoc (_ && _) (decide (0 ≤ x.dst)), h]; simp
  · have : ¬ x.letter < 6 := by omega
    simp [this]
  · simp [h]
theorem edgeOk_true (al st : Int) (es : List Edge) (x : Edge) (h1 : inSt st x.src = true) (h2 : inSt st x.dst = true) (h3 : x.letter < 6) (h4 : bit al x.letter = true) : edgeOk ⟨al, st, es⟩ x = true := by
  unfold inSt at *
  simp only [Bool.and_eq_true, decide_eq_true_eq] at h1 h2
  have h5 : 0 ≤ x.letter := by
    rcases Int.lt_or_le x.letter 0 with h | h
    · rw [bit_neg h] at h4; cases h4
    · exact h
  simp [edgeOk, h1, h2, h3, h4, h5]

end Go.Proofs.Ytccklliljdembaa

namespace Go.Proofs.Ytccklliljdembaa
set_option linter.unusedSimpArgs false
set_option linter.unusedVariables false
open Go.RowKit

set_option maxHeartbeats 400000

end Go.Proofs.Ytccklliljdembaa
