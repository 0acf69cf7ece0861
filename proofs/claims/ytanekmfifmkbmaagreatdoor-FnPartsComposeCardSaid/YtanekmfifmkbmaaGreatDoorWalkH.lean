/- Part of this seat's proofs, cut to what its law needs. -/

import Derived.Test.YtanekmfifmkbmaaGreatDoorWalkA
import Derived.Test.YtanekmfifmkbmaaGreatDoorPlain2
import Derived.Test.YtanekmfifmkbmaaGreatDoorRegion

namespace Go.Proofs.YtanekmfifmkbmaaGreatDoor
set_option linter.unusedSimpArgs false
set_option linter.unusedVariables false
open Go.RowKit

set_option maxHeartbeats 400000

theorem AutomatonValid_c (v : Value) (x : Auto) (w : World) (hv : AutoV w v x) :
    Calls Tryz.prog 46 #[v] w (Grows (.bool (autoValid x)) w) := by
  obtain ⟨vn, va, rfl, h1, h2⟩ := hv
  obtain ⟨al, nx, ac⟩ := x
  simp only at h1 h2
  obtain ⟨an, cn, rfl, hn1, hn2⟩ := h1.open
  obtain ⟨aa, ca, rfl, ha1, ha2⟩ := h2.open
  clear h1 h2 ha2
  have hE := Ext.alloc w
  by_cases hA : isAlpha al = true
  · by_cases hB : nx.length < 1
    · go_enter Tryz.func46, Tryz.ntmps46
      go_wp2_with (go_at_call 73; refine (isAlphabet_c _ _).mono ?_; rintro e w' ⟨rfl, rfl⟩)
      go_ret
      exact Grows.mk (by simp [autoValid]; omega) (hE _)
    · by_cases hC : 12 < nx.length
      · go_enter Tryz.func46, Tryz.ntmps46
        go_wp2_with (go_at_call 73; refine (isAlphabet_c _ _).mono ?_; rintro e w' ⟨rfl, rfl⟩)
        go_ret
        exact Grows.mk (by simp [autoValid]; omega) (hE _)
      · by_cases hD : ac.length = nx.length
        · have hal : 0 ≤ al ∧ al ≤ 63 := by simpa [isAlpha] using hA
          obtain ⟨hal0, hal1⟩ := hal
          have HD := Lib.hid hD
          rw [hD]
          clear hD
          go_enter Tryz.func46, Tryz.ntmps46
          go_wp2_with (go_at_call 73; refine (isAlphabet_c _ _).mono ?_; rintro e w' ⟨rfl, rfl⟩)
          refine (lettersOf_c _ _ hal0 hal1).mono ?_
          rintro e w1 ⟨vl, rfl, he1, hvl⟩
          obtain ⟨al1, cl1, rfl, hl1, -⟩ := hvl.open
          have hll : (letters al).length ≤ 6 := lettersTo_len al 6
          have c1 := he1.new 1 rfl
          clear hvl
          go_wp2_with fail
          go_loopw [40] (fun i wr => ∃ k : Nat, k ≤ nx.length ∧ i = .int .i64 k ∧ Hid ((nx.take k).all (fun row => rowOk row (nletters al) nx.length) = true) ∧ Ext w1 wr) (fun i _ => nx.length - (intOf i).toNat)
          case atStart => exact ⟨0, by omega, rfl, rfl, Ext.refl _⟩
          case round =>
            obtain ⟨k, hk, rfl, hall, hext⟩ := hrel
            by_cases hlt : k < nx.length
            · obtain ⟨x, hx⟩ : ∃ x, nx[k]? = some x := ⟨_, List.getElem?_eq_getElem hlt⟩
              obtain ⟨b, off, rfl, -, hc⟩ := hn2 k x hx
              obtain ⟨vx, g1, hvx⟩ := (hc k x hx).mono (he1.peel.trans hext)
              rw [Nat.mul_one] at g1
              have c2 := hext.cell c1
              have HX := Lib.hid hx
              obtain ⟨ax, cx, rfl, hx1, hx2⟩ := hvx.open
              clear hc hn2 hx hvx
              by_cases hw : x.length = (letters al).length
              · have HW := Lib.hid hw
                rw [hw] at g1
                clear hw
                go_wp2_with fail
                obtain ⟨wo, hwo⟩ : ∃ wo : World, wo = wr := ⟨_, rfl⟩
                subst hwo
                go_loopw [50] (fun i wr => ∃ j : Nat, j ≤ (letters al).length ∧ i = .int .i64 j ∧ Hid ((x.take j).all (qOk nx.length) = true) ∧ Ext wo wr) (fun i _ => (letters al).length - (intOf i).toNat)
                case atStart => exact ⟨0, by omega, rfl, rfl, Ext.refl _⟩
                case round =>
                  obtain ⟨j, hj, rfl, hall2, hext2⟩ := hrel
                  by_cases hjl : j < (letters al).length
                  · obtain ⟨q, hq⟩ : ∃ q, x[j]? = some q := ⟨_, List.getElem?_eq_getElem (by rw [HW.out]; exact hjl)⟩
                    obtain ⟨b2, off2, rfl, -, hc2⟩ := hx2 j q hq
                    have g2 := (hc2 j q hq).mono hext2
                    rw [Nat.mul_one] at g2
                    unfold IntAt at g2
                    have c3 := hext2.cell c2
                    have HQ := Lib.hid hq
                    clear hc2 hx2 hq
                    by_cases hq0 : q < 0
                    · go_wp2_with fail
                      go_ret
                      exact Grows.mk (by simp [autoValid, not_all_of HX.out (p := fun row => rowOk row (nletters al) nx.length) (by simp [rowOk, not_all_of HQ.out (p := qOk nx.length) (by simp [qOk]; omega)])]) (he1.peel.trans (hext.trans hext2))
                    · by_cases hq1 : (nx.length : Int) ≤ q
                      · go_wp2_with fail
                        go_ret
                        exact Grows.mk (by simp [autoValid, not_all_of HX.out (p := fun row => rowOk row (nletters al) nx.length) (by simp [rowOk, not_all_of HQ.out (p := qOk nx.length) (by simp [qOk]; omega)])]) (he1.peel.trans (hext.trans hext2))
                      · go_wp2_with fail
                        exact ⟨⟨j + 1, by omega, by go_num, by show _ = _; rw [all_take_succ HQ.out, hall2.out]; simp [qOk]; omega, hext2⟩, by simp [intOf]; omega⟩
                  · obtain rfl : j = (letters al).length := by omega
                    have hr : rowOk x (nletters al) nx.length = true := by
                      have := hall2.out
                      rw [← HW.out, List.take_length] at this
                      simp [rowOk, this, nletters, HW.out]
                    have HR := Lib.hid hr
                    clear hr
                    go_wp2_with fail
                    exact ⟨⟨k + 1, by omega, by go_num, by show _ = _; rw [all_take_succ HX.out, hall.out, HR.out]; rfl, hext.trans hext2⟩, by simp [intOf]; omega⟩
              · have hw2 : ((x.length : Int) != ((letters al).length : Int)) = true := by rw [bne_iff_ne]; omega
                go_wp2_with fail
                go_ret
                exact Grows.mk (by simp [autoValid, not_all_of HX.out (p := fun row => rowOk row (nletters al) nx.length) (by simp [rowOk, nletters, hw])]) (he1.peel.trans hext)
            · obtain rfl : k = nx.length := by omega
              go_wp2_with fail
              go_ret
              have := hall.out
              rw [List.take_length] at this
              exact Grows.mk (by simp only [autoValid, hA, this, HD.out]; simp; omega) (he1.peel.trans hext)
        · have hD2 : ((ac.length : Int) != (nx.length : Int)) = true := by rw [bne_iff_ne]; omega
          go_enter Tryz.func46, Tryz.ntmps46
          go_wp2_with (go_at_call 73; refine (isAlphabet_c _ _).mono ?_; rintro e w' ⟨rfl, rfl⟩)
          go_ret
          exact Grows.mk (by simp [autoValid, hD]) (hE _)
  · have hA : isAlpha al = false := by simpa using hA
    go_enter Tryz.func46, Tryz.ntmps46
    go_wp2_with (go_at_call 73; refine (isAlphabet_c _ _).mono ?_; rintro e w' ⟨rfl, rfl⟩)
    go_ret
    exact Grows.mk (by simp [autoValid, hA]) (hE _)

end Go.Proofs.YtanekmfifmkbmaaGreatDoor

namespace Go.Proofs.YtanekmfifmkbmaaGreatDoor
set_option linter.unusedSimpArgs false
set_option linter.unusedVariables false
open Go.RowKit

set_option maxHeartbeats 400000

theorem isNaN_c (a : Int) (w : World) : Calls Tryz.prog 148 #[.int .i64 a] w (Same (.bool false) w) := by
  go_enter Tryz.func148, Tryz.ntmps148
  go_wp2_with fail
  go_ret
  exact Same.mk (by simp)

theorem Compare_c (a b : Int) (w : World) : Calls Tryz.prog 82 #[.int .i64 a, .int .i64 b] w (Same (.int .i64 (cmpI a b)) w) := by
  by_cases h1 : a < b
  · go_enter Tryz.func82, Tryz.ntmps82
    go_wp2_with (go_at_call 148; refine (isNaN_c _ _).mono ?_; rintro e w' ⟨rfl, rfl⟩)
    go_ret
    exact Same.mk (by simp [cmpI, h1])
  · by_cases h2 : b < a
    · go_enter Tryz.func82, Tryz.ntmps82
      go_wp2_with (go_at_call 148; refine (isNaN_c _ _).mono ?_; rintro e w' ⟨rfl, rfl⟩)
      go_ret
      exact Same.mk (by simp [cmpI, h1, h2])
    · go_enter Tryz.func82, Tryz.ntmps82
      go_wp2_with (go_at_call 148; refine (isNaN_c _ _).mono ?_; rintro e w' ⟨rfl, rfl⟩)
      go_ret
      exact Same.mk (by unfold cmpI; rw [if_neg (by omega), if_neg (by omega)]; rfl)

theorem Or_c (v : Value) (l : List Int) (w : World) (hv : IntsV w v l) : Calls Tryz.prog 81 #[v] w (Same (.int .i64 (orI l)) w) := by
  obtain ⟨a, c, rfl, h1, h2⟩ := hv.open
  go_enter Tryz.func81, Tryz.ntmps81
  go_wp2_with fail
  go_loop [8] (fun i => ∃ k : Nat, k ≤ l.length ∧ i = .int .i64 k ∧ Hid (l.find? (fun x => x != 0) = (l.drop k).find? (fun x => x != 0))) (fun i => l.length - (intOf i).toNat)
  case atStart => exact ⟨0, by omega, rfl, rfl⟩
  case round =>
    obtain ⟨k, hk, rfl, hf⟩ := hrel
    by_cases hlt : k < l.length
    · obtain ⟨x, hx⟩ : ∃ x, l[k]? = some x := ⟨_, List.getElem?_eq_getElem hlt⟩
      obtain ⟨b, off, rfl, -, hc⟩ := h2 k x hx
      have g1 : w.cell? ⟨b, off + k, none⟩ = some (.int .i64 x) := by have := hc k x hx; rwa [Nat.mul_one] at this
      have HX := Lib.hid (show l.drop k = x :: l.drop (k + 1) by rw [List.drop_eq_getElem_cons hlt]; congr 1; rw [List.getElem?_eq_getElem hlt] at hx; exact Option.some.inj hx)
      clear hc h2 hx hv
      by_cases h0 : x = 0
      · subst h0
        go_wp2_with fail
        exact ⟨⟨k + 1, by omega, by go_num, by show _ = _; rw [hf.out, HX.out]; simp⟩, by simp [intOf]; omega⟩
      · have h0' : (x != 0) = true := by simp [h0]
        go_wp2_with fail
        go_ret
        exact Same.mk (by rw [orI, hf.out, HX.out]; simp [h0])
    · obtain rfl : k = l.length := by omega
      go_wp2_with fail
      go_ret
      exact Same.mk (by rw [orI, hf.out]; simp)

theorem compareEdges_c (x y : Edge) (w : World) : Calls Tryz.prog 37 #[edgeVal x, edgeVal y] w (Grows (.int .i64 (cmpEdges x y)) w) := by
  unfold edgeVal
  go_enter Tryz.func37, Tryz.ntmps37
  go_wp2_with fail
  obtain ⟨wo, hwo⟩ : ∃ wo : World, wo = (w.alloc (.cells #[.int .i64 x.src, .int .i64 x.letter, .int .i64 x.dst] 87)).alloc (.cells #[.int .i64 y.src, .int .i64 y.letter, .int .i64 y.dst] 87) := ⟨_, rfl⟩
  rw [← hwo]
  have hext : Ext ((w.alloc (.cells #[.int .i64 x.src, .int .i64 x.letter, .int .i64 x.dst] 87)).alloc (.cells #[.int .i64 y.src, .int .i64 y.letter, .int .i64 y.dst] 87)) wo := by rw [hwo]; exact Ext.refl _
  clear hwo
  have q0 := fun d os => cell_regrown (hext.peel.new 0 rfl) d os
  have q1 := fun d os => cell_regrown (hext.peel.new 1 rfl) d os
  have q2 := fun d os => cell_regrown (hext.peel.new 2 rfl) d os
  have r0 := fun d os => cell_regrown (hext.new1 0 rfl) d os
  have r1 := fun d os => cell_regrown (hext.new1 1 rfl) d os
  have r2 := fun d os => cell_regrown (hext.new1 2 rfl) d os
  obtain ⟨Kc, HKc⟩ : ∃ Kc : FuncId → Array Value → World → Value → World → Prop, Hid (Kc = fun _ args w0 v w' => Ext w0 w' ∧ ∀ a b : Int, args = #[.int .i64 a, .int .i64 b] → v = .int .i64 (cmpI a b)) := ⟨_, rfl⟩
  refine wp_region_ext (Kc := Kc) 15 (by kernel_rfl) (by kernel_rfl) ?_
  simp only [List.take_succ_cons, List.take_zero]
  repeat (refine WalkE.pure rfl (fun K hK => ?_); simp only [PureDo]; go_simp; refine hK _ ?_; clear hK K)
  refine WalkE.step (fun K hK wc hwc hdc => ?_)
  simp only [OpDo, OpSafe, OpOut]
  go_simp
  refine ⟨(Compare_c _ _ _).mono ?_, ?_⟩
  · rintro e w' ⟨rfl, rfl⟩
    exact ⟨_, rfl, by rw [HKc.out]; exact ⟨Ext.refl _, fun a b h => by simp at h; rw [h.1, h.2]⟩⟩
  intro v1 w1 hk1
  rw [HKc.out] at hk1
  obtain rfl := hk1.2 _ _ rfl
  refine ⟨hk1.1, hK _ _ ?_⟩
  clear hK K hdc hk1 hwc
  repeat (refine WalkE.pure rfl (fun K hK => ?_); simp only [PureDo]; go_simp; refine hK _ ?_; clear hK K)
  refine WalkE.step (fun K hK wc hwc hdc => ?_)
  simp only [OpDo, OpSafe, OpOut]
  go_simp
  refine ⟨(Compare_c _ _ _).mono ?_, ?_⟩
  · rintro e w' ⟨rfl, rfl⟩
    exact ⟨_, rfl, by rw [HKc.out]; exact ⟨Ext.refl _, fun a b h => by simp at h; rw [h.1, h.2]⟩⟩
  intro v1 w1 hk1
  rw [HKc.out] at hk1
  obtain rfl := hk1.2 _ _ rfl
  refine ⟨hk1.1, hK _ _ ?_⟩
  clear hK K hdc hk1 hwc
  repeat (refine WalkE.pure rfl (fun K hK => ?_); simp only [PureDo]; go_simp; refine hK _ ?_; clear hK K)
  refine WalkE.step (fun K hK wc hwc hdc => ?_)
  simp only [OpDo, OpSafe, OpOut]
  go_simp
  refine ⟨(Compare_c _ _ _).mono ?_, ?_⟩
  · rintro e w' ⟨rfl, rfl⟩
    exact ⟨_, rfl, by rw [HKc.out]; exact ⟨Ext.refl _, fun a b h => by simp at h; rw [h.1, h.2]⟩⟩
  intro v1 w1 hk1
  rw [HKc.out] at hk1
  obtain rfl := hk1.2 _ _ rfl
  refine ⟨hk1.1, hK _ _ ?_⟩
  clear hK K hdc hk1 hwc
  repeat (refine WalkE.pure rfl (fun K hK => ?_); simp only [PureDo]; go_simp; refine hK _ ?_; clear hK K)
  refine WalkE.nil (fun wn hwn hm => ?_)
  simp only [List.drop_succ_cons, List.drop_zero, List.drop_nil]
  replace hwn := hext.peel.peel.trans ((Ext.drew _).trans hwn)
  clear q0 q1 q2 r0 r1 r2 hm
  go_wp2_with fail
  refine (Or_c _ [cmpI x.src y.src, cmpI x.letter y.letter, cmpI x.dst y.dst] _ ?_).mono ?_
  · refine ⟨_, _, rfl, Nat.le_refl _, by unfold maxLen; simp, fun _ => ⟨_, _, rfl, by simp, fun i x hi => ?_⟩⟩
    unfold IntAt
    rw [Nat.zero_add, Nat.mul_one]
    refine new_cell _ _ _ _ _ ?_
    match i, hi with
    | 0, hi => simpa using hi
    | 1, hi => simpa using hi
    | 2, hi => simpa using hi
  rintro e w' ⟨rfl, rfl⟩
  go_wp2_with fail
  go_ret
  exact Grows.mk rfl (hwn.trans (Ext.alloc _ _))

theorem l2Before_c (x y : Edge) (w : World) : Calls Tryz.prog 67 #[edgeVal x, edgeVal y] w (Grows (.bool (edgeLt x y)) w) := by
  obtain ⟨a, b, c⟩ := x
  obtain ⟨a', b', c'⟩ := y
  unfold edgeVal
  have hE : ∀ o o', Ext w ((w.alloc o).alloc o') := fun _ _ => (Ext.alloc _ _).trans (Ext.alloc _ _)
  by_cases h1 : a = a'
  · subst h1
    by_cases h2 : b = b'
    · subst h2
      go_enter Tryz.func67, Tryz.ntmps67
      go_wp2_with fail
      go_ret
      exact Grows.mk (by simp [edgeLt]) (hE _ _)
    · go_enter Tryz.func67, Tryz.ntmps67
      go_wp2_with fail
      go_ret
      exact Grows.mk (by simp [edgeLt, h2]) (hE _ _)
  · go_enter Tryz.func67, Tryz.ntmps67
    go_wp2_with fail
    go_ret
    exact Grows.mk (by simp [edgeLt, h1]) (hE _ _)

theorem l2Edge_c (al st : Int) (x : Edge) (w : World) (h0 : 0 ≤ al) (h63 : al ≤ 63) : Calls Tryz.prog 84 #[.int .i64 al, .int .i64 st, edgeVal x] w (Grows (.bool (edgeOk ⟨al, st, []⟩ x)) w) := by
  obtain ⟨a, b, c⟩ := x
  unfold edgeVal
  have hE : ∀ o, Ext w (w.alloc o) := fun _ => (Ext.alloc _ _)
  by_cases h1 : a < 0
  · go_enter Tryz.func84, Tryz.ntmps84
    go_wp2_with fail
    go_ret
    exact Grows.mk (by simp [edgeOk]; omega) (hE _)
  by_cases h2 : st ≤ a
  · go_enter Tryz.func84, Tryz.ntmps84
    go_wp2_with fail
    go_ret
    exact Grows.mk (by simp [edgeOk]; omega) (hE _)
  by_cases h3 : c < 0
  · go_enter Tryz.func84, Tryz.ntmps84
    go_wp2_with fail
    go_ret
    exact Grows.mk (by simp [edgeOk]; omega) (hE _)
  by_cases h4 : st ≤ c
  · go_enter Tryz.func84, Tryz.ntmps84
    go_wp2_with fail
    go_ret
    exact Grows.mk (by simp [edgeOk]; omega) (hE _)
  by_cases h5 : b < 0
  · go_enter Tryz.func84, Tryz.ntmps84
    go_wp2_with fail
    go_ret
    exact Grows.mk (by simp [edgeOk]; omega) (hE _)
  by_cases h6 : 6 ≤ b
  · go_enter Tryz.func84, Tryz.ntmps84
    go_wp2_with fail
    go_ret
    exact Grows.mk (by simp [edgeOk]; omega) (hE _)
  · go_enter Tryz.func84, Tryz.ntmps84
    go_wp2_with (go_at_call 85; refine (l1Has_c _ _ _ (by omega) (by omega) (by omega) (by omega)).mono ?_; rintro e w' ⟨rfl, rfl⟩)
    go_ret
    have e1 : 0 ≤ a := by omega
    have e2 : a < st := by omega
    have e3 : 0 ≤ c := by omega
    have e4 : c < st := by omega
    have e5 : 0 ≤ b := by omega
    have e6 : b < 6 := by omega
    exact Grows.mk (by simp [edgeOk, e1, e2, e3, e4, e5, e6]) (hE _)

def inSt (st q : Int) : Bool := decide (0 ≤ q) && decide (q < st)
theorem isState_c (v : Value) (x : Sys) (q : Int) (w : World) (hv : SysV w v x) : Calls Tryz.prog 74 #[v, .int .i64 q] w (Grows (.bool (inSt x.states q)) w) := by
  obtain ⟨ve, rfl, h1⟩ := hv
  have hE := Ext.alloc w
  by_cases h : 0 ≤ q
  · go_enter Tryz.func74, Tryz.ntmps74
    go_wp2_with fail
    go_ret
    exact Grows.mk (by simp [inSt, h]) (hE _)
  · go_enter Tryz.func74, Tryz.ntmps74
    go_wp2_with fail
    go_ret
    exact Grows.mk (by simp [inSt]; omega) (hE _)

theorem edgeOk_of (s : Sys) (e : Edge) : edgeOk ⟨s.alphabet, s.states, []⟩ e = edgeOk s e := rfl

theorem SystemValid_s (v : Value) (x : Sys) (w : World) (hv : SysV w v x) :
    Calls Tryz.prog 38 #[v] w (Grows (.bool (sysValid x)) w) := by
  obtain ⟨ve, rfl, h1⟩ := hv
  obtain ⟨al, st, es⟩ := x
  simp only at h1
  obtain ⟨an, cn, rfl, hn1, hn2⟩ := h1.open
  clear h1
  have hE := Ext.alloc w
  by_cases hA : isAlpha al = true
  · by_cases hB : st < 1
    · go_enter Tryz.func38, Tryz.ntmps38
      go_wp2_with (go_at_call 83; refine (l1Alphabet_c _ _).mono ?_; rintro e w' ⟨rfl, rfl⟩)
      go_ret
      exact Grows.mk (by simp [sysValid]; omega) (hE _)
    by_cases hC : 16 < st
    · go_enter Tryz.func38, Tryz.ntmps38
      go_wp2_with (go_at_call 83; refine (l1Alphabet_c _ _).mono ?_; rintro e w' ⟨rfl, rfl⟩)
      go_ret
      exact Grows.mk (by simp [sysValid]; omega) (hE _)
    have hal : 0 ≤ al ∧ al ≤ 63 := by simpa [isAlpha] using hA
    obtain ⟨hal0, hal1⟩ := hal
    go_enter Tryz.func38, Tryz.ntmps38
    go_wp2_with (go_at_call 83; refine (l1Alphabet_c _ _).mono ?_; rintro e w' ⟨rfl, rfl⟩)
    go_loopw [3] (fun i wr => ∃ k : Nat, k ≤ es.length ∧ i = .int .i64 k ∧ Hid ((List.range k).all (edgeAt ⟨al, st, es⟩) = true) ∧ Ext (w.alloc (.cells #[.int .i64 al, .int .i64 st, .slice an es.length cn] 25)) wr) (fun i _ => es.length - (intOf i).toNat)
    case atStart => exact ⟨0, by omega, rfl, rfl, Ext.refl _⟩
    case round =>
      obtain ⟨k, hk, rfl, hall, hext⟩ := hrel
      have c2 := hext.new 2 rfl
      by_cases hlt : k < es.length
      · obtain ⟨x, hx⟩ : ∃ x, es[k]? = some x := ⟨_, List.getElem?_eq_getElem hlt⟩
        obtain ⟨b, off, rfl, -, hc⟩ := hn2 k x hx
        have d0 := fun d os => cell_regrown (hext.new 0 rfl) d os
        have d1 := fun d os => cell_regrown (hext.new 1 rfl) d os
        have d2 := fun d os => cell_regrown (hext.new 2 rfl) d os
        obtain ⟨q1, q2, q3⟩ := (hc k x hx).mono hext.peel
        have g1 := fun d os => cell_regrown q1 d os
        have g2 := fun d os => cell_regrown q2 d os
        have g3 := fun d os => cell_regrown q3 d os
        have HX := Lib.hid hx
        by_cases hok : edgeOk ⟨al, st, []⟩ x = true
        · cases k with
          | zero =>
            simp only [Nat.zero_mul, Nat.add_zero] at g1 g2 g3
            clear hc hn2 hx q1 q2 q3
            go_wp2_with fail
            refine wp_region_quiet_below (by kernel_rfl) (by kernel_rfl) ?_
            repeat (go_big_quiet_step ((go_at_call 84; exact Grows.quiet (l2Edge_c al st x _ hal0 hal1))))
            refine wpQuiet_nil ?_
            intro _ hw'
            obtain ⟨⟨dq, osq⟩, hw''⟩ := hw'
            subst hw''
            have hq : Ext wr (Go.Sort.grow (redrawn wr dq) osq) := below_regrown wr dq osq
            generalize Go.Sort.grow (redrawn wr dq) osq = wq at hq ⊢
            go_wp2_with fail
            exact ⟨⟨0 + 1, by omega, by go_num, by show _ = _; rw [range_all_succ, hall.out]; simp only [edgeAt, HX.out]; rw [← edgeOk_of]; simp only [hok]; rfl, hext.trans hq⟩, by simp [intOf]; omega⟩
          | succ j =>
            obtain ⟨y, hy⟩ : ∃ y, es[j]? = some y := ⟨_, List.getElem?_eq_getElem (by omega)⟩
            obtain ⟨p1, p2, p3⟩ := (hc j y hy).mono hext.peel
            have f1 := fun d os => cell_regrown p1 d os
            have f2 := fun d os => cell_regrown p2 d os
            have f3 := fun d os => cell_regrown p3 d os
            have HY := Lib.hid hy
            clear hc hn2 hx hy q1 q2 q3 p1 p2 p3
            by_cases hbef : edgeLt y x = true
            · go_wp2_with fail
              refine wp_region_quiet_below (by kernel_rfl) (by kernel_rfl) ?_
              repeat (go_big_quiet_step (first | (go_at_call 84; exact Grows.quiet (l2Edge_c al st x _ hal0 hal1)) | (go_at_call 67; exact Grows.quiet (l2Before_c y x _))))
              refine wpQuiet_nil ?_
              intro _ hw'
              obtain ⟨⟨dq, osq⟩, hw''⟩ := hw'
              subst hw''
              have hq : Ext wr (Go.Sort.grow (redrawn wr dq) osq) := below_regrown wr dq osq
              generalize Go.Sort.grow (redrawn wr dq) osq = wq at hq ⊢
              go_wp2_with fail
              exact ⟨⟨j + 1 + 1, by omega, by go_num, by show _ = _; rw [range_all_succ, hall.out]; simp only [edgeAt, HX.out, HY.out]; rw [← edgeOk_of]; simp only [hok, hbef]; rfl, hext.trans hq⟩, by simp [intOf]; omega⟩
            · have hbef : edgeLt y x = false := by simpa using hbef
              go_wp2_with fail
              refine wp_region_quiet_below (by kernel_rfl) (by kernel_rfl) ?_
              repeat (go_big_quiet_step (first | (go_at_call 84; exact Grows.quiet (l2Edge_c al st x _ hal0 hal1)) | (go_at_call 67; exact Grows.quiet (l2Before_c y x _))))
              refine wpQuiet_nil ?_
              intro _ hw'
              obtain ⟨⟨dq, osq⟩, hw''⟩ := hw'
              subst hw''
              have hq : Ext wr (Go.Sort.grow (redrawn wr dq) osq) := below_regrown wr dq osq
              generalize Go.Sort.grow (redrawn wr dq) osq = wq at hq ⊢
              go_wp2_with fail
              go_ret
              refine Grows.mk ?_ (hext.peel.trans hq)
              show Value.bool false = _
              rw [sysValid, range_not_all hlt (by simp only [edgeAt, HX.out, HY.out]; rw [← edgeOk_of]; simp only [hbef]; simp), Bool.and_false]
        · have hok : edgeOk ⟨al, st, []⟩ x = false := by simpa using hok
          clear hc hn2 hx q1 q2 q3
          go_wp2_with fail
          refine wp_region_quiet_below (by kernel_rfl) (by kernel_rfl) ?_
          repeat (go_big_quiet_step ((go_at_call 84; exact Grows.quiet (l2Edge_c al st x _ hal0 hal1))))
          refine wpQuiet_nil ?_
          intro _ hw'
          obtain ⟨⟨dq, osq⟩, hw''⟩ := hw'
          subst hw''
          have hq : Ext wr (Go.Sort.grow (redrawn wr dq) osq) := below_regrown wr dq osq
          generalize Go.Sort.grow (redrawn wr dq) osq = wq at hq ⊢
          go_wp2_with fail
          go_ret
          refine Grows.mk ?_ (hext.peel.trans hq)
          show Value.bool false = _
          rw [sysValid, range_not_all hlt (by simp only [edgeAt, HX.out]; rw [← edgeOk_of]; simp only [hok]; rfl), Bool.and_false]
      · obtain rfl : k = es.length := by omega
        go_wp2_with fail
        go_ret
        exact Grows.mk (by simp only [sysValid, hA, hall.out]; simp; omega) hext.peel
  · have hA : isAlpha al = false := by simpa using hA
    go_enter Tryz.func38, Tryz.ntmps38
    go_wp2_with (go_at_call 83; refine (l1Alphabet_c _ _).mono ?_; rintro e w' ⟨rfl, rfl⟩)
    go_ret
    exact Grows.mk (by simp [sysValid, hA]) (hE _)

end Go.Proofs.YtanekmfifmkbmaaGreatDoor

namespace Go.Proofs.YtanekmfifmkbmaaGreatDoor
set_option linter.unusedSimpArgs false
set_option linter.unusedVariables false
open Go.RowKit

set_option maxHeartbeats 400000

theorem edgeOk_false (al st : Int) (es : List Edge) (x : Edge) (h : inSt st x.src = false ∨ inSt st x.dst = false ∨ 6 ≤ x.letter ∨ bit al x.letter = false) : edgeOk ⟨al, st, es⟩ x = false := by
  unfold edgeOk inSt at *
  rcases h with h | h | h | h
  · simp only [h, Bool.false_and]
  · rw [Bool.and_assoc (_ && _) (decide (0 ≤ x.dst)), h]; simp
  · have : ¬ x.letter < 6 := by omega
    simp [this]
  · simp [h]
theorem edgeOk_true (al st : Int) (es : List Edge) (x : Edge) (h1 : inSt st x.src = true) (h2 : inSt st x.dst = true) (h3 : x.letter < 6) (h4 : bit al x.letter = true) : edgeOk ⟨al, st, es⟩ x = true := by
  unfold inSt at *
  simp only [Bool.and_eq_true, decide_eq_true_eq] at h1 h2
  have h5 : 0 ≤ x.letter := by
    rcases Int.lt_or_le x.letter 0 with h | h
    · rw [bit_neg h] at h4; cases h4
    · exact h
  simp [edgeOk, h1, h2, h3, h4, h5]

theorem SystemValid_c (v : Value) (x : Sys) (w : World) (hv : SysV w v x) :
    Calls Tryz.prog 31 #[v] w (Grows (.bool (sysValid x)) w) := by
  obtain ⟨ve, rfl, h1⟩ := hv
  obtain ⟨al, st, es⟩ := x
  simp only at h1
  obtain ⟨an, cn, rfl, hn1, hn2⟩ := h1.open
  have hE := Ext.alloc w
  by_cases hA : isAlpha al = true
  · by_cases hB : st < 1
    · go_enter Tryz.func31, Tryz.ntmps31
      go_wp2_with (go_at_call 73; refine (isAlphabet_c _ _).mono ?_; rintro e w' ⟨rfl, rfl⟩)
      go_ret
      exact Grows.mk (by simp [sysValid]; omega) (hE _)
    by_cases hC : 16 < st
    · go_enter Tryz.func31, Tryz.ntmps31
      go_wp2_with (go_at_call 73; refine (isAlphabet_c _ _).mono ?_; rintro e w' ⟨rfl, rfl⟩)
      go_ret
      exact Grows.mk (by simp [sysValid]; omega) (hE _)
    have hal : 0 ≤ al ∧ al ≤ 63 := by simpa [isAlpha] using hA
    obtain ⟨hal0, hal1⟩ := hal
    go_enter Tryz.func31, Tryz.ntmps31
    go_wp2_with (go_at_call 73; refine (isAlphabet_c _ _).mono ?_; rintro e w' ⟨rfl, rfl⟩)
    go_loopw [22] (fun i wr => ∃ k : Nat, k ≤ es.length ∧ i = .int .i64 k ∧ Hid ((List.range k).all (edgeAt ⟨al, st, es⟩) = true) ∧ Ext (w.alloc (.cells #[.int .i64 al, .int .i64 st, .slice an es.length cn] 25)) wr) (fun i _ => es.length - (intOf i).toNat)
    case atStart => exact ⟨0, by omega, rfl, rfl, Ext.refl _⟩
    case round =>
      obtain ⟨k, hk, rfl, hall, hext⟩ := hrel
      by_cases hlt : k < es.length
      · obtain ⟨x, hx⟩ : ∃ x, es[k]? = some x := ⟨_, List.getElem?_eq_getElem hlt⟩
        obtain ⟨b, off, rfl, hbl, hc⟩ := hn2 k x hx
        obtain ⟨q1, q2, q3⟩ := (hc k x hx).mono hext.peel
        have HX := Lib.hid hx
        clear hx
        have h1' := fun (w' : World) (he : Ext w w') => SysV.mono he (v := .agg #[.int .i64 al, .int .i64 st, .slice (some ⟨b, off, none⟩) es.length cn]) (s := ⟨al, st, es⟩) ⟨_, rfl, h1⟩
        clear h1
        go_wp2_with fail
        obtain ⟨wo, hwo⟩ : ∃ wo : World, wo = wr.alloc (.cells #[.int .i64 x.src, .int .i64 x.letter, .int .i64 x.dst] 87) := ⟨_, rfl⟩
        rw [← hwo]
        have ho : Ext (wr.alloc (.cells #[.int .i64 x.src, .int .i64 x.letter, .int .i64 x.dst] 87)) wo := by rw [hwo]; exact Ext.refl _
        clear hwo q1 q2 q3
        have hwo := hext.trans ho.peel
        have d0 := fun d os => cell_regrown (hwo.new 0 rfl) d os
        have d1 := fun d os => cell_regrown (hwo.new 1 rfl) d os
        have d2 := fun d os => cell_regrown (hwo.new 2 rfl) d os
        have e0 := fun d os => cell_regrown (ho.new 0 rfl) d os
        have e1 := fun d os => cell_regrown (ho.new 1 rfl) d os
        have e2 := fun d os => cell_regrown (ho.new 2 rfl) d os
        have hsys : ∀ d os, SysV (Go.Sort.grow (redrawn wo d) os) (.agg #[.int .i64 al, .int .i64 st, .slice (some ⟨b, off, none⟩) es.length cn]) ⟨al, st, es⟩ := fun d os => h1' _ (hwo.peel.trans (below_regrown _ _ _))
        have HS := Lib.hid hsys
        clear h1' hsys
        have fin : edgeAt ⟨al, st, es⟩ k = false → ∀ wq, Ext wo wq → Grows (.bool (sysValid ⟨al, st, es⟩)) w (.returned (.bool false)) wq := fun hf wq hq =>
          Grows.mk (by rw [sysValid, range_not_all hlt hf, Bool.and_false]) (hwo.peel.trans hq)
        have FIN := Lib.hid fin
        clear fin
        have hbad : edgeOk ⟨al, st, es⟩ x = false → edgeAt ⟨al, st, es⟩ k = false := fun h => by simp only [edgeAt, HX.out, h, Bool.false_and]
        have HBAD := Lib.hid hbad
        clear hbad
        by_cases k1 : inSt st x.src = true
        case neg =>
          have k1 : inSt st x.src = false := by simpa using k1
          clear hc hn2
          refine wp_region_quiet_below (by kernel_rfl) (by kernel_rfl) ?_
          repeat (go_big_quiet_step ((go_at_call 74; exact Grows.quiet (isState_c _ ⟨al, st, es⟩ _ _ (HS.out _ _)))))
          refine wpQuiet_nil ?_
          intro _ hw'
          obtain ⟨⟨dq, osq⟩, hw''⟩ := hw'
          subst hw''
          have hq : Ext wo (Go.Sort.grow (redrawn wo dq) osq) := below_regrown wo dq osq
          generalize Go.Sort.grow (redrawn wo dq) osq = wq at hq ⊢
          go_wp2_with fail
          go_ret
          exact FIN.out (HBAD.out (edgeOk_false _ _ _ _ (.inl k1))) _ hq
        by_cases k2 : inSt st x.dst = true
        case neg =>
          have k2 : inSt st x.dst = false := by simpa using k2
          clear hc hn2
          refine wp_region_quiet_below (by kernel_rfl) (by kernel_rfl) ?_
          repeat (go_big_quiet_step ((go_at_call 74; exact Grows.quiet (isState_c _ ⟨al, st, es⟩ _ _ (HS.out _ _)))))
          refine wpQuiet_nil ?_
          intro _ hw'
          obtain ⟨⟨dq, osq⟩, hw''⟩ := hw'
          subst hw''
          have hq : Ext wo (Go.Sort.grow (redrawn wo dq) osq) := below_regrown wo dq osq
          generalize Go.Sort.grow (redrawn wo dq) osq = wq at hq ⊢
          go_wp2_with fail
          go_ret
          exact FIN.out (HBAD.out (edgeOk_false _ _ _ _ (.inr (.inl k2)))) _ hq
        by_cases k3 : 6 ≤ x.letter
        case pos =>
          clear hc hn2
          refine wp_region_quiet_below (by kernel_rfl) (by kernel_rfl) ?_
          repeat (go_big_quiet_step ((go_at_call 74; exact Grows.quiet (isState_c _ ⟨al, st, es⟩ _ _ (HS.out _ _)))))
          refine wpQuiet_nil ?_
          intro _ hw'
          obtain ⟨⟨dq, osq⟩, hw''⟩ := hw'
          subst hw''
          have hq : Ext wo (Go.Sort.grow (redrawn wo dq) osq) := below_regrown wo dq osq
          generalize Go.Sort.grow (redrawn wo dq) osq = wq at hq ⊢
          go_wp2_with fail
          go_ret
          exact FIN.out (HBAD.out (edgeOk_false _ _ _ _ (.inr (.inr (.inl k3))))) _ hq
        by_cases k4 : bit al x.letter = true
        case neg =>
          have k4 : bit al x.letter = false := by simpa using k4
          clear hc hn2
          refine wp_region_quiet_below (by kernel_rfl) (by kernel_rfl) ?_
          repeat (go_big_quiet_step (first | (go_at_call 74; exact Grows.quiet (isState_c _ ⟨al, st, es⟩ _ _ (HS.out _ _))) | (go_at_call 75; exact Same.quiet (has_c _ _ _ (by omega) (by omega) (by omega)))))
          refine wpQuiet_nil ?_
          intro _ hw'
          obtain ⟨⟨dq, osq⟩, hw''⟩ := hw'
          subst hw''
          have hq : Ext wo (Go.Sort.grow (redrawn wo dq) osq) := below_regrown wo dq osq
          generalize Go.Sort.grow (redrawn wo dq) osq = wq at hq ⊢
          go_wp2_with fail
          go_ret
          exact FIN.out (HBAD.out (edgeOk_false _ _ _ _ (.inr (.inr (.inr k4))))) _ hq
        have hgood : edgeOk ⟨al, st, es⟩ x = true := edgeOk_true _ _ _ _ k1 k2 (by omega) k4
        have HG := Lib.hid hgood
        clear hgood
        cases k with
        | zero =>
          clear hc hn2
          refine wp_region_quiet_below (by kernel_rfl) (by kernel_rfl) ?_
          repeat (go_big_quiet_step (first | (go_at_call 74; exact Grows.quiet (isState_c _ ⟨al, st, es⟩ _ _ (HS.out _ _))) | (go_at_call 75; exact Same.quiet (has_c _ _ _ (by omega) (by omega) (by omega)))))
          refine wpQuiet_nil ?_
          intro _ hw'
          obtain ⟨⟨dq, osq⟩, hw''⟩ := hw'
          subst hw''
          have hq : Ext wo (Go.Sort.grow (redrawn wo dq) osq) := below_regrown wo dq osq
          generalize Go.Sort.grow (redrawn wo dq) osq = wq at hq ⊢
          go_wp2_with fail
          exact ⟨⟨0 + 1, by omega, by go_num, by show _ = _; rw [range_all_succ, hall.out]; simp only [edgeAt, HX.out, HG.out]; rfl, hwo.trans hq⟩, by simp [intOf]; omega⟩
        | succ j =>
          obtain ⟨y, hy⟩ : ∃ y, es[j]? = some y := ⟨_, List.getElem?_eq_getElem (by omega)⟩
          obtain ⟨p1, p2, p3⟩ := (hc j y hy).mono hwo.peel
          have f1 := fun d os => cell_regrown p1 d os
          have f2 := fun d os => cell_regrown p2 d os
          have f3 := fun d os => cell_regrown p3 d os
          have HY := Lib.hid hy
          have hlt2 := cmpEdges_lt y x
          clear hc hn2 hy p1 p2 p3
          by_cases k5 : 0 ≤ cmpEdges y x
          · have hz : edgeLt y x = false := by simpa [k5] using hlt2.symm
            have HZ := Lib.hid hz
            clear hlt2 hz
            refine wp_region_quiet_below (by kernel_rfl) (by kernel_rfl) ?_
            repeat (go_big_quiet_step (first | (go_at_call 74; exact Grows.quiet (isState_c _ ⟨al, st, es⟩ _ _ (HS.out _ _))) | (go_at_call 75; exact Same.quiet (has_c _ _ _ (by omega) (by omega) (by omega))) | (go_at_call 37; exact Grows.quiet (compareEdges_c y x _))))
            refine wpQuiet_nil ?_
            intro _ hw'
            obtain ⟨⟨dq, osq⟩, hw''⟩ := hw'
            subst hw''
            have hq : Ext wo (Go.Sort.grow (redrawn wo dq) osq) := below_regrown wo dq osq
            generalize Go.Sort.grow (redrawn wo dq) osq = wq at hq ⊢
            go_wp2_with fail
            go_ret
            exact FIN.out (by simp only [edgeAt, HX.out, HY.out, HZ.out, Bool.and_false]) _ hq
          · have hz : edgeLt y x = true := by simpa [k5] using hlt2.symm
            have HZ := Lib.hid hz
            clear hlt2 hz
            refine wp_region_quiet_below (by kernel_rfl) (by kernel_rfl) ?_
            repeat (go_big_quiet_step (first | (go_at_call 74; exact Grows.quiet (isState_c _ ⟨al, st, es⟩ _ _ (HS.out _ _))) | (go_at_call 75; exact Same.quiet (has_c _ _ _ (by omega) (by omega) (by omega))) | (go_at_call 37; exact Grows.quiet (compareEdges_c y x _))))
            refine wpQuiet_nil ?_
            intro _ hw'
            obtain ⟨⟨dq, osq⟩, hw''⟩ := hw'
            subst hw''
            have hq : Ext wo (Go.Sort.grow (redrawn wo dq) osq) := below_regrown wo dq osq
            generalize Go.Sort.grow (redrawn wo dq) osq = wq at hq ⊢
            go_wp2_with fail
            exact ⟨⟨j + 1 + 1, by omega, by go_num, by show _ = _; rw [range_all_succ, hall.out]; simp only [edgeAt, HX.out, HY.out, HZ.out, HG.out]; rfl, hwo.trans hq⟩, by simp [intOf]; omega⟩
      · obtain rfl : k = es.length := by omega
        go_wp2_with fail
        go_ret
        exact Grows.mk (by simp only [sysValid, hA, hall.out]; simp; omega) hext.peel
  · have hA : isAlpha al = false := by simpa using hA
    go_enter Tryz.func31, Tryz.ntmps31
    go_wp2_with (go_at_call 73; refine (isAlphabet_c _ _).mono ?_; rintro e w' ⟨rfl, rfl⟩)
    go_ret
    exact Grows.mk (by simp [sysValid, hA]) (hE _)

end Go.Proofs.YtanekmfifmkbmaaGreatDoor

namespace Go.Proofs.YtanekmfifmkbmaaGreatDoor
set_option linter.unusedSimpArgs false
set_option linter.unusedVariables false
open Go.RowKit

set_option maxHeartbeats 400000

end Go.Proofs.YtanekmfifmkbmaaGreatDoor
