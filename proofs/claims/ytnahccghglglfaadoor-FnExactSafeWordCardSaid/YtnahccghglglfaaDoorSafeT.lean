/- The reference's safe words: l9Start, l9Move, l9Bad, SafeWord. -/
import Derived.Test.YtnahccghglglfaaDoorSafeS
import Derived.Test.YtnahccghglglfaaDoorWordS

namespace Go.Proofs.YtnahccghglglfaaDoor
set_option linter.unusedSimpArgs false
set_option linter.unusedVariables false
open Go.RowKit
set_option maxHeartbeats 4000000
set_option maxRecDepth 100000

/-- A call hands back new sets that hold f. -/
def SetsEnd (n : Nat) (w : World) (f : Sets) (e : Ending) (w' : World) : Prop := ∃ g cap, e = .returned (.slice (some ⟨g, 0, none⟩) n cap) ∧ Ext w w' ∧ SetsOwn w.heap.size n g cap w' f
theorem setsL_zero (n : Nat) : (setsL n fun _ => 0).map (Value.int .i64) = List.replicate n (Value.int .i64 0) := by
  unfold setsL
  induction n with
  | zero => rfl
  | succ n ih => rw [List.range_succ, List.map_append, List.map_append, ih, List.replicate_succ']; rfl
theorem made_sets {w1 : World} {g n b : Nat} (h : w1.ownsRow g 3 1 (.slice (some ⟨g, 0, none⟩) n n) n (madeCells (Value.int .i64 0).cells (n * 1)).toList) {g' : Nat} (hg : g = g') (hb : b ≤ g') : SetsOwn b n g' n w1 (fun _ => 0) := by
  subst hg
  unfold SetsOwn
  rw [setsL_zero]
  refine own_base ?_ hb
  simpa [toList_madeCells_one, Value.cells] using h
theorem startM_upd : updS (fun _ => 0) 0 1 = startM := rfl

theorem l9Start_c (v : Value) (t : Task) (w : World) (hV : TaskV w v t) (ht : taskValid t = true) (hel : t.sys.edges.length ≤ 1048576) :
    Calls Tryd.prog 26 #[v] w (SetsEnd t.prop.next.length w (closeM t startM)) := by
  obtain ⟨hS, hP, hA⟩ := taskValid_facts ht
  have hn12 : t.prop.next.length ≤ 12 := (autoValid_facts hP).2.2.2.1
  have hn1 : 1 ≤ t.prop.next.length := (autoValid_facts hP).2.2.1
  have HSW := Lib.hid (start_within (t := t) hP)
  have HT := Lib.hid ht
  obtain ⟨ve, vn, va, rfl, h1, h2, h3⟩ := hV
  obtain ⟨ae, ce, rfl, -, -⟩ := h1.open
  obtain ⟨an, cn, rfl, -, -⟩ := h2.open
  obtain ⟨aa, ca, rfl, -, -⟩ := h3.open
  have HV := Lib.hid (show ∀ w', Ext w w' → TaskV w' (.agg #[.int .i64 t.sys.alphabet, .int .i64 t.sys.states, .slice ae t.sys.edges.length ce, .int .i64 t.prop.alphabet, .slice an t.prop.next.length cn, .slice aa t.prop.accept.length ca, .int .i64 t.alphabet]) t from fun w' h => ⟨_, _, _, rfl, h1.mono h, h2.mono h, h3.mono h⟩)
  clear h1 h2 h3 ht hS hP hA
  go_enter Tryd.func26, Tryd.ntmps26
  go_wp2_with (at_make; refine make1 rfl rfl Tryd.underlying61 infoInt rfl rfl rfl rfl (by omega) (by decide) (Nat.le_refl _) ?_; intro w1 hown hext hlt; have hs0 := made_sets (b := w.heap.size) (g' := w.heap.size + 1) hown (World.size_alloc _ _) (Nat.le_succ _); have c0 := hs0.cell (p := 0) (by omega); have f0 := hs0.fr 0; have hn0 : (0 : Int) < (t.prop.next.length : Int) := (by omega); have cc0 := hext.blk.cell 0 rfl; have cc1 := hext.blk.cell 1 rfl; have cc2 := hext.blk.cell 2 rfl; have cc3 := hext.blk.cell 3 rfl; have cc4 := hext.blk.cell 4 rfl; have cc5 := hext.blk.cell 5 rfl; have cc6 := hext.blk.cell 6 rfl)
  have hB := hext.blk
  have hx := hext.peel
  rw [World.size_alloc] at hlt
  have hs1 := hs0.set (p := 0) (by omega) 1
  rw [startM_upd] at hs1
  have hx1 := hx.setCell (p := ⟨w.heap.size + 1, 0, none⟩) (by simp only []; omega) (.int .i64 ((1 : Nat) : Int))
  have hB1 := hB.other (p := ⟨w.heap.size + 1, 0, none⟩) (by simp only []; omega) (.int .i64 ((1 : Nat) : Int))
  rw [show ((1 : Nat) : Int) = 1 from rfl] at hs1 hx1 hB1
  generalize w1.setCell ⟨w.heap.size + 1, 0, none⟩ (.int .i64 1) = w2 at hs1 hx1 hB1 ⊢
  refine (l9Close_c _ t startM _ t.prop.next.length _ w w2 (fun w' h => HV.out w' h) HT.out hel (Lib.hid rfl) HSW.out hx1 hs1).mono ?_
  rintro e w3 ⟨rfl, he3, hs3⟩
  go_wp2_with fail
  go_ret
  exact ⟨_, _, rfl, he3, hs3⟩

theorem l9Move_c (v : Value) (t : Task) (f : Sets) (l : Int) (b g0 cap0 : Nat) (w : World) (hV : TaskV w v t) (ht : taskValid t = true) (hel : t.sys.edges.length ≤ 1048576) (hf : Within t f) (hl : 0 ≤ l) (hl6 : l < 6) (hs0 : SetsOwn b t.prop.next.length g0 cap0 w f) :
    Calls Tryd.prog 28 #[v, .slice (some ⟨g0, 0, none⟩) t.prop.next.length cap0, .int .i64 l] w (SetsEnd t.prop.next.length w (closeM t (moveM t f l))) := by
  obtain ⟨hS, hP, hA⟩ := taskValid_facts ht
  have hn12 : t.prop.next.length ≤ 12 := (autoValid_facts hP).2.2.2.1
  have HMW := Lib.hid (move_within hS hP hf l)
  have HLT := Lib.hid (moveTo_lt hS hP hf l)
  have HT := Lib.hid ht
  obtain ⟨al0, al63⟩ := sys_alpha hS
  obtain ⟨ve, vn, va, rfl, h1, h2, h3⟩ := hV
  obtain ⟨ae, ce, rfl, -, -⟩ := h1.open
  obtain ⟨an, cn, rfl, -, -⟩ := h2.open
  obtain ⟨aa, ca, rfl, -, -⟩ := h3.open
  have HV := Lib.hid (show ∀ w', Ext w w' → TaskV w' (.agg #[.int .i64 t.sys.alphabet, .int .i64 t.sys.states, .slice ae t.sys.edges.length ce, .int .i64 t.prop.alphabet, .slice an t.prop.next.length cn, .slice aa t.prop.accept.length ca, .int .i64 t.alphabet]) t from fun w' h => ⟨_, _, _, rfl, h1.mono h, h2.mono h, h3.mono h⟩)
  have HSY := Lib.hid (show ∀ w', Ext w w' → SysV w' (.agg #[.int .i64 t.sys.alphabet, .int .i64 t.sys.states, .slice ae t.sys.edges.length ce]) t.sys from fun w' h => ⟨_, rfl, h1.mono h⟩)
  have HAU := Lib.hid (show ∀ w', Ext w w' → AutoV w' (.agg #[.int .i64 t.prop.alphabet, .slice an t.prop.next.length cn, .slice aa t.prop.accept.length ca]) t.prop from fun w' h => ⟨_, _, rfl, h2.mono h, h3.mono h⟩)
  have HS0 := Lib.hid hs0
  clear h1 h2 h3 ht hA hs0
  go_enter Tryd.func28, Tryd.ntmps28
  go_wp2_with (at_make; refine make1 rfl rfl Tryd.underlying61 infoInt rfl rfl rfl rfl (by omega) (by decide) (Nat.le_refl _) ?_; intro w1 hown hext hlt; have hs0 := made_sets (b := w.heap.size) (g' := w.heap.size + 1) hown (World.size_alloc _ _) (Nat.le_succ _))
  have hB := hext.blk
  have hx := hext.peel
  clear hext hown hlt
  go_loopw [8] (fun i wr => ∃ k : Nat, k ≤ t.prop.next.length ∧ i = .int .i64 k ∧ SetsOwn w.heap.size t.prop.next.length (w.heap.size + 1) t.prop.next.length wr (moveTo t f l k) ∧ Blk wr w.heap.size #[.int .i64 t.sys.alphabet, .int .i64 t.sys.states, .slice ae t.sys.edges.length ce, .int .i64 t.prop.alphabet, .slice an t.prop.next.length cn, .slice aa t.prop.accept.length ca, .int .i64 t.alphabet] 38 ∧ Ext w wr) (fun i _ => t.prop.next.length - (intOf i).toNat)
  case atStart => exact ⟨0, by omega, rfl, hs0, hB, hx⟩
  case round =>
    clear hs0 hB hx
    obtain ⟨k, hk, rfl, hs, hB, he⟩ := hrel
    by_cases hkn : k < t.prop.next.length
    · have hfs := HS0.out.ext he
      have ck := hfs.cell hkn
      have hfk : f k < 65536 := lt_of_bits fun q hq => (hf k q hq).2
      have hmo := movedOne_lt hS hf l k
      have hup := Lib.hid (moveTo_upd t f l k)
      have hnx := step_lt hP hkn l
      have hold := HLT.out k (step t.prop k l)
      have CG := Lib.hid (fun w' (h : Ext w w') => l3Go_c _ t.prop k l w' (HAU.out _ h) hP hkn hl hl6)
      have CST := Lib.hid (fun w' (h : Ext w w') => l2Step_c _ t.sys (f k) l w' (HSY.out _ h) hS hel hfk)
      obtain ⟨nx, hnxe⟩ : ∃ nx, step t.prop k l = nx := ⟨_, rfl⟩
      rw [hnxe] at hup hnx hold CG
      have cnx := hs.cell hnx
      have fnx := hs.fr nx
      obtain ⟨mo, hmoe⟩ : ∃ mo, movedOne t f l k = mo := ⟨_, rfl⟩
      have HMO := Lib.hid hmoe
      rw [hmoe] at hup hmo
      obtain ⟨y, hye⟩ : ∃ y, moveTo t f l k nx = y := ⟨_, rfl⟩
      rw [hye] at hup hold cnx
      have hor := i64_or_nat y mo (by omega) (by omega)
      have hkn2 : (k : Int) < (t.prop.next.length : Int) := by omega
      have hnx2 : (nx : Int) < (t.prop.next.length : Int) := by omega
      have HH := Lib.hid (fun w' => l1Has_c t.sys.alphabet l w' al0 (by omega) (by omega) (by omega))
      have cc0 := hB.cell 0 rfl; have cc1 := hB.cell 1 rfl; have cc2 := hB.cell 2 rfl; have cc3 := hB.cell 3 rfl; have cc4 := hB.cell 4 rfl; have cc5 := hB.cell 5 rfl; have cc6 := hB.cell 6 rfl
      clear hnxe hmoe hye
      by_cases hb : bit t.sys.alphabet l = true
      · have hmo2 := HMO.out
        unfold movedOne at hmo2
        rw [if_pos hb] at hmo2
        rw [hmo2] at CST
        rw [hb] at HH
        clear hmo2
        go_wp2_with (first | (go_at_call 65; refine (HH.out _).mono ?_; rintro e w' ⟨rfl, rfl⟩))
        refine (CST.out _ he).mono ?_
        rintro e w3 ⟨rfl, he3⟩
        replace he := he.trans he3
        replace hB := hB.ext he3
        replace hs := hs.ext he3
        clear cc0 cc1 cc2 cc3 cc4 cc5 cc6
        have cc0 := hB.cell 0 rfl; have cc1 := hB.cell 1 rfl; have cc2 := hB.cell 2 rfl; have cc3 := hB.cell 3 rfl; have cc4 := hB.cell 4 rfl; have cc5 := hB.cell 5 rfl; have cc6 := hB.cell 6 rfl
        go_wp2_with fail
        refine (CG.out _ he).mono ?_
        rintro e w4 ⟨rfl, he4⟩
        replace he := he.trans he4
        replace hB := hB.ext he4
        replace hs := hs.ext he4
        replace cnx := (he3.trans he4).cell cnx
        have fnx := hs.fr nx
        have hs9 := hs.set hnx (y ||| mo)
        have hB9 := hB.other (p := ⟨w.heap.size + 1, nx, none⟩) (by simp only []; omega) (.int .i64 ((y ||| mo : Nat) : Int))
        have he9 := he.setCell (p := ⟨w.heap.size + 1, nx, none⟩) (by simp only []; omega) (.int .i64 ((y ||| mo : Nat) : Int))
        clear cc0 cc1 cc2 cc3 cc4 cc5 cc6 ck
        go_wp2_with fail
        exact ⟨⟨k + 1, by omega, by go_num, by rw [hup.out]; exact hs9, hB9, he9⟩, by simp [intOf]; omega⟩
      · have hmo2 := HMO.out
        unfold movedOne at hmo2
        rw [if_neg hb] at hmo2
        have hb' : bit t.sys.alphabet l = false := by simpa using hb
        rw [hmo2] at ck
        rw [hb'] at HH
        clear hmo2
        go_wp2_with (first | (go_at_call 65; refine (HH.out _).mono ?_; rintro e w' ⟨rfl, rfl⟩))
        refine (CG.out _ he).mono ?_
        rintro e w4 ⟨rfl, he4⟩
        replace he := he.trans he4
        replace hB := hB.ext he4
        replace hs := hs.ext he4
        replace cnx := he4.cell cnx
        have fnx := hs.fr nx
        have hs9 := hs.set hnx (y ||| mo)
        have hB9 := hB.other (p := ⟨w.heap.size + 1, nx, none⟩) (by simp only []; omega) (.int .i64 ((y ||| mo : Nat) : Int))
        have he9 := he.setCell (p := ⟨w.heap.size + 1, nx, none⟩) (by simp only []; omega) (.int .i64 ((y ||| mo : Nat) : Int))
        clear cc0 cc1 cc2 cc3 cc4 cc5 cc6 ck
        go_wp2_with fail
        exact ⟨⟨k + 1, by omega, by go_num, by rw [hup.out]; exact hs9, hB9, he9⟩, by simp [intOf]; omega⟩
    · obtain rfl : k = t.prop.next.length := by omega
      rw [show moveTo t f l t.prop.next.length = moveM t f l from rfl] at hs
      have cc0 := hB.cell 0 rfl; have cc1 := hB.cell 1 rfl; have cc2 := hB.cell 2 rfl; have cc3 := hB.cell 3 rfl; have cc4 := hB.cell 4 rfl; have cc5 := hB.cell 5 rfl; have cc6 := hB.cell 6 rfl
      go_wp2_with fail
      refine (l9Close_c _ t (moveM t f l) _ t.prop.next.length _ w wr (fun w' h => HV.out w' h) HT.out hel (Lib.hid rfl) HMW.out he hs).mono ?_
      rintro e w3 ⟨rfl, he3, hs3⟩
      go_wp2_with fail
      go_ret
      exact ⟨_, _, rfl, he3, hs3⟩

theorem badM_no {t : Task} {f : Sets} (h : ∀ p, p < t.prop.next.length → f p ≠ 0 → accepts t.prop p = true) : badM t f = false := by
  unfold badM
  rw [List.any_eq_false]
  intro p hp
  rw [List.mem_range] at hp
  by_cases h0 : f p = 0
  · simp [h0]
  · simp [h p hp h0]
theorem badM_yes {t : Task} {f : Sets} {p : Nat} (hp : p < t.prop.next.length) (h0 : f p ≠ 0) (h : accepts t.prop p = false) : badM t f = true := by
  unfold badM
  rw [List.any_eq_true]
  exact ⟨p, List.mem_range.2 hp, by simp [h0, h]⟩

theorem l9Bad_c (v : Value) (t : Task) (f : Sets) (b g0 cap0 : Nat) (w : World) (hV : TaskV w v t) (ht : taskValid t = true) (hf : Within t f) (hs0 : SetsOwn b t.prop.next.length g0 cap0 w f) :
    Calls Tryd.prog 27 #[v, .slice (some ⟨g0, 0, none⟩) t.prop.next.length cap0] w (Grows (.bool (badM t f)) w) := by
  obtain ⟨hS, hP, hA⟩ := taskValid_facts ht
  obtain ⟨-, -, hn0, hn12, hal⟩ := autoValid_facts hP
  obtain ⟨ve, vn, va, rfl, h1, h2, h3⟩ := hV
  obtain ⟨ae, ce, rfl, -, -⟩ := h1.open
  obtain ⟨an, cn, rfl, -, -⟩ := h2.open
  obtain ⟨aa, ca, rfl, -, hacc⟩ := h3.open
  have HAC := Lib.hid hacc
  have HS0 := Lib.hid hs0
  have HAL := Lib.hid hal
  clear h1 h2 h3 ht hA hs0 hacc hal
  obtain ⟨wo, hwo⟩ : ∃ wo, wo = w.alloc (.cells #[.int .i64 t.sys.alphabet, .int .i64 t.sys.states, .slice ae t.sys.edges.length ce, .int .i64 t.prop.alphabet, .slice an t.prop.next.length cn, .slice aa t.prop.accept.length ca, .int .i64 t.alphabet] 38) := ⟨_, rfl⟩
  have he : Ext w wo := by rw [hwo]; exact Ext.alloc _ _
  have hB : Blk wo w.heap.size #[.int .i64 t.sys.alphabet, .int .i64 t.sys.states, .slice ae t.sys.edges.length ce, .int .i64 t.prop.alphabet, .slice an t.prop.next.length cn, .slice aa t.prop.accept.length ca, .int .i64 t.alphabet] 38 := by rw [hwo]; exact Blk.new _ _ _
  have c5 := hB.cell 5 rfl
  go_enter Tryd.func27, Tryd.ntmps27
  go_wp2_with fail
  rw [← hwo]
  clear hwo hB
  go_loopw [5, 18, 19, 20, 21, 22, 23, 24] (fun i _ _ _ _ _ _ _ wr => ∃ k : Nat, k ≤ t.prop.next.length ∧ i = .int .i64 k ∧ Hid (∀ p, p < k → f p ≠ 0 → accepts t.prop p = true) ∧ wo = wr) (fun i _ _ _ _ _ _ _ _ => t.prop.next.length - (intOf i).toNat)
  case atStart => exact ⟨0, by omega, rfl, Lib.hid (fun p hp => by omega), rfl⟩
  case round =>
    obtain ⟨k, hk, rfl, HA, rfl⟩ := hrel
    by_cases hkn : k < t.prop.next.length
    · have ck := (HS0.out.ext he).cell hkn
      have hkn2 : (k : Int) < (t.prop.next.length : Int) := by omega
      have hka : (k : Int) < (t.prop.accept.length : Int) := by have := HAL.out; omega
      have hat := accepts_at hP hkn
      obtain ⟨ba, offa, rfl, -, hc⟩ := HAC.out _ _ hat
      have hc := he.cell (hc _ _ hat)
      rw [Nat.mul_one] at hc
      by_cases h0 : f k = 0
      · have HN : Hid (∀ p, p < k + 1 → f p ≠ 0 → accepts t.prop p = true) := Lib.hid fun p hp hp0 => by
          rcases Nat.lt_or_ge p k with h | h
          · exact HA.out p h hp0
          · obtain rfl : p = k := by omega
            exact absurd h0 hp0
        rw [h0] at ck
        clear h0 hat
        go_wp2_with fail
        exact ⟨⟨k + 1, by omega, by go_num, HN, by first | rfl | trivial⟩, by simp [intOf]; omega⟩
      · have hne : ((f k : Int) != 0) = true := by simp; exact h0
        cases hac : accepts t.prop k with
        | true =>
          rw [hac] at hc
          have HN : Hid (∀ p, p < k + 1 → f p ≠ 0 → accepts t.prop p = true) := Lib.hid fun p hp hp0 => by
            rcases Nat.lt_or_ge p k with h | h
            · exact HA.out p h hp0
            · obtain rfl : p = k := by omega
              exact hac
          clear h0 hat hac
          go_wp2_with fail
          exact ⟨⟨k + 1, by omega, by go_num, HN, by first | rfl | trivial⟩, by simp [intOf]; omega⟩
        | false =>
          rw [hac] at hc
          have HF := Lib.hid (badM_yes hkn h0 hac)
          clear h0 hat hac
          go_wp2_with fail
          go_ret
          exact Grows.mk (by rw [HF.out]; rfl) he
    · obtain rfl : k = t.prop.next.length := by omega
      have HF := Lib.hid (badM_no HA.out)
      go_wp2_with fail
      go_ret
      exact Grows.mk (by rw [HF.out]; rfl) he

theorem safeFrom_nil (t : Task) (f : Sets) : safeFrom t f [] = !badM t f := rfl
theorem safeFrom_bad {t : Task} {f : Sets} (h : badM t f = true) (u : List Int) : safeFrom t f u = false := by
  cases u with
  | nil => rw [safeFrom_nil, h]; rfl
  | cons l u => show (if badM t f then false else _) = false; rw [h]; rfl
theorem safeFrom_step {t : Task} {f : Sets} (h : badM t f = false) (l : Int) (u : List Int) : safeFrom t f (l :: u) = safeFrom t (closeM t (moveM t f l)) u := by
  show (if badM t f then false else _) = _; rw [h]; rfl
theorem drop_chars {s : ByteArray} {k : Nat} (h : k < s.size) : (chars s).drop k = chAt s k :: (chars s).drop (k + 1) := by
  have hk : k < (chars s).length := by rw [chars_len]; exact h
  rw [List.drop_eq_getElem_cons hk]
  have := chars_at s k h
  rw [List.getElem?_eq_getElem hk] at this
  injection this with this
  rw [this]

theorem SafeWord_s (v : Value) (t : Task) (s : ByteArray) (w : World) (hV : TaskV w v t) (hs : s.size ≤ 1048576) (hel : t.sys.edges.length ≤ 1048576) :
    Calls Tryd.prog 8 #[v, .string s] w (Grows (.bool (safeWord t s)) w) := by
  obtain ⟨ve, vn, va, rfl, h1, h2, h3⟩ := hV
  obtain ⟨ae, ce, rfl, -, -⟩ := h1.open
  obtain ⟨an, cn, rfl, -, -⟩ := h2.open
  obtain ⟨aa, ca, rfl, -, -⟩ := h3.open
  have HV := Lib.hid (show ∀ w', Ext w w' → TaskV w' (.agg #[.int .i64 t.sys.alphabet, .int .i64 t.sys.states, .slice ae t.sys.edges.length ce, .int .i64 t.prop.alphabet, .slice an t.prop.next.length cn, .slice aa t.prop.accept.length ca, .int .i64 t.alphabet]) t from fun w' h => ⟨_, _, _, rfl, h1.mono h, h2.mono h, h3.mono h⟩)
  clear h1 h2 h3
  have HWW := Lib.hid (fun w' => WordWithin_s s t.alphabet w' hs)
  have HTV := Lib.hid (fun w' (h : Ext w w') => TaskValid_s _ t w' (HV.out w' h))
  by_cases ht : taskValid t = true
  case neg =>
    have ht : taskValid t = false := by simpa using ht
    rw [ht] at HTV
    go_enter Tryd.func8, Tryd.ntmps8
    go_wp2_with fail
    refine (HTV.out _ (Ext.alloc _ _)).mono ?_
    rintro e w1 ⟨rfl, he1⟩
    go_wp2_with fail
    go_ret
    exact Grows.mk (by unfold safeWord; rw [ht]; rfl) he1.peel
  rw [ht] at HTV
  by_cases hw : wordIn s t.alphabet = true
  case neg =>
    have hw : wordIn s t.alphabet = false := by simpa using hw
    rw [hw] at HWW
    go_enter Tryd.func8, Tryd.ntmps8
    go_wp2_with fail
    refine (HTV.out _ (Ext.alloc _ _)).mono ?_
    rintro e w1 ⟨rfl, he1⟩
    have c6 := he1.blk.cell 6 rfl
    go_wp2_with (go_at_call 25; refine (HWW.out _).mono ?_; rintro e w' ⟨rfl, rfl⟩)
    go_ret
    exact Grows.mk (by unfold safeWord; rw [ht, hw]; rfl) he1.peel
  rw [hw] at HWW
  obtain ⟨hS, hP, hA⟩ := taskValid_facts ht
  have HSW := Lib.hid (startC_within hS hP)
  have HAF := Lib.hid (fun f (h : Within t f) l => afterM_within hS hP h l)
  have HFW : Hid (safeWord t s = safeFrom t (closeM t startM) ((chars s).drop 0)) := Lib.hid (by unfold safeWord; rw [ht, hw]; rfl)
  have HLW := Lib.hid (fun i (h : i < s.size) => wordIn_at hw h)
  have ha63 := (alpha_facts hA).2
  have HT := Lib.hid ht
  clear ht hw hS hP hA
  go_enter Tryd.func8, Tryd.ntmps8
  go_wp2_with fail
  refine (HTV.out _ (Ext.alloc _ _)).mono ?_
  rintro e w1 ⟨rfl, he1⟩
  have hB := he1.blk
  have hx := he1.peel
  clear he1
  have cc0 := hB.cell 0 rfl; have cc1 := hB.cell 1 rfl; have cc2 := hB.cell 2 rfl; have cc3 := hB.cell 3 rfl; have cc4 := hB.cell 4 rfl; have cc5 := hB.cell 5 rfl; have cc6 := hB.cell 6 rfl
  go_wp2_with (go_at_call 25; refine (HWW.out _).mono ?_; rintro e w' ⟨rfl, rfl⟩)
  refine (l9Start_c _ t _ (HV.out _ hx) HT.out hel).mono ?_
  rintro e w2 ⟨g0, cap0, rfl, he2, hs2⟩
  replace hB := hB.ext he2
  replace hs2 := own_base hs2 hx.size
  replace hx := hx.trans he2
  clear cc0 cc1 cc2 cc3 cc4 cc5 cc6 he2
  go_wp2_with fail
  go_loopw [5, 6, 24, 25, 26, 27] (fun vs i _ _ _ _ wr => ∃ (k : Nat) (f : Sets) (g cap : Nat), k ≤ s.size ∧ i = .int .i64 k ∧ vs = .slice (some ⟨g, 0, none⟩) t.prop.next.length cap ∧ SetsOwn w.heap.size t.prop.next.length g cap wr f ∧ Hid (Within t f) ∧ Hid (safeWord t s = safeFrom t f ((chars s).drop k)) ∧ Blk wr w.heap.size #[.int .i64 t.sys.alphabet, .int .i64 t.sys.states, .slice ae t.sys.edges.length ce, .int .i64 t.prop.alphabet, .slice an t.prop.next.length cn, .slice aa t.prop.accept.length ca, .int .i64 t.alphabet] 38 ∧ Ext w wr) (fun _ i _ _ _ _ _ => s.size - (intOf i).toNat)
  case atStart => exact ⟨0, _, g0, cap0, by omega, rfl, rfl, hs2, HSW, HFW, hB, hx⟩
  case round =>
    clear hs2 HFW hB hx
    obtain ⟨k, f, g, cap, hk, rfl, rfl, hs2, HF, HFW, hB, hx⟩ := hrel
    have CB := Lib.hid (fun w' (h : Ext wr w') => l9Bad_c _ t f _ g cap w' (HV.out _ (hx.trans h)) HT.out HF.out (hs2.ext h))
    have cc0 := hB.cell 0 rfl; have cc1 := hB.cell 1 rfl; have cc2 := hB.cell 2 rfl; have cc3 := hB.cell 3 rfl; have cc4 := hB.cell 4 rfl; have cc5 := hB.cell 5 rfl; have cc6 := hB.cell 6 rfl
    cases hbad : badM t f with
    | true =>
      have HR := Lib.hid (safeFrom_bad hbad ((chars s).drop k))
      rw [hbad] at CB
      clear hbad
      by_cases hlt : k < s.size
      · go_wp2_with fail
        refine (CB.out _ (Ext.refl _)).mono ?_
        rintro e w3 ⟨rfl, he3⟩
        have hB3 := hB.ext he3
        clear cc0 cc1 cc2 cc3 cc4 cc5 cc6
        have cc0 := hB3.cell 0 rfl; have cc1 := hB3.cell 1 rfl; have cc2 := hB3.cell 2 rfl; have cc3 := hB3.cell 3 rfl; have cc4 := hB3.cell 4 rfl; have cc5 := hB3.cell 5 rfl; have cc6 := hB3.cell 6 rfl
        go_wp2_with fail
        refine (CB.out _ he3).mono ?_
        rintro e w4 ⟨rfl, he4⟩
        go_wp2_with fail
        go_ret
        exact Grows.mk (by rw [HFW.out, HR.out]; rfl) (hx.trans (he3.trans he4))
      · obtain rfl : k = s.size := by omega
        go_wp2_with fail
        refine (CB.out _ (Ext.refl _)).mono ?_
        rintro e w4 ⟨rfl, he4⟩
        go_wp2_with fail
        go_ret
        exact Grows.mk (by rw [HFW.out, HR.out]; rfl) (hx.trans he4)
    | false =>
      rw [hbad] at CB
      have HBD := Lib.hid hbad
      clear hbad
      by_cases hlt : k < s.size
      · have HD := Lib.hid (drop_chars hlt)
        obtain ⟨l0, l6⟩ := bit_range ha63 (HLW.out k hlt)
        go_wp2_with fail
        refine (CB.out _ (Ext.refl _)).mono ?_
        rintro e w3 ⟨rfl, he3⟩
        replace hB := hB.ext he3
        replace hs2 := hs2.ext he3
        replace hx := hx.trans he3
        clear cc0 cc1 cc2 cc3 cc4 cc5 cc6 CB he3
        go_wp2_with fail
        have D0 := fun d os => cell_regrown (hB.cell 0 rfl) d os; have D1 := fun d os => cell_regrown (hB.cell 1 rfl) d os; have D2 := fun d os => cell_regrown (hB.cell 2 rfl) d os; have D3 := fun d os => cell_regrown (hB.cell 3 rfl) d os; have D4 := fun d os => cell_regrown (hB.cell 4 rfl) d os; have D5 := fun d os => cell_regrown (hB.cell 5 rfl) d os; have D6 := fun d os => cell_regrown (hB.cell 6 rfl) d os
        obtain ⟨Kc, HKc⟩ : ∃ Kc : FuncId → Array Value → World → Value → World → Prop, Hid (Kc = fun (fn : FuncId) (_ : Array Value) (w0 : World) (v : Value) (w' : World) => Ext w0 w' ∧ (fn = 29 → v = .int .i64 (chAt s k)) ∧ (fn = 28 → ∃ g cap, v = .slice (some ⟨g, 0, none⟩) t.prop.next.length cap ∧ SetsOwn w0.heap.size t.prop.next.length g cap w' (closeM t (moveM t f (chAt s k))))) := ⟨_, rfl⟩
        refine wp_region_ext (Kc := Kc) 6 (by kernel_rfl) (by kernel_rfl) ?_
        simp only [List.take_succ_cons, List.take_zero]
        repeat (refine WalkE.pure rfl (fun K hK => ?_); simp only [PureDo]; go_simp; refine hK _ ?_; clear hK K)
        refine WalkE.step (fun K hK wc hwc hdc => ?_)
        simp only [OpDo, OpSafe, OpOut]
        go_simp
        refine ⟨(l1At_c s k wc hlt (by omega)).mono ?_, ?_⟩
        · rintro e w' ⟨rfl, rfl⟩
          exact ⟨_, rfl, by rw [HKc.out]; exact ⟨Ext.refl _, fun _ => rfl, fun h => absurd h (by decide)⟩⟩
        intro u4 w4 hk4
        rw [HKc.out] at hk4
        obtain ⟨hk4, hv4, -⟩ := hk4
        obtain rfl := hv4 rfl
        refine ⟨hk4, hK _ _ ?_⟩
        clear hK K hdc hk4
        repeat (refine WalkE.pure rfl (fun K hK => ?_); simp only [PureDo]; go_simp; refine hK _ ?_; clear hK K)
        refine WalkE.step (fun K hK wd hwd hdd => ?_)
        simp only [OpDo, OpSafe, OpOut]
        go_simp
        have hxd := hx.trans ((Ext.drew _).trans hwd)
        refine ⟨(l9Move_c _ t f (chAt s k) _ g cap wd (HV.out _ hxd) HT.out hel HF.out l0 l6 (hs2.ext ((Ext.drew _).trans hwd))).mono ?_, ?_⟩
        · rintro e w' ⟨g', cap', rfl, he', hs'⟩
          exact ⟨_, rfl, by rw [HKc.out]; exact ⟨he', fun h => absurd h (by decide), fun _ => ⟨g', cap', rfl, hs'⟩⟩⟩
        intro u5 w5 hk5
        rw [HKc.out] at hk5
        obtain ⟨hk5, -, hv5⟩ := hk5
        obtain ⟨g', cap', rfl, hs5⟩ := hv5 rfl
        refine ⟨hk5, hK _ _ ?_⟩
        clear hK K hdd
        repeat (refine WalkE.pure rfl (fun K hK => ?_); simp only [PureDo]; go_simp; refine hK _ ?_; clear hK K)
        refine WalkE.nil (fun wn hwn hmn => ?_)
        simp only [List.drop_succ_cons, List.drop_zero, List.drop_nil]
        have e5 : Ext w5 wn := hmn 5 (by omega)
        have hs6 := own_base (SetsOwn.ext hs5 e5) hxd.size
        have hB6 := hB.ext ((Ext.drew _).trans hwn)
        have hx6 := hx.trans ((Ext.drew _).trans hwn)
        have HN : Hid (safeWord t s = safeFrom t (closeM t (moveM t f (chAt s k))) ((chars s).drop (k + 1))) := Lib.hid (by rw [HFW.out, HD.out, safeFrom_step HBD.out])
        clear hmn HKc D0 D1 D2 D3 D4 D5 D6 hwn hwc hwd hk5 hs5 e5
        go_wp2_with fail
        exact ⟨⟨k + 1, _, g', cap', by omega, by go_num, rfl, hs6, Lib.hid (HAF.out f HF.out _), HN, hB6, hx6⟩, by simp [intOf]; omega⟩
      · obtain rfl : k = s.size := by omega
        have HR : Hid (safeFrom t f ((chars s).drop s.size) = true) := Lib.hid (by rw [List.drop_eq_nil_iff.2 (by rw [chars_len]; exact Nat.le_refl _), safeFrom_nil, HBD.out]; rfl)
        go_wp2_with fail
        refine (CB.out _ (Ext.refl _)).mono ?_
        rintro e w4 ⟨rfl, he4⟩
        go_wp2_with fail
        go_ret
        exact Grows.mk (by rw [HFW.out, HR.out]; rfl) (hx.trans he4)
end Go.Proofs.YtnahccghglglfaaDoor
