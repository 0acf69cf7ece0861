/- Part of this seat's proofs, cut to what its law needs. -/

import Derived.Test.YtanekmfifmkbmaaGreatDoorWalkK
import Derived.Test.YtanekmfifmkbmaaGreatDoorWalkR
import Derived.Test.YtanekmfifmkbmaaGreatDoorPlainE
import Derived.Test.YtanekmfifmkbmaaGreatDoorSubS
import Derived.Test.YtanekmfifmkbmaaGreatDoorWalkH
import Derived.Test.YtanekmfifmkbmaaGreatDoorWalkSI

namespace Go.Proofs.YtanekmfifmkbmaaGreatDoor
set_option linter.unusedSimpArgs false
set_option linter.unusedVariables false
open Go.RowKit
set_option maxHeartbeats 1000000
set_option maxRecDepth 100000

def alphaOf (ls : List Int) : Nat := ls.foldl (fun n l => n ||| 2 ^ l.toNat) 0
theorem alphaOf_bit (ls : List Int) (i : Nat) : (alphaOf ls).testBit i = true ↔ ∃ l ∈ ls, l.toNat = i := by
  have : ∀ (ls : List Int) (n : Nat), (ls.foldl (fun n l => n ||| 2 ^ l.toNat) n).testBit i = true ↔ n.testBit i = true ∨ ∃ l ∈ ls, l.toNat = i := by
    intro ls
    induction ls with
    | nil => intro n; simp
    | cons l ls ih =>
      intro n
      rw [List.foldl_cons, ih, Nat.testBit_or, Bool.or_eq_true, Nat.testBit_two_pow, decide_eq_true_eq]
      simp only [List.mem_cons, exists_eq_or_imp, or_assoc]
  unfold alphaOf; rw [this]; simp
theorem alphaOf_lt {ls : List Int} (h : ∀ l ∈ ls, 0 ≤ l ∧ l < 6) : alphaOf ls < 64 := by
  show alphaOf ls < 2 ^ 6
  refine Nat.lt_pow_two_of_testBit _ fun i hi => ?_
  rw [Bool.eq_false_iff]
  intro hb
  obtain ⟨l, hl, rfl⟩ := (alphaOf_bit ls i).1 hb
  have := h l hl; omega
theorem alphaOf_take {ls : List Int} {k : Nat} {l : Int} (h : ls[k]? = some l) : alphaOf (ls.take (k + 1)) = alphaOf (ls.take k) ||| 2 ^ l.toNat := by
  unfold alphaOf; rw [List.take_add_one, h, List.foldl_append]; rfl
theorem alphaOf_in {ls : List Int} {a : Int} (h : ∀ l ∈ ls, 0 ≤ l ∧ l < 6) (ha : 0 ≤ a) (ha2 : a ≤ 63) : (bits .and .i64 (alphaOf ls : Int) a == (alphaOf ls : Int)) = ls.all (bit a) := by
  obtain ⟨n, rfl⟩ := Int.eq_ofNat_of_zero_le ha
  have hl := alphaOf_lt h
  rw [i64_and_nat _ n (by omega) (by omega), Bool.eq_iff_iff, beq_iff_eq, List.all_eq_true]
  constructor
  · intro e l hl
    have e' : alphaOf ls &&& n = alphaOf ls := by omega
    have h0 := h l hl
    have h1 := congrArg (fun m => m.testBit l.toNat) e'
    simp only [Nat.testBit_and] at h1
    rw [(alphaOf_bit ls l.toNat).2 ⟨l, hl, rfl⟩, Bool.true_and] at h1
    rw [bit_nonneg h0.1]; exact h1
  · intro hin
    have : alphaOf ls &&& n = alphaOf ls := by
      refine Nat.eq_of_testBit_eq fun i => ?_
      rw [Nat.testBit_and]
      cases hb : (alphaOf ls).testBit i with
      | false => rfl
      | true =>
        obtain ⟨l, hl, rfl⟩ := (alphaOf_bit ls i).1 hb
        have h1 := hin l hl
        rw [bit_nonneg (h l hl).1] at h1
        rw [Bool.true_and]; exact h1
    omega

theorem AlphabetOf_s (s : ByteArray) (w : World) (hs : s.size ≤ 1048576) : Calls Tryz.prog 202 #[.string s] w (Same (.tuple #[.int .i64 (if wordValid s then (alphaOf (chars s) : Nat) else 0 : Int), .bool (wordValid s)]) w) := by
  by_cases hw : wordValid s = true
  case neg =>
    have hw : wordValid s = false := by simpa using hw
    go_enter Tryz.func202, Tryz.ntmps202
    go_wp2_with (go_at_call 207; refine (WordValid_s s _ hs).mono ?_; rintro e w' ⟨rfl, rfl⟩; rw [hw])
    go_ret2
    exact Same.mk rfl
  have HL := Lib.hid (fun i (h : i < s.size) => wordValid_at hw h)
  have HLT := Lib.hid (fun k => alphaOf_lt (ls := (chars s).take k) fun l hl => by
    obtain ⟨i, hi, e⟩ := List.getElem_of_mem (List.mem_of_mem_take hl)
    have hi' : i < s.size := by rw [← chars_len]; exact hi
    have := chars_at s i hi'
    rw [List.getElem?_eq_getElem hi, e] at this
    cases this
    exact wordValid_at hw hi')
  have HW := Lib.hid hw
  go_enter Tryz.func202, Tryz.ntmps202
  go_wp2_with (go_at_call 207; refine (WordValid_s s _ hs).mono ?_; rintro e w' ⟨rfl, rfl⟩; rw [hw])
  go_loopw [4, 5] (fun n i wr => ∃ k : Nat, k ≤ s.size ∧ i = .int .i64 k ∧ n = .int .i64 (alphaOf ((chars s).take k) : Nat) ∧ w = wr) (fun _ i _ => s.size - (intOf i).toNat)
  case atStart => exact ⟨0, by omega, rfl, rfl, rfl⟩
  case round =>
    obtain ⟨k, hk, rfl, rfl, rfl⟩ := hrel
    have hlt64 := HLT.out k
    by_cases hlt : k < s.size
    · have HR := Lib.hid (alphaOf_take (chars_at s k hlt))
      obtain ⟨hl0, hl6⟩ := HL.out k hlt
      obtain ⟨c, hc⟩ := Int.eq_ofNat_of_zero_le hl0
      rw [hc] at hl6
      have HC := Lib.hid hc
      have HB := Lib.hid (l1Bit_c c w (by omega))
      have HA := Lib.hid (l1At_c s k w hlt (by omega))
      rw [hc] at HA
      rw [hc, Int.toNat_natCast] at HR
      obtain ⟨m, hm⟩ : ∃ m, alphaOf ((chars s).take k) = m := ⟨_, rfl⟩
      rw [hm] at HR hlt64 ⊢
      obtain ⟨P, hP⟩ : ∃ P, 2 ^ c = P := ⟨_, rfl⟩
      have hP64 : P < 64 := by
        rw [← hP]
        have := Nat.pow_lt_pow_right (a := 2) (by omega) (show c < 6 by omega)
        omega
      rw [hP] at HB HR
      have hor := i64_or_nat m P (by omega) (by omega)
      clear hc hl0 hm hP
      go_wp2_with (first | (go_at_call 174; refine HA.out.mono ?_; rintro e w' ⟨rfl, rfl⟩) | (go_at_call 177; refine HB.out.mono ?_; rintro e w' ⟨rfl, rfl⟩))
      exact ⟨⟨k + 1, by omega, by go_num, by rw [HR.out], by first | rfl | trivial⟩, by simp [intOf]; omega⟩
    · obtain rfl : k = s.size := by omega
      go_wp2_with fail
      go_ret2
      refine Same.mk ?_
      rw [← chars_len, List.take_length]; rfl

theorem WordWithin_s (s : ByteArray) (a : Int) (w : World) (hs : s.size ≤ 1048576) : Calls Tryz.prog 191 #[.string s, .int .i64 a] w (Same (.bool (wordIn s a)) w) := by
  have HA := Lib.hid (AlphabetOf_s s w hs)
  by_cases hw : wordValid s = true
  case neg =>
    have hw : wordValid s = false := by simpa using hw
    rw [hw] at HA
    have hno : wordIn s a = false := by
      rw [Bool.eq_false_iff]
      intro h
      have h' := h
      simp only [wordIn, Bool.and_eq_true, decide_eq_true_eq, List.all_eq_true] at h'
      have : wordValid s = true := by
        unfold wordValid wordIn
        simp only [Bool.and_eq_true, decide_eq_true_eq, List.all_eq_true]
        refine ⟨⟨by decide, h'.1.2⟩, fun x hx => ?_⟩
        have ha : a ≤ 63 := by have := h'.1.1; simp [isAlpha] at this; omega
        obtain ⟨h1, h2⟩ := bit_range ha (h'.2 x hx)
        rw [bit63]; simp [h1, h2]
      rw [hw] at this; cases this
    rw [hno]
    go_enter Tryz.func191, Tryz.ntmps191
    go_wp2_with (go_at_call 202; refine HA.out.mono ?_; rintro e w' ⟨rfl, rfl⟩)
    go_ret
    exact Same.mk rfl
  rw [hw] at HA
  by_cases ha : isAlpha a = true
  case neg =>
    have ha : isAlpha a = false := by simpa using ha
    rw [wordIn_alpha ha]
    go_enter Tryz.func191, Tryz.ntmps191
    go_wp2_with (first | (go_at_call 202; refine HA.out.mono ?_; rintro e w' ⟨rfl, rfl⟩) | (go_at_call 83; refine (l1Alphabet_c _ _).mono ?_; rintro e w' ⟨rfl, rfl⟩; rw [ha]))
    go_ret
    exact Same.mk rfl
  obtain ⟨a0, a1⟩ : 0 ≤ a ∧ a ≤ 63 := by simpa [isAlpha] using ha
  have hl : ∀ l ∈ chars s, 0 ≤ l ∧ l < 6 := fun l hl => by
    have h' := hw
    simp only [wordValid, wordIn, Bool.and_eq_true, List.all_eq_true] at h'
    exact bit_range (by omega) (h'.2 l hl)
  have hin := alphaOf_in hl a0 a1
  have hsz := wordValid_size hw
  have hfin : wordIn s a = (chars s).all (bit a) := by unfold wordIn; rw [ha]; simp [hsz]
  rw [hfin]
  have h64 := alphaOf_lt hl
  simp only [if_true] at HA
  generalize alphaOf (chars s) = m at HA hin h64
  clear hfin hl hw
  go_enter Tryz.func191, Tryz.ntmps191
  go_wp2_with (first | (go_at_call 202; refine HA.out.mono ?_; rintro e w' ⟨rfl, rfl⟩) | (go_at_call 83; refine (l1Alphabet_c _ _).mono ?_; rintro e w' ⟨rfl, rfl⟩; rw [ha]))
  go_ret
  exact Same.mk (by rw [← hin]; rfl)

theorem StateAfter_s (v : Value) (x : Auto) (s : ByteArray) (w : World) (hv : AutoV w v x) (hs : s.size ≤ 1048576) :
    Calls Tryz.prog 208 #[v, .string s] w (Grows (.int .i64 (stateAfter x s)) w) := by
  have HV := Lib.hid hv
  obtain ⟨vn, va, rfl, h2, h3⟩ := hv
  obtain ⟨an, cn, rfl, -, -⟩ := h2.open
  obtain ⟨aa, ca, rfl, -, -⟩ := h3.open
  clear h2 h3
  have HWW := Lib.hid (fun w' => WordWithin_s s x.alphabet w' hs)
  by_cases hx : autoValid x = true
  case neg =>
    have hx : autoValid x = false := by simpa using hx
    go_enter Tryz.func208, Tryz.ntmps208
    go_wp2_with fail
    refine (AutomatonValid_s _ x _ (HV.out.mono (Ext.alloc _ _))).mono ?_
    rintro e w1 ⟨rfl, he1⟩
    go_wp2_with fail
    go_ret
    exact Grows.mk (by simp [stateAfter, hx]) he1.peel
  by_cases hw : wordIn s x.alphabet = true
  case neg =>
    have hw : wordIn s x.alphabet = false := by simpa using hw
    rw [hw] at HWW
    go_enter Tryz.func208, Tryz.ntmps208
    go_wp2_with fail
    refine (AutomatonValid_s _ x _ (HV.out.mono (Ext.alloc _ _))).mono ?_
    rintro e w1 ⟨rfl, he1⟩
    have c0 := he1.blk.cell 0 rfl
    go_wp2_with (go_at_call 191; refine (HWW.out _).mono ?_; rintro e w' ⟨rfl, rfl⟩)
    go_ret
    exact Grows.mk (by simp [stateAfter, hw]) he1.peel
  have hwv : wordValid s = true := by
    have ha := (autoValid_facts hx).2.1
    have h' := hw
    simp only [wordIn, Bool.and_eq_true, decide_eq_true_eq, List.all_eq_true] at h'
    unfold wordValid wordIn
    simp only [Bool.and_eq_true, decide_eq_true_eq, List.all_eq_true]
    refine ⟨⟨by decide, h'.1.2⟩, fun y hy => ?_⟩
    obtain ⟨h1, h2⟩ := bit_range ha (h'.2 y hy)
    rw [bit63]; simp [h1, h2]
  have HR := Lib.hid (show stateAfter x s = ((run x 0 (chars s) : Nat) : Int) by unfold stateAfter; rw [hx, hw]; rfl)
  have HC := Lib.hid (fun w' (h : AutoV w' (.agg #[.int .i64 x.alphabet, .slice an x.next.length cn, .slice aa x.accept.length ca]) x) => l3Run_c _ x 0 s w' h hx (by have := (autoValid_facts hx).2.2.1; omega) hwv)
  rw [hw] at HWW
  go_enter Tryz.func208, Tryz.ntmps208
  go_wp2_with fail
  refine (AutomatonValid_s _ x _ (HV.out.mono (Ext.alloc _ _))).mono ?_
  rintro e w1 ⟨rfl, he1⟩
  have hB := he1.blk
  have c0 := hB.cell 0 rfl
  have c1 := hB.cell 1 rfl
  have c2 := hB.cell 2 rfl
  go_wp2_with (go_at_call 191; refine (HWW.out _).mono ?_; rintro e w' ⟨rfl, rfl⟩)
  refine (HC.out _ (HV.out.mono he1.peel)).mono ?_
  rintro e w2 ⟨rfl, he2⟩
  go_wp2_with fail
  go_ret
  exact Grows.mk (by rw [HR.out]; rfl) (he1.peel.trans he2)

theorem AcceptsWord_s (v : Value) (x : Auto) (s : ByteArray) (w : World) (hv : AutoV w v x) (hs : s.size ≤ 1048576) :
    Calls Tryz.prog 204 #[v, .string s] w (Grows (.bool (acceptsWord x s)) w) := by
  have HV := Lib.hid hv
  obtain ⟨vn, va, rfl, h2, h3⟩ := hv
  obtain ⟨an, cn, rfl, -, -⟩ := h2.open
  obtain ⟨aa, ca, rfl, -, hacc⟩ := h3.open
  clear h2 h3
  by_cases hok : (autoValid x && wordIn s x.alphabet) = true
  case neg =>
    have hok : (autoValid x && wordIn s x.alphabet) = false := by simpa using hok
    have HR := Lib.hid (show stateAfter x s = -1 by unfold stateAfter; rw [hok]; rfl)
    go_enter Tryz.func204, Tryz.ntmps204
    go_wp2_with fail
    refine (StateAfter_s _ x s _ (HV.out.mono (Ext.alloc _ _)) hs).mono ?_
    rintro e w1 ⟨rfl, he1⟩
    rw [HR.out]
    go_wp2_with fail
    go_ret
    exact Grows.mk (by unfold acceptsWord; rw [hok]; rfl) he1.peel
  have HR := Lib.hid (show stateAfter x s = ((run x 0 (chars s) : Nat) : Int) by unfold stateAfter; rw [hok]; rfl)
  have HK := Lib.hid (show acceptsWord x s = accepts x (run x 0 (chars s)) by unfold acceptsWord; rw [hok]; rfl)
  obtain ⟨hx, hw⟩ := Bool.and_eq_true_iff.1 hok
  obtain ⟨-, -, hn0, hn, hal⟩ := autoValid_facts hx
  have hr := run_lt hx (chars s) (q := 0) (by omega)
  obtain ⟨b, off, rfl, -, hc⟩ := hacc _ _ (accepts_at hx hr)
  have hc := hc _ _ (accepts_at hx hr)
  rw [Nat.mul_one] at hc
  unfold BoolAt at hc
  rw [HK.out]
  obtain ⟨r, hre⟩ : ∃ r, run x 0 (chars s) = r := ⟨_, rfl⟩
  rw [hre] at hc hr HR ⊢
  have hra : (r : Int) < (x.accept.length : Int) := by omega
  clear hacc hal hok hre
  go_enter Tryz.func204, Tryz.ntmps204
  go_wp2_with fail
  refine (StateAfter_s _ x s _ (HV.out.mono (Ext.alloc _ _)) hs).mono ?_
  rintro e w1 ⟨rfl, he1⟩
  rw [HR.out]
  have c2 := he1.blk.cell 2 rfl
  have hc1 := he1.peel.cell hc
  clear hc
  go_wp2_with fail
  go_ret
  exact Grows.mk rfl he1.peel
end Go.Proofs.YtanekmfifmkbmaaGreatDoor

namespace Go.Proofs.YtanekmfifmkbmaaGreatDoor
set_option linter.unusedSimpArgs false
set_option linter.unusedVariables false
open Go.RowKit
set_option maxHeartbeats 4000000
set_option maxRecDepth 100000

theorem wRest_of {w : World} {base g n cap : Nat} {f : Sets} (h : w.ownsRow base 3 1 (.slice (some ⟨g, 0, none⟩) n cap) n ((setsL n f).map (Value.int .i64))) : ∀ k, k ≤ n → wRest w g k = restOf f k := by
  intro k
  induction k with
  | zero => intro _; rfl
  | succ k ih =>
    intro hk
    unfold wRest restOf
    rw [ih (by omega), own_cell h (j := k) (u := .int .i64 (f k : Int)) (by rw [List.getElem?_map, setsL_at f (by omega)]; rfl)]
    simp [cellNat]

theorem hiddenOf_letters {t : Task} (ht : taskValid t = true) : letters (hidS t.sys t.alphabet) = hiddenOf t := by
  obtain ⟨hs, -, ha⟩ := taskValid_facts ht
  obtain ⟨h1, h2⟩ := sys_alpha hs
  obtain ⟨h3, h4⟩ := alpha_facts ha
  obtain ⟨m, hm⟩ := Int.eq_ofNat_of_zero_le h1
  obtain ⟨n, hn⟩ := Int.eq_ofNat_of_zero_le h3
  unfold hidS hiddenOf
  rw [hm, hn, i64_and_nat m n (by omega) (by omega)]
  have : m &&& n ≤ m := Nat.and_le_left
  rw [show (m : Int) - ((m &&& n : Nat) : Int) = ((m - (m &&& n) : Nat) : Int) by omega]
  exact hid_all m (List.mem_range.2 (by omega)) n (List.mem_range.2 (by omega))
def SetsOwn (base n g cap : Nat) (w : World) (f : Sets) : Prop := w.ownsRow base 3 1 (.slice (some ⟨g, 0, none⟩) n cap) n ((setsL n f).map (Value.int .i64))
theorem SetsOwn.cell {base n g cap : Nat} {w : World} {f : Sets} (h : SetsOwn base n g cap w f) {p : Nat} (hp : p < n) : w.cell? ⟨g, p, none⟩ = some (.int .i64 (f p : Int)) := own_cell h (by rw [List.getElem?_map, setsL_at f hp]; rfl)
theorem SetsOwn.fr {base n g cap : Nat} {w : World} {f : Sets} (h : SetsOwn base n g cap w f) (p : Nat) : w.frozen? ⟨g, p, none⟩ = false := World.ownsRow.frozenAt h p
theorem SetsOwn.ext {base n g cap : Nat} {w w' : World} {f : Sets} (h : SetsOwn base n g cap w f) (he : Ext w w') : SetsOwn base n g cap w' f := own_ext h he
theorem SetsOwn.set {base n g cap : Nat} {w : World} {f : Sets} (h : SetsOwn base n g cap w f) {p : Nat} (hp : p < n) (y : Nat) : SetsOwn base n g cap (w.setCell ⟨g, p, none⟩ (.int .i64 (y : Int))) (updS f p y) := by
  have := (World.ownsRow.stored h p (.int .i64 (y : Int))).1
  unfold SetsOwn
  rw [← setsL_set f hp, List.map_set]; exact this
theorem SetsOwn.base_le {base n g cap : Nat} {w : World} {f : Sets} (h : SetsOwn base n g cap w f) : base ≤ g ∧ g < w.heap.size := own_lt h rfl

theorem l9Close_c (v : Value) (t : Task) (f : Sets) (g0 n cap : Nat) (w0 w : World) (hV : ∀ w', Ext w0 w' → TaskV w' v t) (ht : taskValid t = true) (hel : t.sys.edges.length ≤ 1048576) (hn : Hid (t.prop.next.length = n)) (hf : Within t f) (he : Ext w0 w) (hs : SetsOwn w0.heap.size n g0 cap w f) :
    Calls Tryz.prog 213 #[v, .slice (some ⟨g0, 0, none⟩) n cap] w (fun e w' => e = .returned (.slice (some ⟨g0, 0, none⟩) n cap) ∧ Ext w0 w' ∧ SetsOwn w0.heap.size n g0 cap w' (closeM t f)) := by
  obtain ⟨hS, hP, hA⟩ := taskValid_facts ht
  obtain ⟨ha, ha2⟩ := alpha_facts hA
  obtain ⟨hH, hH2, hHw⟩ := hidS_facts hS ha ha2
  have HLT := Lib.hid (hiddenOf_letters ht)
  obtain ⟨H, hHe⟩ : ∃ H, hidS t.sys t.alphabet = H := ⟨_, rfl⟩
  rw [hHe] at hH hH2 hHw HLT
  clear hHe ht
  have hn12 : n ≤ 12 := by rw [← hn.out]; exact (autoValid_facts hP).2.2.2.1
  have HV := Lib.hid hV
  clear hV
  obtain ⟨ve, vn, va, rfl, h1, h2, h3⟩ := HV.out w0 (Ext.refl _)
  obtain ⟨ae, ce, rfl, -, -⟩ := h1.open
  obtain ⟨an, cn, rfl, -, -⟩ := h2.open
  obtain ⟨aa, ca, rfl, -, -⟩ := h3.open
  have HSY := Lib.hid (show ∀ w', Ext w0 w' → SysV w' (.agg #[.int .i64 t.sys.alphabet, .int .i64 t.sys.states, .slice ae t.sys.edges.length ce]) t.sys from fun w' h => ⟨_, rfl, h1.mono h⟩)
  have HAU := Lib.hid (show ∀ w', Ext w0 w' → AutoV w' (.agg #[.int .i64 t.prop.alphabet, .slice an t.prop.next.length cn, .slice aa t.prop.accept.length ca]) t.prop from fun w' h => ⟨_, _, rfl, h2.mono h, h3.mono h⟩)
  clear h1 h2 h3 HV
  have hg0 := hs.base_le
  have hB := Blk.new w #[.int .i64 t.sys.alphabet, .int .i64 t.sys.states, .slice ae t.sys.edges.length ce, .int .i64 t.prop.alphabet, .slice an t.prop.next.length cn, .slice aa t.prop.accept.length ca, .int .i64 t.alphabet] 57
  have hx0 := Ext.alloc w (.cells #[.int .i64 t.sys.alphabet, .int .i64 t.sys.states, .slice ae t.sys.edges.length ce, .int .i64 t.prop.alphabet, .slice an t.prop.next.length cn, .slice aa t.prop.accept.length ca, .int .i64 t.alphabet] 57)
  replace hs := hs.ext hx0
  replace he := he.trans hx0
  have hbs : w.heap.size < (w.alloc (.cells #[.int .i64 t.sys.alphabet, .int .i64 t.sys.states, .slice ae t.sys.edges.length ce, .int .i64 t.prop.alphabet, .slice an t.prop.next.length cn, .slice aa t.prop.accept.length ca, .int .i64 t.alphabet] 57)).heap.size := by simp
  go_enter Tryz.func213, Tryz.ntmps213
  go_wp2_with fail
  clear hx0
  generalize w.alloc (.cells #[.int .i64 t.sys.alphabet, .int .i64 t.sys.states, .slice ae t.sys.edges.length ce, .int .i64 t.prop.alphabet, .slice an t.prop.next.length cn, .slice aa t.prop.accept.length ca, .int .i64 t.alphabet] 57) = wb at hs he hB hbs ⊢
  refine (l1Letters_o H _ hH hH2).mono ?_
  rintro e w1 ⟨vl, rfl, he1, hL⟩
  rw [HLT.out] at hL
  obtain ⟨L, hLe⟩ : ∃ L, hiddenOf t = L := ⟨_, rfl⟩
  have HL := Lib.hid hLe
  have hL6 : L.length ≤ 6 := by rw [← hLe]; exact hidden_len t
  rw [hLe] at hL
  obtain ⟨al, cl, rfl⟩ := hL.shape
  replace hs := hs.ext he1
  replace he := he.trans he1
  replace hB := hB.ext he1
  clear he1 hLe HLT hHw hH hH2
  have HO0 : Hid (OnClose t f f) := Lib.hid ⟨fun _ _ h => h, (closeM_is hS hf).above, hf⟩
  obtain ⟨bl0, hbl0⟩ : ∃ bl0, wb.heap.size = bl0 := ⟨_, rfl⟩
  rw [hbl0] at hL hbs
  clear hbl0
  go_wp2_with fail
  go_loopw [6] (fun m wr => ∃ (g : Sets) (b : Bool), m = .bool b ∧ SetsOwn w0.heap.size n g0 cap wr g ∧ Hid (OnClose t f g) ∧ Hid (b = false → ClosedUp t g n 0) ∧ Blk wr w.heap.size #[.int .i64 t.sys.alphabet, .int .i64 t.sys.states, .slice ae t.sys.edges.length ce, .int .i64 t.prop.alphabet, .slice an t.prop.next.length cn, .slice aa t.prop.accept.length ca, .int .i64 t.alphabet] 57 ∧ IntsOwn 3 bl0 wr (.slice al L.length cl) L ∧ Ext w0 wr) (fun m wr => 2 * wRest wr g0 n + flagOf m)
  case atStart => exact ⟨f, true, rfl, hs, HO0, Lib.hid (fun h => by cases h), hB, hL, he⟩
  case round =>
    clear hs HO0 hB hL he
    obtain ⟨g, b, rfl, hs, HO, HC, hB, hL, he⟩ := hrel
    cases b with
    | false =>
      have hfin : closeM t f = g := HO.out.done hS hf (by rw [hn.out]; exact HC.out rfl)
      have HF := Lib.hid hfin
      clear hfin
      go_wp2_with fail
      go_ret
      exact ⟨rfl, he, by rw [HF.out]; exact hs⟩
    | true =>
      have hmeas := Lib.hid (wRest_of hs n (Nat.le_refl _))
      go_wp2_with fail
      go_loopw [6, 7] (fun m i wr => ∃ (p : Nat) (g' : Sets) (b : Bool), p ≤ n ∧ i = .int .i64 p ∧ m = .bool b ∧ SetsOwn w0.heap.size n g0 cap wr g' ∧ Hid (OnClose t f g') ∧ Hid ((b = false → g' = g ∧ ClosedUp t g' p 0) ∧ (b = true → restOf g' n < restOf g n)) ∧ Blk wr w.heap.size #[.int .i64 t.sys.alphabet, .int .i64 t.sys.states, .slice ae t.sys.edges.length ce, .int .i64 t.prop.alphabet, .slice an t.prop.next.length cn, .slice aa t.prop.accept.length ca, .int .i64 t.alphabet] 57 ∧ IntsOwn 3 bl0 wr (.slice al L.length cl) L ∧ Ext w0 wr) (fun _ i _ => n - (intOf i).toNat)
      case atStart => exact ⟨0, g, false, by omega, rfl, rfl, hs, HO, Lib.hid ⟨fun _ => ⟨rfl, fun p hp => by omega, fun l hl => by simp at hl⟩, fun h => by cases h⟩, hB, hL, he⟩
      case round =>
        clear hs HO HC hB hL he
        obtain ⟨p, g', b, hp, rfl, rfl, hs, HO, HC, hB, hL, he⟩ := hrel
        by_cases hpn : p < n
        · have hpn2 : (p : Int) < (n : Int) := by omega
          go_wp2_with fail
          go_loopw [6, 8] (fun m k wr => ∃ (q : Nat) (g' : Sets) (b : Bool), q ≤ L.length ∧ k = .int .i64 q ∧ m = .bool b ∧ SetsOwn w0.heap.size n g0 cap wr g' ∧ Hid (OnClose t f g') ∧ Hid ((b = false → g' = g ∧ ClosedUp t g' p q) ∧ (b = true → restOf g' n < restOf g n)) ∧ Blk wr w.heap.size #[.int .i64 t.sys.alphabet, .int .i64 t.sys.states, .slice ae t.sys.edges.length ce, .int .i64 t.prop.alphabet, .slice an t.prop.next.length cn, .slice aa t.prop.accept.length ca, .int .i64 t.alphabet] 57 ∧ IntsOwn 3 bl0 wr (.slice al L.length cl) L ∧ Ext w0 wr) (fun _ k _ => L.length - (intOf k).toNat)
          case atStart => exact ⟨0, g', b, by omega, rfl, rfl, hs, HO, HC, hB, hL, he⟩
          case round =>
            clear hs HO HC hB hL he
            obtain ⟨q, g', b, hq, rfl, rfl, hs, HO, HC, hB, hL, he⟩ := hrel
            by_cases hql : q < L.length
            · obtain ⟨l, hlq⟩ : ∃ l, L[q]? = some l := ⟨_, List.getElem?_eq_getElem hql⟩
              have hlH : l ∈ hiddenOf t := by rw [HL.out]; exact List.mem_of_getElem? hlq
              obtain ⟨gl, cl', e6, gcell⟩ := own_at hL.own (j := q) (u := .int .i64 l) (by rw [List.getElem?_map, hlq]; rfl)
              cases e6
              obtain ⟨l0, l6⟩ := bit_range (sys_alpha hS).2 ((hidden_iff hS l).1 hlH).1
              have hpx : p < t.prop.next.length := by rw [hn.out]; exact hpn
              have hnxl := step_lt hP hpx l
              rw [hn.out] at hnxl
              have hadd := Lib.hid (HO.out.add hS hP hf hpx hlH)
              have HCA := Lib.hid (fun h => closedAt_of (t := t) (g := g') (i := p) (l := l) h)
              have hgp := within_lt HO.out.within p
              have hgn := within_lt HO.out.within (step t.prop p l)
              have hst := (by rw [← stepTo_full]; exact stepTo_lt hS (g' p) l _ : stepM t.sys (g' p) l < 65536)
              have CG := Lib.hid (show ∀ w', Ext w0 w' → Calls Tryz.prog 149 #[.agg #[.int .i64 t.prop.alphabet, .slice an t.prop.next.length cn, .slice aa t.prop.accept.length ca], .int .i64 p, .int .i64 l] w' (Grows (.int .i64 (step t.prop p l : Nat)) w') from fun w' h => l3Go_c _ t.prop p l w' (HAU.out _ h) hP hpx l0 l6)
              have CST := Lib.hid (show ∀ w', Ext w0 w' → Calls Tryz.prog 125 #[.agg #[.int .i64 t.sys.alphabet, .int .i64 t.sys.states, .slice ae t.sys.edges.length ce], .int .i64 (g' p : Nat), .int .i64 l] w' (Grows (.int .i64 (stepM t.sys (g' p) l : Nat)) w') from fun w' h => l2Step_c _ t.sys (g' p) l w' (HSY.out _ h) hS hel hgp)
              have HLQ := Lib.hid (show (hiddenOf t)[q]? = some l from by rw [HL.out]; exact hlq)
              obtain ⟨nx, hnx⟩ : ∃ nx, step t.prop p l = nx := ⟨_, rfl⟩
              obtain ⟨st, hste⟩ : ∃ st, stepM t.sys (g' p) l = st := ⟨_, rfl⟩
              rw [hnx] at hnxl hgn hadd CG
              rw [hste] at hst CST hadd
              have HCA2 : Hid (g' nx ||| st = g' nx → closedAt t g' p l) := Lib.hid fun h => HCA.out (by rw [hnx, hste]; exact h)
              have cn := hs.cell hnxl
              have cp := hs.cell hpn
              have fn' := hs.fr nx
              obtain ⟨x, hxe⟩ : ∃ x, g' nx = x := ⟨_, rfl⟩
              obtain ⟨z, hze⟩ : ∃ z, g' p = z := ⟨_, rfl⟩
              rw [hxe] at cn hgn hadd HCA2
              rw [hze] at cp CST
              obtain ⟨y, hye⟩ : ∃ y, x ||| st = y := ⟨_, rfl⟩
              have hor : bits .or .i64 (x : Int) (st : Int) = (y : Int) := by rw [i64_or_nat x st (by omega) (by omega), hye]
              have hxy : x ≤ y := by rw [← hye]; exact Nat.left_le_or
              rw [hye] at hadd HCA2
              have HXE := Lib.hid hxe
              have hnx2 : (nx : Int) < (n : Int) := by omega
              have hql2 : (q : Int) < (L.length : Int) := by omega
              clear hxe hze hye hnx hste HCA hlq
              go_wp2_with fail
              have D0 := fun d os => cell_regrown (hB.cell 3 rfl) d os
              have D1 := fun d os => cell_regrown (hB.cell 4 rfl) d os
              have D2 := fun d os => cell_regrown (hB.cell 5 rfl) d os
              have D3 := fun d os => cell_regrown gcell d os
              refine wp_region_quiet_below (by kernel_rfl) (by kernel_rfl) ?_
              repeat (go_big_quiet_step ((go_at_call 149; exact Grows.quiet (CG.out _ (he.trans (below_regrown _ _ _))))))
              refine wpQuiet_nil ?_
              intro _ hw'
              obtain ⟨⟨dq, osq⟩, hw''⟩ := hw'
              subst hw''
              have hq2 : Ext wr (Go.Sort.grow (redrawn wr dq) osq) := below_regrown wr dq osq
              generalize Go.Sort.grow (redrawn wr dq) osq = wq at hq2 ⊢
              clear D0 D1 D2 D3
              replace cn := hq2.cell cn
              replace cp := hq2.cell cp
              replace gcell := hq2.cell gcell
              replace hB := hB.ext hq2
              replace hs := hs.ext hq2
              replace hL := hL.ext hq2
              replace he := he.trans hq2
              clear hq2 fn'
              go_wp2_with fail
              have D0 := fun d os => cell_regrown (hB.cell 0 rfl) d os
              have D1 := fun d os => cell_regrown (hB.cell 1 rfl) d os
              have D2 := fun d os => cell_regrown (hB.cell 2 rfl) d os
              have D3 := fun d os => cell_regrown gcell d os
              have D4 := fun d os => cell_regrown cn d os
              have D5 := fun d os => cell_regrown cp d os
              refine wp_region_quiet_below (by kernel_rfl) (by kernel_rfl) ?_
              repeat (go_big_quiet_step ((go_at_call 125; exact Grows.quiet (CST.out _ (he.trans (below_regrown _ _ _))))))
              refine wpQuiet_nil ?_
              intro _ hw'
              obtain ⟨⟨dq, osq⟩, hw''⟩ := hw'
              subst hw''
              have hq3 : Ext wq (Go.Sort.grow (redrawn wq dq) osq) := below_regrown wq dq osq
              generalize Go.Sort.grow (redrawn wq dq) osq = wu at hq3 ⊢
              clear D0 D1 D2 D3 D4 D5 cp gcell
              replace cn := hq3.cell cn
              replace hB := hB.ext hq3
              replace hs := hs.ext hq3
              replace hL := hL.ext hq3
              replace he := he.trans hq3
              have fn' := hs.fr nx
              clear hq3
              by_cases hxy2 : y = x
              · have hcmp : ((y : Int) != (x : Int)) = false := by rw [hxy2]; simp
                have hcl := HCA2.out hxy2
                have hrow : (b = false → g' = g ∧ ClosedUp t g' p (q + 1)) ∧ (b = true → restOf g' n < restOf g n) := ⟨fun hb => ⟨(HC.out.1 hb).1, (HC.out.1 hb).2.next HLQ.out hcl⟩, HC.out.2⟩
                have HROW := Lib.hid hrow
                clear hrow hcl hxy2
                go_wp2_with fail
                exact ⟨⟨q + 1, g', b, by omega, by go_num, rfl, hs, HO, HROW, hB, hL, he⟩, by simp [intOf]; omega⟩
              · have hcmp : ((y : Int) != (x : Int)) = true := by simp; omega
                have hlt := restOf_lt g' (p := nx) (y := y) (by rw [HXE.out]; omega) (by rw [HXE.out]; exact hgn) n hnxl
                have hrow : (true = false → updS g' nx y = g ∧ ClosedUp t (updS g' nx y) p (q + 1)) ∧ (true = true → restOf (updS g' nx y) n < restOf g n) := ⟨fun h => by (cases h), fun _ => by
                  rcases Bool.eq_false_or_eq_true b with hb | hb
                  · have := HC.out.2 hb; omega
                  · have := (HC.out.1 hb).1; rw [this] at hlt ⊢; exact hlt⟩
                have HROW := Lib.hid hrow
                have hs2 := hs.set hnxl y
                have hB2 := hB.other (p := ⟨g0, nx, none⟩) (by simp only []; omega) (.int .i64 (y : Int))
                have hL2 : IntsOwn 3 bl0 (wu.setCell ⟨g0, nx, none⟩ (.int .i64 (y : Int))) (.slice (some ⟨gl, 0, none⟩) L.length cl) L := own_set hL.own (p := ⟨g0, nx, none⟩) (by simp only []; omega) _
                have he2 := he.setCell (p := ⟨g0, nx, none⟩) (by simp only []; omega) (.int .i64 (y : Int))
                clear hrow hlt hxy2
                go_wp2_with fail
                exact ⟨⟨q + 1, updS g' nx y, true, by omega, by go_num, rfl, hs2, hadd, HROW, hB2, hL2, he2⟩, by simp [intOf]; omega⟩
            · obtain rfl : q = L.length := by omega
              have hrow : (b = false → g' = g ∧ ClosedUp t g' (p + 1) 0) ∧ (b = true → restOf g' n < restOf g n) := ⟨fun hb => ⟨(HC.out.1 hb).1, (show ClosedUp t g' p (hiddenOf t).length from by rw [HL.out]; exact (HC.out.1 hb).2).row⟩, HC.out.2⟩
              have HROW := Lib.hid hrow
              clear hrow
              go_wp2_with fail
              exact ⟨⟨p + 1, g', b, by omega, by go_num, rfl, hs, HO, HROW, hB, hL, he⟩, by simp [intOf]; omega⟩
        · obtain rfl : p = n := by omega
          go_wp2_with fail
          refine ⟨⟨g', b, rfl, hs, HO, Lib.hid fun hb => (HC.out.1 hb).2, hB, hL, he⟩, ?_⟩
          rw [wRest_of hs p (Nat.le_refl _), hmeas.out]
          cases b with
          | false => have := (HC.out.1 rfl).1; subst this; simp [flagOf]
          | true => have := HC.out.2 rfl; simp [flagOf]; omega
end Go.Proofs.YtanekmfifmkbmaaGreatDoor

namespace Go.Proofs.YtanekmfifmkbmaaGreatDoor
set_option linter.unusedSimpArgs false
set_option linter.unusedVariables false
open Go.RowKit
set_option maxHeartbeats 4000000
set_option maxRecDepth 100000

def SetsEnd (n : Nat) (w : World) (f : Sets) (e : Ending) (w' : World) : Prop := ∃ g cap, e = .returned (.slice (some ⟨g, 0, none⟩) n cap) ∧ Ext w w' ∧ SetsOwn w.heap.size n g cap w' f
theorem setsL_zero (n : Nat) : (setsL n fun _ => 0).map (Value.int .i64) = List.replicate n (Value.int .i64 0) := by
  unfold setsL
  induction n with
  | zero => rfl
  | succ n ih => rw [List.range_succ, List.map_append, List.map_append, ih, List.replicate_succ']; rfl
theorem made_sets {w1 : World} {g n b : Nat} (h : w1.ownsRow g 3 1 (.slice (some ⟨g, 0, none⟩) n n) n (madeCells (Value.int .i64 0).cells (n * 1)).toList) {g' : Nat} (hg : g = g') (hb : b ≤ g') : SetsOwn b n g' n w1 (fun _ => 0) := by
  subst hg
  unfold SetsOwn
  rw [setsL_zero]
  refine own_base ?_ hb
  simpa [toList_madeCells_one, Value.cells] using h
theorem startM_upd : updS (fun _ => 0) 0 1 = startM := rfl

theorem l9Start_c (v : Value) (t : Task) (w : World) (hV : TaskV w v t) (ht : taskValid t = true) (hel : t.sys.edges.length ≤ 1048576) :
    Calls Tryz.prog 209 #[v] w (SetsEnd t.prop.next.length w (closeM t startM)) := by
  obtain ⟨hS, hP, hA⟩ := taskValid_facts ht
  have hn12 : t.prop.next.length ≤ 12 := (autoValid_facts hP).2.2.2.1
  have hn1 : 1 ≤ t.prop.next.length := (autoValid_facts hP).2.2.1
  have HSW := Lib.hid (start_within (t := t) hP)
  have HT := Lib.hid ht
  obtain ⟨ve, vn, va, rfl, h1, h2, h3⟩ := hV
  obtain ⟨ae, ce, rfl, -, -⟩ := h1.open
  obtain ⟨an, cn, rfl, -, -⟩ := h2.open
  obtain ⟨aa, ca, rfl, -, -⟩ := h3.open
  have HV := Lib.hid (show ∀ w', Ext w w' → TaskV w' (.agg #[.int .i64 t.sys.alphabet, .int .i64 t.sys.states, .slice ae t.sys.edges.length ce, .int .i64 t.prop.alphabet, .slice an t.prop.next.length cn, .slice aa t.prop.accept.length ca, .int .i64 t.alphabet]) t from fun w' h => ⟨_, _, _, rfl, h1.mono h, h2.mono h, h3.mono h⟩)
  clear h1 h2 h3 ht hS hP hA
  go_enter Tryz.func209, Tryz.ntmps209
  go_wp2_with (at_make; refine make1 rfl rfl Tryz.underlying80 infoInt rfl rfl rfl rfl (by omega) (by decide) (Nat.le_refl _) ?_; intro w1 hown hext hlt; have hs0 := made_sets (b := w.heap.size) (g' := w.heap.size + 1) hown (World.size_alloc _ _) (Nat.le_succ _); have c0 := hs0.cell (p := 0) (by omega); have f0 := hs0.fr 0; have hn0 : (0 : Int) < (t.prop.next.length : Int) := (by omega); have cc0 := hext.blk.cell 0 rfl; have cc1 := hext.blk.cell 1 rfl; have cc2 := hext.blk.cell 2 rfl; have cc3 := hext.blk.cell 3 rfl; have cc4 := hext.blk.cell 4 rfl; have cc5 := hext.blk.cell 5 rfl; have cc6 := hext.blk.cell 6 rfl)
  have hB := hext.blk
  have hx := hext.peel
  rw [World.size_alloc] at hlt
  have hs1 := hs0.set (p := 0) (by omega) 1
  rw [startM_upd] at hs1
  have hx1 := hx.setCell (p := ⟨w.heap.size + 1, 0, none⟩) (by simp only []; omega) (.int .i64 ((1 : Nat) : Int))
  have hB1 := hB.other (p := ⟨w.heap.size + 1, 0, none⟩) (by simp only []; omega) (.int .i64 ((1 : Nat) : Int))
  rw [show ((1 : Nat) : Int) = 1 from rfl] at hs1 hx1 hB1
  generalize w1.setCell ⟨w.heap.size + 1, 0, none⟩ (.int .i64 1) = w2 at hs1 hx1 hB1 ⊢
  refine (l9Close_c _ t startM _ t.prop.next.length _ w w2 (fun w' h => HV.out w' h) HT.out hel (Lib.hid rfl) HSW.out hx1 hs1).mono ?_
  rintro e w3 ⟨rfl, he3, hs3⟩
  go_wp2_with fail
  go_ret
  exact ⟨_, _, rfl, he3, hs3⟩

theorem l9Move_c (v : Value) (t : Task) (f : Sets) (l : Int) (b g0 cap0 : Nat) (w : World) (hV : TaskV w v t) (ht : taskValid t = true) (hel : t.sys.edges.length ≤ 1048576) (hf : Within t f) (hl : 0 ≤ l) (hl6 : l < 6) (hs0 : SetsOwn b t.prop.next.length g0 cap0 w f) :
    Calls Tryz.prog 211 #[v, .slice (some ⟨g0, 0, none⟩) t.prop.next.length cap0, .int .i64 l] w (SetsEnd t.prop.next.length w (closeM t (moveM t f l))) := by
  obtain ⟨hS, hP, hA⟩ := taskValid_facts ht
  have hn12 : t.prop.next.length ≤ 12 := (autoValid_facts hP).2.2.2.1
  have HMW := Lib.hid (move_within hS hP hf l)
  have HLT := Lib.hid (moveTo_lt hS hP hf l)
  have HT := Lib.hid ht
  obtain ⟨al0, al63⟩ := sys_alpha hS
  obtain ⟨ve, vn, va, rfl, h1, h2, h3⟩ := hV
  obtain ⟨ae, ce, rfl, -, -⟩ := h1.open
  obtain ⟨an, cn, rfl, -, -⟩ := h2.open
  obtain ⟨aa, ca, rfl, -, -⟩ := h3.open
  have HV := Lib.hid (show ∀ w', Ext w w' → TaskV w' (.agg #[.int .i64 t.sys.alphabet, .int .i64 t.sys.states, .slice ae t.sys.edges.length ce, .int .i64 t.prop.alphabet, .slice an t.prop.next.length cn, .slice aa t.prop.accept.length ca, .int .i64 t.alphabet]) t from fun w' h => ⟨_, _, _, rfl, h1.mono h, h2.mono h, h3.mono h⟩)
  have HSY := Lib.hid (show ∀ w', Ext w w' → SysV w' (.agg #[.int .i64 t.sys.alphabet, .int .i64 t.sys.states, .slice ae t.sys.edges.length ce]) t.sys from fun w' h => ⟨_, rfl, h1.mono h⟩)
  have HAU := Lib.hid (show ∀ w', Ext w w' → AutoV w' (.agg #[.int .i64 t.prop.alphabet, .slice an t.prop.next.length cn, .slice aa t.prop.accept.length ca]) t.prop from fun w' h => ⟨_, _, rfl, h2.mono h, h3.mono h⟩)
  have HS0 := Lib.hid hs0
  clear h1 h2 h3 ht hA hs0
  go_enter Tryz.func211, Tryz.ntmps211
  go_wp2_with (at_make; refine make1 rfl rfl Tryz.underlying80 infoInt rfl rfl rfl rfl (by omega) (by decide) (Nat.le_refl _) ?_; intro w1 hown hext hlt; have hs0 := made_sets (b := w.heap.size) (g' := w.heap.size + 1) hown (World.size_alloc _ _) (Nat.le_succ _))
  have hB := hext.blk
  have hx := hext.peel
  clear hext hown hlt
  go_loopw [8] (fun i wr => ∃ k : Nat, k ≤ t.prop.next.length ∧ i = .int .i64 k ∧ SetsOwn w.heap.size t.prop.next.length (w.heap.size + 1) t.prop.next.length wr (moveTo t f l k) ∧ Blk wr w.heap.size #[.int .i64 t.sys.alphabet, .int .i64 t.sys.states, .slice ae t.sys.edges.length ce, .int .i64 t.prop.alphabet, .slice an t.prop.next.length cn, .slice aa t.prop.accept.length ca, .int .i64 t.alphabet] 57 ∧ Ext w wr) (fun i _ => t.prop.next.length - (intOf i).toNat)
  case atStart => exact ⟨0, by omega, rfl, hs0, hB, hx⟩
  case round =>
    clear hs0 hB hx
    obtain ⟨k, hk, rfl, hs, hB, he⟩ := hrel
    by_cases hkn : k < t.prop.next.length
    · have hfs := HS0.out.ext he
      have ck := hfs.cell hkn
      have hfk : f k < 65536 := lt_of_bits fun q hq => (hf k q hq).2
      have hmo := movedOne_lt hS hf l k
      have hup := Lib.hid (moveTo_upd t f l k)
      have hnx := step_lt hP hkn l
      have hold := HLT.out k (step t.prop k l)
      have CG := Lib.hid (fun w' (h : Ext w w') => l3Go_c _ t.prop k l w' (HAU.out _ h) hP hkn hl hl6)
      have CST := Lib.hid (fun w' (h : Ext w w') => l2Step_c _ t.sys (f k) l w' (HSY.out _ h) hS hel hfk)
      obtain ⟨nx, hnxe⟩ : ∃ nx, step t.prop k l = nx := ⟨_, rfl⟩
      rw [hnxe] at hup hnx hold CG
      have cnx := hs.cell hnx
      have fnx := hs.fr nx
      obtain ⟨mo, hmoe⟩ : ∃ mo, movedOne t f l k = mo := ⟨_, rfl⟩
      have HMO := Lib.hid hmoe
      rw [hmoe] at hup hmo
      obtain ⟨y, hye⟩ : ∃ y, moveTo t f l k nx = y := ⟨_, rfl⟩
      rw [hye] at hup hold cnx
      have hor := i64_or_nat y mo (by omega) (by omega)
      have hkn2 : (k : Int) < (t.prop.next.length : Int) := by omega
      have hnx2 : (nx : Int) < (t.prop.next.length : Int) := by omega
      have HH := Lib.hid (fun w' => l1Has_c t.sys.alphabet l w' al0 (by omega) (by omega) (by omega))
      have cc0 := hB.cell 0 rfl; have cc1 := hB.cell 1 rfl; have cc2 := hB.cell 2 rfl; have cc3 := hB.cell 3 rfl; have cc4 := hB.cell 4 rfl; have cc5 := hB.cell 5 rfl; have cc6 := hB.cell 6 rfl
      clear hnxe hmoe hye
      by_cases hb : bit t.sys.alphabet l = true
      · have hmo2 := HMO.out
        unfold movedOne at hmo2
        rw [if_pos hb] at hmo2
        rw [hmo2] at CST
        rw [hb] at HH
        clear hmo2
        go_wp2_with (first | (go_at_call 85; refine (HH.out _).mono ?_; rintro e w' ⟨rfl, rfl⟩))
        refine (CST.out _ he).mono ?_
        rintro e w3 ⟨rfl, he3⟩
        replace he := he.trans he3
        replace hB := hB.ext he3
        replace hs := hs.ext he3
        clear cc0 cc1 cc2 cc3 cc4 cc5 cc6
        have cc0 := hB.cell 0 rfl; have cc1 := hB.cell 1 rfl; have cc2 := hB.cell 2 rfl; have cc3 := hB.cell 3 rfl; have cc4 := hB.cell 4 rfl; have cc5 := hB.cell 5 rfl; have cc6 := hB.cell 6 rfl
        go_wp2_with fail
        refine (CG.out _ he).mono ?_
        rintro e w4 ⟨rfl, he4⟩
        replace he := he.trans he4
        replace hB := hB.ext he4
        replace hs := hs.ext he4
        replace cnx := (he3.trans he4).cell cnx
        have fnx := hs.fr nx
        have hs9 := hs.set hnx (y ||| mo)
        have hB9 := hB.other (p := ⟨w.heap.size + 1, nx, none⟩) (by simp only []; omega) (.int .i64 ((y ||| mo : Nat) : Int))
        have he9 := he.setCell (p := ⟨w.heap.size + 1, nx, none⟩) (by simp only []; omega) (.int .i64 ((y ||| mo : Nat) : Int))
        clear cc0 cc1 cc2 cc3 cc4 cc5 cc6 ck
        go_wp2_with fail
        exact ⟨⟨k + 1, by omega, by go_num, by rw [hup.out]; exact hs9, hB9, he9⟩, by simp [intOf]; omega⟩
      · have hmo2 := HMO.out
        unfold movedOne at hmo2
        rw [if_neg hb] at hmo2
        have hb' : bit t.sys.alphabet l = false := by simpa using hb
        rw [hmo2] at ck
        rw [hb'] at HH
        clear hmo2
        go_wp2_with (first | (go_at_call 85; refine (HH.out _).mono ?_; rintro e w' ⟨rfl, rfl⟩))
        refine (CG.out _ he).mono ?_
        rintro e w4 ⟨rfl, he4⟩
        replace he := he.trans he4
        replace hB := hB.ext he4
        replace hs := hs.ext he4
        replace cnx := he4.cell cnx
        have fnx := hs.fr nx
        have hs9 := hs.set hnx (y ||| mo)
        have hB9 := hB.other (p := ⟨w.heap.size + 1, nx, none⟩) (by simp only []; omega) (.int .i64 ((y ||| mo : Nat) : Int))
        have he9 := he.setCell (p := ⟨w.heap.size + 1, nx, none⟩) (by simp only []; omega) (.int .i64 ((y ||| mo : Nat) : Int))
        clear cc0 cc1 cc2 cc3 cc4 cc5 cc6 ck
        go_wp2_with fail
        exact ⟨⟨k + 1, by omega, by go_num, by rw [hup.out]; exact hs9, hB9, he9⟩, by simp [intOf]; omega⟩
    · obtain rfl : k = t.prop.next.length := by omega
      rw [show moveTo t f l t.prop.next.length = moveM t f l from rfl] at hs
      have cc0 := hB.cell 0 rfl; have cc1 := hB.cell 1 rfl; have cc2 := hB.cell 2 rfl; have cc3 := hB.cell 3 rfl; have cc4 := hB.cell 4 rfl; have cc5 := hB.cell 5 rfl; have cc6 := hB.cell 6 rfl
      go_wp2_with fail
      refine (l9Close_c _ t (moveM t f l) _ t.prop.next.length _ w wr (fun w' h => HV.out w' h) HT.out hel (Lib.hid rfl) HMW.out he hs).mono ?_
      rintro e w3 ⟨rfl, he3, hs3⟩
      go_wp2_with fail
      go_ret
      exact ⟨_, _, rfl, he3, hs3⟩

theorem badM_no {t : Task} {f : Sets} (h : ∀ p, p < t.prop.next.length → f p ≠ 0 → accepts t.prop p = true) : badM t f = false := by
  unfold badM
  rw [List.any_eq_false]
  intro p hp
  rw [List.mem_range] at hp
  by_cases h0 : f p = 0
  · simp [h0]
  · simp [h p hp h0]
theorem badM_yes {t : Task} {f : Sets} {p : Nat} (hp : p < t.prop.next.length) (h0 : f p ≠ 0) (h : accepts t.prop p = false) : badM t f = true := by
  unfold badM
  rw [List.any_eq_true]
  exact ⟨p, List.mem_range.2 hp, by simp [h0, h]⟩

theorem l9Bad_c (v : Value) (t : Task) (f : Sets) (b g0 cap0 : Nat) (w : World) (hV : TaskV w v t) (ht : taskValid t = true) (hf : Within t f) (hs0 : SetsOwn b t.prop.next.length g0 cap0 w f) :
    Calls Tryz.prog 210 #[v, .slice (some ⟨g0, 0, none⟩) t.prop.next.length cap0] w (Grows (.bool (badM t f)) w) := by
  obtain ⟨hS, hP, hA⟩ := taskValid_facts ht
  obtain ⟨-, -, hn0, hn12, hal⟩ := autoValid_facts hP
  obtain ⟨ve, vn, va, rfl, h1, h2, h3⟩ := hV
  obtain ⟨ae, ce, rfl, -, -⟩ := h1.open
  obtain ⟨an, cn, rfl, -, -⟩ := h2.open
  obtain ⟨aa, ca, rfl, -, hacc⟩ := h3.open
  have HAC := Lib.hid hacc
  have HS0 := Lib.hid hs0
  have HAL := Lib.hid hal
  clear h1 h2 h3 ht hA hs0 hacc hal
  obtain ⟨wo, hwo⟩ : ∃ wo, wo = w.alloc (.cells #[.int .i64 t.sys.alphabet, .int .i64 t.sys.states, .slice ae t.sys.edges.length ce, .int .i64 t.prop.alphabet, .slice an t.prop.next.length cn, .slice aa t.prop.accept.length ca, .int .i64 t.alphabet] 57) := ⟨_, rfl⟩
  have he : Ext w wo := by rw [hwo]; exact Ext.alloc _ _
  have hB : Blk wo w.heap.size #[.int .i64 t.sys.alphabet, .int .i64 t.sys.states, .slice ae t.sys.edges.length ce, .int .i64 t.prop.alphabet, .slice an t.prop.next.length cn, .slice aa t.prop.accept.length ca, .int .i64 t.alphabet] 57 := by rw [hwo]; exact Blk.new _ _ _
  have c5 := hB.cell 5 rfl
  go_enter Tryz.func210, Tryz.ntmps210
  go_wp2_with fail
  rw [← hwo]
  clear hwo hB
  go_loopw [5, 18, 19, 20, 21, 22, 23, 24] (fun i _ _ _ _ _ _ _ wr => ∃ k : Nat, k ≤ t.prop.next.length ∧ i = .int .i64 k ∧ Hid (∀ p, p < k → f p ≠ 0 → accepts t.prop p = true) ∧ wo = wr) (fun i _ _ _ _ _ _ _ _ => t.prop.next.length - (intOf i).toNat)
  case atStart => exact ⟨0, by omega, rfl, Lib.hid (fun p hp => by omega), rfl⟩
  case round =>
    obtain ⟨k, hk, rfl, HA, rfl⟩ := hrel
    by_cases hkn : k < t.prop.next.length
    · have ck := (HS0.out.ext he).cell hkn
      have hkn2 : (k : Int) < (t.prop.next.length : Int) := by omega
      have hka : (k : Int) < (t.prop.accept.length : Int) := by have := HAL.out; omega
      have hat := accepts_at hP hkn
      obtain ⟨ba, offa, rfl, -, hc⟩ := HAC.out _ _ hat
      have hc := he.cell (hc _ _ hat)
      rw [Nat.mul_one] at hc
      by_cases h0 : f k = 0
      · have HN : Hid (∀ p, p < k + 1 → f p ≠ 0 → accepts t.prop p = true) := Lib.hid fun p hp hp0 => by
          rcases Nat.lt_or_ge p k with h | h
          · exact HA.out p h hp0
          · obtain rfl : p = k := by omega
            exact absurd h0 hp0
        rw [h0] at ck
        clear h0 hat
        go_wp2_with fail
        exact ⟨⟨k + 1, by omega, by go_num, HN, by first | rfl | trivial⟩, by simp [intOf]; omega⟩
      · have hne : ((f k : Int) != 0) = true := by simp; exact h0
        cases hac : accepts t.prop k with
        | true =>
          rw [hac] at hc
          have HN : Hid (∀ p, p < k + 1 → f p ≠ 0 → accepts t.prop p = true) := Lib.hid fun p hp hp0 => by
            rcases Nat.lt_or_ge p k with h | h
            · exact HA.out p h hp0
            · obtain rfl : p = k := by omega
              exact hac
          clear h0 hat hac
          go_wp2_with fail
          exact ⟨⟨k + 1, by omega, by go_num, HN, by first | rfl | trivial⟩, by simp [intOf]; omega⟩
        | false =>
          rw [hac] at hc
          have HF := Lib.hid (badM_yes hkn h0 hac)
          clear h0 hat hac
          go_wp2_with fail
          go_ret
          exact Grows.mk (by rw [HF.out]; rfl) he
    · obtain rfl : k = t.prop.next.length := by omega
      have HF := Lib.hid (badM_no HA.out)
      go_wp2_with fail
      go_ret
      exact Grows.mk (by rw [HF.out]; rfl) he

theorem safeFrom_nil (t : Task) (f : Sets) : safeFrom t f [] = !badM t f := rfl
theorem safeFrom_bad {t : Task} {f : Sets} (h : badM t f = true) (u : List Int) : safeFrom t f u = false := by
  cases u with
  | nil => rw [safeFrom_nil, h]; rfl
  | cons l u => show (if badM t f then false else _) = false; rw [h]; rfl
theorem safeFrom_step {t : Task} {f : Sets} (h : badM t f = false) (l : Int) (u : List Int) : safeFrom t f (l :: u) = safeFrom t (closeM t (moveM t f l)) u := by
  show (if badM t f then false else _) = _; rw [h]; rfl
theorem drop_chars {s : ByteArray} {k : Nat} (h : k < s.size) : (chars s).drop k = chAt s k :: (chars s).drop (k + 1) := by
  have hk : k < (chars s).length := by rw [chars_len]; exact h
  rw [List.drop_eq_getElem_cons hk]
  have := chars_at s k h
  rw [List.getElem?_eq_getElem hk] at this
  injection this with this
  rw [this]

theorem SafeWord_s (v : Value) (t : Task) (s : ByteArray) (w : World) (hV : TaskV w v t) (hs : s.size ≤ 1048576) (hel : t.sys.edges.length ≤ 1048576) :
    Calls Tryz.prog 205 #[v, .string s] w (Grows (.bool (safeWord t s)) w) := by
  obtain ⟨ve, vn, va, rfl, h1, h2, h3⟩ := hV
  obtain ⟨ae, ce, rfl, -, -⟩ := h1.open
  obtain ⟨an, cn, rfl, -, -⟩ := h2.open
  obtain ⟨aa, ca, rfl, -, -⟩ := h3.open
  have HV := Lib.hid (show ∀ w', Ext w w' → TaskV w' (.agg #[.int .i64 t.sys.alphabet, .int .i64 t.sys.states, .slice ae t.sys.edges.length ce, .int .i64 t.prop.alphabet, .slice an t.prop.next.length cn, .slice aa t.prop.accept.length ca, .int .i64 t.alphabet]) t from fun w' h => ⟨_, _, _, rfl, h1.mono h, h2.mono h, h3.mono h⟩)
  clear h1 h2 h3
  have HWW := Lib.hid (fun w' => WordWithin_s s t.alphabet w' hs)
  have HTV := Lib.hid (fun w' (h : Ext w w') => TaskValid_s _ t w' (HV.out w' h))
  by_cases ht : taskValid t = true
  case neg =>
    have ht : taskValid t = false := by simpa using ht
    rw [ht] at HTV
    go_enter Tryz.func205, Tryz.ntmps205
    go_wp2_with fail
    refine (HTV.out _ (Ext.alloc _ _)).mono ?_
    rintro e w1 ⟨rfl, he1⟩
    go_wp2_with fail
    go_ret
    exact Grows.mk (by unfold safeWord; rw [ht]; rfl) he1.peel
  rw [ht] at HTV
  by_cases hw : wordIn s t.alphabet = true
  case neg =>
    have hw : wordIn s t.alphabet = false := by simpa using hw
    rw [hw] at HWW
    go_enter Tryz.func205, Tryz.ntmps205
    go_wp2_with fail
    refine (HTV.out _ (Ext.alloc _ _)).mono ?_
    rintro e w1 ⟨rfl, he1⟩
    have c6 := he1.blk.cell 6 rfl
    go_wp2_with (go_at_call 191; refine (HWW.out _).mono ?_; rintro e w' ⟨rfl, rfl⟩)
    go_ret
    exact Grows.mk (by unfold safeWord; rw [ht, hw]; rfl) he1.peel
  rw [hw] at HWW
  obtain ⟨hS, hP, hA⟩ := taskValid_facts ht
  have HSW := Lib.hid (startC_within hS hP)
  have HAF := Lib.hid (fun f (h : Within t f) l => afterM_within hS hP h l)
  have HFW : Hid (safeWord t s = safeFrom t (closeM t startM) ((chars s).drop 0)) := Lib.hid (by unfold safeWord; rw [ht, hw]; rfl)
  have HLW := Lib.hid (fun i (h : i < s.size) => wordIn_at hw h)
  have ha63 := (alpha_facts hA).2
  have HT := Lib.hid ht
  clear ht hw hS hP hA
  go_enter Tryz.func205, Tryz.ntmps205
  go_wp2_with fail
  refine (HTV.out _ (Ext.alloc _ _)).mono ?_
  rintro e w1 ⟨rfl, he1⟩
  have hB := he1.blk
  have hx := he1.peel
  clear he1
  have cc0 := hB.cell 0 rfl; have cc1 := hB.cell 1 rfl; have cc2 := hB.cell 2 rfl; have cc3 := hB.cell 3 rfl; have cc4 := hB.cell 4 rfl; have cc5 := hB.cell 5 rfl; have cc6 := hB.cell 6 rfl
  go_wp2_with (go_at_call 191; refine (HWW.out _).mono ?_; rintro e w' ⟨rfl, rfl⟩)
  refine (l9Start_c _ t _ (HV.out _ hx) HT.out hel).mono ?_
  rintro e w2 ⟨g0, cap0, rfl, he2, hs2⟩
  replace hB := hB.ext he2
  replace hs2 := own_base hs2 hx.size
  replace hx := hx.trans he2
  clear cc0 cc1 cc2 cc3 cc4 cc5 cc6 he2
  go_wp2_with fail
  go_loopw [5, 6, 24, 25, 26, 27] (fun vs i _ _ _ _ wr => ∃ (k : Nat) (f : Sets) (g cap : Nat), k ≤ s.size ∧ i = .int .i64 k ∧ vs = .slice (some ⟨g, 0, none⟩) t.prop.next.length cap ∧ SetsOwn w.heap.size t.prop.next.length g cap wr f ∧ Hid (Within t f) ∧ Hid (safeWord t s = safeFrom t f ((chars s).drop k)) ∧ Blk wr w.heap.size #[.int .i64 t.sys.alphabet, .int .i64 t.sys.states, .slice ae t.sys.edges.length ce, .int .i64 t.prop.alphabet, .slice an t.prop.next.length cn, .slice aa t.prop.accept.length ca, .int .i64 t.alphabet] 57 ∧ Ext w wr) (fun _ i _ _ _ _ _ => s.size - (intOf i).toNat)
  case atStart => exact ⟨0, _, g0, cap0, by omega, rfl, rfl, hs2, HSW, HFW, hB, hx⟩
  case round =>
    clear hs2 HFW hB hx
    obtain ⟨k, f, g, cap, hk, rfl, rfl, hs2, HF, HFW, hB, hx⟩ := hrel
    have CB := Lib.hid (fun w' (h : Ext wr w') => l9Bad_c _ t f _ g cap w' (HV.out _ (hx.trans h)) HT.out HF.out (hs2.ext h))
    have cc0 := hB.cell 0 rfl; have cc1 := hB.cell 1 rfl; have cc2 := hB.cell 2 rfl; have cc3 := hB.cell 3 rfl; have cc4 := hB.cell 4 rfl; have cc5 := hB.cell 5 rfl; have cc6 := hB.cell 6 rfl
    cases hbad : badM t f with
    | true =>
      have HR := Lib.hid (safeFrom_bad hbad ((chars s).drop k))
      rw [hbad] at CB
      clear hbad
      by_cases hlt : k < s.size
      · go_wp2_with fail
        refine (CB.out _ (Ext.refl _)).mono ?_
        rintro e w3 ⟨rfl, he3⟩
        have hB3 := hB.ext he3
        clear cc0 cc1 cc2 cc3 cc4 cc5 cc6
        have cc0 := hB3.cell 0 rfl; have cc1 := hB3.cell 1 rfl; have cc2 := hB3.cell 2 rfl; have cc3 := hB3.cell 3 rfl; have cc4 := hB3.cell 4 rfl; have cc5 := hB3.cell 5 rfl; have cc6 := hB3.cell 6 rfl
        go_wp2_with fail
        refine (CB.out _ he3).mono ?_
        rintro e w4 ⟨rfl, he4⟩
        go_wp2_with fail
        go_ret
        exact Grows.mk (by rw [HFW.out, HR.out]; rfl) (hx.trans (he3.trans he4))
      · obtain rfl : k = s.size := by omega
        go_wp2_with fail
        refine (CB.out _ (Ext.refl _)).mono ?_
        rintro e w4 ⟨rfl, he4⟩
        go_wp2_with fail
        go_ret
        exact Grows.mk (by rw [HFW.out, HR.out]; rfl) (hx.trans he4)
    | false =>
      rw [hbad] at CB
      have HBD := Lib.hid hbad
      clear hbad
      by_cases hlt : k < s.size
      · have HD := Lib.hid (drop_chars hlt)
        obtain ⟨l0, l6⟩ := bit_range ha63 (HLW.out k hlt)
        go_wp2_with fail
        refine (CB.out _ (Ext.refl _)).mono ?_
        rintro e w3 ⟨rfl, he3⟩
        replace hB := hB.ext he3
        replace hs2 := hs2.ext he3
        replace hx := hx.trans he3
        clear cc0 cc1 cc2 cc3 cc4 cc5 cc6 CB he3
        go_wp2_with fail
        have D0 := fun d os => cell_regrown (hB.cell 0 rfl) d os; have D1 := fun d os => cell_regrown (hB.cell 1 rfl) d os; have D2 := fun d os => cell_regrown (hB.cell 2 rfl) d os; have D3 := fun d os => cell_regrown (hB.cell 3 rfl) d os; have D4 := fun d os => cell_regrown (hB.cell 4 rfl) d os; have D5 := fun d os => cell_regrown (hB.cell 5 rfl) d os; have D6 := fun d os => cell_regrown (hB.cell 6 rfl) d os
        obtain ⟨Kc, HKc⟩ : ∃ Kc : FuncId → Array Value → World → Value → World → Prop, Hid (Kc = fun (fn : FuncId) (_ : Array Value) (w0 : World) (v : Value) (w' : World) => Ext w0 w' ∧ (fn = 174 → v = .int .i64 (chAt s k)) ∧ (fn = 211 → ∃ g cap, v = .slice (some ⟨g, 0, none⟩) t.prop.next.length cap ∧ SetsOwn w0.heap.size t.prop.next.length g cap w' (closeM t (moveM t f (chAt s k))))) := ⟨_, rfl⟩
        refine wp_region_ext (Kc := Kc) 6 (by kernel_rfl) (by kernel_rfl) ?_
        simp only [List.take_succ_cons, List.take_zero]
        repeat (refine WalkE.pure rfl (fun K hK => ?_); simp only [PureDo]; go_simp; refine hK _ ?_; clear hK K)
        refine WalkE.step (fun K hK wc hwc hdc => ?_)
        simp only [OpDo, OpSafe, OpOut]
        go_simp
        refine ⟨(l1At_c s k wc hlt (by omega)).mono ?_, ?_⟩
        · rintro e w' ⟨rfl, rfl⟩
          exact ⟨_, rfl, by rw [HKc.out]; exact ⟨Ext.refl _, fun _ => rfl, fun h => absurd h (by decide)⟩⟩
        intro u4 w4 hk4
        rw [HKc.out] at hk4
        obtain ⟨hk4, hv4, -⟩ := hk4
        obtain rfl := hv4 rfl
        refine ⟨hk4, hK _ _ ?_⟩
        clear hK K hdc hk4
        repeat (refine WalkE.pure rfl (fun K hK => ?_); simp only [PureDo]; go_simp; refine hK _ ?_; clear hK K)
        refine WalkE.step (fun K hK wd hwd hdd => ?_)
        simp only [OpDo, OpSafe, OpOut]
        go_simp
        have hxd := hx.trans ((Ext.drew _).trans hwd)
        refine ⟨(l9Move_c _ t f (chAt s k) _ g cap wd (HV.out _ hxd) HT.out hel HF.out l0 l6 (hs2.ext ((Ext.drew _).trans hwd))).mono ?_, ?_⟩
        · rintro e w' ⟨g', cap', rfl, he', hs'⟩
          exact ⟨_, rfl, by rw [HKc.out]; exact ⟨he', fun h => absurd h (by decide), fun _ => ⟨g', cap', rfl, hs'⟩⟩⟩
        intro u5 w5 hk5
        rw [HKc.out] at hk5
        obtain ⟨hk5, -, hv5⟩ := hk5
        obtain ⟨g', cap', rfl, hs5⟩ := hv5 rfl
        refine ⟨hk5, hK _ _ ?_⟩
        clear hK K hdd
        repeat (refine WalkE.pure rfl (fun K hK => ?_); simp only [PureDo]; go_simp; refine hK _ ?_; clear hK K)
        refine WalkE.nil (fun wn hwn hmn => ?_)
        simp only [List.drop_succ_cons, List.drop_zero, List.drop_nil]
        have e5 : Ext w5 wn := hmn 5 (by omega)
        have hs6 := own_base (SetsOwn.ext hs5 e5) hxd.size
        have hB6 := hB.ext ((Ext.drew _).trans hwn)
        have hx6 := hx.trans ((Ext.drew _).trans hwn)
        have HN : Hid (safeWord t s = safeFrom t (closeM t (moveM t f (chAt s k))) ((chars s).drop (k + 1))) := Lib.hid (by rw [HFW.out, HD.out, safeFrom_step HBD.out])
        clear hmn HKc D0 D1 D2 D3 D4 D5 D6 hwn hwc hwd hk5 hs5 e5
        go_wp2_with fail
        exact ⟨⟨k + 1, _, g', cap', by omega, by go_num, rfl, hs6, Lib.hid (HAF.out f HF.out _), HN, hB6, hx6⟩, by simp [intOf]; omega⟩
      · obtain rfl : k = s.size := by omega
        have HR : Hid (safeFrom t f ((chars s).drop s.size) = true) := Lib.hid (by rw [List.drop_eq_nil_iff.2 (by rw [chars_len]; exact Nat.le_refl _), safeFrom_nil, HBD.out]; rfl)
        go_wp2_with fail
        refine (CB.out _ (Ext.refl _)).mono ?_
        rintro e w4 ⟨rfl, he4⟩
        go_wp2_with fail
        go_ret
        exact Grows.mk (by rw [HFW.out, HR.out]; rfl) (hx.trans he4)
end Go.Proofs.YtanekmfifmkbmaaGreatDoor
