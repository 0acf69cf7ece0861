/- Part of this seat's proofs, cut to what its law needs. -/

import Derived.Test.YtanekmfifmkbmaaGreatDoorWalkR
import Derived.Test.YtanekmfifmkbmaaGreatDoorPlain7
import Derived.Laws.Bits64b
import Derived.Shelf.Spec.TrailingZeros
import Derived.Test.YtanekmfifmkbmaaGreatDoorWalkH
import Derived.Test.YtanekmfifmkbmaaGreatDoorWalkE
import Derived.Test.YtanekmfifmkbmaaGreatDoorWalkK
import Derived.Test.YtanekmfifmkbmaaGreatDoorRead
import Derived.Test.YtanekmfifmkbmaaGreatDoorWalkP
import Derived.Deep.Upon
import Derived.Maps.AppendAt
import Derived.Deep.DeepCutAuto
import Derived.BigRegion
import Derived.RegionTactic
import Derived.ChangeAlike

namespace Go.Proofs.YtanekmfifmkbmaaGreatDoor
set_option linter.unusedSimpArgs false
set_option linter.unusedVariables false
open Go.RowKit

set_option maxHeartbeats 800000

def Deb (w : World) : Prop := Go.Proofs.TabAt 1 Lib.deBruijn64tab w
theorem Deb.ext {w w' : World} (h : Deb w) (he : Ext w w') : Deb w' := fun j hj => he.cell (h j hj)

theorem tz64_x (x k idx : Nat) (w : World) (hx0 : ((x : Int) == 0) = false)
    (key : IntKind.u64.wrap (bits BinOp.and IntKind.u64 (x : Int) (IntKind.u64.wrap (-(x : Int))) * 285870213051353865) / 288230376151711744 = (idx : Int))
    (hi : idx < 64) (hk : k < 64) (hcell : w.cell? ⟨1, idx, none⟩ = some (.int .u8 k)) :
    Calls Tryz.prog 179 #[.int .u64 x] w (Same (.int .i64 k) w) := by
  go_enter Tryz.func179, Tryz.ntmps179
  go_wp2_with (simp only [key])
  go_ret
  exact ⟨rfl, rfl⟩
theorem tz64_c (x : Nat) (w : World) (h0 : x ≠ 0) (hx : x < 18446744073709551616) (hT : Deb w) :
    Calls Tryz.prog 179 #[.int .u64 x] w (Same (.int .i64 (Lib.ctz 64 x)) w) := by
  obtain ⟨hlow, hk⟩ := Lib.lowest_bit 64 x h0 hx
  obtain ⟨hi, htab⟩ := Lib.deBruijn64_at _ hk
  have hcell := hT _ hi
  rw [htab] at hcell
  exact tz64_x x _ _ w (by simp; omega) (tz64_key x _ hx h0 hlow) hi hk hcell
theorem tz_c (x : Nat) (w : World) (h0 : x ≠ 0) (hx : x < 18446744073709551616) (hT : Deb w) :
    Calls Tryz.prog 128 #[.int .u64 x] w (Same (.int .i64 (Lib.ctz 64 x)) w) := by
  go_enter Tryz.func128, Tryz.ntmps128
  go_wp2_with (go_at_call 179; refine (tz64_c _ _ h0 hx hT).mono ?_; rintro e w' ⟨rfl, rfl⟩)
  go_ret
  exact Same.mk rfl

theorem tz_k {x k : Nat} (hk : Hid (k = Lib.ctz 64 x)) (w : World) (h0 : x ≠ 0) (hx : x < 18446744073709551616) (hT : Deb w) :
    Calls Tryz.prog 128 #[.int .u64 x] w (Same (.int .i64 k) w) := by
  rw [hk.out]; exact tz_c x w h0 hx hT


def mv (es : List Edge) (q : Nat) (l : Int) : Nat := es.foldl (addTo l (2 ^ q)) 0
theorem mv_all (s : Sys) (q : Nat) (l : Int) : mv s.edges q l = stepM s (2 ^ q) l := rfl
theorem mv_snoc (es : List Edge) (e : Edge) (q : Nat) (l : Int) (hs : 0 ≤ e.src) : mv (es ++ [e]) q l = if e.letter = l ∧ e.src.toNat = q then mv es q l ||| 2 ^ e.dst.toNat else mv es q l := by
  unfold mv
  rw [List.foldl_append]
  show addTo l (2 ^ q) _ e = _
  unfold addTo
  rw [Nat.testBit_two_pow]
  by_cases h : q = e.src.toNat
  · subst h; simp
  · have : ¬ e.src.toNat = q := fun h' => h h'.symm
    simp [h, this]
structure MvBlk (w : World) (b : Nat) (es : List Edge) (cs : Array Value) : Prop where
  blk : Blk w b cs 178
  size : cs.size = 96
  cell : ∀ q l, q < 16 → l < 6 → cs[q * 6 + l]? = some (.int .i64 (mv es q (l : Nat) : Nat))
def MovesV (w : World) (v : Value) (s : Sys) : Prop := ∃ b cs, v = .pointer (some ⟨b, 0, none⟩) ∧ MvBlk w b s.edges cs
theorem MvBlk.ext {w w' : World} {b : Nat} {es : List Edge} {cs : Array Value} (h : MvBlk w b es cs) (he : Ext w w') : MvBlk w' b es cs := ⟨h.blk.ext he, h.size, h.cell⟩
theorem MovesV.mono {w w' : World} {v : Value} {s : Sys} (h : MovesV w v s) (he : Ext w w') : MovesV w' v s := let ⟨b, cs, e, h1⟩ := h; ⟨b, cs, e, h1.ext he⟩
theorem MvBlk.get {w : World} {b : Nat} {es : List Edge} {cs : Array Value} (h : MvBlk w b es cs) {q l : Nat} (hq : q < 16) (hl : l < 6) : w.cell? ⟨b, q * 6 + l, none⟩ = some (.int .i64 (mv es q (l : Nat) : Nat)) :=
  h.blk.cell _ (h.cell q l hq hl)

theorem zeroMoves_size : Tryz.zeroCells178.size = 96 := by kernel_rfl
theorem zeroMoves_at (j : Nat) (h : j < 96) : Tryz.zeroCells178[j]? = some (.int .i64 0) := by
  have : ∀ i ∈ List.range 96, Tryz.zeroCells178[i]? = some (.int .i64 0) := by
    intro i hi
    have h96 := List.mem_range.1 hi
    have e : Tryz.zeroCells178 = Array.replicate 96 (.int .i64 0) := by kernel_rfl
    rw [e]; simp [h96]
  exact this j (List.mem_range.2 h)
theorem mv_lt {s : Sys} (h : sysValid s = true) (k q : Nat) (l : Int) : mv (s.edges.take k) q l < 65536 := lt_16 fun r hr => by
  unfold mv at hr
  rcases (foldl_addTo l (2 ^ q) r (s.edges.take k) 0).1 hr with h1 | ⟨e, he, _, _, h2⟩
  · simp at h1
  · have := (edges_in h (List.mem_of_mem_take he)).2.1
    omega

theorem wrap_pow (d : Nat) (h : d < 16) : wrap64 (2 ^ d) = ((2 ^ d : Nat) : Int) := by
  have : d = 0 ∨ d = 1 ∨ d = 2 ∨ d = 3 ∨ d = 4 ∨ d = 5 ∨ d = 6 ∨ d = 7 ∨ d = 8 ∨ d = 9 ∨ d = 10 ∨ d = 11 ∨ d = 12 ∨ d = 13 ∨ d = 14 ∨ d = 15 := by omega
  rcases this with rfl | rfl | rfl | rfl | rfl | rfl | rfl | rfl | rfl | rfl | rfl | rfl | rfl | rfl | rfl | rfl <;> (unfold wrap64; decide)
theorem pow_lt16 {d : Nat} (h : d < 16) : 2 ^ d < 65536 := by
  show 2 ^ d < 2 ^ 16
  exact Nat.pow_lt_pow_right (by decide) h
theorem MvBlk.set {w : World} {b : Nat} {es : List Edge} {cs : Array Value} (h : MvBlk w b es cs) {a l d : Nat} (ha : a < 16) (hl : l < 6) {v : Int} (hv : v = ((mv es a (l : Nat) ||| 2 ^ d : Nat) : Int)) :
    MvBlk (w.setCell ⟨b, a * 6 + l, none⟩ (.int .i64 v)) b (es ++ [⟨a, l, d⟩]) (cs.setIfInBounds (a * 6 + l) (.int .i64 v)) := by
  refine ⟨h.blk.set _ _, by simp [h.size], fun q m hq hm => ?_⟩
  rw [mv_snoc _ _ _ _ (by simp)]
  simp only [Int.toNat_natCast]
  by_cases hc : a * 6 + l = q * 6 + m
  · have h1 : a = q := by omega
    have h2 : l = m := by omega
    subst h1; subst h2
    rw [if_pos ⟨rfl, rfl⟩, Array.getElem?_setIfInBounds_self_of_lt (by rw [h.size]; omega), hv]
  · rw [Array.getElem?_setIfInBounds_ne (by omega), if_neg (by omega)]
    exact h.cell q m hq hm

theorem movesOf_c (v : Value) (s : Sys) (w : World) (hv : SysV w v s) (hs : sysValid s = true) :
    Calls Tryz.prog 76 #[v] w (Gives (fun v w' => MovesV w' v s) w) := by
  obtain ⟨ve, rfl, h1⟩ := hv
  obtain ⟨ae, ce, rfl, hle, hn⟩ := h1.open
  obtain ⟨wo, hwo⟩ : ∃ wo, wo = (w.alloc (.cells #[.int .i64 s.alphabet, .int .i64 s.states, .slice ae s.edges.length ce] 25)).alloc (.cells Tryz.zeroCells178 178) := ⟨_, rfl⟩
  have he : Ext w wo := by rw [hwo]; exact (Ext.alloc _ _).trans (Ext.alloc _ _)
  have hM : MvBlk wo (w.heap.size + 1) (s.edges.take 0) Tryz.zeroCells178 := by
    refine ⟨?_, zeroMoves_size, fun q l hq hl => by rw [zeroMoves_at _ (by omega)]; simp [mv]⟩
    rw [hwo]; have := Blk.new (w.alloc (.cells #[.int .i64 s.alphabet, .int .i64 s.states, .slice ae s.edges.length ce] 25)) Tryz.zeroCells178 178; rwa [World.size_alloc] at this
  go_enter Tryz.func76, Tryz.ntmps76
  go_wp2_with fail
  rw [← hwo]
  clear hwo
  go_loopw [10] (fun i wr => ∃ (k : Nat), k ≤ s.edges.length ∧ i = .int .i64 k ∧ (∃ cs, MvBlk wr (w.heap.size + 1) (s.edges.take k) cs) ∧ Ext w wr) (fun i _ => s.edges.length - (intOf i).toNat)
  case atStart => exact ⟨0, by omega, rfl, ⟨_, hM⟩, he⟩
  case round =>
    clear hM he
    obtain ⟨k, hk, rfl, ⟨cs, hM⟩, hext⟩ := hrel
    by_cases hlt : k < s.edges.length
    · obtain ⟨x, hx⟩ : ∃ x, s.edges[k]? = some x := ⟨_, List.getElem?_eq_getElem hlt⟩
      obtain ⟨b, off, rfl, -, hc⟩ := hn k x hx
      obtain ⟨q1, q2, q3⟩ := (hc k x hx).mono hext
      have hin := edges_in hs (List.mem_of_getElem? hx)
      have hmv := mv_lt hs k x.src.toNat x.letter
      have HX := Lib.hid hx
      obtain ⟨src, letter, dst⟩ := x
      obtain ⟨i1, i2, i3, i4, i5, i6, -⟩ := hin
      simp only [] at i1 i2 i3 i4 i5 i6 q1 q2 q3 hmv
      obtain ⟨a, rfl⟩ := Int.eq_ofNat_of_zero_le i3
      obtain ⟨l, rfl⟩ := Int.eq_ofNat_of_zero_le i5
      obtain ⟨d, rfl⟩ := Int.eq_ofNat_of_zero_le i4
      simp only [Int.toNat_natCast] at i1 i2 hmv
      have i6' : l < 6 := by omega
      have i1' : (a : Int) < 16 := by omega
      clear hc hn hx i3 i4 i5
      go_wp2_with fail
      obtain ⟨wo2, hwo2⟩ : ∃ wo2, wo2 = wr.alloc (.cells #[.int .i64 a, .int .i64 l, .int .i64 d] 87) := ⟨_, rfl⟩
      have hx2 : Ext wr wo2 := by rw [hwo2]; exact Ext.alloc _ _
      have hT : Blk wo2 wr.heap.size #[.int .i64 a, .int .i64 l, .int .i64 d] 87 := by rw [hwo2]; exact Blk.new _ _ _
      rw [← hwo2]
      clear hwo2 q1 q2 q3
      have hM2 := hM.ext hx2
      have D1 := fun d os => cell_regrown (hT.cell 0 rfl) d os
      have D2 := fun d os => cell_regrown (hT.cell 1 rfl) d os
      have D3 := fun d os => cell_regrown (hT.cell 2 rfl) d os
      have D0 := fun d os => cell_regrown (hM2.get i1 i6') d os
      obtain ⟨Kc, HKc⟩ : ∃ Kc : FuncId → Array Value → World → Value → World → Prop, Hid (Kc = fun (_ : FuncId) (args : Array Value) (w0 : World) (v : Value) (w' : World) => Ext w0 w') := ⟨_, rfl⟩
      refine wp_region_ext (Kc := Kc) 16 (by kernel_rfl) (by kernel_rfl) ?_
      simp only [List.take_succ_cons, List.take_zero]
      repeat (refine WalkE.pure rfl (fun K hK => ?_); simp only [PureDo]; go_simp; refine hK _ ?_; clear hK K)
      refine WalkE.nil (fun wn hwn hmn => ?_)
      simp only [List.drop_succ_cons, List.drop_zero, List.drop_nil]
      clear hmn HKc
      have hx3 := hx2.trans ((Ext.drew _).trans hwn)
      have hM3 := hM.ext hx3
      have c0 := hM3.get i1 i6'
      have f0 := hM3.blk.fr (a * 6 + l)
      clear D0 D1 D2 D3 hwn hM2
      go_wp2_with fail
      refine ⟨⟨k + 1, by omega, by go_num, ?_, (hext.trans hx3).setCell (p := ⟨w.heap.size + 1, a * 6 + l, none⟩) (by simp only []; omega) _⟩, by simp [intOf]; omega⟩
      rw [List.take_add_one, HX.out]
      exact ⟨_, hM3.set i1 i6' (by rw [wrap_pow d i2]; exact i64_or_nat _ _ (by omega) (by have := pow_lt16 i2; omega))⟩
    · obtain rfl : k = s.edges.length := by omega
      go_wp2_with fail
      go_ret
      rw [List.take_length] at hM
      exact Gives.mk rfl hext ⟨_, cs, rfl, hM⟩

theorem step_c (v : Value) (s : Sys) (a l : Nat) (w : World) (hv : MovesV w v s) (hs : sysValid s = true) (ha : a < 65536) (hl : l < 6) (hT : Deb w) :
    Calls Tryz.prog 206 #[v, .int .i64 a, .int .i64 l] w (Grows (.int .i64 (stepM s a (l : Nat) : Nat)) w) := by
  obtain ⟨b, cs, rfl, hM⟩ := hv
  have hl' : (l : Int) < 6 := by omega
  go_enter Tryz.func206, Tryz.ntmps206
  go_wp2_with fail
  go_loopw [1, 7] (fun c o wr => ∃ r m : Nat, r < 65536 ∧ m < 65536 ∧ c = .int .i64 r ∧ o = .int .i64 m ∧ Hid (m ||| stepM s r (l : Nat) = stepM s a (l : Nat)) ∧ Ext w wr) (fun c _ _ => (intOf c).toNat)
  case atStart => exact ⟨a, 0, ha, by omega, rfl, rfl, by simp [Hid], Ext.refl _⟩
  case round =>
    obtain ⟨r, m, hr, hm, rfl, rfl, HL, hext⟩ := hrel
    by_cases h0 : r = 0
    · subst h0
      go_wp2_with fail
      go_ret
      have := HL.out
      rw [stepM_zero, Nat.or_zero] at this
      subst this
      exact Grows.mk rfl hext
    · have hne : ((r : Int) == 0) = false := by simp; exact h0
      have hne' : ((r : Int) != 0) = true := by simp; exact h0
      have HB := Lib.hid (by
        have := i64_and_nat r (r - 1) (by omega) (by omega)
        rw [show ((r - 1 : Nat) : Int) = (r : Int) - 1 by omega] at this
        exact this : bits .and .i64 (r : Int) ((r : Int) - 1) = ((r &&& (r - 1) : Nat) : Int))
      have HS := Lib.hid (stepM_low s r (l : Nat) h0 (by omega))
      have hlt := and_pred_lt r h0
      have hk := ctz_lt r 16 h0 (by omega) hr
      have hT' := Lib.hid (hT.ext hext)
      have hx := hM.ext hext
      have hbd := stepM_lt hs (2 ^ Lib.ctz 64 r) (l : Nat)
      go_wp2_with fail
      obtain ⟨kk, hkk⟩ : ∃ kk, Hid (kk = Lib.ctz 64 r) := ⟨_, rfl⟩
      rw [← hkk.out] at hk hbd
      have hk' : (kk : Int) < 16 := by omega
      have g0 := hx.get hk hl
      rw [mv_all] at g0
      have D0 := fun d os => cell_regrown g0 d os
      clear g0
      have hwr : IntKind.u64.wrap (r : Int) = (r : Int) := by rw [IntKind.wrap_u64]; omega
      obtain ⟨Kc, HKc⟩ : ∃ Kc : FuncId → Array Value → World → Value → World → Prop, Hid (Kc = fun (_ : FuncId) (_ : Array Value) (w0 : World) (v : Value) (w' : World) => Ext w0 w' ∧ v = .int .i64 kk) := ⟨_, rfl⟩
      refine wp_region_ext (Kc := Kc) 12 (by kernel_rfl) (by kernel_rfl) ?_
      simp only [List.take_succ_cons, List.take_zero]
      repeat (refine WalkE.pure rfl (fun K hK => ?_); simp only [PureDo]; go_simp; refine hK _ ?_; clear hK K)
      refine WalkE.step (fun K hK wc hwc hdc => ?_)
      simp only [OpDo, OpSafe, OpOut]
      go_simp
      refine ⟨(tz_k hkk _ h0 (by omega) (hT'.out.ext ((Ext.drew _).trans hwc))).mono ?_, ?_⟩
      · rintro e w' ⟨rfl, rfl⟩
        exact ⟨_, rfl, by rw [HKc.out]; exact ⟨Ext.refl _, rfl⟩⟩
      intro u w4 hkc
      rw [HKc.out] at hkc
      obtain ⟨hk1, rfl⟩ := hkc
      refine ⟨hk1, hK _ _ ?_⟩
      clear hK K hdc hk1
      repeat (refine WalkE.pure rfl (fun K hK => ?_); simp only [PureDo]; go_simp; refine hK _ ?_; clear hK K)
      refine WalkE.nil (fun wn hwn hmn => ?_)
      simp only [List.drop_succ_cons, List.drop_zero, List.drop_nil]
      clear hmn D0 hwc HKc hwr
      have hx3 := hext.trans ((Ext.drew _).trans hwn)
      go_wp2_with fail
      have ho := i64_or_nat m (stepM s (2 ^ kk) (l : Nat)) (by omega) (by omega)
      refine ⟨⟨r &&& (r - 1), m ||| stepM s (2 ^ kk) (l : Nat), by omega, or_lt16 hm hbd, by rw [HB.out], by rw [ho], ?_, hx3⟩, by rw [HB.out]; simp only [intOf, Int.toNat_natCast]; omega⟩
      show _ = _
      rw [Nat.or_assoc, hkk.out, ← HS.out]; exact HL.out
end Go.Proofs.YtanekmfifmkbmaaGreatDoor

namespace Go.Proofs.YtanekmfifmkbmaaGreatDoor
set_option linter.unusedSimpArgs false
set_option linter.unusedVariables false
open Go.RowKit

set_option maxHeartbeats 800000


end Go.Proofs.YtanekmfifmkbmaaGreatDoor

namespace Go.Proofs.YtanekmfifmkbmaaGreatDoor
set_option linter.unusedSimpArgs false
set_option linter.unusedVariables false
open Go.RowKit

set_option maxHeartbeats 1000000
set_option maxRecDepth 100000

section
variable {P : Program} {ops : Array Oper} {rest : List Oper} {o : Oper} {a : Act} {Q : Exit → Act → World → Prop}
end

end Go.Proofs.YtanekmfifmkbmaaGreatDoor

namespace Go.Proofs.YtanekmfifmkbmaaGreatDoor
set_option linter.unusedSimpArgs false
set_option linter.unusedVariables false
open Go.RowKit

set_option maxHeartbeats 1000000
set_option maxRecDepth 100000

theorem letterByte_c (l : Nat) (w : World) (hl : l < 6) : Calls Tryz.prog 189 #[.int .i64 l] w (Same (.int .u8 ((97 + l : Nat) : Int)) w) := by
  go_enter Tryz.func189, Tryz.ntmps189
  go_wp2_with fail
  go_ret
  exact Same.mk (by rw [show ((97 + l : Nat) : Int) = 97 + (l : Int) by omega]; rfl)

structure RevTo (xs ys : List Value) (k : Nat) : Prop where
  len : ys.length = xs.length
  out : ∀ i, i < xs.length → (i < k ∨ xs.length ≤ i + k) → ys[i]? = xs[xs.length - 1 - i]?
  mid : ∀ i, k ≤ i → i + k < xs.length → ys[i]? = xs[i]?
theorem RevTo.swap {xs ys : List Value} {k : Nat} {a b : Value} (h : RevTo xs ys k) (hk : 2 * k + 1 < xs.length) (ha : ys[k]? = some a) (hb : ys[xs.length - 1 - k]? = some b) :
    RevTo xs ((ys.set k b).set (xs.length - 1 - k) a) (k + 1) := by
  have hl := h.len
  have h1 := h.mid k (Nat.le_refl _) (by omega)
  have h2 := h.mid (xs.length - 1 - k) (by omega) (by omega)
  refine ⟨by simp [hl], fun i hi hc => ?_, fun i h3 h4 => ?_⟩
  · by_cases e1 : i = xs.length - 1 - k
    · subst e1
      rw [List.getElem?_set_self (by simp; omega), show xs.length - 1 - (xs.length - 1 - k) = k by omega, ← h1, ha]
    · rw [List.getElem?_set_ne (fun e => e1 e.symm)]
      by_cases e2 : i = k
      · subst e2
        rw [List.getElem?_set_self (by omega), ← h2, hb]
      · rw [List.getElem?_set_ne (fun e => e2 e.symm)]
        exact h.out i hi (by omega)
  · rw [List.getElem?_set_ne (by omega), List.getElem?_set_ne (by omega)]
    exact h.mid i (by omega) (by omega)


def lb (l : Int) : UInt8 := UInt8.ofNat (97 + l.toNat)
def wtext (u : List Int) : ByteArray := ⟨(u.map lb).toArray⟩
theorem lb_val (l : Nat) (h : l < 6) : byteVal (lb (l : Int)) = .int .u8 ((97 + l : Nat) : Int) := by
  have : l = 0 ∨ l = 1 ∨ l = 2 ∨ l = 3 ∨ l = 4 ∨ l = 5 := by omega
  rcases this with rfl | rfl | rfl | rfl | rfl | rfl <;> rfl
abbrev Rec := Int × Int × List Nat
structure Recs (recs : List Rec) (st : List (List Int × List Nat)) : Prop where
  len : recs.length = st.length
  nodes : ∀ (j : Nat) r x, recs[j]? = some r → st[j]? = some x → r.2.2 = x.2
  word : ∀ (j : Nat) r x, recs[j]? = some r → st[j]? = some x → (r.1 < 0 ∧ x.1 = []) ∨ ∃ (p l : Nat) (y : List Int × List Nat), r.1 = (p : Int) ∧ r.2.1 = (l : Int) ∧ l < 6 ∧ p < j ∧ st[p]? = some y ∧ x.1 = y.1 ++ [(l : Int)]
end Go.Proofs.YtanekmfifmkbmaaGreatDoor

namespace Go.Proofs.YtanekmfifmkbmaaGreatDoor
set_option linter.unusedSimpArgs false
set_option linter.unusedVariables false
open Go.RowKit

set_option maxHeartbeats 1000000
set_option maxRecDepth 100000


def freshSt (s : List Bool × List Nat) (n : Nat) : List Bool × List Nat := if s.1[n]? = some false then (s.1.set n true, s.2 ++ [n]) else s
def freshTo (sb : List Bool) (R : List Nat) : List Bool × List Nat := R.foldl freshSt (sb, [])
theorem freshTo_snoc (sb : List Bool) (R : List Nat) (n : Nat) : freshTo sb (R ++ [n]) = freshSt (freshTo sb R) n := by unfold freshTo; rw [List.foldl_append]; rfl
theorem freshTo_len (sb : List Bool) (R : List Nat) : (freshTo sb R).1.length = sb.length := by
  unfold freshTo
  have : ∀ (R : List Nat) (s : List Bool × List Nat), (R.foldl freshSt s).1.length = s.1.length := by
    intro R
    induction R with
    | nil => intro s; rfl
    | cons n R ih =>
      intro s
      rw [List.foldl_cons, ih]
      unfold freshSt; split <;> simp
  exact this R _
def unseen (sb : List Bool) : Nat := (sb.filter fun b => !b).length
theorem freshTo_mem (sb : List Bool) (R : List Nat) (hR : ∀ n ∈ R, n < sb.length) : (∀ n, n < sb.length → ((freshTo sb R).1[n]? = some true ↔ (sb[n]? = some true ∨ n ∈ R))) ∧ (∀ n, n ∈ (freshTo sb R).2 ↔ (n ∈ R ∧ sb[n]? = some false)) := by
  have bool : ∀ (l : List Bool) (n : Nat), n < l.length → (l[n]? = some false ↔ ¬ l[n]? = some true) := by
    intro l n h
    rw [List.getElem?_eq_getElem h]
    cases l[n] <;> simp
  induction h : R.length generalizing R with
  | zero =>
    obtain rfl := List.eq_nil_of_length_eq_zero h
    exact ⟨fun n _ => by simp [freshTo], fun n => by simp [freshTo]⟩
  | succ k ih =>
    obtain ⟨R', x, rfl⟩ : ∃ R' x, R = R' ++ [x] := ⟨R.dropLast, R.getLast (by intro e; simp [e] at h), (List.dropLast_concat_getLast _).symm⟩
    obtain ⟨h1, h2⟩ := ih R' (fun n hn => hR n (by simp [hn])) (by simpa using h)
    have hx : x < sb.length := hR x (by simp)
    have hl := freshTo_len sb R'
    rw [freshTo_snoc]
    unfold freshSt
    by_cases hc : (freshTo sb R').1[x]? = some false
    · rw [if_pos hc]
      have hn : ¬ (freshTo sb R').1[x]? = some true := (bool _ _ (by omega)).1 hc
      rw [h1 x hx] at hn
      refine ⟨fun n hnl => ?_, fun n => ?_⟩
      · by_cases e : x = n
        · subst e
          rw [List.getElem?_set_self (by omega)]; simp
        · rw [List.getElem?_set_ne e, h1 n hnl]
          simp only [List.mem_append, List.mem_singleton]
          constructor
          · rintro (h3 | h3)
            · exact .inl h3
            · exact .inr (.inl h3)
          · rintro (h3 | h3 | h3)
            · exact .inl h3
            · exact .inr h3
            · exact absurd h3.symm e
      · simp only [List.mem_append, List.mem_singleton, h2]
        constructor
        · rintro (⟨h3, h4⟩ | rfl)
          · exact ⟨.inl h3, h4⟩
          · exact ⟨.inr rfl, (bool _ _ hx).2 fun h5 => hn (.inl h5)⟩
        · rintro ⟨h3 | rfl, h4⟩
          · exact .inl ⟨h3, h4⟩
          · exact .inr rfl
    · rw [if_neg hc]
      have hn : (freshTo sb R').1[x]? = some true := by
        refine Classical.byContradiction fun h3 => hc ((bool _ _ (by omega)).2 h3)
      have hn' := (h1 x hx).1 hn
      refine ⟨fun n hnl => ?_, fun n => ?_⟩
      · rw [h1 n hnl]
        simp only [List.mem_append, List.mem_singleton]
        constructor
        · rintro (h3 | h3)
          · exact .inl h3
          · exact .inr (.inl h3)
        · rintro (h3 | h3 | rfl)
          · exact .inl h3
          · exact .inr h3
          · exact hn'
      · simp only [List.mem_append, List.mem_singleton, h2]
        constructor
        · rintro ⟨h3, h4⟩; exact ⟨.inl h3, h4⟩
        · rintro ⟨h3 | rfl, h4⟩
          · exact ⟨h3, h4⟩
          · rcases hn' with h5 | h5
            · rw [h5] at h4; cases h4
            · exact ⟨h5, h4⟩


theorem Tnd.low {S : Nat → Prop} {w w1 w2 : World} (h : Tnd S w w1) (hb : Below w.heap.size w1 w2) : Tnd S w w2 :=
  ⟨hb.os.trans h.os, hb.tape.trans h.tape, hb.output.trans h.output, Nat.le_trans h.size hb.size, fun b hlt hn => (hb.block b hlt).trans (h.block b hlt hn)⟩
end Go.Proofs.YtanekmfifmkbmaaGreatDoor
