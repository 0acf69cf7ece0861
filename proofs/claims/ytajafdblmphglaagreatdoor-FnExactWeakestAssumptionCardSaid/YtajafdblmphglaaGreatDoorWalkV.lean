/- Merged: WalkV, WalkW. -/
import Derived.Test.YtajafdblmphglaaGreatDoorWalkR
import Derived.Test.YtajafdblmphglaaGreatDoorPlain7
import Derived.Laws.Bits64b
import Derived.Shelf.Spec.TrailingZeros
import Derived.Test.YtajafdblmphglaaGreatDoorWalkH
import Derived.Test.YtajafdblmphglaaGreatDoorWalkE
import Derived.Test.YtajafdblmphglaaGreatDoorWalkK
import Derived.Test.YtajafdblmphglaaGreatDoorInj

namespace Go.Proofs.YtajafdblmphglaaGreatDoor
set_option linter.unusedSimpArgs false
set_option linter.unusedVariables false
open Go.RowKit

set_option maxHeartbeats 800000

/-- The table of the library's that is read, as it is laid. -/
def Deb (w : World) : Prop := Go.Proofs.TabAt 1 Lib.deBruijn64tab w
theorem Deb.ext {w w' : World} (h : Deb w) (he : Ext w w') : Deb w' := fun j hj => he.cell (h j hj)

theorem tz64_x (x k idx : Nat) (w : World) (hx0 : ((x : Int) == 0) = false)
    (key : IntKind.u64.wrap (bits BinOp.and IntKind.u64 (x : Int) (IntKind.u64.wrap (-(x : Int))) * 285870213051353865) / 288230376151711744 = (idx : Int))
    (hi : idx < 64) (hk : k < 64) (hcell : w.cell? ⟨1, idx, none⟩ = some (.int .u8 k)) :
    Calls Tryz.prog 233 #[.int .u64 x] w (Same (.int .i64 k) w) := by
  go_enter Tryz.func233, Tryz.ntmps233
  go_wp2_with (simp only [key])
  go_ret
  exact ⟨rfl, rfl⟩
theorem tz64_c (x : Nat) (w : World) (h0 : x ≠ 0) (hx : x < 18446744073709551616) (hT : Deb w) :
    Calls Tryz.prog 233 #[.int .u64 x] w (Same (.int .i64 (Lib.ctz 64 x)) w) := by
  obtain ⟨hlow, hk⟩ := Lib.lowest_bit 64 x h0 hx
  obtain ⟨hi, htab⟩ := Lib.deBruijn64_at _ hk
  have hcell := hT _ hi
  rw [htab] at hcell
  exact tz64_x x _ _ w (by simp; omega) (tz64_key x _ hx h0 hlow) hi hk hcell
theorem tz_c (x : Nat) (w : World) (h0 : x ≠ 0) (hx : x < 18446744073709551616) (hT : Deb w) :
    Calls Tryz.prog 192 #[.int .u64 x] w (Same (.int .i64 (Lib.ctz 64 x)) w) := by
  go_enter Tryz.func192, Tryz.ntmps192
  go_wp2_with (go_at_call 233; refine (tz64_c _ _ h0 hx hT).mono ?_; rintro e w' ⟨rfl, rfl⟩)
  go_ret
  exact Same.mk rfl

theorem tz_k {x k : Nat} (hk : Hid (k = Lib.ctz 64 x)) (w : World) (h0 : x ≠ 0) (hx : x < 18446744073709551616) (hT : Deb w) :
    Calls Tryz.prog 192 #[.int .u64 x] w (Same (.int .i64 k) w) := by
  rw [hk.out]; exact tz_c x w h0 hx hT

/-- A list of numbers of the call's own. -/
def ints (l : List Nat) : List Int := List.map (fun (x : Nat) => (x : Int)) l
theorem ints_len (l : List Nat) : (ints l).length = l.length := by simp [ints]
theorem ints_append (a b : List Nat) : ints (a ++ b) = ints a ++ ints b := by simp [ints]
theorem ints_at {l : List Nat} {i x : Nat} (h : l[i]? = some x) : (ints l)[i]? = some (x : Int) := by simp [ints, h]

theorem members_c (s : Nat) (w : World) (hs : s < 65536) (hT : Deb w) :
    Calls Tryz.prog 227 #[.int .i64 s] w (Gives (fun v w' => IntsOwn 3 w.heap.size w' v (ints (bitsOf s))) w) := by
  go_enter Tryz.func227, Tryz.ntmps227
  go_wp2_with fail
  go_loopw [0, 3] (fun c v wr => ∃ (r : Nat) (l : List Nat), r < 65536 ∧ c = .int .i64 r ∧ Hid (l ++ bitsOf r = bitsOf s) ∧ IntsOwn 3 w.heap.size wr v (ints l) ∧ Ext w wr) (fun c _ _ => (intOf c).toNat)
  case atStart => exact ⟨s, [], hs, rfl, by simp [Hid], IntsOwn.nil _ _ _, Ext.refl _⟩
  case round =>
    obtain ⟨r, l, hr, rfl, HL, hown, hext⟩ := hrel
    have hsz := hext.size
    have hT' := Lib.hid (hT.ext hext)
    by_cases h0 : r = 0
    · subst h0
      go_wp2_with fail
      go_ret
      refine Gives.mk rfl hext ?_
      have := HL.out
      rw [bitsOf_zero, List.append_nil] at this
      rw [← this]; exact hown
    · have hne : ((r : Int) == 0) = false := by simp; exact h0
      have hne' : ((r : Int) != 0) = true := by simp; exact h0
      have hlen : (ints l).length ≤ 16 := by
        have h1 := congrArg List.length HL.out
        have h2 := bitsOf_len s
        rw [List.length_append] at h1
        rw [ints_len]; omega
      have hb : bits .and .i64 (r : Int) ((r : Int) - 1) = ((r &&& (r - 1) : Nat) : Int) := by
        have := i64_and_nat r (r - 1) (by omega) (by omega)
        rw [show ((r - 1 : Nat) : Int) = (r : Int) - 1 by omega] at this
        exact this
      have HS := Lib.hid (bitsOf_step r h0 hr)
      have hlt := and_pred_lt r h0
      have HB := Lib.hid hb
      clear hb
      go_wp2_with (first | (go_at_call 192; refine (tz_c r _ h0 (by omega) (hT'.out)).mono ?_; rintro e w' ⟨rfl, rfl⟩) | (at_builtin; refine app1 rfl rfl Tryz.underlying81 infoInt rfl (by decide) hown.own rfl rfl rfl (by simp [Value.oneCell']) (by omega) (by decide) (by omega) ?_; intro v1 w1 hown1 hgr1 hbl1))
      refine ⟨⟨r &&& (r - 1), l ++ [Lib.ctz 64 r], by omega, by rw [HB.out], ?_, IntsOwn.push hown1 (by rw [ints_append]; rfl), Below.trans hext hbl1⟩, by rw [HB.out]; simp only [intOf, Int.toNat_natCast]; omega⟩
      show _ = _
      rw [List.append_assoc, List.singleton_append, ← HS.out]; exact HL.out

/-! ### The moves of a system -/
/-- Where the letter l leads from q, by the first edges. -/
def mv (es : List Edge) (q : Nat) (l : Int) : Nat := es.foldl (addTo l (2 ^ q)) 0
theorem mv_all (s : Sys) (q : Nat) (l : Int) : mv s.edges q l = stepM s (2 ^ q) l := rfl
theorem mv_snoc (es : List Edge) (e : Edge) (q : Nat) (l : Int) (hs : 0 ≤ e.src) : mv (es ++ [e]) q l = if e.letter = l ∧ e.src.toNat = q then mv es q l ||| 2 ^ e.dst.toNat else mv es q l := by
  unfold mv
  rw [List.foldl_append]
  show addTo l (2 ^ q) _ e = _
  unfold addTo
  rw [Nat.testBit_two_pow]
  by_cases h : q = e.src.toNat
  · subst h; simp
  · have : ¬ e.src.toNat = q := fun h' => h h'.symm
    simp [h, this]
/-- The block of the moves. -/
structure MvBlk (w : World) (b : Nat) (es : List Edge) (cs : Array Value) : Prop where
  blk : Blk w b cs 214
  size : cs.size = 96
  cell : ∀ q l, q < 16 → l < 6 → cs[q * 6 + l]? = some (.int .i64 (mv es q (l : Nat) : Nat))
def MovesV (w : World) (v : Value) (s : Sys) : Prop := ∃ b cs, v = .pointer (some ⟨b, 0, none⟩) ∧ MvBlk w b s.edges cs
theorem MvBlk.ext {w w' : World} {b : Nat} {es : List Edge} {cs : Array Value} (h : MvBlk w b es cs) (he : Ext w w') : MvBlk w' b es cs := ⟨h.blk.ext he, h.size, h.cell⟩
theorem MovesV.mono {w w' : World} {v : Value} {s : Sys} (h : MovesV w v s) (he : Ext w w') : MovesV w' v s := let ⟨b, cs, e, h1⟩ := h; ⟨b, cs, e, h1.ext he⟩
theorem MvBlk.get {w : World} {b : Nat} {es : List Edge} {cs : Array Value} (h : MvBlk w b es cs) {q l : Nat} (hq : q < 16) (hl : l < 6) : w.cell? ⟨b, q * 6 + l, none⟩ = some (.int .i64 (mv es q (l : Nat) : Nat)) :=
  h.blk.cell _ (h.cell q l hq hl)

theorem zeroMoves_size : Tryz.zeroCells214.size = 96 := by kernel_rfl
theorem zeroMoves_at (j : Nat) (h : j < 96) : Tryz.zeroCells214[j]? = some (.int .i64 0) := by
  have : ∀ i ∈ List.range 96, Tryz.zeroCells214[i]? = some (.int .i64 0) := by
    intro i hi
    have h96 := List.mem_range.1 hi
    have e : Tryz.zeroCells214 = Array.replicate 96 (.int .i64 0) := by kernel_rfl
    rw [e]; simp [h96]
  exact this j (List.mem_range.2 h)
theorem mv_lt {s : Sys} (h : sysValid s = true) (k q : Nat) (l : Int) : mv (s.edges.take k) q l < 65536 := lt_16 fun r hr => by
  unfold mv at hr
  rcases (foldl_addTo l (2 ^ q) r (s.edges.take k) 0).1 hr with h1 | ⟨e, he, _, _, h2⟩
  · simp at h1
  · have := (edges_in h (List.mem_of_mem_take he)).2.1
    omega

theorem wrap_pow (d : Nat) (h : d < 16) : wrap64 (2 ^ d) = ((2 ^ d : Nat) : Int) := by
  have : d = 0 ∨ d = 1 ∨ d = 2 ∨ d = 3 ∨ d = 4 ∨ d = 5 ∨ d = 6 ∨ d = 7 ∨ d = 8 ∨ d = 9 ∨ d = 10 ∨ d = 11 ∨ d = 12 ∨ d = 13 ∨ d = 14 ∨ d = 15 := by omega
  rcases this with rfl | rfl | rfl | rfl | rfl | rfl | rfl | rfl | rfl | rfl | rfl | rfl | rfl | rfl | rfl | rfl <;> (unfold wrap64; decide)
theorem pow_lt16 {d : Nat} (h : d < 16) : 2 ^ d < 65536 := by
  show 2 ^ d < 2 ^ 16
  exact Nat.pow_lt_pow_right (by decide) h
theorem MvBlk.set {w : World} {b : Nat} {es : List Edge} {cs : Array Value} (h : MvBlk w b es cs) {a l d : Nat} (ha : a < 16) (hl : l < 6) {v : Int} (hv : v = ((mv es a (l : Nat) ||| 2 ^ d : Nat) : Int)) :
    MvBlk (w.setCell ⟨b, a * 6 + l, none⟩ (.int .i64 v)) b (es ++ [⟨a, l, d⟩]) (cs.setIfInBounds (a * 6 + l) (.int .i64 v)) := by
  refine ⟨h.blk.set _ _, by simp [h.size], fun q m hq hm => ?_⟩
  rw [mv_snoc _ _ _ _ (by simp)]
  simp only [Int.toNat_natCast]
  by_cases hc : a * 6 + l = q * 6 + m
  · have h1 : a = q := by omega
    have h2 : l = m := by omega
    subst h1; subst h2
    rw [if_pos ⟨rfl, rfl⟩, Array.getElem?_setIfInBounds_self_of_lt (by rw [h.size]; omega), hv]
  · rw [Array.getElem?_setIfInBounds_ne (by omega), if_neg (by omega)]
    exact h.cell q m hq hm

theorem movesOf_c (v : Value) (s : Sys) (w : World) (hv : SysV w v s) (hs : sysValid s = true) :
    Calls Tryz.prog 116 #[v] w (Gives (fun v w' => MovesV w' v s) w) := by
  obtain ⟨ve, rfl, h1⟩ := hv
  obtain ⟨ae, ce, rfl, hle, hn⟩ := h1.open
  obtain ⟨wo, hwo⟩ : ∃ wo, wo = (w.alloc (.cells #[.int .i64 s.alphabet, .int .i64 s.states, .slice ae s.edges.length ce] 25)).alloc (.cells Tryz.zeroCells214 214) := ⟨_, rfl⟩
  have he : Ext w wo := by rw [hwo]; exact (Ext.alloc _ _).trans (Ext.alloc _ _)
  have hM : MvBlk wo (w.heap.size + 1) (s.edges.take 0) Tryz.zeroCells214 := by
    refine ⟨?_, zeroMoves_size, fun q l hq hl => by rw [zeroMoves_at _ (by omega)]; simp [mv]⟩
    rw [hwo]; have := Blk.new (w.alloc (.cells #[.int .i64 s.alphabet, .int .i64 s.states, .slice ae s.edges.length ce] 25)) Tryz.zeroCells214 214; rwa [World.size_alloc] at this
  go_enter Tryz.func116, Tryz.ntmps116
  go_wp2_with fail
  rw [← hwo]
  clear hwo
  go_loopw [10] (fun i wr => ∃ (k : Nat), k ≤ s.edges.length ∧ i = .int .i64 k ∧ (∃ cs, MvBlk wr (w.heap.size + 1) (s.edges.take k) cs) ∧ Ext w wr) (fun i _ => s.edges.length - (intOf i).toNat)
  case atStart => exact ⟨0, by omega, rfl, ⟨_, hM⟩, he⟩
  case round =>
    clear hM he
    obtain ⟨k, hk, rfl, ⟨cs, hM⟩, hext⟩ := hrel
    by_cases hlt : k < s.edges.length
    · obtain ⟨x, hx⟩ : ∃ x, s.edges[k]? = some x := ⟨_, List.getElem?_eq_getElem hlt⟩
      obtain ⟨b, off, rfl, -, hc⟩ := hn k x hx
      obtain ⟨q1, q2, q3⟩ := (hc k x hx).mono hext
      have hin := edges_in hs (List.mem_of_getElem? hx)
      have hmv := mv_lt hs k x.src.toNat x.letter
      have HX := Lib.hid hx
      obtain ⟨src, letter, dst⟩ := x
      obtain ⟨i1, i2, i3, i4, i5, i6, -⟩ := hin
      simp only [] at i1 i2 i3 i4 i5 i6 q1 q2 q3 hmv
      obtain ⟨a, rfl⟩ := Int.eq_ofNat_of_zero_le i3
      obtain ⟨l, rfl⟩ := Int.eq_ofNat_of_zero_le i5
      obtain ⟨d, rfl⟩ := Int.eq_ofNat_of_zero_le i4
      simp only [Int.toNat_natCast] at i1 i2 hmv
      have i6' : l < 6 := by omega
      have i1' : (a : Int) < 16 := by omega
      clear hc hn hx i3 i4 i5
      go_wp2_with fail
      obtain ⟨wo2, hwo2⟩ : ∃ wo2, wo2 = wr.alloc (.cells #[.int .i64 a, .int .i64 l, .int .i64 d] 77) := ⟨_, rfl⟩
      have hx2 : Ext wr wo2 := by rw [hwo2]; exact Ext.alloc _ _
      have hT : Blk wo2 wr.heap.size #[.int .i64 a, .int .i64 l, .int .i64 d] 77 := by rw [hwo2]; exact Blk.new _ _ _
      rw [← hwo2]
      clear hwo2 q1 q2 q3
      have hM2 := hM.ext hx2
      have D1 := fun d os => cell_regrown (hT.cell 0 rfl) d os
      have D2 := fun d os => cell_regrown (hT.cell 1 rfl) d os
      have D3 := fun d os => cell_regrown (hT.cell 2 rfl) d os
      have D0 := fun d os => cell_regrown (hM2.get i1 i6') d os
      obtain ⟨Kc, HKc⟩ : ∃ Kc : FuncId → Array Value → World → Value → World → Prop, Hid (Kc = fun (_ : FuncId) (args : Array Value) (w0 : World) (v : Value) (w' : World) => Ext w0 w') := ⟨_, rfl⟩
      refine wp_region_ext (Kc := Kc) 16 (by kernel_rfl) (by kernel_rfl) ?_
      simp only [List.take_succ_cons, List.take_zero]
      repeat (refine WalkE.pure rfl (fun K hK => ?_); simp only [PureDo]; go_simp; refine hK _ ?_; clear hK K)
      refine WalkE.nil (fun wn hwn hmn => ?_)
      simp only [List.drop_succ_cons, List.drop_zero, List.drop_nil]
      clear hmn HKc
      have hx3 := hx2.trans ((Ext.drew _).trans hwn)
      have hM3 := hM.ext hx3
      have c0 := hM3.get i1 i6'
      have f0 := hM3.blk.fr (a * 6 + l)
      clear D0 D1 D2 D3 hwn hM2
      go_wp2_with fail
      refine ⟨⟨k + 1, by omega, by go_num, ?_, (hext.trans hx3).setCell (p := ⟨w.heap.size + 1, a * 6 + l, none⟩) (by simp only []; omega) _⟩, by simp [intOf]; omega⟩
      rw [List.take_add_one, HX.out]
      exact ⟨_, hM3.set i1 i6' (by rw [wrap_pow d i2]; exact i64_or_nat _ _ (by omega) (by have := pow_lt16 i2; omega))⟩
    · obtain rfl : k = s.edges.length := by omega
      go_wp2_with fail
      go_ret
      rw [List.take_length] at hM
      exact Gives.mk rfl hext ⟨_, cs, rfl, hM⟩

/-- A step from a set of states. -/
theorem step_c (v : Value) (s : Sys) (a l : Nat) (w : World) (hv : MovesV w v s) (hs : sysValid s = true) (ha : a < 65536) (hl : l < 6) (hT : Deb w) :
    Calls Tryz.prog 117 #[v, .int .i64 a, .int .i64 l] w (Grows (.int .i64 (stepM s a (l : Nat) : Nat)) w) := by
  obtain ⟨b, cs, rfl, hM⟩ := hv
  have hl' : (l : Int) < 6 := by omega
  go_enter Tryz.func117, Tryz.ntmps117
  go_wp2_with fail
  go_loopw [1, 7] (fun c o wr => ∃ r m : Nat, r < 65536 ∧ m < 65536 ∧ c = .int .i64 r ∧ o = .int .i64 m ∧ Hid (m ||| stepM s r (l : Nat) = stepM s a (l : Nat)) ∧ Ext w wr) (fun c _ _ => (intOf c).toNat)
  case atStart => exact ⟨a, 0, ha, by omega, rfl, rfl, by simp [Hid], Ext.refl _⟩
  case round =>
    obtain ⟨r, m, hr, hm, rfl, rfl, HL, hext⟩ := hrel
    by_cases h0 : r = 0
    · subst h0
      go_wp2_with fail
      go_ret
      have := HL.out
      rw [stepM_zero, Nat.or_zero] at this
      subst this
      exact Grows.mk rfl hext
    · have hne : ((r : Int) == 0) = false := by simp; exact h0
      have hne' : ((r : Int) != 0) = true := by simp; exact h0
      have HB := Lib.hid (by
        have := i64_and_nat r (r - 1) (by omega) (by omega)
        rw [show ((r - 1 : Nat) : Int) = (r : Int) - 1 by omega] at this
        exact this : bits .and .i64 (r : Int) ((r : Int) - 1) = ((r &&& (r - 1) : Nat) : Int))
      have HS := Lib.hid (stepM_low s r (l : Nat) h0 (by omega))
      have hlt := and_pred_lt r h0
      have hk := ctz_lt r 16 h0 (by omega) hr
      have hT' := Lib.hid (hT.ext hext)
      have hx := hM.ext hext
      have hbd := stepM_lt hs (2 ^ Lib.ctz 64 r) (l : Nat)
      go_wp2_with fail
      obtain ⟨kk, hkk⟩ : ∃ kk, Hid (kk = Lib.ctz 64 r) := ⟨_, rfl⟩
      rw [← hkk.out] at hk hbd
      have hk' : (kk : Int) < 16 := by omega
      have g0 := hx.get hk hl
      rw [mv_all] at g0
      have D0 := fun d os => cell_regrown g0 d os
      clear g0
      have hwr : IntKind.u64.wrap (r : Int) = (r : Int) := by rw [IntKind.wrap_u64]; omega
      obtain ⟨Kc, HKc⟩ : ∃ Kc : FuncId → Array Value → World → Value → World → Prop, Hid (Kc = fun (_ : FuncId) (_ : Array Value) (w0 : World) (v : Value) (w' : World) => Ext w0 w' ∧ v = .int .i64 kk) := ⟨_, rfl⟩
      refine wp_region_ext (Kc := Kc) 12 (by kernel_rfl) (by kernel_rfl) ?_
      simp only [List.take_succ_cons, List.take_zero]
      repeat (refine WalkE.pure rfl (fun K hK => ?_); simp only [PureDo]; go_simp; refine hK _ ?_; clear hK K)
      refine WalkE.step (fun K hK wc hwc hdc => ?_)
      simp only [OpDo, OpSafe, OpOut]
      go_simp
      refine ⟨(tz_k hkk _ h0 (by omega) (hT'.out.ext ((Ext.drew _).trans hwc))).mono ?_, ?_⟩
      · rintro e w' ⟨rfl, rfl⟩
        exact ⟨_, rfl, by rw [HKc.out]; exact ⟨Ext.refl _, rfl⟩⟩
      intro u w4 hkc
      rw [HKc.out] at hkc
      obtain ⟨hk1, rfl⟩ := hkc
      refine ⟨hk1, hK _ _ ?_⟩
      clear hK K hdc hk1
      repeat (refine WalkE.pure rfl (fun K hK => ?_); simp only [PureDo]; go_simp; refine hK _ ?_; clear hK K)
      refine WalkE.nil (fun wn hwn hmn => ?_)
      simp only [List.drop_succ_cons, List.drop_zero, List.drop_nil]
      clear hmn D0 hwc HKc hwr
      have hx3 := hext.trans ((Ext.drew _).trans hwn)
      go_wp2_with fail
      have ho := i64_or_nat m (stepM s (2 ^ kk) (l : Nat)) (by omega) (by omega)
      refine ⟨⟨r &&& (r - 1), m ||| stepM s (2 ^ kk) (l : Nat), by omega, or_lt16 hm hbd, by rw [HB.out], by rw [ho], ?_, hx3⟩, by rw [HB.out]; simp only [intOf, Int.toNat_natCast]; omega⟩
      show _ = _
      rw [Nat.or_assoc, hkk.out, ← HS.out]; exact HL.out
end Go.Proofs.YtajafdblmphglaaGreatDoor

namespace Go.Proofs.YtajafdblmphglaaGreatDoor
set_option linter.unusedSimpArgs false
set_option linter.unusedVariables false
open Go.RowKit

set_option maxHeartbeats 800000

def SysAt (w : World) (b o : Nat) (s : Sys) : Prop := ∃ ve, w.cell? ⟨b, o, none⟩ = some (.int .i64 s.alphabet) ∧ w.cell? ⟨b, o + 1, none⟩ = some (.int .i64 s.states) ∧ w.cell? ⟨b, o + 2, none⟩ = some ve ∧ EdgesV w ve s.edges
abbrev SyssV := SlV SysAt 3
theorem SysAt.mono {w w' : World} (h : Ext w w') {b o : Nat} {s : Sys} (k : SysAt w b o s) : SysAt w' b o s := let ⟨ve, h1, h2, h3, h4⟩ := k; ⟨ve, h.cell h1, h.cell h2, h.cell h3, h4.mono h⟩
theorem SyssV.mono {w w' : World} (h : Ext w w') {v : Value} {l : List Sys} (k : SyssV w v l) : SyssV w' v l := SlV.mono k (fun _ _ _ _ => SysAt.mono h) h.size
def szSyss (l : List Sys) : Nat := l.length + (l.map szSys).sum

theorem infoSys : (Tryz.prog.info? 25).map (fun i => (i.zero, i.size, i.bytes)) = some (some (.agg #[.int .i64 0, .int .i64 0, .slice none 0 0]), 3, 40) := by kernel_rfl

/-- The first k are filled with systems whose edges are the call's own. -/
structure SyssTo (base g n : Nat) (w : World) (l : List Sys) (k : Nat) (xs : List Value) : Prop where
  own : w.ownsRow base 25 3 (.slice (some ⟨g, 0, none⟩) n n) n xs
  cell : ∀ j s, j < k → l[j]? = some s → ∃ ve, xs[j * 3]? = some (.int .i64 s.alphabet) ∧ xs[j * 3 + 1]? = some (.int .i64 s.states) ∧ xs[j * 3 + 2]? = some ve ∧ EdgesOwn 77 base w ve s.edges
theorem SyssTo.ext {base g n : Nat} {w w' : World} {l : List Sys} {k : Nat} {xs : List Value} (h : SyssTo base g n w l k xs) (he : Ext w w') : SyssTo base g n w' l k xs :=
  ⟨own_ext h.own he, fun j s hj hs => let ⟨ve, a, b, c, d⟩ := h.cell j s hj hs; ⟨ve, a, b, c, d.ext he⟩⟩
theorem SyssTo.blk {base g n : Nat} {w : World} {l : List Sys} {k : Nat} {xs : List Value} (h : SyssTo base g n w l k xs) : ∃ cs, Blk w g cs 25 := by
  rcases h.own.2 with ⟨e, _⟩ | ⟨g1, cap, cur, e, hb, hw, r⟩
  · cases e
  · simp only [Value.slice.injEq, Option.some.injEq, Addr.mk.injEq] at e
    obtain ⟨⟨rfl, -, -⟩, -, -⟩ := e
    exact ⟨_, hw⟩
theorem SyssTo.size {base g n : Nat} {w : World} {l : List Sys} {k : Nat} {xs : List Value} (h : SyssTo base g n w l k xs) : xs.length = n * 3 := h.own.1
theorem SyssTo.at' {base g n : Nat} {w : World} {l : List Sys} {k : Nat} {xs : List Value} (h : SyssTo base g n w l k xs) {j : Nat} (hj : j < n * 3) : ∃ u, w.cell? ⟨g, j, none⟩ = some u := by
  obtain ⟨u, hu⟩ : ∃ u, xs[j]? = some u := ⟨_, List.getElem?_eq_getElem (by rw [h.size]; exact hj)⟩
  exact ⟨u, own_cell h.own hu⟩
theorem SyssTo.push {base g n : Nat} {w : World} {l : List Sys} {k : Nat} {xs : List Value} {s : Sys} {ve : Value} (h : SyssTo base g n w l k xs) (hk : k < n) (hs : l[k]? = some s) (hv : EdgesOwn 77 base w ve s.edges) :
    ∃ xs', SyssTo base g n (((w.setCell ⟨g, k * 3, none⟩ (.int .i64 s.alphabet)).setCell ⟨g, k * 3 + 1, none⟩ (.int .i64 s.states)).setCell ⟨g, k * 3 + 2, none⟩ ve) l (k + 1) xs' := by
  have hl := h.size
  obtain ⟨cs, hG⟩ := h.blk
  obtain ⟨o1, _⟩ := h.own.stored (k * 3) (.int .i64 s.alphabet)
  obtain ⟨o2, _⟩ := o1.stored (k * 3 + 1) (.int .i64 s.states)
  obtain ⟨o3, _⟩ := o2.stored (k * 3 + 2) ve
  have hG1 := hG.set (k * 3) (.int .i64 s.alphabet)
  have hG2 := hG1.set (k * 3 + 1) (.int .i64 s.states)
  refine ⟨_, o3, fun j t hj ht => ?_⟩
  by_cases he : j = k
  · subst he
    rw [hs] at ht; cases ht
    refine ⟨ve, ?_, ?_, ?_, own_store (own_store (own_store hv hG (by decide) _ _) hG1 (by decide) _ _) hG2 (by decide) _ _⟩
    · rw [List.getElem?_set_ne (by omega), List.getElem?_set_ne (by omega), List.getElem?_set_self (by omega)]
    · rw [List.getElem?_set_ne (by omega), List.getElem?_set_self (by simp; omega)]
    · rw [List.getElem?_set_self (by simp; omega)]
  · obtain ⟨vt, a, b, c, d⟩ := h.cell j t (by omega) ht
    refine ⟨vt, ?_, ?_, ?_, own_store (own_store (own_store d hG (by decide) _ _) hG1 (by decide) _ _) hG2 (by decide) _ _⟩
    · rw [List.getElem?_set_ne (by omega), List.getElem?_set_ne (by omega), List.getElem?_set_ne (by omega)]; exact a
    · rw [List.getElem?_set_ne (by omega), List.getElem?_set_ne (by omega), List.getElem?_set_ne (by omega)]; exact b
    · rw [List.getElem?_set_ne (by omega), List.getElem?_set_ne (by omega), List.getElem?_set_ne (by omega)]; exact c
theorem SyssTo.syss {base g : Nat} {w : World} {l : List Sys} {xs : List Value} (h : SyssTo base g l.length w l l.length xs) : SyssV w (.slice (some ⟨g, 0, none⟩) l.length l.length) l :=
  SlV_of_own h.own fun g' cap hv i s hs => by
    obtain ⟨rfl, rfl⟩ : g = g' ∧ l.length = cap := by simpa using hv
    obtain ⟨ve, a, b, c, d⟩ := h.cell i s (List.getElem?_eq_some_iff.1 hs).1 hs
    exact ⟨ve, own_cell h.own a, own_cell h.own b, own_cell h.own c, d.edges⟩

/-! ### Parts -/
def areParts (l : List Sys) : Bool := decide (1 ≤ l.length) && decide (l.length ≤ 3) && l.all sysValid
def orTo (l : List Sys) (k : Nat) : Nat := (l.take k).foldl (fun n s => n ||| s.alphabet.toNat) 0
def partsAlphabet (l : List Sys) : Int := if areParts l then (orTo l l.length : Nat) else -1
theorem orTo_succ {l : List Sys} {k : Nat} {s : Sys} (h : l[k]? = some s) : orTo l (k + 1) = orTo l k ||| s.alphabet.toNat := by
  unfold orTo; rw [List.take_add_one, h, List.foldl_append]; rfl
theorem valid_alpha {s : Sys} (h : sysValid s = true) : 0 ≤ s.alphabet ∧ s.alphabet ≤ 63 ∧ 1 ≤ s.states ∧ s.states ≤ 16 := by
  simp only [sysValid, isAlpha, Bool.and_eq_true, decide_eq_true_eq] at h; omega
theorem orTo_lt {l : List Sys} (h : ∀ s ∈ l, sysValid s = true) (k : Nat) : orTo l k < 64 := by
  unfold orTo
  have : ∀ (m : List Sys) (n : Nat), n < 64 → (∀ s ∈ m, sysValid s = true) → m.foldl (fun n s => n ||| s.alphabet.toNat) n < 64 := by
    intro m
    induction m with
    | nil => intro n hn _; exact hn
    | cons s m ih =>
      intro n hn hm
      refine ih _ (Nat.or_lt_two_pow (n := 6) hn ?_) fun t ht => hm t (by simp [ht])
      have := valid_alpha (hm s (by simp))
      show s.alphabet.toNat < 64
      omega
  exact this _ 0 (by omega) fun s hs => h s (List.mem_of_mem_take hs)

theorem areParts1_c (v : Value) (s : Sys) (w : World) (hv : SysV w v s) : Calls Tryz.prog 131 #[v] w (Grows (.bool (!sysValid s)) w) := by
  obtain ⟨ve, rfl, h1⟩ := hv
  go_enter Tryz.func131, Tryz.ntmps131
  go_wp2_with (go_at_call 14; refine (SystemValid_c _ s _ ⟨_, rfl, h1.mono (Ext.alloc _ _)⟩).mono ?_; rintro e w' ⟨rfl, he⟩)
  go_ret
  exact Grows.mk rfl he.peel

theorem IndexFunc_c (v : Value) (l : List Sys) (w : World) (hv : SyssV w v l) (hl : l.length ≤ 1048576) :
    Calls Tryz.prog 196 #[v, .func (.func 131) #[] #[]] w (Gives (fun v _ => ∃ r : Int, v = .int .i64 r ∧ (decide (0 ≤ r) = !l.all sysValid)) w) := by
  obtain ⟨a, c, rfl, h1, h2⟩ := hv.open
  go_enter Tryz.func196, Tryz.ntmps196
  go_wp2_with fail
  go_loopw [5, 8] (fun _ i wr => ∃ k : Nat, k ≤ l.length ∧ i = .int .i64 k ∧ Hid ((l.take k).all sysValid = true) ∧ Ext w wr) (fun _ i _ => l.length - (intOf i).toNat)
  case atStart => exact ⟨0, by omega, rfl, by simp [Hid], Ext.refl _⟩
  case round =>
    obtain ⟨k, hk, rfl, HA, hext⟩ := hrel
    by_cases hlt : k < l.length
    · obtain ⟨x, hx⟩ : ∃ x, l[k]? = some x := ⟨_, List.getElem?_eq_getElem hlt⟩
      obtain ⟨b, off, rfl, -, hc⟩ := h2 k x hx
      obtain ⟨ve, g1, g2, g3, hve⟩ := (hc k x hx).mono hext
      have HX := Lib.hid hx
      clear hc hx h2
      by_cases hs : sysValid x = true
      · go_wp2_with (go_at_call 131; refine (areParts1_c _ x _ ⟨ve, rfl, hve⟩).mono ?_; rintro e w' ⟨rfl, he⟩; rw [hs])
        exact ⟨⟨k + 1, by omega, by go_num, by simp [Hid, List.take_add_one, HX.out, HA.out, hs], hext.trans he⟩, by simp [intOf]; omega⟩
      · have hs' : sysValid x = false := by simpa using hs
        go_wp2_with (go_at_call 131; refine (areParts1_c _ x _ ⟨ve, rfl, hve⟩).mono ?_; rintro e w' ⟨rfl, he⟩; rw [hs'])
        go_ret
        refine Gives.mk rfl (hext.trans he) ⟨_, rfl, ?_⟩
        rw [not_all_of HX.out hs']
        simp
    · obtain rfl : k = l.length := by omega
      go_wp2_with fail
      go_ret
      refine Gives.mk rfl hext ⟨_, rfl, ?_⟩
      have := HA.out
      rw [List.take_length] at this
      rw [this]
      simp

theorem ContainsFunc_c (v : Value) (l : List Sys) (w : World) (hv : SyssV w v l) (hl : l.length ≤ 1048576) :
    Calls Tryz.prog 130 #[v, .func (.func 131) #[] #[]] w (Grows (.bool (!l.all sysValid)) w) := by
  go_enter Tryz.func130, Tryz.ntmps130
  go_wp2_with (go_at_call 196; refine (IndexFunc_c _ l _ hv hl).mono ?_; rintro e w' ⟨_, rfl, he, r, rfl, hr⟩)
  go_ret
  refine Grows.mk ?_ he
  rw [← hr]
  try rfl

theorem areParts_c (v : Value) (l : List Sys) (w : World) (hv : SyssV w v l) (hl : l.length ≤ 1048576) :
    Calls Tryz.prog 69 #[v] w (Grows (.bool (areParts l)) w) := by
  have hv' := hv
  obtain ⟨a, c, rfl, h1, h2⟩ := hv.open
  clear h2
  by_cases h3 : 1 ≤ l.length
  · by_cases h4 : l.length ≤ 3
    · go_enter Tryz.func69, Tryz.ntmps69
      go_wp2_with (go_at_call 130; refine (ContainsFunc_c _ l _ hv' hl).mono ?_; rintro e w' ⟨rfl, he⟩)
      go_ret
      exact Grows.mk (by simp [areParts, h3, h4]) he
    · go_enter Tryz.func69, Tryz.ntmps69
      go_wp2_with fail
      go_ret
      exact Grows.mk (by simp [areParts, h4]) (Ext.refl _)
  · go_enter Tryz.func69, Tryz.ntmps69
    go_wp2_with fail
    go_ret
    exact Grows.mk (by simp [areParts, h3]) (Ext.refl _)

theorem PartsAlphabet_c (v : Value) (l : List Sys) (w : World) (hv : SyssV w v l) (hl : l.length ≤ 1048576) :
    Calls Tryz.prog 175 #[v] w (Grows (.int .i64 (partsAlphabet l)) w) := by
  have hv' := hv
  obtain ⟨a, c, rfl, h1, h2⟩ := hv.open
  by_cases hp : areParts l = true
  · have hall : ∀ s ∈ l, sysValid s = true := by
      simp only [areParts, Bool.and_eq_true, List.all_eq_true] at hp; exact hp.2
    have HP := Lib.hid hp
    clear hp
    go_enter Tryz.func175, Tryz.ntmps175
    go_wp2_with (go_at_call 69; refine (areParts_c _ l _ hv' hl).mono ?_; rintro e w1 ⟨rfl, he1⟩; rw [HP.out])
    go_loopw [3, 11] (fun o i wr => ∃ k : Nat, k ≤ l.length ∧ i = .int .i64 k ∧ o = .int .i64 (orTo l k : Nat) ∧ Ext w wr) (fun _ i _ => l.length - (intOf i).toNat)
    case atStart => exact ⟨0, by omega, rfl, rfl, he1⟩
    case round =>
      obtain ⟨k, hk, rfl, rfl, hext⟩ := hrel
      by_cases hlt : k < l.length
      · obtain ⟨x, hx⟩ : ∃ x, l[k]? = some x := ⟨_, List.getElem?_eq_getElem hlt⟩
        obtain ⟨b, off, rfl, -, hc⟩ := h2 k x hx
        obtain ⟨ve, g1, g2, g3, hve⟩ := (hc k x hx).mono hext
        obtain ⟨va, vc, rfl, -, -⟩ := hve.open
        have HX := Lib.hid (orTo_succ hx)
        have ho := orTo_lt hall k
        have hal := valid_alpha (hall x (List.mem_of_getElem? hx))
        obtain ⟨n, hn⟩ := Int.eq_ofNat_of_zero_le hal.1
        have HO := Lib.hid (i64_or_nat (orTo l k) n (by omega) (by omega))
        rw [hn] at g1
        have HN := Lib.hid hn
        clear hc hx h2 hn
        go_wp2_with fail
        exact ⟨⟨k + 1, by omega, by go_num, by rw [HX.out, HN.out, Int.toNat_natCast, HO.out], hext.trans (Ext.alloc _ _)⟩, by simp [intOf]; omega⟩
      · obtain rfl : k = l.length := by omega
        go_wp2_with fail
        go_ret
        exact Grows.mk (by unfold partsAlphabet; rw [HP.out]; rfl) hext
  · have hp' : areParts l = false := by simpa using hp
    go_enter Tryz.func175, Tryz.ntmps175
    go_wp2_with (go_at_call 69; refine (areParts_c _ l _ hv' hl).mono ?_; rintro e w1 ⟨rfl, he1⟩; rw [hp'])
    go_ret
    exact Grows.mk (by simp [partsAlphabet, hp']) he1

theorem PartsAlphabet_s (v : Value) (l : List Sys) (w : World) (hv : SyssV w v l) (hl : l.length ≤ 1048576) :
    Calls Tryz.prog 108 #[v] w (Grows (.int .i64 (partsAlphabet l)) w) := by
  have hv' := hv
  obtain ⟨a, c, rfl, h1, h2⟩ := hv.open
  by_cases h3 : l.length < 1
  · go_enter Tryz.func108, Tryz.ntmps108
    go_wp2_with fail
    go_ret
    exact Grows.mk (by have : ¬ 1 ≤ l.length := by omega
                       simp [partsAlphabet, areParts, this]) (Ext.refl _)
  · by_cases h4 : 3 < l.length
    · go_enter Tryz.func108, Tryz.ntmps108
      go_wp2_with fail
      go_ret
      exact Grows.mk (by have : ¬ l.length ≤ 3 := by omega
                         simp [partsAlphabet, areParts, this]) (Ext.refl _)
    · go_enter Tryz.func108, Tryz.ntmps108
      go_wp2_with fail
      go_loopw [3, 4] (fun o i wr => ∃ k : Nat, k ≤ l.length ∧ i = .int .i64 k ∧ o = .int .i64 (orTo l k : Nat) ∧ orTo l k < 64 ∧ Hid ((l.take k).all sysValid = true) ∧ Ext w wr) (fun _ i _ => l.length - (intOf i).toNat)
      case atStart => exact ⟨0, by omega, rfl, rfl, by simp [orTo], by simp [Hid], Ext.refl _⟩
      case round =>
        obtain ⟨k, hk, rfl, rfl, ho, HA, hext⟩ := hrel
        by_cases hlt : k < l.length
        · obtain ⟨x, hx⟩ : ∃ x, l[k]? = some x := ⟨_, List.getElem?_eq_getElem hlt⟩
          obtain ⟨b, off, rfl, -, hc⟩ := h2 k x hx
          obtain ⟨ve, g1, g2, g3, hve⟩ := (hc k x hx).mono hext
          have HS := Lib.hid (orTo_succ hx)
          have HX := Lib.hid hx
          clear hc hx h2
          by_cases hs : sysValid x = true
          · have hal := valid_alpha hs
            obtain ⟨n, hn⟩ := Int.eq_ofNat_of_zero_le hal.1
            have hn64 : n < 64 := by omega
            have HO := Lib.hid (i64_or_nat (orTo l k) n (by omega) (by omega))
            rw [hn] at g1
            have HN := Lib.hid hn
            have HV := Lib.hid (show SysV wr (.agg #[.int .i64 n, .int .i64 x.states, ve]) x from ⟨ve, by rw [hn], hve⟩)
            clear hn hal
            go_wp2_with (go_at_call 122; refine (SystemValid_s _ x _ HV.out).mono ?_; rintro e w1 ⟨rfl, he1⟩; rw [hs]; have c1 := he1.cell g1; clear g1 g2 g3)
            exact ⟨⟨k + 1, by omega, by go_num, by rw [HS.out, HN.out, Int.toNat_natCast, HO.out], by rw [HS.out, HN.out]; exact Nat.or_lt_two_pow (n := 6) ho hn64, by simp [Hid, List.take_add_one, HX.out, HA.out, hs], hext.trans he1⟩, by simp [intOf]; omega⟩
          · have hs' : sysValid x = false := by simpa using hs
            go_wp2_with (go_at_call 122; refine (SystemValid_s _ x _ ⟨ve, rfl, hve⟩).mono ?_; rintro e w1 ⟨rfl, he1⟩; rw [hs'])
            go_ret
            exact Grows.mk (by simp [partsAlphabet, areParts, not_all_of HX.out hs']) (hext.trans he1)
        · obtain rfl : k = l.length := by omega
          go_wp2_with fail
          go_ret
          refine Grows.mk ?_ hext
          have h5 := HA.out
          rw [List.take_length] at h5
          have h6 : 1 ≤ l.length := by omega
          have h7 : l.length ≤ 3 := by omega
          simp [partsAlphabet, areParts, h5, h6, h7]
end Go.Proofs.YtajafdblmphglaaGreatDoor
