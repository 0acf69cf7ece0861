/- Part of this seat's proofs, cut to what its law needs. -/

import Derived.Test.YtanekmfifmkbmaaGreatDoorWalkR
import Derived.Test.YtanekmfifmkbmaaGreatDoorPlain7
import Derived.Laws.Bits64b
import Derived.Shelf.Spec.TrailingZeros
import Derived.Test.YtanekmfifmkbmaaGreatDoorWalkH
import Derived.Test.YtanekmfifmkbmaaGreatDoorWalkE
import Derived.Test.YtanekmfifmkbmaaGreatDoorWalkK
import Derived.Test.YtanekmfifmkbmaaGreatDoorRead
import Derived.Test.YtanekmfifmkbmaaGreatDoorWalkP
import Derived.Deep.Upon
import Derived.Maps.AppendAt
import Derived.Deep.DeepCutAuto
import Derived.BigRegion
import Derived.RegionTactic
import Derived.ChangeAlike

namespace Go.Proofs.YtanekmfifmkbmaaGreatDoor
set_option linter.unusedSimpArgs false
set_option linter.unusedVariables false
open Go.RowKit

set_option maxHeartbeats 800000

def Deb (w : World) : Prop := Go.Proofs.TabAt 1 Lib.deBruijn64tab w
theorem Deb.ext {w w' : World} (h : Deb w) (he : Ext w w') : Deb w' := fun j hj => he.cell (h j hj)

theorem tz64_x (x k idx : Nat) (w : World) (hx0 : ((x : Int) == 0) = false)
    (key : IntKind.u64.wrap (bits BinOp.and IntKind.u64 (x : Int) (IntKind.u64.wrap (-(x : Int))) * 285870213051353865) / 288230376151711744 = (idx : Int))
    (hi : idx < 64) (hk : k < 64) (hcell : w.cell? ⟨1, idx, none⟩ = some (.int .u8 k)) :
    Calls Tryz.prog 179 #[.int .u64 x] w (Same (.int .i64 k) w) := by
  go_enter Tryz.func179, Tryz.ntmps179
  go_wp2_with (simp only [key])
  go_ret
  exact ⟨rfl, rfl⟩
theorem tz64_c (x : Nat) (w : World) (h0 : x ≠ 0) (hx : x < 18446744073709551616) (hT : Deb w) :
    Calls Tryz.prog 179 #[.int .u64 x] w (Same (.int .i64 (Lib.ctz 64 x)) w) := by
  obtain ⟨hlow, hk⟩ := Lib.lowest_bit 64 x h0 hx
  obtain ⟨hi, htab⟩ := Lib.deBruijn64_at _ hk
  have hcell := hT _ hi
  rw [htab] at hcell
  exact tz64_x x _ _ w (by simp; omega) (tz64_key x _ hx h0 hlow) hi hk hcell
theorem tz_c (x : Nat) (w : World) (h0 : x ≠ 0) (hx : x < 18446744073709551616) (hT : Deb w) :
    Calls Tryz.prog 128 #[.int .u64 x] w (Same (.int .i64 (Lib.ctz 64 x)) w) := by
  go_enter Tryz.func128, Tryz.ntmps128
  go_wp2_with (go_at_call 179; refine (tz64_c _ _ h0 hx hT).mono ?_; rintro e w' ⟨rfl, rfl⟩)
  go_ret
  exact Same.mk rfl

def ints (l : List Nat) : List Int := List.map (fun (x : Nat) => (x : Int)) l
theorem ints_len (l : List Nat) : (ints l).length = l.length := by simp [ints]
theorem ints_append (a b : List Nat) : ints (a ++ b) = ints a ++ ints b := by simp [ints]
theorem ints_at {l : List Nat} {i x : Nat} (h : l[i]? = some x) : (ints l)[i]? = some (x : Int) := by simp [ints, h]

theorem members_c (s : Nat) (w : World) (hs : s < 65536) (hT : Deb w) :
    Calls Tryz.prog 77 #[.int .i64 s] w (Gives (fun v w' => IntsOwn 3 w.heap.size w' v (ints (bitsOf s))) w) := by
  go_enter Tryz.func77, Tryz.ntmps77
  go_wp2_with fail
  go_loopw [0, 3] (fun c v wr => ∃ (r : Nat) (l : List Nat), r < 65536 ∧ c = .int .i64 r ∧ Hid (l ++ bitsOf r = bitsOf s) ∧ IntsOwn 3 w.heap.size wr v (ints l) ∧ Ext w wr) (fun c _ _ => (intOf c).toNat)
  case atStart => exact ⟨s, [], hs, rfl, by simp [Hid], IntsOwn.nil _ _ _, Ext.refl _⟩
  case round =>
    obtain ⟨r, l, hr, rfl, HL, hown, hext⟩ := hrel
    have hsz := hext.size
    have hT' := Lib.hid (hT.ext hext)
    by_cases h0 : r = 0
    · subst h0
      go_wp2_with fail
      go_ret
      refine Gives.mk rfl hext ?_
      have := HL.out
      rw [bitsOf_zero, List.append_nil] at this
      rw [← this]; exact hown
    · have hne : ((r : Int) == 0) = false := by simp; exact h0
      have hne' : ((r : Int) != 0) = true := by simp; exact h0
      have hlen : (ints l).length ≤ 16 := by
        have h1 := congrArg List.length HL.out
        have h2 := bitsOf_len s
        rw [List.length_append] at h1
        rw [ints_len]; omega
      have hb : bits .and .i64 (r : Int) ((r : Int) - 1) = ((r &&& (r - 1) : Nat) : Int) := by
        have := i64_and_nat r (r - 1) (by omega) (by omega)
        rw [show ((r - 1 : Nat) : Int) = (r : Int) - 1 by omega] at this
        exact this
      have HS := Lib.hid (bitsOf_step r h0 hr)
      have hlt := and_pred_lt r h0
      have HB := Lib.hid hb
      clear hb
      go_wp2_with (first | (go_at_call 128; refine (tz_c r _ h0 (by omega) (hT'.out)).mono ?_; rintro e w' ⟨rfl, rfl⟩) | (at_builtin; refine app1 rfl rfl Tryz.underlying80 infoInt rfl (by decide) hown.own rfl rfl rfl (by simp [Value.oneCell']) (by omega) (by decide) (by omega) ?_; intro v1 w1 hown1 hgr1 hbl1))
      refine ⟨⟨r &&& (r - 1), l ++ [Lib.ctz 64 r], by omega, by rw [HB.out], ?_, IntsOwn.push hown1 (by rw [ints_append]; rfl), Below.trans hext hbl1⟩, by rw [HB.out]; simp only [intOf, Int.toNat_natCast]; omega⟩
      show _ = _
      rw [List.append_assoc, List.singleton_append, ← HS.out]; exact HL.out


def mv (es : List Edge) (q : Nat) (l : Int) : Nat := es.foldl (addTo l (2 ^ q)) 0
theorem mv_all (s : Sys) (q : Nat) (l : Int) : mv s.edges q l = stepM s (2 ^ q) l := rfl
theorem mv_snoc (es : List Edge) (e : Edge) (q : Nat) (l : Int) (hs : 0 ≤ e.src) : mv (es ++ [e]) q l = if e.letter = l ∧ e.src.toNat = q then mv es q l ||| 2 ^ e.dst.toNat else mv es q l := by
  unfold mv
  rw [List.foldl_append]
  show addTo l (2 ^ q) _ e = _
  unfold addTo
  rw [Nat.testBit_two_pow]
  by_cases h : q = e.src.toNat
  · subst h; simp
  · have : ¬ e.src.toNat = q := fun h' => h h'.symm
    simp [h, this]
structure MvBlk (w : World) (b : Nat) (es : List Edge) (cs : Array Value) : Prop where
  blk : Blk w b cs 178
  size : cs.size = 96
  cell : ∀ q l, q < 16 → l < 6 → cs[q * 6 + l]? = some (.int .i64 (mv es q (l : Nat) : Nat))
def MovesV (w : World) (v : Value) (s : Sys) : Prop := ∃ b cs, v = .pointer (some ⟨b, 0, none⟩) ∧ MvBlk w b s.edges cs
theorem MvBlk.ext {w w' : World} {b : Nat} {es : List Edge} {cs : Array Value} (h : MvBlk w b es cs) (he : Ext w w') : MvBlk w' b es cs := ⟨h.blk.ext he, h.size, h.cell⟩
theorem MovesV.mono {w w' : World} {v : Value} {s : Sys} (h : MovesV w v s) (he : Ext w w') : MovesV w' v s := let ⟨b, cs, e, h1⟩ := h; ⟨b, cs, e, h1.ext he⟩
theorem MvBlk.get {w : World} {b : Nat} {es : List Edge} {cs : Array Value} (h : MvBlk w b es cs) {q l : Nat} (hq : q < 16) (hl : l < 6) : w.cell? ⟨b, q * 6 + l, none⟩ = some (.int .i64 (mv es q (l : Nat) : Nat)) :=
  h.blk.cell _ (h.cell q l hq hl)

theorem zeroMoves_size : Tryz.zeroCells178.size = 96 := by kernel_rfl
theorem zeroMoves_at (j : Nat) (h : j < 96) : Tryz.zeroCells178[j]? = some (.int .i64 0) := by
  have : ∀ i ∈ List.range 96, Tryz.zeroCells178[i]? = some (.int .i64 0) := by
    intro i hi
    have h96 := List.mem_range.1 hi
    have e : Tryz.zeroCells178 = Array.replicate 96 (.int .i64 0) := by kernel_rfl
    rw [e]; simp [h96]
  exact this j (List.mem_range.2 h)
theorem mv_lt {s : Sys} (h : sysValid s = true) (k q : Nat) (l : Int) : mv (s.edges.take k) q l < 65536 := lt_16 fun r hr => by
  unfold mv at hr
  rcases (foldl_addTo l (2 ^ q) r (s.edges.take k) 0).1 hr with h1 | ⟨e, he, _, _, h2⟩
  · simp at h1
  · have := (edges_in h (List.mem_of_mem_take he)).2.1
    omega

theorem wrap_pow (d : Nat) (h : d < 16) : wrap64 (2 ^ d) = ((2 ^ d : Nat) : Int) := by
  have : d = 0 ∨ d = 1 ∨ d = 2 ∨ d = 3 ∨ d = 4 ∨ d = 5 ∨ d = 6 ∨ d = 7 ∨ d = 8 ∨ d = 9 ∨ d = 10 ∨ d = 11 ∨ d = 12 ∨ d = 13 ∨ d = 14 ∨ d = 15 := by omega
  rcases this with rfl | rfl | rfl | rfl | rfl | rfl | rfl | rfl | rfl | rfl | rfl | rfl | rfl | rfl | rfl | rfl <;> (unfold wrap64; decide)
theorem pow_lt16 {d : Nat} (h : d < 16) : 2 ^ d < 65536 := by
  show 2 ^ d < 2 ^ 16
  exact Nat.pow_lt_pow_right (by decide) h
theorem MvBlk.set {w : World} {b : Nat} {es : List Edge} {cs : Array Value} (h : MvBlk w b es cs) {a l d : Nat} (ha : a < 16) (hl : l < 6) {v : Int} (hv : v = ((mv es a (l : Nat) ||| 2 ^ d : Nat) : Int)) :
    MvBlk (w.setCell ⟨b, a * 6 + l, none⟩ (.int .i64 v)) b (es ++ [⟨a, l, d⟩]) (cs.setIfInBounds (a * 6 + l) (.int .i64 v)) := by
  refine ⟨h.blk.set _ _, by simp [h.size], fun q m hq hm => ?_⟩
  rw [mv_snoc _ _ _ _ (by simp)]
  simp only [Int.toNat_natCast]
  by_cases hc : a * 6 + l = q * 6 + m
  · have h1 : a = q := by omega
    have h2 : l = m := by omega
    subst h1; subst h2
    rw [if_pos ⟨rfl, rfl⟩, Array.getElem?_setIfInBounds_self_of_lt (by rw [h.size]; omega), hv]
  · rw [Array.getElem?_setIfInBounds_ne (by omega), if_neg (by omega)]
    exact h.cell q m hq hm

theorem movesOf_c (v : Value) (s : Sys) (w : World) (hv : SysV w v s) (hs : sysValid s = true) :
    Calls Tryz.prog 76 #[v] w (Gives (fun v w' => MovesV w' v s) w) := by
  obtain ⟨ve, rfl, h1⟩ := hv
  obtain ⟨ae, ce, rfl, hle, hn⟩ := h1.open
  obtain ⟨wo, hwo⟩ : ∃ wo, wo = (w.alloc (.cells #[.int .i64 s.alphabet, .int .i64 s.states, .slice ae s.edges.length ce] 25)).alloc (.cells Tryz.zeroCells178 178) := ⟨_, rfl⟩
  have he : Ext w wo := by rw [hwo]; exact (Ext.alloc _ _).trans (Ext.alloc _ _)
  have hM : MvBlk wo (w.heap.size + 1) (s.edges.take 0) Tryz.zeroCells178 := by
    refine ⟨?_, zeroMoves_size, fun q l hq hl => by rw [zeroMoves_at _ (by omega)]; simp [mv]⟩
    rw [hwo]; have := Blk.new (w.alloc (.cells #[.int .i64 s.alphabet, .int .i64 s.states, .slice ae s.edges.length ce] 25)) Tryz.zeroCells178 178; rwa [World.size_alloc] at this
  go_enter Tryz.func76, Tryz.ntmps76
  go_wp2_with fail
  rw [← hwo]
  clear hwo
  go_loopw [10] (fun i wr => ∃ (k : Nat), k ≤ s.edges.length ∧ i = .int .i64 k ∧ (∃ cs, MvBlk wr (w.heap.size + 1) (s.edges.take k) cs) ∧ Ext w wr) (fun i _ => s.edges.length - (intOf i).toNat)
  case atStart => exact ⟨0, by omega, rfl, ⟨_, hM⟩, he⟩
  case round =>
    clear hM he
    obtain ⟨k, hk, rfl, ⟨cs, hM⟩, hext⟩ := hrel
    by_cases hlt : k < s.edges.length
    · obtain ⟨x, hx⟩ : ∃ x, s.edges[k]? = some x := ⟨_, List.getElem?_eq_getElem hlt⟩
      obtain ⟨b, off, rfl, -, hc⟩ := hn k x hx
      obtain ⟨q1, q2, q3⟩ := (hc k x hx).mono hext
      have hin := edges_in hs (List.mem_of_getElem? hx)
      have hmv := mv_lt hs k x.src.toNat x.letter
      have HX := Lib.hid hx
      obtain ⟨src, letter, dst⟩ := x
      obtain ⟨i1, i2, i3, i4, i5, i6, -⟩ := hin
      simp only [] at i1 i2 i3 i4 i5 i6 q1 q2 q3 hmv
      obtain ⟨a, rfl⟩ := Int.eq_ofNat_of_zero_le i3
      obtain ⟨l, rfl⟩ := Int.eq_ofNat_of_zero_le i5
      obtain ⟨d, rfl⟩ := Int.eq_ofNat_of_zero_le i4
      simp only [Int.toNat_natCast] at i1 i2 hmv
      have i6' : l < 6 := by omega
      have i1' : (a : Int) < 16 := by omega
      clear hc hn hx i3 i4 i5
      go_wp2_with fail
      obtain ⟨wo2, hwo2⟩ : ∃ wo2, wo2 = wr.alloc (.cells #[.int .i64 a, .int .i64 l, .int .i64 d] 87) := ⟨_, rfl⟩
      have hx2 : Ext wr wo2 := by rw [hwo2]; exact Ext.alloc _ _
      have hT : Blk wo2 wr.heap.size #[.int .i64 a, .int .i64 l, .int .i64 d] 87 := by rw [hwo2]; exact Blk.new _ _ _
      rw [← hwo2]
      clear hwo2 q1 q2 q3
      have hM2 := hM.ext hx2
      have D1 := fun d os => cell_regrown (hT.cell 0 rfl) d os
      have D2 := fun d os => cell_regrown (hT.cell 1 rfl) d os
      have D3 := fun d os => cell_regrown (hT.cell 2 rfl) d os
      have D0 := fun d os => cell_regrown (hM2.get i1 i6') d os
      obtain ⟨Kc, HKc⟩ : ∃ Kc : FuncId → Array Value → World → Value → World → Prop, Hid (Kc = fun (_ : FuncId) (args : Array Value) (w0 : World) (v : Value) (w' : World) => Ext w0 w') := ⟨_, rfl⟩
      refine wp_region_ext (Kc := Kc) 16 (by kernel_rfl) (by kernel_rfl) ?_
      simp only [List.take_succ_cons, List.take_zero]
      repeat (refine WalkE.pure rfl (fun K hK => ?_); simp only [PureDo]; go_simp; refine hK _ ?_; clear hK K)
      refine WalkE.nil (fun wn hwn hmn => ?_)
      simp only [List.drop_succ_cons, List.drop_zero, List.drop_nil]
      clear hmn HKc
      have hx3 := hx2.trans ((Ext.drew _).trans hwn)
      have hM3 := hM.ext hx3
      have c0 := hM3.get i1 i6'
      have f0 := hM3.blk.fr (a * 6 + l)
      clear D0 D1 D2 D3 hwn hM2
      go_wp2_with fail
      refine ⟨⟨k + 1, by omega, by go_num, ?_, (hext.trans hx3).setCell (p := ⟨w.heap.size + 1, a * 6 + l, none⟩) (by simp only []; omega) _⟩, by simp [intOf]; omega⟩
      rw [List.take_add_one, HX.out]
      exact ⟨_, hM3.set i1 i6' (by rw [wrap_pow d i2]; exact i64_or_nat _ _ (by omega) (by have := pow_lt16 i2; omega))⟩
    · obtain rfl : k = s.edges.length := by omega
      go_wp2_with fail
      go_ret
      rw [List.take_length] at hM
      exact Gives.mk rfl hext ⟨_, cs, rfl, hM⟩

end Go.Proofs.YtanekmfifmkbmaaGreatDoor

namespace Go.Proofs.YtanekmfifmkbmaaGreatDoor
set_option linter.unusedSimpArgs false
set_option linter.unusedVariables false
open Go.RowKit

set_option maxHeartbeats 800000

def SysAt (w : World) (b o : Nat) (s : Sys) : Prop := ∃ ve, w.cell? ⟨b, o, none⟩ = some (.int .i64 s.alphabet) ∧ w.cell? ⟨b, o + 1, none⟩ = some (.int .i64 s.states) ∧ w.cell? ⟨b, o + 2, none⟩ = some ve ∧ EdgesV w ve s.edges
abbrev SyssV := SlV SysAt 3
theorem SysAt.mono {w w' : World} (h : Ext w w') {b o : Nat} {s : Sys} (k : SysAt w b o s) : SysAt w' b o s := let ⟨ve, h1, h2, h3, h4⟩ := k; ⟨ve, h.cell h1, h.cell h2, h.cell h3, h4.mono h⟩
theorem SyssV.mono {w w' : World} (h : Ext w w') {v : Value} {l : List Sys} (k : SyssV w v l) : SyssV w' v l := SlV.mono k (fun _ _ _ _ => SysAt.mono h) h.size

def areParts (l : List Sys) : Bool := decide (1 ≤ l.length) && decide (l.length ≤ 3) && l.all sysValid
def orTo (l : List Sys) (k : Nat) : Nat := (l.take k).foldl (fun n s => n ||| s.alphabet.toNat) 0
def partsAlphabet (l : List Sys) : Int := if areParts l then (orTo l l.length : Nat) else -1
theorem orTo_succ {l : List Sys} {k : Nat} {s : Sys} (h : l[k]? = some s) : orTo l (k + 1) = orTo l k ||| s.alphabet.toNat := by
  unfold orTo; rw [List.take_add_one, h, List.foldl_append]; rfl
theorem valid_alpha {s : Sys} (h : sysValid s = true) : 0 ≤ s.alphabet ∧ s.alphabet ≤ 63 ∧ 1 ≤ s.states ∧ s.states ≤ 16 := by
  simp only [sysValid, isAlpha, Bool.and_eq_true, decide_eq_true_eq] at h; omega
theorem orTo_lt {l : List Sys} (h : ∀ s ∈ l, sysValid s = true) (k : Nat) : orTo l k < 64 := by
  unfold orTo
  have : ∀ (m : List Sys) (n : Nat), n < 64 → (∀ s ∈ m, sysValid s = true) → m.foldl (fun n s => n ||| s.alphabet.toNat) n < 64 := by
    intro m
    induction m with
    | nil => intro n hn _; exact hn
    | cons s m ih =>
      intro n hn hm
      refine ih _ (Nat.or_lt_two_pow (n := 6) hn ?_) fun t ht => hm t (by simp [ht])
      have := valid_alpha (hm s (by simp))
      show s.alphabet.toNat < 64
      omega
  exact this _ 0 (by omega) fun s hs => h s (List.mem_of_mem_take hs)

theorem areParts1_c (v : Value) (s : Sys) (w : World) (hv : SysV w v s) : Calls Tryz.prog 88 #[v] w (Grows (.bool (!sysValid s)) w) := by
  obtain ⟨ve, rfl, h1⟩ := hv
  go_enter Tryz.func88, Tryz.ntmps88
  go_wp2_with (go_at_call 31; refine (SystemValid_c _ s _ ⟨_, rfl, h1.mono (Ext.alloc _ _)⟩).mono ?_; rintro e w' ⟨rfl, he⟩)
  go_ret
  exact Grows.mk rfl he.peel

theorem IndexFunc_c (v : Value) (l : List Sys) (w : World) (hv : SyssV w v l) (hl : l.length ≤ 1048576) :
    Calls Tryz.prog 150 #[v, .func (.func 88) #[] #[]] w (Gives (fun v _ => ∃ r : Int, v = .int .i64 r ∧ (decide (0 ≤ r) = !l.all sysValid)) w) := by
  obtain ⟨a, c, rfl, h1, h2⟩ := hv.open
  go_enter Tryz.func150, Tryz.ntmps150
  go_wp2_with fail
  go_loopw [5, 8] (fun _ i wr => ∃ k : Nat, k ≤ l.length ∧ i = .int .i64 k ∧ Hid ((l.take k).all sysValid = true) ∧ Ext w wr) (fun _ i _ => l.length - (intOf i).toNat)
  case atStart => exact ⟨0, by omega, rfl, by simp [Hid], Ext.refl _⟩
  case round =>
    obtain ⟨k, hk, rfl, HA, hext⟩ := hrel
    by_cases hlt : k < l.length
    · obtain ⟨x, hx⟩ : ∃ x, l[k]? = some x := ⟨_, List.getElem?_eq_getElem hlt⟩
      obtain ⟨b, off, rfl, -, hc⟩ := h2 k x hx
      obtain ⟨ve, g1, g2, g3, hve⟩ := (hc k x hx).mono hext
      have HX := Lib.hid hx
      clear hc hx h2
      by_cases hs : sysValid x = true
      · go_wp2_with (go_at_call 88; refine (areParts1_c _ x _ ⟨ve, rfl, hve⟩).mono ?_; rintro e w' ⟨rfl, he⟩; rw [hs])
        exact ⟨⟨k + 1, by omega, by go_num, by simp [Hid, List.take_add_one, HX.out, HA.out, hs], hext.trans he⟩, by simp [intOf]; omega⟩
      · have hs' : sysValid x = false := by simpa using hs
        go_wp2_with (go_at_call 88; refine (areParts1_c _ x _ ⟨ve, rfl, hve⟩).mono ?_; rintro e w' ⟨rfl, he⟩; rw [hs'])
        go_ret
        refine Gives.mk rfl (hext.trans he) ⟨_, rfl, ?_⟩
        rw [not_all_of HX.out hs']
        simp
    · obtain rfl : k = l.length := by omega
      go_wp2_with fail
      go_ret
      refine Gives.mk rfl hext ⟨_, rfl, ?_⟩
      have := HA.out
      rw [List.take_length] at this
      rw [this]
      simp

theorem ContainsFunc_c (v : Value) (l : List Sys) (w : World) (hv : SyssV w v l) (hl : l.length ≤ 1048576) :
    Calls Tryz.prog 87 #[v, .func (.func 88) #[] #[]] w (Grows (.bool (!l.all sysValid)) w) := by
  go_enter Tryz.func87, Tryz.ntmps87
  go_wp2_with (go_at_call 150; refine (IndexFunc_c _ l _ hv hl).mono ?_; rintro e w' ⟨_, rfl, he, r, rfl, hr⟩)
  go_ret
  refine Grows.mk ?_ he
  rw [← hr]
  try rfl

theorem areParts_c (v : Value) (l : List Sys) (w : World) (hv : SyssV w v l) (hl : l.length ≤ 1048576) :
    Calls Tryz.prog 45 #[v] w (Grows (.bool (areParts l)) w) := by
  have hv' := hv
  obtain ⟨a, c, rfl, h1, h2⟩ := hv.open
  clear h2
  by_cases h3 : 1 ≤ l.length
  · by_cases h4 : l.length ≤ 3
    · go_enter Tryz.func45, Tryz.ntmps45
      go_wp2_with (go_at_call 87; refine (ContainsFunc_c _ l _ hv' hl).mono ?_; rintro e w' ⟨rfl, he⟩)
      go_ret
      exact Grows.mk (by simp [areParts, h3, h4]) he
    · go_enter Tryz.func45, Tryz.ntmps45
      go_wp2_with fail
      go_ret
      exact Grows.mk (by simp [areParts, h4]) (Ext.refl _)
  · go_enter Tryz.func45, Tryz.ntmps45
    go_wp2_with fail
    go_ret
    exact Grows.mk (by simp [areParts, h3]) (Ext.refl _)

theorem PartsAlphabet_c (v : Value) (l : List Sys) (w : World) (hv : SyssV w v l) (hl : l.length ≤ 1048576) :
    Calls Tryz.prog 89 #[v] w (Grows (.int .i64 (partsAlphabet l)) w) := by
  have hv' := hv
  obtain ⟨a, c, rfl, h1, h2⟩ := hv.open
  by_cases hp : areParts l = true
  · have hall : ∀ s ∈ l, sysValid s = true := by
      simp only [areParts, Bool.and_eq_true, List.all_eq_true] at hp; exact hp.2
    have HP := Lib.hid hp
    clear hp
    go_enter Tryz.func89, Tryz.ntmps89
    go_wp2_with (go_at_call 45; refine (areParts_c _ l _ hv' hl).mono ?_; rintro e w1 ⟨rfl, he1⟩; rw [HP.out])
    go_loopw [3, 11] (fun o i wr => ∃ k : Nat, k ≤ l.length ∧ i = .int .i64 k ∧ o = .int .i64 (orTo l k : Nat) ∧ Ext w wr) (fun _ i _ => l.length - (intOf i).toNat)
    case atStart => exact ⟨0, by omega, rfl, rfl, he1⟩
    case round =>
      obtain ⟨k, hk, rfl, rfl, hext⟩ := hrel
      by_cases hlt : k < l.length
      · obtain ⟨x, hx⟩ : ∃ x, l[k]? = some x := ⟨_, List.getElem?_eq_getElem hlt⟩
        obtain ⟨b, off, rfl, -, hc⟩ := h2 k x hx
        obtain ⟨ve, g1, g2, g3, hve⟩ := (hc k x hx).mono hext
        obtain ⟨va, vc, rfl, -, -⟩ := hve.open
        have HX := Lib.hid (orTo_succ hx)
        have ho := orTo_lt hall k
        have hal := valid_alpha (hall x (List.mem_of_getElem? hx))
        obtain ⟨n, hn⟩ := Int.eq_ofNat_of_zero_le hal.1
        have HO := Lib.hid (i64_or_nat (orTo l k) n (by omega) (by omega))
        rw [hn] at g1
        have HN := Lib.hid hn
        clear hc hx h2 hn
        go_wp2_with fail
        exact ⟨⟨k + 1, by omega, by go_num, by rw [HX.out, HN.out, Int.toNat_natCast, HO.out], hext.trans (Ext.alloc _ _)⟩, by simp [intOf]; omega⟩
      · obtain rfl : k = l.length := by omega
        go_wp2_with fail
        go_ret
        exact Grows.mk (by unfold partsAlphabet; rw [HP.out]; rfl) hext
  · have hp' : areParts l = false := by simpa using hp
    go_enter Tryz.func89, Tryz.ntmps89
    go_wp2_with (go_at_call 45; refine (areParts_c _ l _ hv' hl).mono ?_; rintro e w1 ⟨rfl, he1⟩; rw [hp'])
    go_ret
    exact Grows.mk (by simp [partsAlphabet, hp']) he1

end Go.Proofs.YtanekmfifmkbmaaGreatDoor

namespace Go.Proofs.YtanekmfifmkbmaaGreatDoor
set_option linter.unusedSimpArgs false
set_option linter.unusedVariables false
open Go.RowKit

set_option maxHeartbeats 1000000
set_option maxRecDepth 100000

section
variable {P : Program} {ops : Array Oper} {rest : List Oper} {o : Oper} {a : Act} {Q : Exit → Act → World → Prop}
theorem appInts {wr : World} {s x : Operand} {t e : TypeId} {base bytes : Nat} {vx v : Value} {l m : List Int} (hgd : o.guard = none)
    (ho : o.op = .call { callee := .builtin .append, args := #[s, x], argTypes := #[t, t] })
    (ht : P.underlying t = some (.slice e)) (hinfo : (P.info? e).map (fun i => (i.zero, i.size, i.bytes)) = some (some (.int .i64 0), 1, bytes))
    (hown : IntsOwn e base wr v l) (hs : a.eval s = v) (hx : a.eval x = vx) (hvx : IntsV wr vx m) (hn : l.length + m.length ≤ 4294967296) (hb : bytes ≤ 1024) (hbase : base ≤ wr.heap.size)
    (h : ∀ v' w', IntsOwn e base w' v' (l ++ m) → wr.grownBy w' v.ownBlock → (v'.ownBlock = v.ownBlock ∨ v'.ownBlock = some wr.heap.size) → wpList P ops Q rest (a.put o.dst v') w') :
    wpList P ops Q (o :: rest) a wr := by
  obtain ⟨ao, c, rfl, hle, -⟩ := hvx.open
  cases ao with
  | some ad =>
    obtain ⟨i, hi, hz, hsize, hby⟩ := info_parts hinfo
    refine wpList_append_own_at _ hgd s x t ho base e i _ 1 bytes ht hi hz hsize hby rfl (by decide) v l.length _ hs hown.own ad m.length c (m.map (Value.int .i64)) hx (by simp) hvx.cells (by intro u hu; obtain ⟨b, _, rfl⟩ := List.mem_map.1 hu; rfl) (by unfold maxLen; omega) ?_ hbase ?_
    · have := Nat.mul_le_mul hn hb; omega
    · intro v' w' h1 h2 _ h4
      exact h v' w' (by unfold IntsOwn; rw [List.length_append, List.map_append]; exact h1) h2 h4
  | none =>
    have hnil := SlV.nil_of_none hvx
    subst hnil
    obtain ⟨i, hi, hz, hsize, hby⟩ := info_parts hinfo
    obtain ⟨ab, cc, rfl⟩ := hown.shape
    have hcap : l.length ≤ cc := by
      rcases own_shape hown with ⟨he, h0⟩ | ⟨g, cap, he, _, _, h1, _⟩
      · simp at he; omega
      · simp at he; omega
    have hr := run_append_nothing (P := P) wr t t o.type e i ht hi ab l.length cc hcap (.slice none 0 c) (Src.ofNil wr ht c)
    have hx' : a.eval x = .slice none 0 c := hx
    refine wpList_plain hgd fun K hK => ?_
    unfold Oper.wp execOp
    simp only [ho, resolve, invoke, builtin, Sem.run_bind, Sem.run_pure, Result.andThen_ok, List.map_toArray, List.map_cons, List.map_nil, hs, hx', hr]
    refine hK _ _ (h _ _ ?_ (World.grownBy.refl _ _) (.inl rfl))
    rw [List.append_nil]; exact hown
end

def PtrAt (w : World) (b o : Nat) (s : Sys) : Prop := ∃ p, w.cell? ⟨b, o, none⟩ = some p ∧ MovesV w p s
abbrev MovessV := SlV PtrAt 1
theorem PtrAt.mono {w w' : World} (h : Ext w w') {b o : Nat} {s : Sys} (k : PtrAt w b o s) : PtrAt w' b o s := let ⟨p, h1, h2⟩ := k; ⟨p, h.cell h1, h2.mono h⟩
theorem MovessV.mono {w w' : World} (h : Ext w w') {v : Value} {l : List Sys} (k : MovessV w v l) : MovessV w' v l := SlV.mono k (fun _ _ _ _ => PtrAt.mono h) h.size
def PartsV (w : World) (v : Value) (l : List Sys) : Prop := ∃ vs vm, v = .agg #[vs, vm] ∧ SyssV w vs l ∧ MovessV w vm l
theorem PartsV.mono {w w' : World} (h : Ext w w') {v : Value} {l : List Sys} (k : PartsV w v l) : PartsV w' v l := let ⟨vs, vm, e, h1, h2⟩ := k; ⟨vs, vm, e, h1.mono h, h2.mono h⟩

theorem infoMoves : (Tryz.prog.info? 133).map (fun i => (i.zero, i.size, i.bytes)) = some (some (.pointer none), 1, 8) := by kernel_rfl

structure MvsTo (base : Nat) (w : World) (v : Value) (l : List Sys) (k : Nat) (ps : List Value) : Prop where
  own : w.ownsRow base 133 1 v k ps
  each : ∀ j s, j < k → l[j]? = some s → ∃ p, ps[j]? = some p ∧ MovesV w p s
theorem MvsTo.ext {base : Nat} {w w' : World} {v : Value} {l : List Sys} {k : Nat} {ps : List Value} (h : MvsTo base w v l k ps) (he : Ext w w') : MvsTo base w' v l k ps :=
  ⟨own_ext h.own he, fun j s hj hs => let ⟨p, h1, h2⟩ := h.each j s hj hs; ⟨p, h1, h2.mono he⟩⟩
theorem MovesV.grown {w w' : World} {base' : Nat} {e' : TypeId} {size' n' : Nat} {u p : Value} {us : List Value} {s : Sys} (h : MovesV w p s) (hu : w.ownsRow base' e' size' u n' us) (hg : w.grownBy w' u.ownBlock) (hne : 178 ≠ e') : MovesV w' p s :=
  let ⟨b, cs, e, h1⟩ := h; ⟨b, cs, e, h1.blk.grown hu hg hne, h1.size, h1.cell⟩
theorem MovesV.other {w : World} {g : Nat} {cs' : Array Value} {T : TypeId} {p : Value} {s : Sys} (h : MovesV w p s) (hG : Blk w g cs' T) (hne : 178 ≠ T) (j : Nat) (u : Value) : MovesV (w.setCell ⟨g, j, none⟩ u) p s :=
  let ⟨b, cs, e, h1⟩ := h; ⟨b, cs, e, h1.blk.other (p := ⟨g, j, none⟩) (fun he => by
    simp only at he; subst he
    have h2 : w.heap[b]? = _ := h1.blk
    have h3 : w.heap[b]? = _ := hG
    rw [h2] at h3; cases h3; exact hne rfl) u, h1.size, h1.cell⟩
theorem MvsTo.movess {base : Nat} {w : World} {v : Value} {l : List Sys} {ps : List Value} (h : MvsTo base w v l l.length ps) : MovessV w v l :=
  SlV_of_own h.own fun g cap hv i s hs => by
    obtain ⟨p, h1, h2⟩ := h.each i s (List.getElem?_eq_some_iff.1 hs).1 hs
    subst hv
    rw [Nat.mul_one]
    exact ⟨p, own_cell h.own h1, h2⟩

theorem MvsTo.store {base : Nat} {w : World} {v : Value} {l : List Sys} {k : Nat} {ps : List Value} (h : MvsTo base w v l k ps) {g : Nat} {cs : Array Value} {T : TypeId} (hG : Blk w g cs T) (h1 : 133 ≠ T) (h2 : 178 ≠ T) (j : Nat) (u : Value) : MvsTo base (w.setCell ⟨g, j, none⟩ u) v l k ps :=
  ⟨own_store h.own hG h1.symm j u, fun i s hi hs => let ⟨p, h3, h4⟩ := h.each i s hi hs; ⟨p, h3, h4.other hG h2 j u⟩⟩

theorem newParts_o (v : Value) (l : List Sys) (w : World) (hv : SyssV w v l) (hl : l.length ≤ 1048576) (hs : ∀ s ∈ l, sysValid s = true) :
    Calls Tryz.prog 32 #[v] w (Gives (fun v' w' => ∃ vm ps, v' = .agg #[v, vm] ∧ MvsTo w.heap.size w' vm l l.length ps) w) := by
  have hv' := hv
  obtain ⟨a, c, rfl, h1, h2⟩ := hv.open
  obtain ⟨wo, hwo⟩ : ∃ wo, wo = (w.alloc (.cells #[.slice none 0 0, .slice none 0 0] 78)).alloc (.cells #[.slice a l.length c, .slice none 0 0] 78) := ⟨_, rfl⟩
  have he : Ext w wo := by rw [hwo]; exact (Ext.alloc _ _).trans (Ext.alloc _ _)
  have hR : Blk wo w.heap.size #[.slice none 0 0, .slice none 0 0] 78 := by rw [hwo]; exact (Blk.new _ _ _).ext (Ext.alloc _ _)
  have hG : Blk wo (w.heap.size + 1) #[.slice a l.length c, .slice none 0 0] 78 := by rw [hwo]; have := Blk.new (w.alloc (.cells #[.slice none 0 0, .slice none 0 0] 78)) #[.slice a l.length c, .slice none 0 0] 78; rwa [World.size_alloc] at this
  go_enter Tryz.func32, Tryz.ntmps32
  go_wp2_with fail
  rw [← hwo]
  clear hwo
  go_loopw [10] (fun i wr => ∃ (k : Nat) (vM : Value), k ≤ l.length ∧ i = .int .i64 k ∧ Blk wr (w.heap.size + 1) #[.slice a l.length c, vM] 78 ∧ Blk wr w.heap.size #[.slice none 0 0, .slice none 0 0] 78 ∧ (∃ ps, MvsTo w.heap.size wr vM l k ps) ∧ Ext w wr) (fun i _ => l.length - (intOf i).toNat)
  case atStart => exact ⟨0, .slice none 0 0, by omega, rfl, hG, hR, ⟨[], World.ownsRow_nil _ _ _ _, fun j s hj => by omega⟩, he⟩
  case round =>
    clear hG hR he
    obtain ⟨k, vM, hk, rfl, hG, hR, ⟨ps, hM⟩, hext⟩ := hrel
    by_cases hlt : k < l.length
    · obtain ⟨x, hx⟩ : ∃ x, l[k]? = some x := ⟨_, List.getElem?_eq_getElem hlt⟩
      obtain ⟨b, off, rfl, -, hc⟩ := h2 k x hx
      obtain ⟨ve, g1, g2, g3, hve⟩ := (hc k x hx).mono hext
      obtain ⟨va, vc, rfl, -, -⟩ := hve.open
      have hsx := hs x (List.mem_of_getElem? hx)
      have HX := Lib.hid hx
      obtain ⟨aM, cM, rfl⟩ := own_any' hM.own
      clear hc hx h2
      go_wp2_with fail
      obtain ⟨wo2, hwo2⟩ : ∃ wo2, wo2 = wr.alloc (.cells #[.int .i64 x.alphabet, .int .i64 x.states, .slice va x.edges.length vc] 25) := ⟨_, rfl⟩
      have hx2 : Ext wr wo2 := by rw [hwo2]; exact Ext.alloc _ _
      have hT : Blk wo2 wr.heap.size #[.int .i64 x.alphabet, .int .i64 x.states, .slice va x.edges.length vc] 25 := by rw [hwo2]; exact Blk.new _ _ _
      rw [← hwo2]
      clear hwo2 g1 g2 g3
      have hve2 := hve.mono hx2
      have D1 := fun d os => cell_regrown (hT.cell 0 rfl) d os
      have D2 := fun d os => cell_regrown (hT.cell 1 rfl) d os
      have D3 := fun d os => cell_regrown (hT.cell 2 rfl) d os
      have D0 := fun d os => cell_regrown ((hG.ext hx2).cell 1 rfl) d os
      obtain ⟨Kc, HKc⟩ : ∃ Kc : FuncId → Array Value → World → Value → World → Prop, Hid (Kc = fun (_ : FuncId) (args : Array Value) (w0 : World) (v : Value) (w' : World) => Ext w0 w' ∧ MovesV w' v x) := ⟨_, rfl⟩
      refine wp_region_ext (Kc := Kc) 5 (by kernel_rfl) (by kernel_rfl) ?_
      simp only [List.take_succ_cons, List.take_zero]
      repeat (refine WalkE.pure rfl (fun K hK => ?_); simp only [PureDo]; go_simp; refine hK _ ?_; clear hK K)
      refine WalkE.step (fun K hK wc hwc hdc => ?_)
      simp only [OpDo, OpSafe, OpOut]
      go_simp
      refine ⟨(movesOf_c _ x _ ⟨_, rfl, hve2.mono ((Ext.drew _).trans hwc)⟩ hsx).mono ?_, ?_⟩
      · rintro e w' ⟨v, rfl, he, hv⟩
        exact ⟨v, rfl, by rw [HKc.out]; exact ⟨he, hv⟩⟩
      intro u w4 hk4
      rw [HKc.out] at hk4
      refine ⟨hk4.1, hK _ _ ?_⟩
      clear hK K hdc
      obtain ⟨hk1, bm, cm, rfl, hmv⟩ := hk4
      repeat (refine WalkE.pure rfl (fun K hK => ?_); simp only [PureDo]; go_simp; refine hK _ ?_; clear hK K)
      refine WalkE.step (fun K hK wd hwd hdd => ?_)
      simp only [OpDo, OpSafe, OpOut]
      go_simp
      refine ⟨Ext.alloc _ _, hK _ _ ?_⟩
      clear hK K hdd
      refine WalkE.nil (fun wn hwn hmn => ?_)
      simp only [List.drop_succ_cons, List.drop_zero, List.drop_nil]
      have hx3 : Ext wr wn := hx2.trans ((Ext.drew _).trans hwn)
      have hM2 := hM.ext hx3
      have hG2 := hG.ext hx3
      have hR2 := hR.ext hx3
      have hext2 := hext.trans hx3
      have hsz := hext2.size
      have hmv2 := hmv.ext (hmn 3 (by omega))
      have hq : wn.cell? ⟨wd.heap.size, 0, none⟩ = some (.pointer (some ⟨bm, 0, none⟩)) := (hmn 4 (by omega)).new 0 rfl
      have hcell : ∀ (j : Nat) (u : Value), [Value.pointer (some ⟨bm, 0, none⟩)][j]? = some u → wn.cell? ((⟨wd.heap.size, 0, none⟩ : Addr).add j) = some u := fun j u hu => by
        rw [add_none]
        cases j with
        | zero => simp at hu; subst hu; exact hq
        | succ j => simp at hu
      clear hmn HKc D0 D1 D2 D3 hM hG hR hext hwn hwc hwd hq hve hve2 hT hx2 hmv hk1
      generalize wd.heap.size = q at hcell ⊢
      clear wd wc w4
      go_wp2_with (at_builtin; refine appN (news := [Value.pointer (some ⟨bm, 0, none⟩)]) rfl rfl Tryz.underlying76 infoMoves rfl (by decide) hM2.own rfl rfl (by simp) hcell (by simp [Value.oneCell']) (by omega) (by decide) hsz ?_; intro v1 w1 hown1 hgr1 hbl1; obtain ⟨a1, c1, rfl⟩ := own_any' hown1; have hG3 := hG2.grown hM2.own hgr1 (by decide); have gc1 := hG3.cell 1 rfl; have gf1 := hG3.fr 1)
      refine ⟨⟨k + 1, _, by omega, by go_num, hG3.set 1 _, (hR2.grown hM2.own hgr1 (by decide)).other (p := ⟨w.heap.size + 1, 1, none⟩) (by simp only []; omega) _, ⟨ps ++ [.pointer (some ⟨bm, 0, none⟩)], own_store hown1 hG3 (by decide) 1 _, fun j s hj hs => ?_⟩, (Below.trans hext2 hbl1).setCell (p := ⟨w.heap.size + 1, 1, none⟩) (by simp only []; omega) _⟩, by simp [intOf]; omega⟩
      have hpl := hM2.own.1
      by_cases hjk : j = k
      · subst hjk
        rw [HX.out] at hs; cases hs
        have hmv3 : MovesV wn (.pointer (some ⟨bm, 0, none⟩)) x := ⟨bm, cm, rfl, hmv2⟩
        exact ⟨_, by rw [List.getElem?_append_right (by omega)]; simp [hpl], (hmv3.grown hM2.own hgr1 (by decide)).other hG3 (by decide) 1 _⟩
      · obtain ⟨p, hp1, hp2⟩ := hM2.each j s (by omega) hs
        exact ⟨p, by rw [List.getElem?_append_left (by have := (List.getElem?_eq_some_iff.1 hp1).1; exact this)]; exact hp1, (hp2.grown hM2.own hgr1 (by decide)).other hG3 (by decide) 1 _⟩
    · obtain rfl : k = l.length := by omega
      obtain ⟨aM, cM, rfl⟩ := own_any' hM.own
      have c0 := hG.cell 0 rfl
      have c1 := hG.cell 1 rfl
      have rc0 := hR.cell 0 rfl; have rf0 := hR.fr 0; have rc1 := hR.cell 1 rfl; have rf1 := hR.fr 1
      go_wp2_with fail
      refine bodyPost_ret (v := .agg #[.slice a l.length c, .slice aM l.length cM]) (by simp [results, Tryz.results32, go_sem, rc0, rc1, rf0, rf1]) rfl ?_
      have hR1 := hR.set 0 (.slice a l.length c)
      have he : Ext w ((wr.setCell ⟨w.heap.size, 0, none⟩ (.slice a l.length c)).setCell ⟨w.heap.size, 1, none⟩ (.slice aM l.length cM)) := ((hext.setCell (p := ⟨w.heap.size, 0, none⟩) (by simp only []; omega) _).setCell (p := ⟨w.heap.size, 1, none⟩) (by simp only []; omega) _)
      exact ⟨_, rfl, he, _, ps, rfl, (hM.store hR (by decide) (by decide) 0 _).store hR1 (by decide) (by decide) 1 _⟩
theorem part_prod_succ {l : List Sys} {k : Nat} {s : Sys} (h : l[k]? = some s) : ((l.take (k + 1)).map fun s => s.states.toNat).prod = ((l.take k).map fun s => s.states.toNat).prod * s.states.toNat := by
  rw [List.take_add_one, h, List.map_append, List.prod_append]; simp
theorem part_prod_le {l : List Sys} (h : ∀ s ∈ l, sysValid s = true) : (l.map fun s => s.states.toNat).prod ≤ 16 ^ l.length := by
  induction l with
  | nil => simp
  | cons s l ih =>
    have h1 := ih fun t ht => h t (by simp [ht])
    have h2 := valid_alpha (h s (by simp))
    simp only [List.map_cons, List.prod_cons, List.length_cons, Nat.pow_succ]
    rw [Nat.mul_comm (16 ^ l.length)]
    exact Nat.mul_le_mul (by omega) h1

theorem size_c (v : Value) (l : List Sys) (w : World) (hv : PartsV w v l) (hp : areParts l = true) :
    Calls Tryz.prog 94 #[v] w (Grows (.int .i64 ((partSizes l).prod : Nat)) w) := by
  obtain ⟨vs, vm, rfl, hv1, hv2⟩ := hv
  obtain ⟨a, c, rfl, h1, h2⟩ := hv1.open
  obtain ⟨am, cm, rfl, -, -⟩ := hv2.open
  simp only [areParts, Bool.and_eq_true, decide_eq_true_eq, List.all_eq_true] at hp
  obtain ⟨⟨p1, p2⟩, p3⟩ := hp
  have P3 := Lib.hid p3
  clear p3 hv1 hv2
  go_enter Tryz.func94, Tryz.ntmps94
  go_wp2_with fail
  go_loopw [3, 9] (fun o i wr => ∃ k : Nat, k ≤ l.length ∧ i = .int .i64 k ∧ o = .int .i64 ((partSizes (l.take k)).prod : Nat) ∧ Ext w wr) (fun _ i _ => l.length - (intOf i).toNat)
  case atStart => exact ⟨0, by omega, rfl, by simp [partSizes], Ext.alloc _ _⟩
  case round =>
    obtain ⟨k, hk, rfl, rfl, hext⟩ := hrel
    by_cases hlt : k < l.length
    · obtain ⟨x, hx⟩ : ∃ x, l[k]? = some x := ⟨_, List.getElem?_eq_getElem hlt⟩
      obtain ⟨b, off, rfl, -, hc⟩ := h2 k x hx
      obtain ⟨ve, g1, g2, g3, hve⟩ := (hc k x hx).mono hext
      obtain ⟨va, vc, rfl, -, -⟩ := hve.open
      have HX := Lib.hid (part_prod_succ hx)
      have hal := valid_alpha (P3.out x (List.mem_of_getElem? hx))
      have hpr : (partSizes (l.take k)).prod ≤ 4096 := by
        have h3 := part_prod_le (l := l.take k) fun s hs => P3.out s (List.mem_of_mem_take hs)
        have h4 : 16 ^ (l.take k).length ≤ 16 ^ 3 := Nat.pow_le_pow_right (by omega) (by rw [List.length_take]; omega)
        exact Nat.le_trans h3 h4
      obtain ⟨n, hn⟩ := Int.eq_ofNat_of_zero_le (show 0 ≤ x.states by omega)
      rw [hn] at g2
      have hn16 : n ≤ 16 := by omega
      have HN := Lib.hid hn
      generalize hP : (partSizes (l.take k)).prod = pr at hpr ⊢
      have HP := Lib.hid hP
      have hmul : pr * n ≤ 4096 * 16 := Nat.mul_le_mul hpr hn16
      have hcast : ((pr * n : Nat) : Int) = (pr : Int) * (n : Int) := by simp
      have hb1 : 0 ≤ (pr : Int) * (n : Int) := by rw [← hcast]; omega
      have hb2 : (pr : Int) * (n : Int) ≤ 65536 := by rw [← hcast]; omega
      have HC := Lib.hid hcast
      clear hc hx h2 hn hP hcast hal
      go_wp2_with fail
      refine ⟨⟨k + 1, by omega, by go_num, ?_, hext.trans (Ext.alloc _ _)⟩, by simp [intOf]; omega⟩
      have e : (partSizes (l.take (k + 1))).prod = pr * n := by unfold partSizes at HP ⊢; rw [HX.out, HP.out, HN.out, Int.toNat_natCast]
      rw [e, HC.out]
    · obtain rfl : k = l.length := by omega
      go_wp2_with fail
      go_ret
      exact Grows.mk (by rw [List.take_length]; rfl) hext

theorem sysBits_len (s : Sys) (q : Nat) (l : Int) : (sysBits s q l).length ≤ 16 := by
  unfold sysBits
  by_cases hb : bit s.alphabet l = true
  · rw [if_pos hb]; exact bitsOf_len _
  · rw [if_neg hb]; simp
def moreTo (ch R : List Nat) (ww j : Nat) : List Nat := (ch.take j).flatMap fun q => R.map fun r => q * ww + r
theorem moreTo_succ {ch R : List Nat} {ww j q : Nat} (h : ch[j]? = some q) : moreTo ch R ww (j + 1) = moreTo ch R ww j ++ R.map fun r => q * ww + r := by
  unfold moreTo; rw [List.take_add_one, h, List.flatMap_append]; simp
theorem moreTo_len (ch R : List Nat) (ww j : Nat) : (moreTo ch R ww j).length ≤ ch.length * R.length := by
  unfold moreTo
  rw [List.length_flatMap]
  simp only [List.length_map]
  have : ∀ m : List Nat, (m.map fun _ => R.length).sum = m.length * R.length := by
    intro m; induction m with
    | nil => simp
    | cons a m ih => simp [ih, Nat.add_mul]; omega
  rw [this]
  exact Nat.mul_le_mul_right _ (by rw [List.length_take]; omega)
theorem moreTo_full (ch R : List Nat) (ww : Nat) : moreTo ch R ww ch.length = ch.flatMap fun q => R.map fun r => q * ww + r := by unfold moreTo; rw [List.take_length]
theorem take_rev_succ {l : List Sys} {j : Nat} {x : Sys} (h : l[j]? = some x) : (l.take (j + 1)).reverse = x :: (l.take j).reverse := by
  rw [List.take_add_one, h, List.reverse_append]; rfl

def Appends (base : Nat) (vo : Value) (l : List Int) (w : World) (e : Ending) (w' : World) : Prop := ∃ v, e = .returned v ∧ IntsOwn 3 base w' v l ∧ Tnd (SlB vo) w w' ∧ (∀ g, v.ownBlock = some g → vo.ownBlock = some g ∨ w.heap.size ≤ g)

theorem next_c (v : Value) (l : List Sys) (node lt : Nat) (vo : Value) (out : List Int) (base : Nat) (w : World) (hv : PartsV w v l) (hp : areParts l = true) (hn : node ≤ 1099511627776) (hl : lt < 6) (hT : Deb w)
    (ho : IntsOwn 3 base w vo out) (hout : out.length + 4096 ≤ 4294967296) (hbase : base ≤ w.heap.size) :
    Calls Tryz.prog 34 #[v, .int .i64 node, .int .i64 lt, vo] w (Appends base vo (out ++ ints (partsNext l node (lt : Nat))) w) := by
  obtain ⟨vs, vm, rfl, hv1, hv2⟩ := hv
  obtain ⟨a, c, rfl, h1, h2⟩ := hv1.open
  obtain ⟨am, cm, rfl, -, hm2⟩ := hv2.open
  simp only [areParts, Bool.and_eq_true, decide_eq_true_eq, List.all_eq_true] at hp
  obtain ⟨⟨p1, p2⟩, p3⟩ := hp
  have P3 := Lib.hid p3
  have hl' : (lt : Int) < 6 := by omega
  clear p3 hv1 hv2
  obtain ⟨wo, hwo⟩ : ∃ wo, wo = (w.alloc (.cells #[.slice a l.length c, .slice am l.length cm] 78)).alloc (.cells #[.int .i64 0] 3) := ⟨_, rfl⟩
  have he : Ext w wo := by rw [hwo]; exact (Ext.alloc _ _).trans (Ext.alloc _ _)
  have hB : Blk wo w.heap.size #[.slice a l.length c, .slice am l.length cm] 78 := by rw [hwo]; exact (Blk.new _ _ _).ext (Ext.alloc _ _)
  have hR0 : IntsV wo (.slice (some ⟨w.heap.size + 1, 0, none⟩) 1 1) (ints [0]) := by
    have hc : wo.cell? ⟨w.heap.size + 1, 0, none⟩ = some (.int .i64 0) := by
      have := Blk.new (w.alloc (.cells #[.slice a l.length c, .slice am l.length cm] 78)) #[.int .i64 0] 3
      rw [World.size_alloc, ← hwo] at this
      exact this.cell 0 rfl
    refine ⟨_, 1, rfl, by simp [ints], by unfold maxLen; omega, fun _ => ⟨_, _, rfl, by rw [hwo]; simp, fun i x hx => ?_⟩⟩
    cases i with
    | zero => simp [ints] at hx; subst hx; exact hc
    | succ i => simp [ints] at hx
  have HT := Lib.hid hT
  clear hT
  go_enter Tryz.func34, Tryz.ntmps34
  go_wp2_with fail
  rw [← hwo]
  clear hwo
  go_loopw [1, 9, 10, 11] (fun nd re wt i wr => ∃ (k nn ww : Nat) (R : List Nat), k ≤ l.length ∧ i = .int .i64 ((k : Int) - 1) ∧ nd = .int .i64 nn ∧ wt = .int .i64 ww ∧ nn ≤ 1099511627776 ∧ Hid (ww ≤ 16 ^ (l.length - k) ∧ R.length ≤ 16 ^ (l.length - k) ∧ ∀ r ∈ R, r < ww) ∧ Hid (partsGo (lt : Nat) (l.take k).reverse nn ww R = partsNext l node (lt : Nat)) ∧ IntsV wr re (ints R) ∧ Ext wo wr) (fun _ _ _ i _ => (intOf i + 1).toNat)
  case atStart => exact ⟨l.length, node, 1, [0], by omega, rfl, rfl, rfl, hn, by show _ ∧ _; simp, by show _ = _; rw [List.take_length]; rfl, hR0, Ext.refl _⟩
  case round =>
    obtain ⟨k, nn, ww, R, hk, rfl, rfl, rfl, hnn, HB, HP, hR, hext⟩ := hrel
    have hB2 := hB.ext hext
    by_cases hk0 : k = 0
    · subst hk0
      have b0 := hB2.cell 0 rfl
      have hx := he.trans hext
      have ho2 := IntsOwn.ext ho hx
      have hlR : (ints R).length ≤ 4096 := by
        rw [ints_len]
        have h3 := HB.out.2.1
        have h4 : 16 ^ (l.length - 0) ≤ 16 ^ 3 := Nat.pow_le_pow_right (by omega) (by omega)
        exact Nat.le_trans h3 h4
      go_wp2_with (at_builtin; refine appInts rfl rfl Tryz.underlying80 infoInt ho2 rfl rfl hR (by omega) (by decide) (Nat.le_trans hbase hx.size) ?_; intro v1 w1 hown1 hgr1 hloc1)
      go_ret
      refine ⟨_, rfl, ?_, (Tnd.ext hx).trans (Tnd.grown hgr1 fun g hg => hg), fun g hg => ?_⟩
      rotate_left
      · rcases hloc1 with h3 | h3
        · exact .inl (h3 ▸ hg)
        · have h4 : some wr.heap.size = some g := h3.symm.trans hg
          cases h4
          exact .inr hx.size
      have := HP.out
      rw [List.take_zero, List.reverse_nil] at this
      rw [← this]
      exact hown1
    · obtain ⟨j, rfl⟩ : ∃ j, k = j + 1 := ⟨k - 1, by omega⟩
      have e1 : ((j + 1 : Nat) : Int) - 1 = (j : Int) := by omega
      rw [e1]
      have hjl : j < l.length := by omega
      have hjl' : (j : Int) < l.length := by omega
      obtain ⟨x, hx⟩ : ∃ x, l[j]? = some x := ⟨_, List.getElem?_eq_getElem hjl⟩
      obtain ⟨b, off, rfl, -, hc⟩ := h2 j x hx
      obtain ⟨ve, g1, g2, g3, hve⟩ := (hc j x hx).mono (he.trans hext)
      obtain ⟨va, vc, rfl, -, -⟩ := hve.open
      obtain ⟨bm, offm, rfl, -, hcm⟩ := hm2 j x hx
      obtain ⟨pm, gm, bb, cs, rfl, hM⟩ := (hcm j x hx).mono (he.trans hext)
      rw [Nat.mul_one] at gm
      have hsx := P3.out x (List.mem_of_getElem? hx)
      have hal := valid_alpha hsx
      have HX := Lib.hid (take_rev_succ hx)
      obtain ⟨st, hst⟩ := Int.eq_ofNat_of_zero_le (show 0 ≤ x.states by omega)
      have hst1 : 1 ≤ st := by omega
      have hst16 : st ≤ 16 := by omega
      have hst1' : 1 ≤ (st : Int) := by omega
      have hst0 : ¬ st = 0 := by omega
      have HST := Lib.hid hst
      rw [hst] at g2
      obtain ⟨q, hq⟩ : ∃ q, Hid (q = nn % st) := ⟨_, rfl⟩
      obtain ⟨d, hd⟩ : ∃ d, Hid (d = nn / st) := ⟨_, rfl⟩
      have hq16 : q < 16 := by rw [hq.out]; have := Nat.mod_lt nn (show 0 < st by omega); omega
      have hq16' : (q : Int) < 16 := by omega
      have hdn : d ≤ 1099511627776 := by rw [hd.out]; exact Nat.le_trans (Nat.div_le_self _ _) hnn
      have em : (nn : Int) % (st : Int) = (q : Int) := by rw [hq.out]; simp
      have ed : (nn : Int) / (st : Int) = (d : Int) := by rw [hd.out]; simp
      have et : Int.tmod (nn : Int) (st : Int) = (q : Int) := by rw [hq.out]; simp [Int.tmod_eq_emod_of_nonneg]
      have hww : ww ≤ 4096 := by
        have h3 := HB.out.1
        have h4 : 16 ^ (l.length - (j + 1)) ≤ 16 ^ 3 := Nat.pow_le_pow_right (by omega) (by omega)
        exact Nat.le_trans h3 h4
      have b0 := hB2.cell 0 rfl
      have b1 := hB2.cell 1 rfl
      clear hc hcm hx h2 hm2 hst e1
      obtain ⟨TO, hTO⟩ : ∃ TO, Hid (TO = sysBits x q (lt : Nat)) := ⟨_, rfl⟩
      go_upto_if 41 with (go_at_call 75; refine (has_c _ _ _ (by omega) (by omega) (by omega)).mono ?_; rintro e w' ⟨rfl, rfl⟩)
      obtain ⟨w9, hw9⟩ : ∃ w9, w9 = (wr.alloc (.cells #[.int .i64 x.alphabet, .int .i64 st, .slice va x.edges.length vc] 25)).alloc (.cells #[.int .i64 q] 3) := ⟨_, rfl⟩
      have hx9 : Ext wr w9 := by rw [hw9]; exact (Ext.alloc _ _).trans (Ext.alloc _ _)
      have hT9 : Blk w9 wr.heap.size #[.int .i64 x.alphabet, .int .i64 st, .slice va x.edges.length vc] 25 := by rw [hw9]; exact (Blk.new _ _ _).ext (Ext.alloc _ _)
      have hQ9 : Blk w9 (wr.heap.size + 1) #[.int .i64 q] 3 := by rw [hw9]; have := Blk.new (wr.alloc (.cells #[.int .i64 x.alphabet, .int .i64 st, .slice va x.edges.length vc] 25)) #[.int .i64 q] 3; rwa [World.size_alloc] at this
      rw [← hw9]
      clear hw9
      go_cut [13] (fun v13 wc => ∃ aT cT, v13 = .slice aT (ints TO).length cT ∧ IntsV wc v13 (ints TO) ∧ Ext w9 wc)
      case first =>
        by_cases hb : bit x.alphabet (lt : Nat) = true
        · have HS := Lib.hid (show sysBits x q (lt : Nat) = bitsOf (stepM x (2 ^ q) (lt : Nat)) by unfold sysBits; rw [if_pos hb])
          have hlt16 := stepM_lt hsx (2 ^ q) (lt : Nat)
          rw [hb]
          go_wp2_with fail
          have B0 := fun d os => cell_regrown ((hB2.ext hx9).cell 1 rfl) d os
          have B1 := fun d os => cell_regrown (hT9.cell 1 rfl) d os
          have B2 := fun d os => cell_regrown (hx9.cell gm) d os
          have m0 := (hM.ext hx9).get hq16 hl
          rw [mv_all] at m0
          have B3 := fun d os => cell_regrown m0 d os
          clear m0
          have hTw := Lib.hid (HT.out.ext ((he.trans hext).trans hx9))
          obtain ⟨Kc, HKc⟩ : ∃ Kc : FuncId → Array Value → World → Value → World → Prop, Hid (Kc = fun (_ : FuncId) (_ : Array Value) (w0 : World) (v : Value) (w' : World) => Ext w0 w' ∧ IntsV w' v (ints (bitsOf (stepM x (2 ^ q) (lt : Nat))))) := ⟨_, rfl⟩
          refine wp_region_ext (Kc := Kc) 16 (by kernel_rfl) (by kernel_rfl) ?_
          simp only [List.take_succ_cons, List.take_zero]
          repeat (refine WalkE.pure rfl (fun K hK => ?_); simp only [PureDo]; go_simp; refine hK _ ?_; clear hK K)
          refine WalkE.step (fun K hK wc hwc hdc => ?_)
          simp only [OpDo, OpSafe, OpOut]
          go_simp
          refine ⟨(members_c _ _ hlt16 (hTw.out.ext ((Ext.drew _).trans hwc))).mono ?_, ?_⟩
          · rintro e w' ⟨v, rfl, he, hv⟩
            exact ⟨v, rfl, by rw [HKc.out]; exact ⟨he, hv.ints⟩⟩
          intro u w4 hk4
          rw [HKc.out] at hk4
          refine ⟨hk4.1, hK _ _ ?_⟩
          clear hK K hdc
          repeat (refine WalkE.pure rfl (fun K hK => ?_); simp only [PureDo]; go_simp; refine hK _ ?_; clear hK K)
          refine WalkE.nil (fun wn hwn hmn => ?_)
          simp only [List.drop_succ_cons, List.drop_zero, List.drop_nil]
          have hv4 := hk4.2.mono (hmn 14 (by omega))
          obtain ⟨aT, cT, rfl, -, -⟩ := hv4.open
          have hx10 := (Ext.drew w9).trans hwn
          clear hmn hwn hwc hk4 HKc B0 B1 B2 B3
          go_wp2_with fail
          go_meet
          case rel =>
            rw [hTO.out, HS.out]
            exact ⟨aT, cT, rfl, hv4, hx10⟩
        · have HS := Lib.hid (show sysBits x q (lt : Nat) = [q] by unfold sysBits; rw [if_neg hb])
          have hTV : IntsV w9 (.slice (some ⟨wr.heap.size + 1, 0, none⟩) 1 1) (ints [q]) := by
            refine ⟨_, 1, rfl, by simp [ints], by unfold maxLen; omega, fun _ => ⟨_, _, rfl, hQ9.lt, fun i y hy => ?_⟩⟩
            cases i with
            | zero => simp [ints] at hy; subst hy; exact hQ9.cell 0 rfl
            | succ i => simp [ints] at hy
          rw [show bit x.alphabet (lt : Nat) = false by simpa using hb]
          go_wp2_with fail
          go_meet
          case rel =>
            rw [hTO.out, HS.out]
            exact ⟨_, _, rfl, hTV, Ext.refl _⟩
      case rest =>
        obtain ⟨aT, cT, rfl, hTV, hcx⟩ := hcut
        have hTOl : TO.length ≤ 16 := by rw [hTO.out]; exact sysBits_len _ _ _
        have hTOb : Hid (∀ c ∈ TO, c < st) := by
          rw [hTO.out]
          intro c hc
          have h3 := ch_lt hsx (q := q) (by rw [HST.out, Int.toNat_natCast, hq.out]; exact Nat.mod_lt _ hst1) _ c ((ch_bits hsx _ _ _).2 hc)
          rw [HST.out, Int.toNat_natCast] at h3; exact h3
        have hRl : R.length ≤ 256 := by
          have h3 := HB.out.2.1
          have h4 : 16 ^ (l.length - (j + 1)) ≤ 16 ^ 2 := Nat.pow_le_pow_right (by omega) (by omega)
          exact Nat.le_trans h3 h4
        have hRb : Hid (∀ r ∈ R, r < ww) := HB.out.2.2
        have hRc := hR.mono (hx9.trans hcx)
        have hTc := hT9.ext hcx
        have hmul : TO.length * R.length ≤ 4096 := Nat.mul_le_mul hTOl hRl
        obtain ⟨aR, cR, rfl, -, hR2⟩ := hRc.open
        obtain ⟨aT', cT', heT, -, hT2⟩ := hTV.open
        cases heT
        simp only [ints_len] at hR2 hT2 ⊢
        clear em et b0 b1 g1 g2 g3 gm hst0 hq16' hTV hRc hR hM hve hT9 hQ9
        go_wp2_with fail
        go_loopw [14, 59] (fun v14 i wq => ∃ m : Nat, m ≤ TO.length ∧ i = .int .i64 m ∧ IntsOwn 3 wc.heap.size wq v14 (ints (moreTo TO R ww m)) ∧ Ext wc wq) (fun _ i _ => TO.length - (intOf i).toNat)
        case atStart => exact ⟨0, by omega, rfl, by simpa [moreTo, ints] using IntsOwn.nil _ _ _, Ext.refl _⟩
        case round =>
          obtain ⟨m, hm, rfl, hown, hext2⟩ := hrel
          by_cases hlt : m < TO.length
          · obtain ⟨c0, hc0⟩ : ∃ c0, TO[m]? = some c0 := ⟨_, List.getElem?_eq_getElem hlt⟩
            obtain ⟨b5, off5, rfl, -, hcc⟩ := hT2 m _ (ints_at hc0)
            have gT : wr.cell? ⟨b5, off5 + m, none⟩ = some (.int .i64 c0) := by have := hcc m _ (ints_at hc0); rw [Nat.mul_one] at this; exact hext2.cell this
            have hc16 : c0 < 16 := by have := hTOb.out c0 (List.mem_of_getElem? hc0); omega
            have HM := Lib.hid (moreTo_succ (R := R) (ww := ww) hc0)
            have hml := moreTo_len TO R ww m
            clear hcc hc0
            go_wp2_with fail
            go_loopw [14, 65] (fun v14 i wz => ∃ n : Nat, n ≤ R.length ∧ i = .int .i64 n ∧ IntsOwn 3 wc.heap.size wz v14 (ints (moreTo TO R ww m ++ (R.take n).map fun r => c0 * ww + r)) ∧ Ext wc wz) (fun _ i _ => R.length - (intOf i).toNat)
            case atStart => exact ⟨0, by omega, rfl, by simpa using hown, hext2⟩
            case round =>
              clear hown gT
              obtain ⟨n, hn2, rfl, hown, hext3⟩ := hrel
              by_cases hlt2 : n < R.length
              · obtain ⟨r0, hr0⟩ : ∃ r0, R[n]? = some r0 := ⟨_, List.getElem?_eq_getElem hlt2⟩
                obtain ⟨b6, off6, rfl, -, hcc⟩ := hR2 n _ (ints_at hr0)
                have gR : wr.cell? ⟨b6, off6 + n, none⟩ = some (.int .i64 r0) := by have := hcc n _ (ints_at hr0); rw [Nat.mul_one] at this; exact hext3.cell this
                have hrw : r0 < ww := hRb.out r0 (List.mem_of_getElem? hr0)
                have HR0 := Lib.hid hr0
                have hp1 : c0 * ww ≤ 16 * 4096 := Nat.mul_le_mul (by omega) hww
                have hcast : ((c0 * ww : Nat) : Int) = (c0 : Int) * (ww : Int) := by simp
                have hb1 : 0 ≤ (c0 : Int) * (ww : Int) := by rw [← hcast]; omega
                have hb2 : (c0 : Int) * (ww : Int) ≤ 65536 := by rw [← hcast]; omega
                have HC := Lib.hid hcast
                have hlen : (ints (moreTo TO R ww m ++ (R.take n).map fun r => c0 * ww + r)).length ≤ 8192 := by
                  rw [ints_len, List.length_append, List.length_map, List.length_take]; omega
                have hszz := hext3.size
                clear hcc hr0 hcast hR2
                go_wp2_with (at_builtin; refine app1 rfl rfl Tryz.underlying80 infoInt rfl (by decide) hown.own rfl rfl rfl (by simp [Value.oneCell']) (by omega) (by decide) (by omega) ?_; intro v1 w1 hown1 hgr1 hbl1)
                refine ⟨⟨n + 1, by omega, by go_num, IntsOwn.push hown1 ?_, Below.trans hext3 hbl1⟩, by simp [intOf]; omega⟩
                rw [List.take_add_one, HR0.out, List.map_append, ← List.append_assoc, ints_append]
                congr 1
              · obtain rfl : n = R.length := by omega
                go_wp2_with fail
                refine ⟨⟨m + 1, by omega, by go_num, ?_, hext3⟩, by simp [intOf]; omega⟩
                rw [HM.out]
                rw [List.take_length] at hown
                exact hown
          · obtain rfl : m = TO.length := by omega
            have hq1 := (hTc.ext hext2).cell 1 rfl
            have hmulw : ww * st ≤ 4096 * 16 := Nat.mul_le_mul hww hst16
            have hcast : ((ww * st : Nat) : Int) = (ww : Int) * (st : Int) := by simp
            have hb1 : 0 ≤ (ww : Int) * (st : Int) := by rw [← hcast]; omega
            have hb2 : (ww : Int) * (st : Int) ≤ 65536 := by rw [← hcast]; omega
            have HC := Lib.hid hcast
            clear hcast
            go_wp2_with fail
            refine ⟨⟨j, d, ww * st, moreTo TO R ww TO.length, by omega, by go_num, rfl, by rw [HC.out], hdn, ?_, ?_, hown.ints, (hext.trans (hx9.trans hcx)).trans hext2⟩, by simp [intOf]⟩
            · have h3 := HB.out.1
              have h4 := HB.out.2.1
              have e : 16 ^ (l.length - j) = 16 ^ (l.length - (j + 1)) * 16 := by rw [show l.length - j = (l.length - (j + 1)) + 1 by omega, Nat.pow_succ]
              refine ⟨by rw [e]; exact Nat.mul_le_mul h3 hst16, ?_, fun r hr => ?_⟩
              · rw [e, Nat.mul_comm]
                exact Nat.le_trans (moreTo_len _ _ _ _) (Nat.mul_le_mul hTOl h4)
              rw [moreTo_full] at hr
              obtain ⟨c0, h5, h6⟩ := List.mem_flatMap.1 hr
              obtain ⟨r0, h7, rfl⟩ := List.mem_map.1 h6
              have h8 := hTOb.out c0 h5
              have h9 := hRb.out r0 h7
              have h10 : (c0 + 1) * ww ≤ st * ww := Nat.mul_le_mul_right _ h8
              rw [Nat.add_mul, Nat.one_mul, Nat.mul_comm st] at h10
              omega
            · show _ = _
              rw [moreTo_full, hTO.out, hd.out, hq.out, ← HP.out, HX.out, partsGo, HST.out, Int.toNat_natCast]
end Go.Proofs.YtanekmfifmkbmaaGreatDoor

namespace Go.Proofs.YtanekmfifmkbmaaGreatDoor
set_option linter.unusedSimpArgs false
set_option linter.unusedVariables false
open Go.RowKit

set_option maxHeartbeats 1000000
set_option maxRecDepth 100000

theorem letterByte_c (l : Nat) (w : World) (hl : l < 6) : Calls Tryz.prog 189 #[.int .i64 l] w (Same (.int .u8 ((97 + l : Nat) : Int)) w) := by
  go_enter Tryz.func189, Tryz.ntmps189
  go_wp2_with fail
  go_ret
  exact Same.mk (by rw [show ((97 + l : Nat) : Int) = 97 + (l : Int) by omega]; rfl)

structure RevTo (xs ys : List Value) (k : Nat) : Prop where
  len : ys.length = xs.length
  out : ∀ i, i < xs.length → (i < k ∨ xs.length ≤ i + k) → ys[i]? = xs[xs.length - 1 - i]?
  mid : ∀ i, k ≤ i → i + k < xs.length → ys[i]? = xs[i]?
theorem RevTo.zero (xs : List Value) : RevTo xs xs 0 := ⟨rfl, fun i h h' => by omega, fun i _ _ => rfl⟩
theorem RevTo.full {xs ys : List Value} {k : Nat} (h : RevTo xs ys k) (hk : xs.length ≤ 2 * k + 1) : ys = xs.reverse := by
  apply List.ext_getElem?
  intro i
  by_cases hi : i < xs.length
  · rw [List.getElem?_reverse hi]
    by_cases h1 : i < k ∨ xs.length ≤ i + k
    · exact h.out i hi h1
    · rw [h.mid i (by omega) (by omega)]
      congr 1; omega
  · rw [List.getElem?_eq_none (by rw [h.len]; omega), List.getElem?_eq_none (by simp; omega)]
theorem RevTo.swap {xs ys : List Value} {k : Nat} {a b : Value} (h : RevTo xs ys k) (hk : 2 * k + 1 < xs.length) (ha : ys[k]? = some a) (hb : ys[xs.length - 1 - k]? = some b) :
    RevTo xs ((ys.set k b).set (xs.length - 1 - k) a) (k + 1) := by
  have hl := h.len
  have h1 := h.mid k (Nat.le_refl _) (by omega)
  have h2 := h.mid (xs.length - 1 - k) (by omega) (by omega)
  refine ⟨by simp [hl], fun i hi hc => ?_, fun i h3 h4 => ?_⟩
  · by_cases e1 : i = xs.length - 1 - k
    · subst e1
      rw [List.getElem?_set_self (by simp; omega), show xs.length - 1 - (xs.length - 1 - k) = k by omega, ← h1, ha]
    · rw [List.getElem?_set_ne (fun e => e1 e.symm)]
      by_cases e2 : i = k
      · subst e2
        rw [List.getElem?_set_self (by omega), ← h2, hb]
      · rw [List.getElem?_set_ne (fun e => e2 e.symm)]
        exact h.out i hi (by omega)
  · rw [List.getElem?_set_ne (by omega), List.getElem?_set_ne (by omega)]
    exact h.mid i (by omega) (by omega)

theorem Reverse_c (v : Value) (l : List UInt8) (base : Nat) (w : World) (h : BytesOwn 5 base w v l) (hl : l.length ≤ 4294967296) (hb : base ≤ w.heap.size) :
    Calls Tryz.prog 190 #[v] w (fun e w' => e = .returned (.tuple #[]) ∧ BytesOwn 5 base w' v l.reverse ∧ w.grownBy w' v.ownBlock) := by
  rcases own_shape h with ⟨rfl, h0⟩ | ⟨g, cap, rfl, hbg, _⟩
  · have : l = [] := List.eq_nil_of_length_eq_zero h0
    subst this
    go_enter Tryz.func190, Tryz.ntmps190
    go_wp2_with fail
    go_loopw [2, 3] (fun i j wr => i = .int .i64 0 ∧ j = .int .i64 (-1) ∧ wr = w) (fun _ _ _ => 0)
    case atStart => exact ⟨rfl, by go_num, rfl⟩
    case round =>
      obtain ⟨rfl, rfl, rfl⟩ := hrel
      go_wp2_with fail
      go_end0
      exact ⟨rfl, h, World.grownBy.refl _ _⟩
  · go_enter Tryz.func190, Tryz.ntmps190
    go_wp2_with fail
    go_loopw [2, 3] (fun i j wr => ∃ (k : Nat) (ys : List Value), 2 * k ≤ l.length + 1 ∧ i = .int .i64 k ∧ j = .int .i64 ((l.length : Int) - 1 - k) ∧ RevTo (l.map byteVal) ys k ∧ wr.ownsRow base 5 1 (.slice (some ⟨g, 0, none⟩) l.length cap) l.length ys ∧ w.grownBy wr (some g)) (fun i _ _ => l.length - (intOf i).toNat)
    case atStart => exact ⟨0, _, by omega, rfl, by go_num, RevTo.zero _, h, World.grownBy.refl _ _⟩
    case round =>
      obtain ⟨k, ys, hk, rfl, rfl, hR, hown, hgr⟩ := hrel
      by_cases hlt : 2 * k + 1 < l.length
      · obtain ⟨j, hj⟩ : ∃ j, j = l.length - 1 - k := ⟨_, rfl⟩
        have ej : ((l.length : Int) - 1 - k) = (j : Int) := by omega
        rw [ej]
        have hyl : ys.length = l.length := by rw [hR.len]; simp
        obtain ⟨a, ha⟩ : ∃ a : Int, ys[k]? = some (.int .u8 a) := ⟨_, by rw [hR.mid k (Nat.le_refl _) (by simp; omega), List.getElem?_map, List.getElem?_eq_getElem (show k < l.length by omega)]; rfl⟩
        obtain ⟨b, hb'⟩ : ∃ b : Int, ys[j]? = some (.int .u8 b) := ⟨_, by rw [hR.mid j (by omega) (by simp; omega), List.getElem?_map, List.getElem?_eq_getElem (show j < l.length by omega)]; rfl⟩
        have ca := own_cell hown ha
        have cb := own_cell hown hb'
        have fa := hown.frozenAt k
        have fb := hown.frozenAt j
        have hkj : (k : Int) < (j : Int) := by omega
        have hjl : (j : Int) < (l.length : Int) := by omega
        have HA := Lib.hid ha
        have HB := Lib.hid hb'
        have HJ := Lib.hid hj
        clear ha hb' hj ej hyl
        go_wp2_with fail
        go_region
        go_wp2_with fail
        obtain ⟨o1, p1⟩ := hown.stored k (.int .u8 b)
        obtain ⟨o2, p2⟩ := o1.stored j (.int .u8 a)
        have hs := hR.swap (by simpa using hlt) HA.out (by have := HB.out; rw [HJ.out] at this; simpa using this)
        refine ⟨⟨k + 1, _, by omega, by go_num, ?_, hs, ?_, ?_⟩, by simp [intOf]; omega⟩
        · have := HJ.out
          exact congrArg _ (by omega)
        · rw [show (l.map byteVal).length - 1 - k = j by rw [HJ.out]; simp]
          exact own_ext o2 (Ext.drew _)
        · exact ((hgr.trans p1).trans p2).trans ⟨rfl, rfl, rfl, Nat.le_refl _, fun _ _ _ => rfl⟩
      · have e : l.length ≤ 2 * k + 1 := by omega
        go_wp2_with fail
        go_end0
        refine ⟨rfl, ?_, hgr⟩
        have := hR.full (by simpa using e)
        unfold BytesOwn
        rw [List.length_reverse, List.map_reverse, ← this]
        exact hown


def lb (l : Int) : UInt8 := UInt8.ofNat (97 + l.toNat)
def wtext (u : List Int) : ByteArray := ⟨(u.map lb).toArray⟩
theorem lb_val (l : Nat) (h : l < 6) : byteVal (lb (l : Int)) = .int .u8 ((97 + l : Nat) : Int) := by
  have : l = 0 ∨ l = 1 ∨ l = 2 ∨ l = 3 ∨ l = 4 ∨ l = 5 := by omega
  rcases this with rfl | rfl | rfl | rfl | rfl | rfl <;> rfl
abbrev Rec := Int × Int × List Nat
structure Recs (recs : List Rec) (st : List (List Int × List Nat)) : Prop where
  len : recs.length = st.length
  nodes : ∀ (j : Nat) r x, recs[j]? = some r → st[j]? = some x → r.2.2 = x.2
  word : ∀ (j : Nat) r x, recs[j]? = some r → st[j]? = some x → (r.1 < 0 ∧ x.1 = []) ∨ ∃ (p l : Nat) (y : List Int × List Nat), r.1 = (p : Int) ∧ r.2.1 = (l : Int) ∧ l < 6 ∧ p < j ∧ st[p]? = some y ∧ x.1 = y.1 ++ [(l : Int)]
theorem Recs.nil : Recs [] [] := ⟨rfl, fun j r x h => by simp at h, fun j r x h => by simp at h⟩
theorem Recs.push {recs : List Rec} {st : List (List Int × List Nat)} (h : Recs recs st) {r : Rec} {x : List Int × List Nat} (hn : r.2.2 = x.2)
    (hw : (r.1 < 0 ∧ x.1 = []) ∨ ∃ (p l : Nat) (y : List Int × List Nat), r.1 = (p : Int) ∧ r.2.1 = (l : Int) ∧ l < 6 ∧ st[p]? = some y ∧ x.1 = y.1 ++ [(l : Int)]) : Recs (recs ++ [r]) (st ++ [x]) := by
  have hl := h.len
  have key : ∀ (j : Nat) r' x', (recs ++ [r])[j]? = some r' → (st ++ [x])[j]? = some x' → (j < st.length ∧ recs[j]? = some r' ∧ st[j]? = some x') ∨ (j = st.length ∧ r' = r ∧ x' = x) := by
    intro j r' x' h1 h2
    by_cases hj : j < st.length
    · rw [List.getElem?_append_left (by omega)] at h1
      rw [List.getElem?_append_left hj] at h2
      exact .inl ⟨hj, h1, h2⟩
    · have : j = st.length := by have := (List.getElem?_eq_some_iff.1 h2).1; simp at this; omega
      subst this
      rw [← hl, List.getElem?_concat_length] at h1
      rw [List.getElem?_concat_length] at h2
      cases h1; cases h2
      exact .inr ⟨rfl, rfl, rfl⟩
  refine ⟨by simp [hl], fun j r' x' h1 h2 => ?_, fun j r' x' h1 h2 => ?_⟩
  · rcases key j r' x' h1 h2 with ⟨_, h3, h4⟩ | ⟨_, rfl, rfl⟩
    · exact h.nodes j r' x' h3 h4
    · exact hn
  · rcases key j r' x' h1 h2 with ⟨hj, h3, h4⟩ | ⟨hj, rfl, rfl⟩
    · refine (h.word j r' x' h3 h4).imp id ?_
      rintro ⟨p, l, y, a, b, c, d, e, f⟩
      exact ⟨p, l, y, a, b, c, d, by rw [List.getElem?_append_left (by omega)]; exact e, f⟩
    · refine hw.imp id ?_
      rintro ⟨p, l, y, a, b, c, e, f⟩
      have := (List.getElem?_eq_some_iff.1 e).1
      exact ⟨p, l, y, a, b, c, by omega, by rw [List.getElem?_append_left this]; exact e, f⟩
structure StepsOwn (base : Nat) (w : World) (v : Value) (recs : List Rec) (cells : List Value) : Prop where
  own : w.ownsRow base 199 3 v recs.length cells
  cell : ∀ (j : Nat) r, recs[j]? = some r → cells[j * 3]? = some (.int .i64 r.1) ∧ cells[j * 3 + 1]? = some (.int .i64 r.2.1) ∧ ∃ u, cells[j * 3 + 2]? = some u ∧ IntsOwn 3 base w u (ints r.2.2)
theorem StepsOwn.ext {base : Nat} {w w' : World} {v : Value} {recs : List Rec} {cells : List Value} (h : StepsOwn base w v recs cells) (he : Ext w w') : StepsOwn base w' v recs cells :=
  ⟨own_ext h.own he, fun j r hr => let ⟨a, b, u, c, d⟩ := h.cell j r hr; ⟨a, b, u, c, d.ext he⟩⟩
theorem StepsOwn.get {base : Nat} {w : World} {v : Value} {recs : List Rec} {cells : List Value} (h : StepsOwn base w v recs cells) {j : Nat} {r : Rec} (hr : recs[j]? = some r) :
    ∃ g cap u, v = .slice (some ⟨g, 0, none⟩) recs.length cap ∧ w.cell? ⟨g, j * 3, none⟩ = some (.int .i64 r.1) ∧ w.cell? ⟨g, j * 3 + 1, none⟩ = some (.int .i64 r.2.1) ∧ w.cell? ⟨g, j * 3 + 2, none⟩ = some u ∧ IntsOwn 3 base w u (ints r.2.2) := by
  have hj := (List.getElem?_eq_some_iff.1 hr).1
  rcases own_shape h.own with ⟨_, h0⟩ | ⟨g, cap, rfl, _⟩
  · omega
  · obtain ⟨a, b, u, c, d⟩ := h.cell j r hr
    exact ⟨g, cap, u, rfl, own_cell h.own a, own_cell h.own b, own_cell h.own c, d⟩

theorem pathWord_c (v : Value) (recs : List Rec) (st : List (List Int × List Nat)) (last : List Int × List Nat) (cells : List Value) (base : Nat) (w : World) (h : StepsOwn base w v recs cells) (hR : Recs recs st)
    (hl : st[recs.length - 1]? = some last) (h0 : 0 < recs.length) (hn : recs.length ≤ 2147483648) :
    Calls Tryz.prog 152 #[v] w (Grows (.string (wtext last.1)) w) := by
  have h' := h
  obtain ⟨r0, hr0⟩ : ∃ r0, recs[recs.length - 1]? = some r0 := ⟨_, List.getElem?_eq_getElem (by omega)⟩
  obtain ⟨g, cap, u0, rfl, -⟩ := h.get hr0
  have hgw := (World.ownsRow.lt h.own g rfl).2
  clear hr0 u0 r0
  have H := Lib.hid h
  have HR := Lib.hid hR
  have HL := Lib.hid hl
  clear h hl
  go_enter Tryz.func152, Tryz.ntmps152
  go_wp2_with fail
  go_loopw [3, 4] (fun o i wr => ∃ (j : Nat) (x : List Int × List Nat) (bs : List UInt8) (suf : List Int), j + bs.length < recs.length ∧ i = .int .i64 j ∧ Hid (st[j]? = some x) ∧ Hid (last.1 = x.1 ++ suf ∧ bs = suf.reverse.map lb) ∧ BytesOwn 5 w.heap.size wr o bs ∧ Ext w wr) (fun _ i _ => (intOf i).toNat)
  case atStart => exact ⟨recs.length - 1, last, [], [], by simp; omega, by go_num, HL, by show _ ∧ _; simp, BytesOwn.nil _ _ _, Ext.refl _⟩
  case round =>
    obtain ⟨j, x, bs, suf, hj, rfl, HX, HS, hown, hext⟩ := hrel
    have hjr : j < recs.length := by omega
    obtain ⟨r, hr⟩ : ∃ r, recs[j]? = some r := ⟨_, List.getElem?_eq_getElem hjr⟩
    obtain ⟨g', cap', u, hv, c0, c1, -, -⟩ := (H.out.ext hext).get hr
    obtain ⟨rfl, rfl⟩ : g = g' ∧ cap = cap' := by simpa using hv
    have hw := HR.out.word j r x hr HX.out
    have hjr' : (j : Int) < recs.length := by omega
    clear hv hr
    rcases hw with ⟨hneg, hnil⟩ | ⟨p, l, y, e1, e2, e3, e4, e5, e6⟩
    · have HN := Lib.hid hnil
      have hng : decide (0 ≤ r.1) = false := decide_eq_false (by omega)
      have hng2 : ¬ 0 ≤ r.1 := by omega
      clear hnil
      go_wp2_with (go_at_call 190; refine (Reverse_c _ bs w.heap.size _ hown (by omega) hext.size).mono ?_; rintro e w1 ⟨rfl, hown1, hgr1⟩; have hst := hown1.string)
      go_ret
      have hS := HS.out
      rw [HN.out, List.nil_append] at hS
      refine Grows.mk ?_ (hext.grown hgr1 hext.size fun q hq => (World.ownsRow.lt hown q hq).1)
      unfold wtext
      rw [hS.2, ← List.map_reverse, List.reverse_reverse, hS.1]
      rfl
    · have HE := Lib.hid e6
      have HP := Lib.hid e5
      have hlb := lb_val l e3
      have HLB := Lib.hid hlb
      clear e6 e5 hlb
      rw [e1] at c0
      rw [e2] at c1
      clear e1 e2
      go_wp2_with (first | (go_at_call 189; refine (letterByte_c l _ e3).mono ?_; rintro e w' ⟨rfl, rfl⟩) | (at_builtin; refine app1 rfl rfl Tryz.underlying22 infoByte rfl (by decide) hown.own rfl rfl rfl (by simp [Value.oneCell']) (by omega) (by decide) hext.size ?_; intro v1 w1 hown1 hgr1 hbl1; have c2 := (Below.cell hbl1 (p := ⟨g, j * 3, none⟩) hgw).trans c0))
      have hS := HS.out
      refine ⟨⟨p, y, bs ++ [lb l], (l : Int) :: suf, by simp only [List.length_append, List.length_singleton]; omega, rfl, HP, ?_, BytesOwn.push hown1 HLB.out.symm rfl, Below.trans hext hbl1⟩, by simp [intOf]; omega⟩
      show _ ∧ _
      refine ⟨by rw [hS.1, HE.out, List.append_assoc]; rfl, by rw [hS.2]; simp⟩

end Go.Proofs.YtanekmfifmkbmaaGreatDoor

namespace Go.Proofs.YtanekmfifmkbmaaGreatDoor
set_option linter.unusedSimpArgs false
set_option linter.unusedVariables false
open Go.RowKit

set_option maxHeartbeats 1000000
set_option maxRecDepth 100000


def freshSt (s : List Bool × List Nat) (n : Nat) : List Bool × List Nat := if s.1[n]? = some false then (s.1.set n true, s.2 ++ [n]) else s
def freshTo (sb : List Bool) (R : List Nat) : List Bool × List Nat := R.foldl freshSt (sb, [])
theorem freshTo_snoc (sb : List Bool) (R : List Nat) (n : Nat) : freshTo sb (R ++ [n]) = freshSt (freshTo sb R) n := by unfold freshTo; rw [List.foldl_append]; rfl
theorem freshTo_len (sb : List Bool) (R : List Nat) : (freshTo sb R).1.length = sb.length := by
  unfold freshTo
  have : ∀ (R : List Nat) (s : List Bool × List Nat), (R.foldl freshSt s).1.length = s.1.length := by
    intro R
    induction R with
    | nil => intro s; rfl
    | cons n R ih =>
      intro s
      rw [List.foldl_cons, ih]
      unfold freshSt; split <;> simp
  exact this R _
def unseen (sb : List Bool) : Nat := (sb.filter fun b => !b).length
theorem unseen_set {sb : List Bool} {n : Nat} (h : sb[n]? = some false) : unseen (sb.set n true) + 1 = unseen sb := by
  induction sb generalizing n with
  | nil => simp at h
  | cons b sb ih =>
    cases n with
    | zero =>
      have hb : b = false := by simpa using h
      subst hb
      rfl
    | succ n =>
      have := ih (n := n) (by simpa using h)
      cases b
      · show (((false :: sb.set n true).filter fun b => !b)).length + 1 = ((false :: sb).filter fun b => !b).length
        rw [List.filter_cons_of_pos rfl, List.filter_cons_of_pos rfl, List.length_cons, List.length_cons]
        exact congrArg (· + 1) this
      · show (((true :: sb.set n true).filter fun b => !b)).length + 1 = ((true :: sb).filter fun b => !b).length
        rw [List.filter_cons_of_neg (by simp), List.filter_cons_of_neg (by simp)]
        exact this
theorem unseen_le (sb : List Bool) : unseen sb ≤ sb.length := List.length_filter_le _ _
theorem freshTo_count (sb : List Bool) (R : List Nat) : unseen (freshTo sb R).1 + (freshTo sb R).2.length = unseen sb := by
  have : ∀ (R : List Nat) (s : List Bool × List Nat), unseen (R.foldl freshSt s).1 + (R.foldl freshSt s).2.length = unseen s.1 + s.2.length := by
    intro R
    induction R with
    | nil => intro s; rfl
    | cons n R ih =>
      intro s
      rw [List.foldl_cons, ih]
      unfold freshSt
      split
      · rename_i h
        have := unseen_set h
        simp; omega
      · rfl
  have := this R (sb, [])
  unfold freshTo
  simpa using this
theorem freshTo_mem (sb : List Bool) (R : List Nat) (hR : ∀ n ∈ R, n < sb.length) : (∀ n, n < sb.length → ((freshTo sb R).1[n]? = some true ↔ (sb[n]? = some true ∨ n ∈ R))) ∧ (∀ n, n ∈ (freshTo sb R).2 ↔ (n ∈ R ∧ sb[n]? = some false)) := by
  have bool : ∀ (l : List Bool) (n : Nat), n < l.length → (l[n]? = some false ↔ ¬ l[n]? = some true) := by
    intro l n h
    rw [List.getElem?_eq_getElem h]
    cases l[n] <;> simp
  induction h : R.length generalizing R with
  | zero =>
    obtain rfl := List.eq_nil_of_length_eq_zero h
    exact ⟨fun n _ => by simp [freshTo], fun n => by simp [freshTo]⟩
  | succ k ih =>
    obtain ⟨R', x, rfl⟩ : ∃ R' x, R = R' ++ [x] := ⟨R.dropLast, R.getLast (by intro e; simp [e] at h), (List.dropLast_concat_getLast _).symm⟩
    obtain ⟨h1, h2⟩ := ih R' (fun n hn => hR n (by simp [hn])) (by simpa using h)
    have hx : x < sb.length := hR x (by simp)
    have hl := freshTo_len sb R'
    rw [freshTo_snoc]
    unfold freshSt
    by_cases hc : (freshTo sb R').1[x]? = some false
    · rw [if_pos hc]
      have hn : ¬ (freshTo sb R').1[x]? = some true := (bool _ _ (by omega)).1 hc
      rw [h1 x hx] at hn
      refine ⟨fun n hnl => ?_, fun n => ?_⟩
      · by_cases e : x = n
        · subst e
          rw [List.getElem?_set_self (by omega)]; simp
        · rw [List.getElem?_set_ne e, h1 n hnl]
          simp only [List.mem_append, List.mem_singleton]
          constructor
          · rintro (h3 | h3)
            · exact .inl h3
            · exact .inr (.inl h3)
          · rintro (h3 | h3 | h3)
            · exact .inl h3
            · exact .inr h3
            · exact absurd h3.symm e
      · simp only [List.mem_append, List.mem_singleton, h2]
        constructor
        · rintro (⟨h3, h4⟩ | rfl)
          · exact ⟨.inl h3, h4⟩
          · exact ⟨.inr rfl, (bool _ _ hx).2 fun h5 => hn (.inl h5)⟩
        · rintro ⟨h3 | rfl, h4⟩
          · exact .inl ⟨h3, h4⟩
          · exact .inr rfl
    · rw [if_neg hc]
      have hn : (freshTo sb R').1[x]? = some true := by
        refine Classical.byContradiction fun h3 => hc ((bool _ _ (by omega)).2 h3)
      have hn' := (h1 x hx).1 hn
      refine ⟨fun n hnl => ?_, fun n => ?_⟩
      · rw [h1 n hnl]
        simp only [List.mem_append, List.mem_singleton]
        constructor
        · rintro (h3 | h3)
          · exact .inl h3
          · exact .inr (.inl h3)
        · rintro (h3 | h3 | rfl)
          · exact .inl h3
          · exact .inr h3
          · exact hn'
      · simp only [List.mem_append, List.mem_singleton, h2]
        constructor
        · rintro ⟨h3, h4⟩; exact ⟨.inl h3, h4⟩
        · rintro ⟨h3 | rfl, h4⟩
          · exact ⟨h3, h4⟩
          · rcases hn' with h5 | h5
            · rw [h5] at h4; cases h4
            · exact ⟨h5, h4⟩


structure Seek (base sv gv pv sa : Nat) (gf : Value) (w : World) (sb : List Bool) (vS : Value) (recs : List Rec) (cells : List Value) : Prop where
  svb : Blk w sv #[.slice (some ⟨sa, 0, none⟩) sb.length sb.length] 29
  gvb : Blk w gv #[gf] 130
  pvb : Blk w pv #[vS] 197
  seen : w.ownsRow base 4 1 (.slice (some ⟨sa, 0, none⟩) sb.length sb.length) sb.length (sb.map Value.bool)
  steps : StepsOwn base w vS recs cells
  lo : base ≤ sv ∧ base ≤ pv ∧ base ≤ gv ∧ base ≤ w.heap.size
  ne : sv ≠ pv ∧ gv ≠ pv
theorem Seek.ext {base sv gv pv sa : Nat} {gf : Value} {w w' : World} {sb : List Bool} {vS : Value} {recs : List Rec} {cells : List Value} (h : Seek base sv gv pv sa gf w sb vS recs cells) (he : Ext w w') : Seek base sv gv pv sa gf w' sb vS recs cells :=
  ⟨h.svb.ext he, h.gvb.ext he, h.pvb.ext he, own_ext h.seen he, h.steps.ext he, ⟨h.lo.1, h.lo.2.1, h.lo.2.2.1, Nat.le_trans h.lo.2.2.2 he.size⟩, h.ne⟩
theorem infoStep : (Tryz.prog.info? 199).map (fun i => (i.zero, i.size, i.bytes)) = some (some (.agg #[.int .i64 0, .int .i64 0, .slice none 0 0]), 3, 40) := by kernel_rfl

structure GoalIs (w0 : World) (n : Nat) (gf : Value) (G : Nat → Bool) : Prop where
  fn : ∃ f caps, gf = .func (.func f) #[] caps ∧ (∀ args w, (callFunc f args).run Tryz.prog w = .ok (.enter f args) w) ∧ ∀ w' k, Ext w0 w' → k < n → Calls Tryz.prog f (#[.int .i64 (k : Nat)] ++ caps) w' (Grows (.bool (G k)) w')

def VisitEnd (base sv gv pv sa : Nat) (gf : Value) (G : Nat → Bool) (sb : List Bool) (recs : List Rec) (par let' : Int) (R : List Nat) (w : World) (e : Ending) (w' : World) : Prop :=
  e = .returned (.bool ((freshTo sb R).2.any G)) ∧ Below base w w' ∧ ∃ vS cells, Seek base sv gv pv sa gf w' (freshTo sb R).1 vS (if (freshTo sb R).2 = [] then recs else recs ++ [(par, let', (freshTo sb R).2)]) cells

theorem Blk.low {w w' : World} {b lo : Nat} {cs : Array Value} {t : TypeId} (h : Blk w b cs t) (hb : Below lo w w') (hlt : b < lo) : Blk w' b cs t := (hb.block b hlt).trans h
theorem Tnd.low {S : Nat → Prop} {w w1 w2 : World} (h : Tnd S w w1) (hb : Below w.heap.size w1 w2) : Tnd S w w2 :=
  ⟨hb.os.trans h.os, hb.tape.trans h.tape, hb.output.trans h.output, Nat.le_trans h.size hb.size, fun b hlt hn => (hb.block b hlt).trans (h.block b hlt hn)⟩
theorem own_blk_ne {w : World} {base g b : Nat} {e T : TypeId} {size n m c : Nat} {xs : List Value} {cs : Array Value} (h : w.ownsRow base e size (.slice (some ⟨g, 0, none⟩) m c) n xs) (hB : Blk w b cs T) (hne : T ≠ e) : b ≠ g := by
  intro hbg
  subst hbg
  rcases h.2 with ⟨h1, _⟩ | ⟨g1, cap, cur, h1, hb, hw, r⟩
  · cases h1
  · simp only [Value.slice.injEq, Option.some.injEq, Addr.mk.injEq] at h1
    obtain ⟨⟨rfl, -, -⟩, -, -⟩ := h1
    rw [show w.heap[b]? = _ from hB] at hw
    cases hw
    exact hne rfl

theorem visit_c (base sv gv pv sa : Nat) (gf : Value) (G : Nat → Bool) (sb : List Bool) (vS : Value) (recs : List Rec) (cells : List Value) (par let' : Int) (vn : Value) (R : List Nat) (w0 w : World)
    (h : Seek base sv gv pv sa gf w sb vS recs cells) (hG : GoalIs w0 sb.length gf G) (hw0 : Ext w0 w) (hb0 : w0.heap.size ≤ base) (hn : IntsOwn 3 0 w vn (ints R)) (hR : ∀ n ∈ R, n < sb.length) (hlen : sb.length ≤ 2147483648) (hrl : recs.length ≤ sb.length) :
    Calls Tryz.prog 151 #[.int .i64 par, .int .i64 let', vn, .pointer (some ⟨sv, 0, none⟩), .pointer (some ⟨gv, 0, none⟩), .pointer (some ⟨pv, 0, none⟩)] w (VisitEnd base sv gv pv sa gf G sb recs par let' R w) := by
  obtain ⟨f, caps, rfl, hent, hcall⟩ := hG.fn
  obtain ⟨an, cn, rfl⟩ := hn.shape
  have hsv := own_blk_ne h.seen h.svb (by decide)
  have hgv := own_blk_ne h.seen h.gvb (by decide)
  have hpv := own_blk_ne h.seen h.pvb (by decide)
  have hna := own_apart' hn h.seen (by decide)
  have hsl := h.svb.lt
  have hgl := h.gvb.lt
  have hHE := Lib.hid hent
  have hRl : R.length ≤ 9223372036854775807 := by
    obtain ⟨_, _, _, h1, _⟩ := (IntsOwn.ints hn).open
    rw [ints_len] at h1; exact h1
  go_enter Tryz.func151, Tryz.ntmps151
  go_wp2_with fail
  simp only [ints_len]
  go_loopw [10, 11, 16, 34, 35, 36] (fun v10 v11 i _ _ _ wr => ∃ k : Nat, k ≤ R.length ∧ i = .int .i64 k ∧ IntsOwn 3 w.heap.size wr v10 (ints (freshTo sb (R.take k)).2) ∧ v11 = .bool ((freshTo sb (R.take k)).2.any G) ∧ wr.ownsRow base 4 1 (.slice (some ⟨sa, 0, none⟩) sb.length sb.length) sb.length ((freshTo sb (R.take k)).1.map Value.bool) ∧ Tnd (fun b => b = sa) w wr) (fun _ _ i _ _ _ _ => R.length - (intOf i).toNat)
  case atStart => exact ⟨0, by omega, rfl, by simpa [freshTo, ints] using IntsOwn.nil _ _ _, by simp [freshTo], by simpa [freshTo] using h.seen, Tnd.refl _ _⟩
  case round =>
    obtain ⟨k, hk, rfl, hown, rfl, hseen, ht⟩ := hrel
    by_cases hlt : k < R.length
    · obtain ⟨n, hnk⟩ : ∃ n, R[k]? = some n := ⟨_, List.getElem?_eq_getElem hlt⟩
      have hnl := hR n (List.mem_of_getElem? hnk)
      have hnl' : (n : Int) < (sb.length : Int) := by omega
      have hn2 := ht.own hn (fun g hg he => hna g hg (by rw [he]; rfl))
      obtain ⟨a', c', hv', -, hcc⟩ := (IntsOwn.ints hn2).open
      cases hv'
      obtain ⟨b, off, rfl, -, hcell⟩ := hcc k _ (ints_at hnk)
      have g1 : wr.cell? ⟨b, off + k, none⟩ = some (.int .i64 n) := by have := hcell k _ (ints_at hnk); rw [Nat.mul_one] at this; exact this
      have gsv := (h.svb.tnd ht hsv).cell 0 rfl
      have gB := h.gvb.tnd ht hgv
      have HT : Hid (freshTo sb (R.take (k + 1)) = freshSt (freshTo sb (R.take k)) n) := by
        show _ = _
        rw [List.take_add_one, hnk]; exact freshTo_snoc _ _ _
      have hfl := freshTo_len sb (R.take k)
      have hcnt := freshTo_count sb (R.take k)
      have hun := unseen_le sb
      generalize hF : freshTo sb (R.take k) = F at hown hseen hfl hcnt HT ⊢
      obtain ⟨F1, F2⟩ := F
      simp only at hown hseen hfl hcnt ⊢
      obtain ⟨bb, hbb⟩ : ∃ bb, F1[n]? = some bb := ⟨_, List.getElem?_eq_getElem (by omega)⟩
      have g2 := own_cell hseen (j := n) (u := .bool bb) (by rw [List.getElem?_map, hbb]; rfl)
      have g3 := hseen.frozenAt n
      have HBB := Lib.hid hbb
      have HFL := Lib.hid hfl
      have hF2 : (ints F2).length ≤ 2147483648 := by rw [ints_len]; omega
      have hsz := ht.size
      clear hF hnk hcell hcc hbb hfl
      cases bb with
      | true =>
        go_wp2_with fail
        have e : freshTo sb (R.take (k + 1)) = (F1, F2) := by rw [HT.out]; unfold freshSt; rw [if_neg (by rw [HBB.out]; simp)]
        refine ⟨⟨k + 1, by omega, by go_num, by rw [e]; exact hown, by rw [e], by rw [e]; exact hseen, ht⟩, by simp [intOf]; omega⟩
      | false =>
        have e : Hid (freshTo sb (R.take (k + 1)) = (F1.set n true, F2 ++ [n])) := by
          show _ = _
          rw [HT.out]; unfold freshSt; rw [if_pos HBB.out]
        obtain ⟨o1, p1⟩ := hseen.stored n (.bool true)
        have hown1 : IntsOwn 3 w.heap.size (wr.setCell ⟨sa, n, none⟩ (.bool true)) u10 (ints F2) := by
          refine World.ownsRow.kept hown p1 ?_
          cases hbk : u10.ownBlock with
          | none => exact .inl rfl
          | some q =>
            refine .inr fun he => ?_
            have h1 := (World.ownsRow.lt hown q hbk).1
            have h2 := (World.ownsRow.lt h.seen sa rfl).2
            simp [Value.ownBlock] at he; omega
        have gB1 := gB.other (p := ⟨sa, n, none⟩) hgv (.bool true)
        have hsz1 : w.heap.size ≤ (wr.setCell ⟨sa, n, none⟩ (.bool true)).heap.size := by simpa using hsz
        have ht1 : Tnd (fun b => b = sa) w (wr.setCell ⟨sa, n, none⟩ (.bool true)) := ht.trans (Tnd.grown p1 fun g hg => by simp [Value.ownBlock] at hg; exact hg.symm)
        go_upto_region 8 with fail
        generalize wr.setCell ⟨sa, n, none⟩ (.bool true) = w1 at hown1 gB1 hsz1 o1 ht1 ⊢
        clear p1 g1 g2 g3 gsv gB hseen hown ht hsz hn2
        have hgl1 := Nat.lt_of_lt_of_le hgl hsz1
        by_cases hfb : F2.any G = true
        · rw [hfb]
          go_wp2_with (at_builtin; refine app1 rfl rfl Tryz.underlying80 infoInt rfl (by decide) hown1.own rfl rfl rfl (by simp [Value.oneCell']) (by omega) (by decide) hsz1 ?_; intro v1 w2 hown2 hgr2 hbl2)
          refine ⟨⟨k + 1, by omega, by go_num, by rw [e.out]; exact IntsOwn.push hown2 (by rw [ints_append]; rfl), by rw [e.out]; simp only [List.any_append, hfb, Bool.true_or], ?_, ht1.low hbl2⟩, by simp [intOf]; omega⟩
          rw [e.out, List.map_set]
          exact own_grown o1 hown1.own hgr2 (by decide)
        · rw [show F2.any G = false by simpa using hfb]
          have hx1 : Ext w0 w1 := Below.trans hw0 (ht1.below (lo := w0.heap.size) hw0.size fun b hb => by
            have := (World.ownsRow.lt h.seen sa rfl).1
            show w0.heap.size ≤ b
            rw [show b = sa from hb]; omega)
          go_wp2_with (first | (at_builtin; refine app1 rfl rfl Tryz.underlying80 infoInt rfl (by decide) hown1.own rfl rfl rfl (by simp [Value.oneCell']) (by omega) (by decide) hsz1 ?_; intro v1 w2 hown2 hgr2 hbl2; have c1 := (gB1.low hbl2 hgl).cell 0 rfl) | (refine (hcall _ n (Below.trans hx1 (hbl2.mono hw0.size)) hnl).mono ?_; rintro e w3 ⟨rfl, he3⟩))
          refine ⟨⟨k + 1, by omega, by go_num, ?_, ?_, ?_, (ht1.low hbl2).trans (Tnd.ext he3)⟩, by simp [intOf]; omega⟩
          · rw [e.out]; exact (IntsOwn.push (l := ints F2) hown2 (by rw [ints_append]; rfl)).ext he3
          · rw [e.out]; simp only [List.any_append, show F2.any G = false by simpa using hfb, Bool.false_or, List.any_cons, List.any_nil, Bool.or_false]
          · rw [e.out, List.map_set]
            exact own_ext (own_grown o1 hown1.own hgr2 (by decide)) he3
    · obtain rfl : k = R.length := by omega
      rw [List.take_length] at hown hseen ⊢
      have hfl := freshTo_len sb R
      have hcnt := freshTo_count sb R
      have hun := unseen_le sb
      have HF := Lib.hid (rfl : freshTo sb R = freshTo sb R)
      generalize hF : freshTo sb R = F at hown hseen hfl hcnt ⊢
      obtain ⟨F1, F2⟩ := F
      simp only at hown hseen hfl hcnt ⊢
      have HFF := Lib.hid hF
      obtain ⟨a10, c10, rfl⟩ := hown.shape
      have hsz := ht.size
      have hlo : Below base w wr := ht.below h.lo.2.2.2 fun b hb => by
        have := (World.ownsRow.lt h.seen sa rfl).1
        show base ≤ b
        rw [show b = sa from hb]; exact this
      have hB1 := h.svb.tnd ht hsv
      have hB2 := h.gvb.tnd ht hgv
      have hB3 := h.pvb.tnd ht hpv
      have hst : StepsOwn base wr vS recs cells := by
        refine ⟨ht.own h.steps.own fun g hg he => own_apart' h.steps.own h.seen (by decide) g hg (by rw [he]; rfl), fun j r hr => ?_⟩
        obtain ⟨a, b, u, c, d⟩ := h.steps.cell j r hr
        exact ⟨a, b, u, c, ht.own d fun g hg he => own_apart' d h.seen (by decide) g hg (by rw [he]; rfl)⟩
      clear hF hcall hent
      simp only [ints_len] at hown ⊢
      by_cases h2 : F2 = []
      · subst h2
        go_wp2_with fail
        go_ret
        refine ⟨?_, hlo, vS, cells, ?_⟩
        · rw [HFF.out]; rfl
        · rw [HFF.out]
          exact ⟨by rw [hfl]; exact hB1, hB2, hB3, by rw [hfl]; exact hseen, hst, ⟨h.lo.1, h.lo.2.1, h.lo.2.2.1, Nat.le_trans h.lo.2.2.2 hsz⟩, h.ne⟩
      · have h2' : 0 < F2.length := List.length_pos_iff.2 h2
        have hbs : base ≤ wr.heap.size := Nat.le_trans h.lo.2.2.2 hsz
        obtain ⟨aS, cS, rfl⟩ := own_any' hst.own
        have c0 := hB3.cell 0 rfl
        have hpl := h.pvb.lt
        go_wp2_with (at_builtin; refine app1 (news := [Value.int .i64 par, Value.int .i64 let', Value.slice a10 F2.length c10]) rfl rfl Tryz.underlying197 infoStep rfl (by decide) hst.own rfl rfl rfl (by simp [Value.oneCell']) (by omega) (by decide) hbs ?_; intro v1 w1 hown1 hgr1 hbl1; obtain ⟨a1, c1, rfl⟩ := own_any' hown1; have hB4 := hB3.grown hst.own hgr1 (by decide); have d0 := hB4.cell 0 rfl; have d1 := hB4.fr 0)
        go_ret
        have hB5 := hB4.set 0 (.slice a1 (recs.length + 1) c1)
        refine ⟨?_, (Below.trans hlo hbl1).setCell (p := ⟨pv, 0, none⟩) h.lo.2.1 _, .slice a1 (recs.length + 1) c1, cells ++ [Value.int .i64 par, Value.int .i64 let', Value.slice a10 F2.length c10], ?_⟩
        · rw [HFF.out]; rfl
        · rw [HFF.out]
          simp only [if_neg h2]
          refine ⟨?_, (hB2.grown hst.own hgr1 (by decide)).other (p := ⟨pv, 0, none⟩) h.ne.2 _, hB5, ?_, ⟨?_, fun j r hr => ?_⟩, ⟨h.lo.1, h.lo.2.1, h.lo.2.2.1, by simpa using Nat.le_trans hbs hbl1.size⟩, h.ne⟩
          · rw [hfl]; exact (hB1.grown hst.own hgr1 (by decide)).other (p := ⟨pv, 0, none⟩) h.ne.1 _
          · rw [hfl]; exact own_store (own_grown hseen hst.own hgr1 (by decide)) hB4 (by decide) 0 _
          · rw [List.length_append]; exact own_store hown1 hB4 (by decide) 0 _
          · have hcl : cells.length = recs.length * 3 := hst.own.1
            by_cases hj : j < recs.length
            · rw [List.getElem?_append_left hj] at hr
              obtain ⟨a, b, u, c, d⟩ := hst.cell j r hr
              refine ⟨by rw [List.getElem?_append_left (by omega)]; exact a, by rw [List.getElem?_append_left (by omega)]; exact b, u, by rw [List.getElem?_append_left (by omega)]; exact c, own_store (own_grown d hst.own hgr1 (by decide)) hB4 (by decide) 0 _⟩
            · have hj2 : j = recs.length := by have := (List.getElem?_eq_some_iff.1 hr).1; simp at this; omega
              subst hj2
              rw [List.getElem?_concat_length] at hr
              cases hr
              have hf2 : IntsOwn 3 base wr (.slice a10 F2.length c10) (ints F2) := hown.low h.lo.2.2.2
              refine ⟨by rw [List.getElem?_append_right (by omega), hcl]; simp, by rw [List.getElem?_append_right (by omega), hcl]; simp, _, by rw [List.getElem?_append_right (by omega), hcl]; simp, own_store (own_grown hf2 hst.own hgr1 (by decide)) hB4 (by decide) 0 _⟩
end Go.Proofs.YtanekmfifmkbmaaGreatDoor
