/- Part of this seat's proofs, cut to what its law needs. -/

import Derived.Test.YtanekmfifmkbmaaGreatDoorPlainE
import Derived.Test.YtanekmfifmkbmaaGreatDoorSubS
import Derived.Test.YtanekmfifmkbmaaGreatDoorWalkK
import Derived.Test.YtanekmfifmkbmaaGreatDoorWalkY
import Derived.DeepKeys4
import Derived.Maps.OwnSet
import Derived.Maps.OwnOps
import Derived.Deep.RegionLaw
import Derived.Deep.DrawnRows
import Derived.Test.YtanekmfifmkbmaaGreatDoorWalkH
import Derived.Test.YtanekmfifmkbmaaGreatDoorWalkE

namespace Go.Proofs.YtanekmfifmkbmaaGreatDoor
set_option linter.unusedSimpArgs false
set_option linter.unusedVariables false
open Go.RowKit Go.Maps
set_option maxHeartbeats 4000000
set_option maxRecDepth 100000


def pcells (f : Sets) : Array Value := ((List.range 12).map fun p => Value.int .u16 (f p : Int)).toArray
def pval (f : Sets) : Value := .agg #[.int .u16 (f 0 : Int), .int .u16 (f 1 : Int), .int .u16 (f 2 : Int), .int .u16 (f 3 : Int), .int .u16 (f 4 : Int), .int .u16 (f 5 : Int), .int .u16 (f 6 : Int), .int .u16 (f 7 : Int), .int .u16 (f 8 : Int), .int .u16 (f 9 : Int), .int .u16 (f 10 : Int), .int .u16 (f 11 : Int)]
theorem pval_eq (f : Sets) : pval f = .agg (pcells f) := rfl
theorem pcells_at {f : Sets} {p : Nat} (h : p < 12) : (pcells f)[p]? = some (.int .u16 (f p : Int)) := by simp [pcells, h]
theorem pcells_size (f : Sets) : (pcells f).size = 12 := by simp [pcells]
theorem pcells_set (f : Sets) {p : Nat} (h : p < 12) (y : Nat) : (pcells f).setIfInBounds p (.int .u16 (y : Int)) = pcells (updS f p y) := by
  apply Array.ext_getElem?
  intro i
  by_cases hip : p = i
  · subst hip
    rw [Array.getElem?_setIfInBounds_self_of_lt (by rw [pcells_size]; exact h), pcells_at h]; simp [updS]
  · rw [Array.getElem?_setIfInBounds_ne hip]
    by_cases hi : i < 12
    · rw [pcells_at hi, pcells_at hi]; unfold updS; rw [if_neg fun e => hip e.symm]
    · rw [Array.getElem?_eq_none (by rw [pcells_size]; omega), Array.getElem?_eq_none (by rw [pcells_size]; omega)]
def PB (w : World) (b : Nat) (f : Sets) : Prop := Blk w b (pcells f) 217
theorem PB.cell {w : World} {b : Nat} {f : Sets} (h : PB w b f) {p : Nat} (hp : p < 12) : w.cell? ⟨b, p, none⟩ = some (.int .u16 (f p : Int)) := Blk.cell h p (pcells_at hp)
theorem PB.fr {w : World} {b : Nat} {f : Sets} (h : PB w b f) (p : Nat) : w.frozen? ⟨b, p, none⟩ = false := Blk.fr h p
theorem PB.ext {w w' : World} {b : Nat} {f : Sets} (h : PB w b f) (he : Ext w w') : PB w' b f := Blk.ext h he
theorem PB.set {w : World} {b : Nat} {f : Sets} (h : PB w b f) {p : Nat} (hp : p < 12) (y : Nat) : PB (w.setCell ⟨b, p, none⟩ (.int .u16 (y : Int))) b (updS f p y) := by
  have := Blk.set h p (.int .u16 (y : Int))
  unfold PB; rw [← pcells_set f hp]; exact this
theorem PB.other {w : World} {b : Nat} {f : Sets} (h : PB w b f) {p : Addr} (hp : b ≠ p.block) (v : Value) : PB (w.setCell p v) b f := Blk.other h hp v
theorem PB.all {w : World} {b : Nat} {f : Sets} (h : PB w b f) : w.cell? ⟨b, 0, none⟩ = some (.int .u16 (f 0 : Int)) ∧ w.cell? ⟨b, 1, none⟩ = some (.int .u16 (f 1 : Int)) ∧ w.cell? ⟨b, 2, none⟩ = some (.int .u16 (f 2 : Int)) ∧ w.cell? ⟨b, 3, none⟩ = some (.int .u16 (f 3 : Int)) ∧ w.cell? ⟨b, 4, none⟩ = some (.int .u16 (f 4 : Int)) ∧ w.cell? ⟨b, 5, none⟩ = some (.int .u16 (f 5 : Int)) ∧ w.cell? ⟨b, 6, none⟩ = some (.int .u16 (f 6 : Int)) ∧ w.cell? ⟨b, 7, none⟩ = some (.int .u16 (f 7 : Int)) ∧ w.cell? ⟨b, 8, none⟩ = some (.int .u16 (f 8 : Int)) ∧ w.cell? ⟨b, 9, none⟩ = some (.int .u16 (f 9 : Int)) ∧ w.cell? ⟨b, 10, none⟩ = some (.int .u16 (f 10 : Int)) ∧ w.cell? ⟨b, 11, none⟩ = some (.int .u16 (f 11 : Int)) :=
  ⟨h.cell (by omega), h.cell (by omega), h.cell (by omega), h.cell (by omega), h.cell (by omega), h.cell (by omega), h.cell (by omega), h.cell (by omega), h.cell (by omega), h.cell (by omega), h.cell (by omega), h.cell (by omega)⟩
def zeroS : Sets := fun _ => 0
theorem u16_or_nat (a b : Nat) (ha : a < 65536) (hb : b < 65536) : bits .or .u16 (a : Int) (b : Int) = ((a ||| b : Nat) : Int) := by
  have hx : a ||| b < 2 ^ 16 := Nat.or_lt_two_pow (by omega) (by omega)
  have e : ∀ n : Nat, n < 65536 → (BitVec.ofInt 16 (n : Int)).toNat = n := fun n hn => by
    rw [BitVec.ofInt_natCast, BitVec.toNat_ofNat]; exact Nat.mod_eq_of_lt (by omega)
  show IntKind.u16.wrap ((BitVec.ofInt 16 (a : Int) ||| BitVec.ofInt 16 (b : Int)).toNat : Int) = _
  rw [BitVec.toNat_or, e a ha, e b hb, IntKind.wrap_u16]
  omega

def stAll (w : World) (b : Nat) (m : Sets) : World := ((((((((((((w.setCell ⟨b, 0, none⟩ (.int .u16 (m 0 : Int))).setCell ⟨b, 1, none⟩ (.int .u16 (m 1 : Int))).setCell ⟨b, 2, none⟩ (.int .u16 (m 2 : Int))).setCell ⟨b, 3, none⟩ (.int .u16 (m 3 : Int))).setCell ⟨b, 4, none⟩ (.int .u16 (m 4 : Int))).setCell ⟨b, 5, none⟩ (.int .u16 (m 5 : Int))).setCell ⟨b, 6, none⟩ (.int .u16 (m 6 : Int))).setCell ⟨b, 7, none⟩ (.int .u16 (m 7 : Int))).setCell ⟨b, 8, none⟩ (.int .u16 (m 8 : Int))).setCell ⟨b, 9, none⟩ (.int .u16 (m 9 : Int))).setCell ⟨b, 10, none⟩ (.int .u16 (m 10 : Int))).setCell ⟨b, 11, none⟩ (.int .u16 (m 11 : Int)))
theorem PB.congr {w : World} {b : Nat} {f g : Sets} (h : PB w b f) (e : ∀ p, p < 12 → f p = g p) : PB w b g := by
  have : pcells f = pcells g := by
    apply Array.ext_getElem?
    intro i
    by_cases hi : i < 12
    · rw [pcells_at hi, pcells_at hi, e i hi]
    · rw [Array.getElem?_eq_none (by rw [pcells_size]; omega), Array.getElem?_eq_none (by rw [pcells_size]; omega)]
  unfold PB; rw [← this]; exact h
theorem PB.store {w : World} {b : Nat} {f : Sets} (h : PB w b f) (m : Sets) : PB (stAll w b m) b m := by
  unfold stAll
  refine ((((((((((((h.set (p := 0) (by omega) (m 0)).set (p := 1) (by omega) (m 1)).set (p := 2) (by omega) (m 2)).set (p := 3) (by omega) (m 3)).set (p := 4) (by omega) (m 4)).set (p := 5) (by omega) (m 5)).set (p := 6) (by omega) (m 6)).set (p := 7) (by omega) (m 7)).set (p := 8) (by omega) (m 8)).set (p := 9) (by omega) (m 9)).set (p := 10) (by omega) (m 10)).set (p := 11) (by omega) (m 11)).congr fun p hp => ?_
  have : p = 0 ∨ p = 1 ∨ p = 2 ∨ p = 3 ∨ p = 4 ∨ p = 5 ∨ p = 6 ∨ p = 7 ∨ p = 8 ∨ p = 9 ∨ p = 10 ∨ p = 11 := by omega
  rcases this with rfl | rfl | rfl | rfl | rfl | rfl | rfl | rfl | rfl | rfl | rfl | rfl <;> rfl
theorem stAll_ext {w w0 : World} (h : Ext w0 w) {b : Nat} (hb : w0.heap.size ≤ b) (m : Sets) : Ext w0 (stAll w b m) := by
  unfold stAll
  exact (((((((((((h.setCell hb _).setCell hb _).setCell hb _).setCell hb _).setCell hb _).setCell hb _).setCell hb _).setCell hb _).setCell hb _).setCell hb _).setCell hb _).setCell hb _
theorem Blk.stAll {w : World} {b b' : Nat} {cs : Array Value} {t : TypeId} (h : Blk w b' cs t) (hne : b' ≠ b) (m : Sets) : Blk (stAll w b m) b' cs t := by
  unfold Go.Proofs.YtanekmfifmkbmaaGreatDoor.stAll
  exact (((((((((((h.other hne _).other hne _).other hne _).other hne _).other hne _).other hne _).other hne _).other hne _).other hne _).other hne _).other hne _).other hne _

structure SafR (w : World) (sb : Nat) (t : Task) : Prop where
  al : w.cell? ⟨sb, 0, none⟩ = some (.int .i64 t.sys.alphabet)
  mv : ∃ vm, w.cell? ⟨sb, 7, none⟩ = some vm ∧ MovesV w vm t.sys
  rule : ∃ vr, w.cell? ⟨sb, 8, none⟩ = some vr ∧ TabV w vr (table t.prop)
  hid : ∃ vh, w.cell? ⟨sb, 9, none⟩ = some vh ∧ IntsV w vh (hiddenOf t)
theorem SafR.ext {w w' : World} {sb : Nat} {t : Task} (h : SafR w sb t) (he : Ext w w') : SafR w' sb t :=
  ⟨he.cell h.al, let ⟨v, h1, h2⟩ := h.mv; ⟨v, he.cell h1, h2.mono he⟩, let ⟨v, h1, h2⟩ := h.rule; ⟨v, he.cell h1, h2.mono he⟩, let ⟨v, h1, h2⟩ := h.hid; ⟨v, he.cell h1, h2.mono he⟩⟩

theorem index_p (f : Sets) {k : Nat} (h : k < 12) (w : World) : (Instr.index 217 (.agg (pcells f)) (.int .i64 (k : Int))).run Tryz.prog w = .ok (.int .u16 (f k : Int)) w := by
  have hk : (k : Int) < 12 := by omega
  have hc := pcells_at (f := f) h
  have hi : Tryz.prog.info? 215 = some (Tryz.prog.info? 215).get! := by kernel_rfl
  have hs := run_sizeOf w hi
  simp [Instr.index, asIntOf, run_underlying Tryz.underlying217, part, hk]
  rw [if_pos h, hc]; rfl

theorem move_c (sb l : Nat) (t : Task) (f : Sets) (w : World) (hR : SafR w sb t) (hs : sysValid t.sys = true) (hp : autoValid t.prop = true) (hf : Within t f) (hl : l < 6) (hT : Deb w) :
    Calls Tryz.prog 196 #[.pointer (some ⟨sb, 0, none⟩), pval f, .int .i64 (l : Int)] w (Grows (pval (moveM t f (l : Nat))) w) := by
  obtain ⟨wo, hwo⟩ : ∃ wo, wo = ((w.alloc (.cells #[.int .u16 (f 0 : Int), .int .u16 (f 1 : Int), .int .u16 (f 2 : Int), .int .u16 (f 3 : Int), .int .u16 (f 4 : Int), .int .u16 (f 5 : Int), .int .u16 (f 6 : Int), .int .u16 (f 7 : Int), .int .u16 (f 8 : Int), .int .u16 (f 9 : Int), .int .u16 (f 10 : Int), .int .u16 (f 11 : Int)] 217)).alloc (.cells #[.int .u16 0, .int .u16 0, .int .u16 0, .int .u16 0, .int .u16 0, .int .u16 0, .int .u16 0, .int .u16 0, .int .u16 0, .int .u16 0, .int .u16 0, .int .u16 0] 217)).alloc (.cells #[.int .u16 0, .int .u16 0, .int .u16 0, .int .u16 0, .int .u16 0, .int .u16 0, .int .u16 0, .int .u16 0, .int .u16 0, .int .u16 0, .int .u16 0, .int .u16 0] 217) := ⟨_, rfl⟩
  have he : Ext w wo := by rw [hwo]; exact ((Ext.alloc _ _).trans (Ext.alloc _ _)).trans (Ext.alloc _ _)
  have B6 : PB wo (w.heap.size + 1) zeroS := by rw [hwo]; exact Ext.blk1 (Ext.alloc _ _)
  have B7 : PB wo (w.heap.size + 1 + 1) (moveTo t f (l : Nat) 0) := by rw [hwo]; exact Ext.blk2 (Ext.refl _)
  have hn12 : t.prop.next.length ≤ 12 := (autoValid_facts hp).2.2.2.1
  have HM := Lib.hid (moveTo_12 hf (l : Nat) hn12)
  have HLT := Lib.hid (moveTo_lt hs hp hf (l : Nat))
  have HRR := Lib.hid hR
  have HDeb := Lib.hid hT
  obtain ⟨al0, al63⟩ := sys_alpha hs
  clear hR hT
  unfold pval
  go_enter Tryz.func196, Tryz.ntmps196
  go_wp2_with fail
  rw [← hwo]
  clear hwo
  go_loopw [12] (fun i wr => ∃ k : Nat, k ≤ 12 ∧ i = .int .i64 k ∧ PB wr (w.heap.size + 1) zeroS ∧ PB wr (w.heap.size + 1 + 1) (moveTo t f (l : Nat) k) ∧ Ext w wr) (fun i _ => 12 - (intOf i).toNat)
  case atStart => exact ⟨0, by omega, rfl, B6, B7, he⟩
  case round =>
    clear B6 B7 he
    obtain ⟨k, hk, rfl, B6, B7, he⟩ := hrel
    by_cases hlt : k < 12
    · have hix : ∀ w', (Instr.index 217 (.agg #[.int .u16 (f 0 : Int), .int .u16 (f 1 : Int), .int .u16 (f 2 : Int), .int .u16 (f 3 : Int), .int .u16 (f 4 : Int), .int .u16 (f 5 : Int), .int .u16 (f 6 : Int), .int .u16 (f 7 : Int), .int .u16 (f 8 : Int), .int .u16 (f 9 : Int), .int .u16 (f 10 : Int), .int .u16 (f 11 : Int)]) (.int .i64 (k : Int))).run Tryz.prog w' = .ok (.int .u16 (f k : Int)) w' := fun w' => index_p f hlt w'
      by_cases hz : f k = 0
      · have HS := Lib.hid (moveTo_skip (t := t) (l : Nat) hz)
        rw [hz] at hix
        clear hz
        go_wp2_with fail
        exact ⟨⟨k + 1, by omega, by go_num, B6, by rw [HS.out]; exact B7, he⟩, by simp [intOf]; omega⟩
      · have hkn : k < t.prop.next.length := by
          by_cases h : k < t.prop.next.length
          · exact h
          · exact absurd (within_zero hf (by omega)) hz
        have hzi : ((f k : Int) == 0) = false := by simp; exact hz
        have hfk : f k < 65536 := lt_of_bits fun q hq => (hf k q hq).2
        have hmo := movedOne_lt hs hf (l : Nat) k
        have hup := Lib.hid (moveTo_upd t f (l : Nat) k)
        have hnx := step_lt hp hkn (l : Nat)
        have hR := HRR.out.ext he
        have ca := hR.al
        obtain ⟨vr, cr, hvr⟩ := hR.rule
        obtain ⟨ar, capr, rfl, -, hrow⟩ := hvr.open
        rw [table_len] at cr
        obtain ⟨br, offr, rfl, -, hrow⟩ := hrow k _ (table_at t.prop k hkn)
        have gr := hrow k _ (table_at t.prop k hkn) l hl
        unfold tabRow at gr
        obtain ⟨nx, hnxe⟩ : ∃ nx, step t.prop k (l : Nat) = nx := ⟨_, rfl⟩
        rw [hnxe] at hup hnx gr
        obtain ⟨vm, cm, hmv⟩ := hR.mv
        obtain ⟨mo, hmoe⟩ : ∃ mo, movedOne t f (l : Nat) k = mo := ⟨_, rfl⟩
        have HMO := Lib.hid hmoe
        rw [hmoe] at hup hmo
        have hold := HLT.out k nx
        have cnx := B7.cell (p := nx) (by omega)
        have fnx := B7.fr nx
        obtain ⟨y, hye⟩ : ∃ y, moveTo t f (l : Nat) k nx = y := ⟨_, rfl⟩
        rw [hye] at hup hold cnx
        have hor := u16_or_nat y mo hold hmo
        have hw16 : IntKind.u16.wrap (mo : Int) = (mo : Int) := by rw [IntKind.wrap_u16]; omega
        have hnx12 : (nx : Int) < 12 := by omega
        have hkn2 : (k : Int) < (t.prop.next.length : Int) := by omega
        have hl2 : (l : Int) < 6 := by omega
        have HH := Lib.hid (fun w' => has_c t.sys.alphabet (l : Int) w' al0 (by omega) (by omega))
        have hz2 := Lib.hid hz
        clear hnxe hmoe hye hvr hrow hz
        by_cases hb : bit t.sys.alphabet (l : Int) = true
        · have hmo2 := HMO.out
          unfold movedOne at hmo2
          rw [if_pos hb] at hmo2
          have HST := Lib.hid (step_c vm t.sys (f k) l wr hmv hs hfk hl (HDeb.out.ext he))
          rw [hmo2] at HST
          clear hmo2 hmv
          go_wp2_with (first | (go_at_call 75; refine (HH.out _).mono ?_; rintro e w' ⟨rfl, rfl⟩; rw [hb]))
          refine HST.out.mono ?_
          rintro e w1 ⟨rfl, he1⟩
          replace he := he.trans he1
          replace B6 := B6.ext he1
          replace B7 := B7.ext he1
          replace cr := he1.cell cr
          replace gr := he1.cell gr
          replace cnx := he1.cell cnx
          replace fnx := B7.fr nx
          have hB6 := B6.other (p := ⟨w.heap.size + 1 + 1, nx, none⟩) (by simp only []; omega) (.int .u16 ((y ||| mo : Nat) : Int))
          have hB7 := B7.set (p := nx) (by omega) (y ||| mo)
          have hE7 := he.setCell (p := ⟨w.heap.size + 1 + 1, nx, none⟩) (by simp only []; omega) (.int .u16 ((y ||| mo : Nat) : Int))
          clear he1 ca cm hR HST
          go_wp2_with fail
          exact ⟨⟨k + 1, by omega, by go_num, hB6, by rw [hup.out]; exact hB7, hE7⟩, by simp [intOf]; omega⟩
        · have hmo2 := HMO.out
          unfold movedOne at hmo2
          rw [if_neg hb] at hmo2
          have hb' : bit t.sys.alphabet (l : Int) = false := by simpa using hb
          rw [hmo2] at hix hzi
          have hB6 := B6.other (p := ⟨w.heap.size + 1 + 1, nx, none⟩) (by simp only []; omega) (.int .u16 ((y ||| mo : Nat) : Int))
          have hB7 := B7.set (p := nx) (by omega) (y ||| mo)
          have hE7 := he.setCell (p := ⟨w.heap.size + 1 + 1, nx, none⟩) (by simp only []; omega) (.int .u16 ((y ||| mo : Nat) : Int))
          clear hmv
          go_wp2_with (first | (go_at_call 75; refine (HH.out _).mono ?_; rintro e w' ⟨rfl, rfl⟩; rw [hb']))
          exact ⟨⟨k + 1, by omega, by go_num, hB6, by rw [hup.out]; exact hB7, hE7⟩, by simp [intOf]; omega⟩
    · obtain rfl : k = 12 := by omega
      rw [HM.out] at B7
      obtain ⟨k0, k1, k2, k3, k4, k5, k6, k7, k8, k9, k10, k11⟩ := B7.all
      obtain ⟨j0, j1, j2, j3, j4, j5, j6, j7, j8, j9, j10, j11⟩ := B6.all
      have g0 := B6.fr 0; have g1 := B6.fr 1; have g2 := B6.fr 2; have g3 := B6.fr 3; have g4 := B6.fr 4; have g5 := B6.fr 5; have g6 := B6.fr 6; have g7 := B6.fr 7; have g8 := B6.fr 8; have g9 := B6.fr 9; have g10 := B6.fr 10; have g11 := B6.fr 11
      go_wp2_with fail
      obtain ⟨w9, hw9⟩ : ∃ w9, w9 = stAll wr (w.heap.size + 1) (moveM t f (l : Nat)) := ⟨_, rfl⟩
      have B9 := by have := B6.store (moveM t f (l : Nat)); rw [← hw9] at this; exact this
      have he9 := by have := stAll_ext he (b := w.heap.size + 1) (by omega) (moveM t f (l : Nat)); rw [← hw9] at this; exact this
      unfold stAll at hw9
      rw [← hw9]
      clear hw9
      obtain ⟨q0, q1, q2, q3, q4, q5, q6, q7, q8, q9, q10, q11⟩ := B9.all
      refine bodyPost_ret (v := .agg #[.int .u16 (moveM t f (l : Nat) 0 : Int), .int .u16 (moveM t f (l : Nat) 1 : Int), .int .u16 (moveM t f (l : Nat) 2 : Int), .int .u16 (moveM t f (l : Nat) 3 : Int), .int .u16 (moveM t f (l : Nat) 4 : Int), .int .u16 (moveM t f (l : Nat) 5 : Int), .int .u16 (moveM t f (l : Nat) 6 : Int), .int .u16 (moveM t f (l : Nat) 7 : Int), .int .u16 (moveM t f (l : Nat) 8 : Int), .int .u16 (moveM t f (l : Nat) 9 : Int), .int .u16 (moveM t f (l : Nat) 10 : Int), .int .u16 (moveM t f (l : Nat) 11 : Int)]) (by simp [results, Tryz.results196, go_sem, q0, q1, q2, q3, q4, q5, q6, q7, q8, q9, q10, q11]) rfl ?_
      exact Grows.mk rfl he9

theorem laidOutP : laidOutB Tryz.prog = true := by kernel_rfl
theorem keyP : Tryz.prog.keyTypeAt 4 217 = true := by kernel_rfl
theorem wideP : (match Tryz.prog.underlying 217 with | some (.array _ _) | some (.struct _) => true | _ => false) = true := by kernel_rfl

def keyL (f : Sets) : Lit := .string (keyBytes [.int .u16 (f 0 : Int), .int .u16 (f 1 : Int), .int .u16 (f 2 : Int), .int .u16 (f 3 : Int), .int .u16 (f 4 : Int), .int .u16 (f 5 : Int), .int .u16 (f 6 : Int), .int .u16 (f 7 : Int), .int .u16 (f 8 : Int), .int .u16 (f 9 : Int), .int .u16 (f 10 : Int), .int .u16 (f 11 : Int)])
theorem keyOf_p {f : Sets} (h : ∀ p, f p < 65536) : keyOf Tryz.prog 217 (pval f) = some (keyL f) := by
  have hw : ∀ p, (Lit.int .u16 (f p : Int)).wf = true := fun p => WalkArith.wf_u16 (by have := h p; omega)
  have hs : Tryz.prog.types.size = (Tryz.prog.types.size - 1) + 1 := by kernel_rfl
  have h1 : Tryz.prog.cellsOf 215 = 1 := by kernel_rfl
  have hk : Tryz.prog.keyType 217 = true := by kernel_rfl
  have h12 : Tryz.prog.cellsOf 217 = 12 := by kernel_rfl
  unfold keyOf
  simp only [Tryz.underlying217]
  rw [if_pos (by simp [hk, Value.formed, pval, Tryz.underlying217, h1, h12]), hs]
  unfold Program.keyLits
  simp only [Tryz.underlying217, Value.cells, pval]
  rw [if_pos (by rw [h12]; rfl), show List.range 12 = [0, 1, 2, 3, 4, 5, 6, 7, 8, 9, 10, 11] from rfl]
  simp only [List.mapM_cons, List.mapM_nil]
  simp [h1, Program.keyLits, Tryz.underlying215, hw, keyL]
theorem law_p : WideMaps.KeyLaw Tryz.prog 217 := deep_law_laid laidOutP (m := 4) (by omega) (by decide) keyP wideP
def eqS (f g : Sets) : Bool := (List.range 12).all fun p => decide (f p = g p)
theorem eqS_iff (f g : Sets) : eqS f g = true ↔ ∀ p, p < 12 → f p = g p := by simp [eqS]
theorem pval_inj {f g : Sets} : pval f = pval g ↔ eqS f g = true := by
  rw [eqS_iff]
  constructor
  · intro h p hp
    rw [pval_eq, pval_eq] at h
    injection h with h
    have h1 := pcells_at (f := f) hp
    rw [h, pcells_at hp] at h1
    injection h1 with h1
    injection h1 with _ h1
    omega
  · intro h
    rw [pval_eq, pval_eq]
    congr 1
    apply Array.ext_getElem?
    intro i
    by_cases hi : i < 12
    · rw [pcells_at hi, pcells_at hi, h i hi]
    · rw [Array.getElem?_eq_none (by rw [pcells_size]; omega), Array.getElem?_eq_none (by rw [pcells_size]; omega)]
theorem eql_p {f g : Sets} (hf : ∀ p, f p < 65536) (hg : ∀ p, g p < 65536) (w : World) : (binOp .eql 217 (pval f) (pval g)).run Tryz.prog w = .ok (.bool (eqS f g)) w := by
  obtain ⟨r, h1, h2⟩ := run_equal_deep (m := 4) w (by omega) keyP wideP (keyOf_p hf) (keyOf_p hg)
  have : r = eqS f g := by
    rw [Bool.eq_iff_iff, h2]
    constructor
    · intro h
      exact pval_inj.1 (law_p.inj (keyOf_p hf) (by rw [h]; exact keyOf_p hg))
    · intro h
      have e := pval_inj.2 h
      have k1 := keyOf_p hf
      rw [e, keyOf_p hg] at k1
      injection k1 with k1; exact k1.symm
  subst this
  show Sem.run _ (Value.bool <$> Op.equal 217 (pval f) (pval g)) w = _
  simp [h1]

theorem wRest_P {w : World} {b : Nat} {f : Sets} (h : PB w b f) : wRest w b 12 = restOf f 12 := by
  have : ∀ k, k ≤ 12 → wRest w b k = restOf f k := by
    intro k
    induction k with
    | zero => intro _; rfl
    | succ k ih =>
      intro hk
      unfold wRest restOf
      rw [ih (by omega), h.cell (p := k) (by omega)]
      simp [cellNat]
  exact this 12 (Nat.le_refl _)
theorem eqS_within {t : Task} {f g : Sets} (hf : Within t f) (hg : Within t g) (hn : t.prop.next.length ≤ 12) (h : eqS f g = true) : f = g := by
  funext p
  by_cases hp : p < 12
  · exact (eqS_iff f g).1 h p hp
  · rw [within_zero hf (by omega), within_zero hg (by omega)]
theorem index_pv (f : Sets) {k : Nat} (h : k < 12) (w : World) : (Instr.index 217 (pval f) (.int .i64 (k : Int))).run Tryz.prog w = .ok (.int .u16 (f k : Int)) w := index_p f h w
theorem close_c (sb : Nat) (t : Task) (f : Sets) (w : World) (hR : SafR w sb t) (hs : sysValid t.sys = true) (hp : autoValid t.prop = true) (hf : Within t f) (hT : Deb w) :
    Calls Tryz.prog 165 #[.pointer (some ⟨sb, 0, none⟩), pval f] w (Grows (pval (closeM t f)) w) := by
  obtain ⟨wo, hwo⟩ : ∃ wo, wo = (w.alloc (.cells #[.int .u16 (f 0 : Int), .int .u16 (f 1 : Int), .int .u16 (f 2 : Int), .int .u16 (f 3 : Int), .int .u16 (f 4 : Int), .int .u16 (f 5 : Int), .int .u16 (f 6 : Int), .int .u16 (f 7 : Int), .int .u16 (f 8 : Int), .int .u16 (f 9 : Int), .int .u16 (f 10 : Int), .int .u16 (f 11 : Int)] 217)).alloc (.cells #[.int .u16 0, .int .u16 0, .int .u16 0, .int .u16 0, .int .u16 0, .int .u16 0, .int .u16 0, .int .u16 0, .int .u16 0, .int .u16 0, .int .u16 0, .int .u16 0] 217) := ⟨_, rfl⟩
  have he : Ext w wo := by rw [hwo]; exact (Ext.alloc _ _).trans (Ext.alloc _ _)
  have B3 : PB wo w.heap.size f := by rw [hwo]; exact Ext.blk (Ext.alloc _ _)
  have B4 : PB wo (w.heap.size + 1) zeroS := by rw [hwo]; exact Ext.blk1 (Ext.refl _)
  have hn12 : t.prop.next.length ≤ 12 := (autoValid_facts hp).2.2.2.1
  have HRR := Lib.hid hR
  have HDeb := Lib.hid hT
  have HO0 : Hid (OnClose t f f) := Lib.hid ⟨fun _ _ h => h, (closeM_is hs hf).above, hf⟩
  obtain ⟨vh, ch, hvh⟩ := hR.hid
  obtain ⟨ah, caph, rfl, -, hhid⟩ := hvh.open
  obtain ⟨L, hLe⟩ : ∃ L, hiddenOf t = L := ⟨_, rfl⟩
  have HLE := Lib.hid hLe
  rw [hLe] at ch hhid
  have HHI := Lib.hid hhid
  clear hR hT hvh hLe hhid
  unfold pval
  go_enter Tryz.func165, Tryz.ntmps165
  go_wp2_with fail
  rw [← hwo]
  clear hwo
  go_loopw [] (fun wr => ∃ g, PB wr w.heap.size g ∧ PB wr (w.heap.size + 1) zeroS ∧ Hid (OnClose t f g) ∧ Ext w wr) (fun wr => wRest wr w.heap.size 12)
  case atStart => exact ⟨f, B3, B4, HO0, he⟩
  case round =>
    clear B3 B4 HO0 he
    obtain ⟨g, B3, B4, HO, he⟩ := hrel
    obtain ⟨k0, k1, k2, k3, k4, k5, k6, k7, k8, k9, k10, k11⟩ := B3.all
    have hmeas := Lib.hid (wRest_P B3)
    have ch2 := fun o => (he.trans (Ext.alloc wr o)).cell ch
    have hb4 := Blk.lt B4
    have HB := Lib.hid (Ext.alloc wr (.cells #[.int .u16 (g 0 : Int), .int .u16 (g 1 : Int), .int .u16 (g 2 : Int), .int .u16 (g 3 : Int), .int .u16 (g 4 : Int), .int .u16 (g 5 : Int), .int .u16 (g 6 : Int), .int .u16 (g 7 : Int), .int .u16 (g 8 : Int), .int .u16 (g 9 : Int), .int .u16 (g 10 : Int), .int .u16 (g 11 : Int)] 217))
    have B5 : PB (wr.alloc (.cells #[.int .u16 (g 0 : Int), .int .u16 (g 1 : Int), .int .u16 (g 2 : Int), .int .u16 (g 3 : Int), .int .u16 (g 4 : Int), .int .u16 (g 5 : Int), .int .u16 (g 6 : Int), .int .u16 (g 7 : Int), .int .u16 (g 8 : Int), .int .u16 (g 9 : Int), .int .u16 (g 10 : Int), .int .u16 (g 11 : Int)] 217)) wr.heap.size g := Blk.new _ _ _
    have hw5 : wr.heap.size < (wr.alloc (.cells #[.int .u16 (g 0 : Int), .int .u16 (g 1 : Int), .int .u16 (g 2 : Int), .int .u16 (g 3 : Int), .int .u16 (g 4 : Int), .int .u16 (g 5 : Int), .int .u16 (g 6 : Int), .int .u16 (g 7 : Int), .int .u16 (g 8 : Int), .int .u16 (g 9 : Int), .int .u16 (g 10 : Int), .int .u16 (g 11 : Int)] 217)).heap.size := by simp
    go_wp2_with fail
    obtain ⟨b5, hb5⟩ : ∃ b5, wr.heap.size = b5 := ⟨_, rfl⟩
    rw [hb5] at B5 hb4 hw5 ⊢
    have hx5 := HB.out
    replace B3 := B3.ext hx5
    replace B4 := B4.ext hx5
    replace he := he.trans hx5
    clear HB hx5 ch2 hb5
    generalize wr.alloc (.cells #[.int .u16 (g 0 : Int), .int .u16 (g 1 : Int), .int .u16 (g 2 : Int), .int .u16 (g 3 : Int), .int .u16 (g 4 : Int), .int .u16 (g 5 : Int), .int .u16 (g 6 : Int), .int .u16 (g 7 : Int), .int .u16 (g 8 : Int), .int .u16 (g 9 : Int), .int .u16 (g 10 : Int), .int .u16 (g 11 : Int)] 217) = wb at B3 B4 B5 he hw5 ⊢
    clear k0 k1 k2 k3 k4 k5 k6 k7 k8 k9 k10 k11
    have HC0 : Hid (CloseSt t f g g 0 0 zeroS) := Lib.hid (CloseSt.start HO.out)
    have hL6 : L.length ≤ 6 := by rw [← HLE.out]; exact hidden_len t
    have HGL := Lib.hid (within_lt HO.out.within)
    go_loopw [16] (fun i wr => ∃ (q : Nat) (h : Sets), q ≤ L.length ∧ i = .int .i64 q ∧ PB wr w.heap.size g ∧ PB wr (w.heap.size + 1) zeroS ∧ PB wr b5 h ∧ Hid (CloseSt t f g h q 0 zeroS) ∧ Ext w wr) (fun i _ => L.length - (intOf i).toNat)
    case atStart => exact ⟨0, g, by omega, rfl, B3, B4, B5, HC0, he⟩
    case round =>
      clear B3 B4 B5 HC0 he hw5
      obtain ⟨q, h, hq, rfl, B3, B4, B5, HC, he⟩ := hrel
      by_cases hql : q < L.length
      · obtain ⟨l, hlq⟩ : ∃ l, L[q]? = some l := ⟨_, List.getElem?_eq_getElem hql⟩
        have hlH : l ∈ hiddenOf t := by rw [HLE.out]; exact List.mem_of_getElem? hlq
        obtain ⟨l0, l6⟩ := bit_range (sys_alpha hs).2 ((hidden_iff hs l).1 hlH).1
        obtain ⟨ln, rfl⟩ := Int.eq_ofNat_of_zero_le l0
        obtain ⟨bh, offh, rfl, -, hcell⟩ := HHI.out q _ hlq
        have gl := he.cell (hcell q _ hlq)
        rw [Nat.mul_one] at gl
        have HLQ := Lib.hid (show (hiddenOf t)[q]? = some (ln : Int) from by rw [HLE.out]; exact hlq)
        have HLH := Lib.hid hlH
        have HCM := Lib.hid (move_c sb ln t g wr (HRR.out.ext he) hs hp HO.out.within (by omega) (HDeb.out.ext he))
        have HML := Lib.hid (moveTo_lt hs hp HO.out.within (ln : Int) t.prop.next.length)
        obtain ⟨m, hme⟩ : ∃ m, moveM t g (ln : Int) = m := ⟨_, rfl⟩
        have HME := Lib.hid hme
        rw [show moveTo t g (ln : Int) t.prop.next.length = moveM t g (ln : Int) from rfl] at HML
        rw [hme] at HCM HML
        obtain ⟨k0, k1, k2, k3, k4, k5, k6, k7, k8, k9, k10, k11⟩ := B3.all
        have hql2 : (q : Int) < (L.length : Int) := by omega
        clear hcell hlq hlH hme
        go_wp2_with fail
        refine HCM.out.mono ?_
        rintro e w1 ⟨rfl, he1⟩
        replace he := he.trans he1
        replace B3 := B3.ext he1
        replace B4 := B4.ext he1
        replace B5 := B5.ext he1
        clear k0 k1 k2 k3 k4 k5 k6 k7 k8 k9 k10 k11
        clear gl he1 HCM
        have HC1 : Hid (CloseSt t f g h q 0 m) := Lib.hid HC.out.again
        go_wp2_with fail
        go_loopw [24] (fun i wr => ∃ (p : Nat) (h : Sets), p ≤ 12 ∧ i = .int .i64 p ∧ PB wr w.heap.size g ∧ PB wr (w.heap.size + 1) zeroS ∧ PB wr b5 h ∧ Hid (CloseSt t f g h q p m) ∧ Ext w wr) (fun i _ => 12 - (intOf i).toNat)
        case atStart => exact ⟨0, h, by omega, rfl, B3, B4, B5, HC1, he⟩
        case round =>
          clear B3 B4 B5 HC HC1 he
          obtain ⟨p, h, hp12, rfl, B3, B4, B5, HC, he⟩ := hrel
          by_cases hpl : p < 12
          · have hix := fun w' => index_pv m hpl w'
            have hpi : (p : Int) < 12 := by omega
            have c5 := B5.cell hpl
            have f5 := B5.fr p
            have hh := within_lt HC.out.on.within p
            have hm := HML.out p
            have HN := Lib.hid (CloseSt.or hs hp hf HO.out HLH.out (show CloseSt t f g h q p (moveM t g (ln : Int)) from by rw [HME.out]; exact HC.out))
            rw [HME.out] at HN
            obtain ⟨x, hxe⟩ : ∃ x, h p = x := ⟨_, rfl⟩
            obtain ⟨y, hye⟩ : ∃ y, m p = y := ⟨_, rfl⟩
            rw [hxe] at c5 hh HN
            rw [hye] at hm HN
            simp only [hye] at hix
            have hor := u16_or_nat x y hh hm
            have h3 := B3.other (p := ⟨b5, p, none⟩) (by simp only []; omega) (.int .u16 ((x ||| y : Nat) : Int))
            have h4 := B4.other (p := ⟨b5, p, none⟩) (by simp only []; omega) (.int .u16 ((x ||| y : Nat) : Int))
            have h5 := B5.set hpl (x ||| y)
            have h6 := he.setCell (p := ⟨b5, p, none⟩) (by simp only []; omega) (.int .u16 ((x ||| y : Nat) : Int))
            clear hxe hye
            go_wp2_with fail
            exact ⟨⟨p + 1, _, by omega, by go_num, h3, h4, h5, HN, h6⟩, by simp [intOf]; omega⟩
          · obtain rfl : p = 12 := by omega
            have HN : Hid (CloseSt t f g h (q + 1) 0 zeroS) := Lib.hid (CloseSt.next hs hp hn12 HO.out HLQ.out (by rw [HME.out]; exact HC.out))
            go_wp2_with fail
            exact ⟨⟨q + 1, h, by omega, by go_num, B3, B4, B5, HN, he⟩, by simp [intOf]; omega⟩
      · obtain rfl : q = L.length := by omega
        have hC := HC.out
        rw [← HLE.out] at hC
        have hhl := within_lt hC.on.within
        have heq := fun w' => eql_p hhl HGL.out w'
        unfold pval at heq
        obtain ⟨j0, j1, j2, j3, j4, j5, j6, j7, j8, j9, j10, j11⟩ := B5.all
        obtain ⟨k0, k1, k2, k3, k4, k5, k6, k7, k8, k9, k10, k11⟩ := B3.all
        obtain ⟨i0, i1, i2, i3, i4, i5, i6, i7, i8, i9, i10, i11⟩ := B4.all
        by_cases hE : eqS h g = true
        · have hfg := eqS_within hC.on.within HO.out.within hn12 hE
          have HF : Hid (closeM t f = g) := Lib.hid (by
            refine CloseSt.fin (m := zeroS) hs hf ?_
            have := hC; rw [hfg] at this; exact this)
          rw [hE] at heq
          have fi0 := B4.fr 0; have fi1 := B4.fr 1; have fi2 := B4.fr 2; have fi3 := B4.fr 3; have fi4 := B4.fr 4; have fi5 := B4.fr 5; have fi6 := B4.fr 6; have fi7 := B4.fr 7; have fi8 := B4.fr 8; have fi9 := B4.fr 9; have fi10 := B4.fr 10; have fi11 := B4.fr 11
          clear hfg hC
          go_wp2_with fail
          obtain ⟨w9, hw9⟩ : ∃ w9, w9 = stAll wr (w.heap.size + 1) (g) := ⟨_, rfl⟩
          have B9 := by have := B4.store (g); rw [← hw9] at this; exact this
          have he9 := by have := stAll_ext he (b := w.heap.size + 1) (by omega) g; rw [← hw9] at this; exact this
          unfold stAll at hw9
          rw [← hw9]
          clear hw9
          clear k0 k1 k2 k3 k4 k5 k6 k7 k8 k9 k10 k11; clear j0 j1 j2 j3 j4 j5 j6 j7 j8 j9 j10 j11; clear i0 i1 i2 i3 i4 i5 i6 i7 i8 i9 i10 i11; clear fi0 fi1 fi2 fi3 fi4 fi5 fi6 fi7 fi8 fi9 fi10 fi11
          obtain ⟨q0, q1, q2, q3, q4, q5, q6, q7, q8, q9, q10, q11⟩ := B9.all
          refine bodyPost_ret (v := pval (closeM t f)) (by rw [HF.out]; simp [results, Tryz.results165, go_sem, pval, q0, q1, q2, q3, q4, q5, q6, q7, q8, q9, q10, q11]) rfl ?_
          exact Grows.mk rfl he9
        · have hE' : eqS h g = false := by simpa using hE
          rw [hE'] at heq
          have hne : ∃ p, p < 12 ∧ g p ≠ h p := by
            refine Classical.byContradiction fun hno => hE ((eqS_iff h g).2 fun p hp => ?_)
            refine Classical.byContradiction fun h' => hno ⟨p, hp, fun e => h' e.symm⟩
          have HLS := Lib.hid (restOf_less hC.from' hhl hne)
          have HON := Lib.hid hC.on
          have fk0 := B3.fr 0; have fk1 := B3.fr 1; have fk2 := B3.fr 2; have fk3 := B3.fr 3; have fk4 := B3.fr 4; have fk5 := B3.fr 5; have fk6 := B3.fr 6; have fk7 := B3.fr 7; have fk8 := B3.fr 8; have fk9 := B3.fr 9; have fk10 := B3.fr 10; have fk11 := B3.fr 11
          clear hE hne hC
          go_wp2_with fail
          obtain ⟨w9, hw9⟩ : ∃ w9, w9 = stAll wr (w.heap.size) (h) := ⟨_, rfl⟩
          have B9 := by have := B3.store (h); rw [← hw9] at this; exact this
          have he9 := by have := stAll_ext he (b := w.heap.size) (by omega) h; rw [← hw9] at this; exact this
          have B94 := by have := Blk.stAll B4 (b := w.heap.size) (by omega) h; rw [← hw9] at this; exact this
          unfold stAll at hw9
          rw [← hw9]
          clear hw9
          refine ⟨⟨h, B9, B94, HON, he9⟩, ?_⟩
          rw [hmeas.out, wRest_P B9]
          exact HLS.out
end Go.Proofs.YtanekmfifmkbmaaGreatDoor

namespace Go.Proofs.YtanekmfifmkbmaaGreatDoor
set_option linter.unusedSimpArgs false
set_option linter.unusedVariables false
open Go.RowKit Go.Maps
set_option maxHeartbeats 4000000
set_option maxRecDepth 100000

theorem lawP : Keyed Tryz.prog 217 := Keyed.of_law law_p
theorem zeroIntP (w : World) : (zeroValue 3).run Tryz.prog w = .ok (.int .i64 0) w := by kernel_rfl
theorem elemP {x : Nat} (h : x ≤ 1099511627776) : plainElem (H := Unit) Tryz.prog 3 (.int .i64 (x : Int)) = some (.lit (.int .i64 (x : Int)), []) := plainElem_int Tryz.underlying3 (WalkArith.wf_i64 (by omega))
theorem keyL_inj {t : Task} {f g : Sets} (hf : Within t f) (hg : Within t g) (hn : t.prop.next.length ≤ 12) (h : keyL f = keyL g) : f = g := by
  have h1 := keyOf_p (fun p => within_lt hf p)
  have h2 := keyOf_p (fun p => within_lt hg p)
  rw [h] at h1
  exact eqS_within hf hg hn (pval_inj.1 (law_p.inj h1 h2))
theorem keyL_is {t : Task} {f : Sets} (hf : Within t f) : WideAt.IsKeyLit (keyL f) := lawP.key (keyOf_p (fun p => within_lt hf p))

def KeyMap (t : Task) (D : DataW Unit) (nodes : List Sets) : Prop := ∀ f, Within t f → (Maps.has D (keyL f) = true ↔ f ∈ nodes) ∧ ∀ n : Nat, nodes[n]? = some f → D.atKey (keyL f) (.lit (.int .i64 0)) = .lit (.int .i64 (n : Int))
theorem KeyMap.nil (t : Task) : KeyMap t (DataW.map []) [] := fun f _ => ⟨by simp [has_eq], fun n h => by simp at h⟩
theorem KeyMap.push {t : Task} {D : DataW Unit} {nodes : List Sets} (h : KeyMap t D nodes) (hD : IsMap D) (hn12 : t.prop.next.length ≤ 12) {f : Sets} (hf : Within t f) (hn : f ∉ nodes) : KeyMap t (D.put (keyL f) (.lit (.int .i64 (nodes.length : Int)))) (nodes ++ [f]) := by
  have hk := keyL_is hf
  intro g hg
  by_cases e : g = f
  · subst e
    refine ⟨by rw [has_put_same hD hk]; simp, fun n hgn => ?_⟩
    have : n = nodes.length := by
      rcases Nat.lt_or_ge n nodes.length with h1 | h1
      · rw [List.getElem?_append_left h1] at hgn
        exact absurd (List.mem_of_getElem? hgn) hn
      · have := (List.getElem?_eq_some_iff.1 hgn).1
        simp at this; omega
    subst this
    rw [atKey_put_same hD hk]
  · have hne : keyL g ≠ keyL f := fun h' => e (keyL_inj hg hf hn12 h')
    obtain ⟨h1, h2⟩ := h g hg
    refine ⟨?_, fun n hgn => ?_⟩
    · rw [has_put_other hne, h1]; simp [e]
    · rw [atKey_put_other hne]
      refine h2 n ?_
      rcases Nat.lt_or_ge n nodes.length with h3 | h3
      · rw [List.getElem?_append_left h3] at hgn; exact hgn
      · have h4 : n = nodes.length := by
          have := (List.getElem?_eq_some_iff.1 hgn).1
          simp at this; omega
        subst h4
        rw [List.getElem?_concat_length] at hgn
        injection hgn with hgn
        exact absurd hgn.symm e


structure SK where
  ve : Value
  vn : Value
  va : Value
  vm : Value
  vr : Value
  vh : Value
  bm : Nat
  B : Nat
def sbox (t : Task) (K : SK) (vs vx vu : Value) : Array Value := #[.int .i64 t.sys.alphabet, .int .i64 t.sys.states, K.ve, .int .i64 t.prop.alphabet, K.vn, K.va, .int .i64 t.alphabet, K.vm, K.vr, K.vh, vs, .map (some K.bm), vx, vu]
def SS (K : SK) (b : Nat) : Prop := b = K.bm ∨ K.B ≤ b
def setCells (nodes : List Sets) : List Value := nodes.flatMap fun f => (pcells f).toList
def rowCells (rows : List (List Int)) : List Value := rows.flatMap fun r => r.map (Value.int .i64)
def slS (v : Value) (nodes : List Sets) : Slc := ⟨217, 12, v, nodes.length, setCells nodes⟩
def slX (v : Value) (rows : List (List Int)) : Slc := ⟨135, 6, v, rows.length, rowCells rows⟩
def slU (v : Value) (us : List Bool) : Slc := ⟨4, 1, v, us.length, us.map Value.bool⟩
structure SafY (t : Task) (K : SK) (vs vx vu : Value) (pl : List Slc) (D : DataW Unit) (nm : Nat) (w : World) : Prop where
  box : Blk w K.B (sbox t K vs vx vu) 213
  pool : Pool K.B w pl
  ty : ∀ s ∈ pl, 213 ≠ s.e
  map : w.ownsMap Tryz.prog 217 (plainElem (H := Unit) Tryz.prog 3) K.bm nm D
abbrev SafX (t : Task) (K : SK) (nodes : List Sets) (rows : List (List Int)) (us : List Bool) (vs vx vu : Value) (D : DataW Unit) (nm : Nat) (w : World) : Prop := SafY t K vs vx vu [slS vs nodes, slX vx rows, slU vu us] D nm w
def SafAt (t : Task) (K : SK) (nodes : List Sets) (rows : List (List Int)) (w : World) : Prop := ∃ vs vx vu D nm, SafX t K nodes rows (nodes.map (badM t)) vs vx vu D nm w ∧ nm ≤ nodes.length ∧ KeyMap t D nodes ∧ SafeSt t nodes rows
structure SafO (t : Task) (K : SK) (w : World) : Prop where
  mv : MovesV w K.vm t.sys
  rule : TabV w K.vr (table t.prop)
  hid : IntsV w K.vh (hiddenOf t)
  acc : BoolsV w K.va t.prop.accept
section
variable {t : Task} {K : SK} {nodes : List Sets} {rows : List (List Int)} {us : List Bool} {vs vx vu : Value} {D : DataW Unit} {nm : Nat} {w w' : World} {pl : List Slc}
theorem SafY.ext (h : SafY t K vs vx vu pl D nm w) (he : Ext w w') : SafY t K vs vx vu pl D nm w' := ⟨h.box.ext he, h.pool.ext he, h.ty, map_ext h.map he⟩
theorem SafAt.ext (h : SafAt t K nodes rows w) (he : Ext w w') : SafAt t K nodes rows w' := let ⟨a, b, c, d, e, h1, h2⟩ := h; ⟨a, b, c, d, e, h1.ext he, h2⟩
theorem SafY.read (h : SafY t K vs vx vu pl D nm w) (ho : SafO t K w) : SafR w K.B t :=
  ⟨h.box.cell 0 rfl, ⟨_, h.box.cell 7 rfl, ho.mv⟩, ⟨_, h.box.cell 8 rfl, ho.rule⟩, ⟨_, h.box.cell 9 rfl, ho.hid⟩⟩
theorem SafY.c5 (h : SafY t K vs vx vu pl D nm w) : w.cell? ⟨K.B, 5, none⟩ = some K.va := h.box.cell 5 rfl
theorem SafY.c10 (h : SafY t K vs vx vu pl D nm w) : w.cell? ⟨K.B, 10, none⟩ = some vs := h.box.cell 10 rfl
theorem SafY.c11 (h : SafY t K vs vx vu pl D nm w) : w.cell? ⟨K.B, 11, none⟩ = some (.map (some K.bm)) := h.box.cell 11 rfl
theorem SafY.c12 (h : SafY t K vs vx vu pl D nm w) : w.cell? ⟨K.B, 12, none⟩ = some vx := h.box.cell 12 rfl
theorem SafY.c13 (h : SafY t K vs vx vu pl D nm w) : w.cell? ⟨K.B, 13, none⟩ = some vu := h.box.cell 13 rfl
theorem SafY.fr (h : SafY t K vs vx vu pl D nm w) (j : Nat) : w.frozen? ⟨K.B, j, none⟩ = false := h.box.fr j
theorem SafY.pS (h : SafX t K nodes rows us vs vx vu D nm w) : w.ownsRow K.B 217 12 vs nodes.length (setCells nodes) := h.pool.head
theorem SafY.pX0 {s0 : Slc} (h : SafY t K vs vx vu [s0, slX vx rows, slU vu us] D nm w) : w.ownsRow K.B 135 6 vx rows.length (rowCells rows) := h.pool.tail.head
theorem SafY.pX (h : SafX t K nodes rows us vs vx vu D nm w) : w.ownsRow K.B 135 6 vx rows.length (rowCells rows) := h.pool.tail.head
theorem SafY.pU (h : SafX t K nodes rows us vs vx vu D nm w) : w.ownsRow K.B 4 1 vu us.length (us.map Value.bool) := h.pool.tail.tail.head
theorem blk_ne_map {b bm : Nat} {cs : Array Value} {T : TypeId} (h : Blk w b cs T) (hm : w.ownsMap Tryz.prog 217 (plainElem (H := Unit) Tryz.prog 3) bm nm D) : b ≠ bm := by
  intro e
  subst e
  obtain ⟨es, clock, hb, -⟩ := hm
  have h' : w.heap[b]? = _ := h
  rw [hb] at h'; cases h'
theorem SafY.mapped {D' : DataW Unit} {nm' : Nat} (h : SafY t K vs vx vu pl D nm w) (hm : w'.ownsMap Tryz.prog 217 (plainElem (H := Unit) Tryz.prog 3) K.bm nm' D') (hg : w.grownBy w' (some K.bm)) : SafY t K vs vx vu pl D' nm' w' :=
  ⟨(hg.block _ h.box.lt (fun e => blk_ne_map h.box h.map (Option.some.inj e))).trans h.box, h.pool.mapped h.map hg, h.ty, hm⟩
theorem SafY.grown {e : TypeId} {sz n n' : Nat} {v v' : Value} {xs xs' : List Value} {l : List Slc} (h : SafY t K vs vx vu (⟨e, sz, v, n, xs⟩ :: l) D nm w) (hp : Pool K.B w' (⟨e, sz, v', n', xs'⟩ :: l)) (hg : w.grownBy w' v.ownBlock) : SafY t K vs vx vu (⟨e, sz, v', n', xs'⟩ :: l) D nm w' :=
  ⟨h.box.grown h.pool.head hg (h.ty ⟨e, sz, v, n, xs⟩ (by simp)), hp, fun s hs => by
    rcases List.mem_cons.1 hs with rfl | hs
    · exact h.ty ⟨e, sz, v, n, xs⟩ (by simp)
    · exact h.ty s (by simp [hs]), map_grown h.map h.pool.head hg⟩
theorem SafY.perm {pl' : List Slc} (h : SafY t K vs vx vu pl D nm w) (hp : pl.Perm pl') : SafY t K vs vx vu pl' D nm w := ⟨h.box, h.pool.perm hp, fun s hs => h.ty s (hp.mem_iff.2 hs), h.map⟩
theorem SafY.put10 (h : SafY t K vs vx vu pl D nm w) (v : Value) : SafY t K v vx vu pl D nm (w.setCell ⟨K.B, 10, none⟩ v) := ⟨h.box.set 10 v, h.pool.set h.box h.ty 10 v, h.ty, h.map.setCell (fun e => blk_ne_map h.box h.map e.symm) v⟩
theorem SafY.put12 (h : SafY t K vs vx vu pl D nm w) (v : Value) : SafY t K vs v vu pl D nm (w.setCell ⟨K.B, 12, none⟩ v) := ⟨h.box.set 12 v, h.pool.set h.box h.ty 12 v, h.ty, h.map.setCell (fun e => blk_ne_map h.box h.map e.symm) v⟩
theorem SafY.put13 (h : SafY t K vs vx vu pl D nm w) (v : Value) : SafY t K vs vx v pl D nm (w.setCell ⟨K.B, 13, none⟩ v) := ⟨h.box.set 13 v, h.pool.set h.box h.ty 13 v, h.ty, h.map.setCell (fun e => blk_ne_map h.box h.map e.symm) v⟩
theorem tnd_set {S : Nat → Prop} (w : World) {b : Nat} (hS : S b) (j : Nat) (v : Value) : Tnd S w (w.setCell ⟨b, j, none⟩ v) :=
  ⟨rfl, rfl, rfl, by simp, fun c _ hc => Below.heap_setCell w ⟨b, j, none⟩ v c (fun e => hc (by rw [e]; exact hS))⟩
end
theorem infoP : (Tryz.prog.info? 217).map (fun i => (i.zero, i.size, i.bytes)) = some (some (.agg #[.int .u16 0, .int .u16 0, .int .u16 0, .int .u16 0, .int .u16 0, .int .u16 0, .int .u16 0, .int .u16 0, .int .u16 0, .int .u16 0, .int .u16 0, .int .u16 0]), 12, 24) := by kernel_rfl
theorem setCells_push (nodes : List Sets) (f : Sets) : setCells (nodes ++ [f]) = setCells nodes ++ (pcells f).toList := by simp [setCells]
theorem rowCells_push (rows : List (List Int)) (r : List Int) : rowCells (rows ++ [r]) = rowCells rows ++ r.map (Value.int .i64) := by simp [rowCells]
def badTo (t : Task) (f : Sets) (k : Nat) : Bool := (List.range k).any fun p => decide (f p ≠ 0) && !accepts t.prop p
theorem badTo_succ (t : Task) (f : Sets) (k : Nat) : badTo t f (k + 1) = (badTo t f k || (decide (f k ≠ 0) && !accepts t.prop k)) := by
  unfold badTo; rw [List.range_succ, List.any_append]; simp
theorem badTo_12 {t : Task} {f : Sets} (hf : Within t f) (hn : t.prop.next.length ≤ 12) : badTo t f 12 = badM t f := by
  have : ∀ j, badTo t f (t.prop.next.length + j) = badM t f := by
    intro j
    induction j with
    | zero => rfl
    | succ j ih => rw [← Nat.add_assoc, badTo_succ, ih, within_zero hf (by omega)]; simp
  have h := this (12 - t.prop.next.length)
  rwa [show t.prop.next.length + (12 - t.prop.next.length) = 12 by omega] at h

def AddEnd (t : Task) (K : SK) (w0 : World) (nodes : List Sets) (rows : List (List Int)) (f : Sets) (e : Ending) (w' : World) : Prop :=
  ∃ (n : Nat) (nodes' : List Sets) (rows' : List (List Int)), e = .returned (.int .i64 (n : Int)) ∧ nodes'[n]? = some f ∧ ((f ∈ nodes ∧ nodes' = nodes ∧ rows' = rows) ∨ (f ∉ nodes ∧ nodes' = nodes ++ [f] ∧ rows' = rows ++ [newRow])) ∧ SafAt t K nodes' rows' w' ∧ Tnd (SS K) w0 w'

theorem look_p {w : World} {bm nm : Nat} {D : DataW Unit} (h : w.ownsMap Tryz.prog 217 (plainElem (H := Unit) Tryz.prog 3) bm nm D) {f : Sets} (hf : ∀ p, f p < 65536) :
    ∃ c : Int, (∀ w', Ext w w' → (Instr.lookup 210 (.map (some bm)) (pval f) true).run Tryz.prog w' = .ok (.tuple #[.int .i64 c, .bool (Maps.has D (keyL f))]) w') ∧ D.atKey (keyL f) (.lit (.int .i64 0)) = .lit (.int .i64 c) := by
  have key : ∀ w', Ext w w' → ∃ c : Int, (Instr.lookup 210 (.map (some bm)) (pval f) true).run Tryz.prog w' = .ok (.tuple #[.int .i64 c, .bool (Maps.has D (keyL f))]) w' ∧ D.atKey (keyL f) (.lit (.int .i64 0)) = .lit (.int .i64 c) := fun w' he => by
    obtain ⟨v, ps, hrun, hv⟩ := (map_ext h he).look_ok lawP Tryz.underlying210 (zeroIntP w') (elemP (x := 0) (by omega)) (keyOf_p hf)
    obtain ⟨c, rfl, hc, hwc⟩ := plainElem_int_inv Tryz.underlying3 hv
    exact ⟨c, hrun, congrArg Prod.fst hc⟩
  obtain ⟨c, -, hc⟩ := key w (Ext.refl _)
  refine ⟨c, fun w' he => ?_, hc⟩
  obtain ⟨c', h1, h2⟩ := key w' he
  rw [hc] at h2
  injection h2 with h2
  injection h2 with _ h2
  rw [h1, h2]

attribute [local go_sem ↓] Go.wp_at_zero Go.wp_at_succ
theorem add_c (t : Task) (K : SK) (f : Sets) (nodes : List Sets) (rows : List (List Int)) (w0 w : World) (hs : sysValid t.sys = true) (hp : autoValid t.prop = true) (hf : Within t f) (hlen : nodes.length ≤ 100000000) (hB : K.B ≤ w.heap.size) (hO : ∀ w', Tnd (SS K) w0 w' → SafO t K w') (ht : Tnd (SS K) w0 w) (hS : SafAt t K nodes rows w) :
    Calls Tryz.prog 164 #[.pointer (some ⟨K.B, 0, none⟩), pval f] w (AddEnd t K w0 nodes rows f) := by
  have HO := Lib.hid hO
  obtain ⟨vs, vx, vu, D, nm, hX, hnm, hKM, hst⟩ := hS
  obtain ⟨us, hue⟩ : ∃ us, nodes.map (badM t) = us := ⟨_, rfl⟩
  rw [hue] at hX
  have HUE := Lib.hid hue
  have hul : us.length ≤ 100000000 := by rw [← hue, List.length_map]; exact hlen
  clear hue
  have HKM := Lib.hid hKM
  have HST := Lib.hid hst
  have hfl := fun p => within_lt hf p
  have hkey := Lib.hid (keyOf_p hfl)
  unfold pval at hkey
  obtain ⟨wo, hwo⟩ : ∃ wo, wo = w.alloc (.cells #[.int .u16 (f 0 : Int), .int .u16 (f 1 : Int), .int .u16 (f 2 : Int), .int .u16 (f 3 : Int), .int .u16 (f 4 : Int), .int .u16 (f 5 : Int), .int .u16 (f 6 : Int), .int .u16 (f 7 : Int), .int .u16 (f 8 : Int), .int .u16 (f 9 : Int), .int .u16 (f 10 : Int), .int .u16 (f 11 : Int)] 217) := ⟨_, rfl⟩
  have he : Ext w wo := by rw [hwo]; exact Ext.alloc _ _
  have B3 : PB wo w.heap.size f := by rw [hwo]; exact Ext.blk (Ext.refl _)
  have hwoB : w.heap.size < wo.heap.size := by rw [hwo]; simp
  have HVB := Lib.hid (fun b (hb : vs.ownBlock = some b) => (own_lt hX.pS hb).2)
  have hKB : K.B < w.heap.size := hX.box.lt
  have hX1 := hX.ext he
  have ht1 : Tnd (SS K) w0 wo := ht.trans (Tnd.ext he)
  have cs1 := hX1.c11
  clear hO hKM hst hX ht
  unfold pval
  go_enter Tryz.func164, Tryz.ntmps164
  go_wp2_with fail
  rw [← hwo]
  clear hwo
  obtain ⟨k0, k1, k2, k3, k4, k5, k6, k7, k8, k9, k10, k11⟩ := B3.all
  have D0 := fun d os => cell_regrown k0 d os; have D1 := fun d os => cell_regrown k1 d os; have D2 := fun d os => cell_regrown k2 d os; have D3 := fun d os => cell_regrown k3 d os; have D4 := fun d os => cell_regrown k4 d os; have D5 := fun d os => cell_regrown k5 d os; have D6 := fun d os => cell_regrown k6 d os; have D7 := fun d os => cell_regrown k7 d os; have D8 := fun d os => cell_regrown k8 d os; have D9 := fun d os => cell_regrown k9 d os; have D10 := fun d os => cell_regrown k10 d os; have D11 := fun d os => cell_regrown k11 d os
  have D12 := fun d os => cell_regrown cs1 d os
  obtain ⟨c, hlook, hat⟩ := look_p hX1.map hfl
  unfold pval at hlook
  have D13 := fun d os => hlook _ (below_regrown wo d os)
  clear hlook
  by_cases hmem : f ∈ nodes
  · obtain ⟨n, hn⟩ := List.getElem?_of_mem hmem
    have hhas : Maps.has D (keyL f) = true := (HKM.out f hf).1.2 hmem
    have hcn : c = (n : Int) := by
      have := (HKM.out f hf).2 n hn
      rw [hat] at this
      injection this with this
      injection this
    subst hcn
    rw [hhas] at D13
    obtain ⟨Kc, HKc⟩ : ∃ Kc : FuncId → Array Value → World → Value → World → Prop, Hid (Kc = fun _ _ _ _ _ => True) := ⟨_, rfl⟩
    refine wp_region_ext (Kc := Kc) 11 (by kernel_rfl) (by kernel_rfl) ?_
    simp only [List.take_succ_cons, List.take_zero]
    repeat (refine WalkE.pure rfl (fun K hK => ?_); simp only [PureDo]; go_simp; refine hK _ ?_; clear hK K)
    refine WalkE.nil (fun wn hwn hmn => ?_)
    simp only [List.drop_succ_cons, List.drop_zero, List.drop_nil]
    have hxn := (Ext.drew wo).trans hwn
    clear hmn HKc D12 D13 D0 D1 D2 D3 D4 D5 D6 D7 D8 D9 D10 D11
    go_wp2_with fail
    go_ret
    exact ⟨n, nodes, rows, rfl, hn, .inl ⟨hmem, rfl, rfl⟩, ⟨vs, vx, vu, D, nm, by rw [HUE.out]; exact hX1.ext hxn, hnm, HKM.out, HST.out⟩, ht1.trans (Tnd.ext hxn)⟩
  · have hhas : Maps.has D (keyL f) = false := by
      rw [Bool.eq_false_iff]; exact fun h => hmem ((HKM.out f hf).1.1 h)
    rw [hhas] at D13
    obtain ⟨Kc, HKc⟩ : ∃ Kc : FuncId → Array Value → World → Value → World → Prop, Hid (Kc = fun _ _ _ _ _ => True) := ⟨_, rfl⟩
    refine wp_region_ext (Kc := Kc) 11 (by kernel_rfl) (by kernel_rfl) ?_
    simp only [List.take_succ_cons, List.take_zero]
    repeat (refine WalkE.pure rfl (fun K hK => ?_); simp only [PureDo]; go_simp; refine hK _ ?_; clear hK K)
    refine WalkE.nil (fun wn hwn hmn => ?_)
    simp only [List.drop_succ_cons, List.drop_zero, List.drop_nil]
    have hxn := (Ext.drew wo).trans hwn
    clear hmn HKc D12 D13 D0 D1 D2 D3 D4 D5 D6 D7 D8 D9 D10 D11
    have hX2 := hX1.ext hxn
    have hTn : Tnd (SS K) w0 wn := ht1.trans (Tnd.ext hxn)
    have B3n := B3.ext hxn
    clear k0 k1 k2 k3 k4 k5 k6 k7 k8 k9 k10 k11
    clear hX1 cs1 B3 ht1 hat
    have hwnB : w.heap.size < wn.heap.size := Nat.lt_of_lt_of_le hwoB hxn.size
    obtain ⟨aS, cS, rfl⟩ := own_any' hX2.pS
    have d10 := hX2.c10
    have d11 := hX2.c11
    have hlen2 : nodes.length ≤ 100000000 := hlen
    go_wp2_with fail
    obtain ⟨k0, k1, k2, k3, k4, k5, k6, k7, k8, k9, k10, k11⟩ := B3n.all
    have D0 := fun d os => cell_regrown k0 d os; have D1 := fun d os => cell_regrown k1 d os; have D2 := fun d os => cell_regrown k2 d os; have D3 := fun d os => cell_regrown k3 d os; have D4 := fun d os => cell_regrown k4 d os; have D5 := fun d os => cell_regrown k5 d os; have D6 := fun d os => cell_regrown k6 d os; have D7 := fun d os => cell_regrown k7 d os; have D8 := fun d os => cell_regrown k8 d os; have D9 := fun d os => cell_regrown k9 d os; have D10 := fun d os => cell_regrown k10 d os; have D11 := fun d os => cell_regrown k11 d os
    have D12 := fun d os => cell_regrown d11 d os
    obtain ⟨Kc, HKc⟩ : ∃ Kc : FuncId → Array Value → World → Value → World → Prop, Hid (Kc = fun _ _ _ _ _ => True) := ⟨_, rfl⟩
    refine wp_region_ext (Kc := Kc) 6 (by kernel_rfl) (by kernel_rfl) ?_
    simp only [List.take_succ_cons, List.take_zero]
    repeat (refine WalkE.pure rfl (fun K hK => ?_); simp only [PureDo]; go_simp; refine hK _ ?_; clear hK K)
    refine WalkE.nil (fun wm hwm hmm => ?_)
    simp only [List.drop_succ_cons, List.drop_zero, List.drop_nil]
    have hxm := (Ext.drew wn).trans hwm
    clear hmm HKc D12 D0 D1 D2 D3 D4 D5 D6 D7 D8 D9 D10 D11 d10 d11 hwn hwm
    clear k0 k1 k2 k3 k4 k5 k6 k7 k8 k9 k10 k11
    have hX3 := hX2.ext hxm
    have hTm : Tnd (SS K) w0 wm := hTn.trans (Tnd.ext hxm)
    have B3m := B3n.ext hxm
    have HKP := Lib.hid (HKM.out.push hX3.map.isMap (autoValid_facts hp).2.2.2.1 hf hmem)
    have hnm2 : nm < maxLen := by unfold maxLen; omega
    go_wp2_with (at_mapUpdate; refine wpList_mapUpdate_own _ rfl _ _ _ 210 rfl 217 3 lawP Tryz.underlying210 _ K.bm nm D rfl hX3.map hnm2 _ _ _ rfl rfl hkey.out _ [] (elemP (x := nodes.length) (by omega)) ?_; intro w6 hm6 hg6)
    go_frame
    have hX4 := hX3.mapped hm6 hg6
    have hT4 : Tnd (SS K) w0 w6 := hTm.trans (Tnd.grown hg6 fun g hg => by cases hg; exact .inl rfl)
    have hb3 : w.heap.size ≠ K.bm := blk_ne_map B3m hX3.map
    have B3k : PB w6 w.heap.size f := (hg6.block _ (Blk.lt B3m) (fun e => hb3 (Option.some.inj e))).trans B3m
    have hw6B : w.heap.size < w6.heap.size := Blk.lt B3k
    clear hX3 hm6 hg6 hTm B3m hTn hX2 B3n hxn hxm
    obtain ⟨k0, k1, k2, k3, k4, k5, k6, k7, k8, k9, k10, k11⟩ := B3k.all
    have d10 := hX4.c10
    have r10 := fun o => (hX4.ext (Ext.alloc w6 o)).c10
    have x0 : Ext w6 (w6.alloc (.cells #[.int .u16 (f 0 : Int), .int .u16 (f 1 : Int), .int .u16 (f 2 : Int), .int .u16 (f 3 : Int), .int .u16 (f 4 : Int), .int .u16 (f 5 : Int), .int .u16 (f 6 : Int), .int .u16 (f 7 : Int), .int .u16 (f 8 : Int), .int .u16 (f 9 : Int), .int .u16 (f 10 : Int), .int .u16 (f 11 : Int)] 217)).drew := (Ext.alloc _ _).trans (Ext.drew _)
    have hX5 := hX4.ext x0
    have hNC : ∀ (j : Nat) u, (pcells f).toList[j]? = some u → (w6.alloc (.cells #[.int .u16 (f 0 : Int), .int .u16 (f 1 : Int), .int .u16 (f 2 : Int), .int .u16 (f 3 : Int), .int .u16 (f 4 : Int), .int .u16 (f 5 : Int), .int .u16 (f 6 : Int), .int .u16 (f 7 : Int), .int .u16 (f 8 : Int), .int .u16 (f 9 : Int), .int .u16 (f 10 : Int), .int .u16 (f 11 : Int)] 217)).drew.cell? ((⟨w6.heap.size, 0, none⟩ : Addr).add j) = some u := fun j u hu => by
      rw [add_none, Nat.zero_add]
      exact ((Blk.new w6 (pcells f) 217).ext (Ext.drew _)).cell j (by simpa using hu)
    have h1c : ∀ u ∈ (pcells f).toList, u.oneCell' = true := fun u hu => by
      obtain ⟨i, hi⟩ := List.getElem?_of_mem hu
      by_cases h12 : i < 12
      · rw [Array.getElem?_toList, pcells_at h12] at hi; cases hi; rfl
      · rw [Array.getElem?_toList, Array.getElem?_eq_none (by rw [pcells_size]; omega)] at hi; cases hi
    have hTx : Tnd (SS K) w0 (w6.alloc (.cells #[.int .u16 (f 0 : Int), .int .u16 (f 1 : Int), .int .u16 (f 2 : Int), .int .u16 (f 3 : Int), .int .u16 (f 4 : Int), .int .u16 (f 5 : Int), .int .u16 (f 6 : Int), .int .u16 (f 7 : Int), .int .u16 (f 8 : Int), .int .u16 (f 9 : Int), .int .u16 (f 10 : Int), .int .u16 (f 11 : Int)] 217)).drew := hT4.trans (Tnd.ext x0)
    go_region_law (first
      | (refine step_appPN (base := K.B) (l := [slX vx rows, slU vu us]) (news := (pcells f).toList) (by rfl) (by rfl) Tryz.underlying211 infoP (by rfl) (by decide) hX5.pool (by rfl) (by rfl) (by rfl) hNC h1c (by omega) (by decide) (Nat.le_of_lt hX5.box.lt) ?_; intro v1 w7 hP1 hg1 hb1; have hX6 := hX5.grown hP1 hg1; have g10 := hX6.c10; have q10 := hX6.fr 10; obtain ⟨a1, c1, rfl⟩ := own_any' (Pool.hd hP1)))
    all_goals
      have hX7 := hX6.put10 (.slice a1 (nodes.length + 1) c1)
      have hT7 : Tnd (SS K) w0 w7 := hTx.trans (Tnd.grown hg1 fun g hg => .inr (own_lt hX5.pS hg).1)
      have hT8 := hT7.trans (tnd_set (S := SS K) w7 (b := K.B) (.inr (Nat.le_refl _)) 10 (.slice a1 (nodes.length + 1) c1))
      have B3x : PB w7 w.heap.size f := (hg1.block _ (Nat.lt_of_lt_of_le hw6B x0.size) (fun e => absurd (HVB.out _ e.symm) (Nat.lt_irrefl _))).trans (B3k.ext x0)
      have B37 := B3x.other (p := ⟨K.B, 10, none⟩) (by simp only []; omega) (.slice a1 (nodes.length + 1) c1)
      clear hX4 hX5 hX6 hT4 hTx hT7 B3k B3x r10 d10 g10 q10 hNC h1c hP1 hg1 hb1 x0
      clear k0 k1 k2 k3 k4 k5 k6 k7 k8 k9 k10 k11
      generalize w7.setCell ⟨K.B, 10, none⟩ (.slice a1 (nodes.length + 1) c1) = w8 at hX7 hT8 B37 ⊢
      clear w7
      have hX8 := hX7.perm (List.Perm.swap (slX vx rows) _ _)
      have hB8 : K.B ≤ w8.heap.size := Nat.le_of_lt hX8.box.lt
      have e12 := hX8.c12
      have hrl : rows.length ≤ 4294967296 := by have := HST.out.len; omega
      obtain ⟨aX, cX, rfl⟩ := own_any' hX7.pX0
      clear hX7
      go_wp2_with (at_builtin; refine appP (news := newRow.map (Value.int .i64)) rfl rfl Tryz.underlying147 infoTab rfl (by decide) hX8.pool rfl rfl rfl (by simp [newRow, Value.oneCell']) hrl (by decide) hB8 ?_; intro v2 w9 hP2 hg2 hb2; have hX9 := hX8.grown hP2 hg2; have g12 := hX9.c12; have q12 := hX9.fr 12; have B39 : PB w9 w.heap.size f := Blk.grown B37 hX8.pool.head hg2 (show 217 ≠ 135 by decide); obtain ⟨k0, k1, k2, k3, k4, k5, k6, k7, k8, k9, k10, k11⟩ := B39.all; obtain ⟨a2, c2, rfl⟩ := own_any' (Pool.hd hP2))
      have hXA := hX9.put12 (.slice a2 (rows.length + 1) c2)
      have hT9 : Tnd (SS K) w0 w9 := hT8.trans (Tnd.grown hg2 fun g hg => .inr (own_lt hX8.pool.head hg).1)
      have hTA := hT9.trans (tnd_set (S := SS K) w9 (b := K.B) (.inr (Nat.le_refl _)) 12 (.slice a2 (rows.length + 1) c2))
      clear hX8 hX9 hT8 hT9 hP2 hg2 hb2 e12 g12 q12 B37 B39 hB8
      clear k0 k1 k2 k3 k4 k5 k6 k7 k8 k9 k10 k11
      generalize w9.setCell ⟨K.B, 12, none⟩ (.slice a2 (rows.length + 1) c2) = wA at hXA hTA ⊢
      have hXB := hXA.perm (pl' := [slU vu us, ⟨135, 6, .slice a2 (rows.length + 1) c2, rows.length + 1, rowCells rows ++ newRow.map (Value.int .i64)⟩, ⟨217, 12, .slice a1 (nodes.length + 1) c1, nodes.length + 1, setCells nodes ++ (pcells f).toList⟩]) (List.perm_append_comm (l₁ := [_, _]) (l₂ := [_]))
      have hn12 : t.prop.next.length ≤ 12 := (autoValid_facts hp).2.2.2.1
      have hal : t.prop.accept.length = t.prop.next.length := (autoValid_facts hp).2.2.2.2
      have HAL := Lib.hid hal
      clear hXA hal
      go_loopw [8, 54, 60, 61, 62, 63, 64, 65, 66, 67, 68, 69, 70, 71, 72, 73] (fun b i _ _ _ _ _ _ _ _ _ _ _ _ _ _ wr => ∃ k : Nat, k ≤ 12 ∧ i = .int .i64 k ∧ b = .bool (badTo t f k) ∧ wA = wr) (fun _ i _ _ _ _ _ _ _ _ _ _ _ _ _ _ _ => 12 - (intOf i).toNat)
      case atStart => exact ⟨0, by omega, rfl, rfl, rfl⟩
      case round =>
        obtain ⟨k, hk, rfl, rfl, rfl⟩ := hrel
        by_cases hlt : k < 12
        · have hix : ∀ w', (Instr.index 217 (.agg #[.int .u16 (f 0 : Int), .int .u16 (f 1 : Int), .int .u16 (f 2 : Int), .int .u16 (f 3 : Int), .int .u16 (f 4 : Int), .int .u16 (f 5 : Int), .int .u16 (f 6 : Int), .int .u16 (f 7 : Int), .int .u16 (f 8 : Int), .int .u16 (f 9 : Int), .int .u16 (f 10 : Int), .int .u16 (f 11 : Int)]) (.int .i64 (k : Int))).run Tryz.prog w' = .ok (.int .u16 (f k : Int)) w' := fun w' => index_p f hlt w'
          have HS := Lib.hid (badTo_succ t f k)
          cases hb : badTo t f k with
          | true =>
            rw [hb] at HS
            clear hb
            go_wp2_with fail
            exact ⟨⟨k + 1, by omega, by go_num, by rw [HS.out]; rfl, by first | rfl | trivial⟩, by simp [intOf]; omega⟩
          | false =>
            rw [hb] at HS
            clear hb
            by_cases hz : f k = 0
            · rw [hz] at hix
              have HS2 : Hid (badTo t f (k + 1) = false) := Lib.hid (by rw [HS.out, hz]; simp)
              clear hz HS
              go_wp2_with fail
              exact ⟨⟨k + 1, by omega, by go_num, by rw [HS2.out], by first | rfl | trivial⟩, by simp [intOf]; omega⟩
            · have hkn : k < t.prop.next.length := by
                by_cases h : k < t.prop.next.length
                · exact h
                · exact absurd (within_zero hf (by omega)) hz
              have hzi : ((f k : Int) != 0) = true := by simp; exact hz
              have d5 := hXB.c5
              have hat := accepts_at hp hkn
              have hacc := (HO.out _ hTA).acc
              obtain ⟨aA, cA, hva, -, hcell⟩ := hacc.open
              rw [hva] at d5
              obtain ⟨ba, offa, rfl, -, hc⟩ := hcell _ _ hat
              have hc := hc _ _ hat
              rw [Nat.mul_one] at hc
              unfold BoolAt at hc
              have hkl : (k : Int) < (t.prop.accept.length : Int) := by have := HAL.out; omega
              obtain ⟨ac, hace⟩ : ∃ ac, accepts t.prop k = ac := ⟨_, rfl⟩
              rw [hace] at hc
              have HS2 : Hid (badTo t f (k + 1) = !ac) := Lib.hid (by rw [HS.out, hace]; simp [hz])
              clear hz HS hace hcell hat hva
              go_wp2_with fail
              exact ⟨⟨k + 1, by omega, by go_num, by rw [HS2.out], by first | rfl | trivial⟩, by simp [intOf]; omega⟩
        · obtain rfl : k = 12 := by omega
          rw [badTo_12 hf hn12]
          obtain ⟨bd, hbd⟩ : ∃ bd, badM t f = bd := ⟨_, rfl⟩
          have HBD := Lib.hid hbd
          rw [hbd]
          have d13 := hXB.c13
          have hBB : K.B ≤ wA.heap.size := Nat.le_of_lt hXB.box.lt
          obtain ⟨aU, cU, rfl⟩ := own_any' (show wA.ownsRow K.B 4 1 vu us.length (us.map Value.bool) from hXB.pool.head)
          clear hbd
          go_wp2_with (at_builtin; refine appP (news := [Value.bool bd]) rfl rfl Tryz.underlying29 infoBool rfl (by decide) hXB.pool rfl rfl rfl (by simp [Value.oneCell']) (by omega) (by decide) hBB ?_; intro v3 wC hP3 hg3 hb3; have hXC := hXB.grown hP3 hg3; have g13 := hXC.c13; have q13 := hXC.fr 13; obtain ⟨a3, c3, rfl⟩ := own_any' (Pool.hd hP3))
          go_ret
          have hXD := hXC.put13 (.slice a3 (us.length + 1) c3)
          have hTC : Tnd (SS K) w0 wC := hTA.trans (Tnd.grown hg3 fun g hg => .inr (own_lt hXB.pool.head hg).1)
          have hTD := hTC.trans (tnd_set (S := SS K) wC (b := K.B) (.inr (Nat.le_refl _)) 13 (.slice a3 (us.length + 1) c3))
          have hlr := HST.out.len
          refine ⟨nodes.length, nodes ++ [f], rows ++ [newRow], rfl, List.getElem?_concat_length .., .inr ⟨hmem, rfl, rfl⟩, ⟨.slice a1 (nodes.length + 1) c1, .slice a2 (rows.length + 1) c2, .slice a3 (us.length + 1) c3, _, nm + 1, ?_, by rw [List.length_append]; simp; omega, HKP.out, HST.out.push hf hmem⟩, hTD⟩
          have hp9 := hXD.perm (pl' := [_, _, _]) (List.reverse_perm [_, _, _]).symm
          have e1 : slS (.slice a1 (nodes.length + 1) c1) (nodes ++ [f]) = ⟨217, 12, .slice a1 (nodes.length + 1) c1, nodes.length + 1, setCells nodes ++ (pcells f).toList⟩ := by unfold slS; rw [setCells_push, List.length_append]; rfl
          have e2 : slX (.slice a2 (rows.length + 1) c2) (rows ++ [newRow]) = ⟨135, 6, .slice a2 (rows.length + 1) c2, rows.length + 1, rowCells rows ++ newRow.map (Value.int .i64)⟩ := by unfold slX; rw [rowCells_push, List.length_append]; rfl
          have e3 : slU (.slice a3 (us.length + 1) c3) ((nodes ++ [f]).map (badM t)) = ⟨4, 1, .slice a3 (us.length + 1) c3, us.length + 1, us.map Value.bool ++ [Value.bool bd]⟩ := by unfold slU; rw [List.map_append, HUE.out, List.length_append, List.map_append]; simp [HBD.out]
          show SafY t K _ _ _ [slS _ _, slX _ _, slU _ _] _ _ _
          rw [e1, e2, e3]
          exact hp9
end Go.Proofs.YtanekmfifmkbmaaGreatDoor

namespace Go.Proofs.YtanekmfifmkbmaaGreatDoor
set_option linter.unusedSimpArgs false
set_option linter.unusedVariables false
open Go.RowKit Go.Maps
set_option maxHeartbeats 4000000
set_option maxRecDepth 100000

theorem flat_at {α : Type} (g : α → List Value) (k : Nat) : ∀ (xs : List α), (∀ x ∈ xs, (g x).length = k) → ∀ (i j : Nat) x u, xs[i]? = some x → (g x)[j]? = some u → (xs.flatMap g)[i * k + j]? = some u := by
  intro xs
  induction xs with
  | nil => intro _ i j x u h; simp at h
  | cons y xs ih =>
    intro hl i j x u hx hu
    rw [List.flatMap_cons]
    have hy := hl y (by simp)
    cases i with
    | zero =>
      simp at hx; subst hx
      have := (List.getElem?_eq_some_iff.1 hu).1
      rw [List.getElem?_append_left (by omega)]; simpa using hu
    | succ i =>
      have h1 := ih (fun z hz => hl z (by simp [hz])) i j x u (by simpa using hx) hu
      rw [List.getElem?_append_right (by rw [hy, Nat.add_mul]; omega), hy, Nat.add_mul]
      rw [show i * k + 1 * k + j - k = i * k + j by omega]
      exact h1
theorem flat_set {α : Type} (g : α → List Value) (k : Nat) : ∀ (xs : List α), (∀ x ∈ xs, (g x).length = k) → ∀ (i j : Nat) x x' u, xs[i]? = some x → j < k → g x' = (g x).set j u → (xs.flatMap g).set (i * k + j) u = (xs.set i x').flatMap g := by
  intro xs
  induction xs with
  | nil => intro _ i j x x' u h; simp at h
  | cons y xs ih =>
    intro hl i j x x' u hx hj hg
    rw [List.flatMap_cons]
    have hy := hl y (by simp)
    cases i with
    | zero =>
      simp at hx; subst hx
      rw [List.set_cons_zero, List.flatMap_cons, hg, Nat.zero_mul, Nat.zero_add, List.set_append_left _ _ (by omega)]
    | succ i =>
      have h1 := ih (fun z hz => hl z (by simp [hz])) i j x x' u (by simpa using hx) hj hg
      rw [List.set_append_right _ _ (by rw [hy, Nat.add_mul]; omega), hy, List.set_cons_succ, List.flatMap_cons, ← h1, Nat.add_mul]
      rw [show i * k + 1 * k + j - k = i * k + j by omega]
theorem prefix_get {α : Type} {l l' : List α} (h : l <+: l') {i : Nat} {x : α} (hx : l[i]? = some x) : l'[i]? = some x := by
  obtain ⟨m, rfl⟩ := h
  rw [List.getElem?_append_left (List.getElem?_eq_some_iff.1 hx).1]; exact hx
theorem own_ne_blk {w : World} {base : Nat} {e T : TypeId} {sz n g c b : Nat} {xs : List Value} {cs : Array Value} (h : w.ownsRow base e sz (.slice (some ⟨g, 0, none⟩) n c) n xs) (hB : Blk w b cs T) (hne : T ≠ e) : g ≠ b := by
  intro heq
  subst heq
  rcases h.2 with ⟨h1, _⟩ | ⟨g', cap, cur, h1, -, hg, _⟩
  · cases h1
  · injection h1 with h1
    injection h1 with h1
    injection h1 with h1
    subst h1
    have h2 : w.heap[g]? = _ := hB
    rw [hg] at h2
    injection h2 with h2
    injection h2 with _ h2
    exact hne h2.symm
theorem grown_set (w : World) (g j : Nat) (u : Value) : w.grownBy (w.setCell ⟨g, j, none⟩ u) (some g) :=
  ⟨rfl, rfl, rfl, by simp, fun k _ hne => Below.heap_setCell w ⟨g, j, none⟩ u k (fun e => hne (by rw [e]))⟩
theorem setCells_at {nodes : List Sets} {n : Nat} {f : Sets} (h : nodes[n]? = some f) {p : Nat} (hp : p < 12) : (setCells nodes)[n * 12 + p]? = some (.int .u16 (f p : Int)) :=
  flat_at (fun f => (pcells f).toList) 12 nodes (fun f _ => by rw [Array.length_toList, pcells_size]) n p f _ h (by rw [Array.getElem?_toList]; exact pcells_at hp)
theorem rowCells_at {rows : List (List Int)} (h6 : ∀ r ∈ rows, r.length = 6) {n : Nat} {r : List Int} (h : rows[n]? = some r) {l : Nat} {x : Int} (hl : r[l]? = some x) : (rowCells rows)[n * 6 + l]? = some (.int .i64 x) :=
  flat_at (fun r : List Int => r.map (Value.int .i64)) 6 rows (fun r hr => by rw [List.length_map]; exact h6 r hr) n l r _ h (by rw [List.getElem?_map, hl]; rfl)
theorem rowCells_set {rows : List (List Int)} (h6 : ∀ r ∈ rows, r.length = 6) {n : Nat} {r : List Int} (h : rows[n]? = some r) {l : Nat} (hl : l < 6) (x : Int) : (rowCells rows).set (n * 6 + l) (.int .i64 x) = rowCells (rows.set n (r.set l x)) :=
  flat_set (fun r : List Int => r.map (Value.int .i64)) 6 rows (fun r hr => by rw [List.length_map]; exact h6 r hr) n l r _ _ h hl (by rw [List.map_set])
section
variable {t : Task} {K : SK} {nodes : List Sets} {rows : List (List Int)} {us : List Bool} {vs vx vu : Value} {D : DataW Unit} {nm : Nat} {w w' : World} {pl : List Slc}
theorem SafY.row (h : SafX t K nodes rows us vs vx vu D nm w) (h6 : ∀ r ∈ rows, r.length = 6) {n l : Nat} {r : List Int} (hr : rows[n]? = some r) (hl : l < 6) (x : Int) {g c : Nat} (hv : vx = .slice (some ⟨g, 0, none⟩) rows.length c) :
    SafX t K nodes (rows.set n (r.set l x)) us vs vx vu D nm (w.setCell ⟨g, n * 6 + l, none⟩ (.int .i64 x)) := by
  subst hv
  have h1 := h.perm (List.Perm.swap (slX (.slice (some ⟨g, 0, none⟩) rows.length c) rows) _ _)
  have hst := (World.ownsRow.stored h.pX (n * 6 + l) (.int .i64 x)).1
  have h2 := h1.pool.app (v' := .slice (some ⟨g, 0, none⟩) rows.length c) (n' := rows.length) (xs' := (rowCells rows).set (n * 6 + l) (.int .i64 x)) hst (grown_set w g (n * 6 + l) _) (.inl rfl)
  have h3 := h1.grown h2 (grown_set w g (n * 6 + l) _)
  have h4 := h3.perm (List.Perm.swap _ _ _)
  have e : slX (.slice (some ⟨g, 0, none⟩) rows.length c) (rows.set n (r.set l x)) = ⟨135, 6, .slice (some ⟨g, 0, none⟩) rows.length c, rows.length, (rowCells rows).set (n * 6 + l) (.int .i64 x)⟩ := by unfold slX; rw [rowCells_set h6 hr hl, List.length_set]
  show SafY t K _ _ _ [slS _ _, slX _ _, slU _ _] _ _ _
  rw [e]
  exact h4
end

theorem safeFrom_badN {t : Task} {f : Sets} (h : badM t f = true) (u : List Int) : safeFrom t f u = false := by
  cases u with
  | nil => show (!badM t f) = false; rw [h]; rfl
  | cons l u => show (if badM t f then false else _) = false; rw [h]; rfl
theorem safeFrom_stepN {t : Task} {f : Sets} (h : badM t f = false) (l : Int) (u : List Int) : safeFrom t f (l :: u) = safeFrom t (closeM t (moveM t f l)) u := by
  show (if badM t f then false else _) = _; rw [h]; rfl
theorem drop_charsN {s : ByteArray} {k : Nat} (h : k < s.size) : (chars s).drop k = chAt s k :: (chars s).drop (k + 1) := by
  have hk : k < (chars s).length := by rw [chars_len]; exact h
  rw [List.drop_eq_getElem_cons hk]
  have := chars_at s k h
  rw [List.getElem?_eq_getElem hk] at this
  injection this with this
  rw [this]
theorem andNot_all : ∀ a ∈ List.range 64, ∀ b ∈ List.range 64, bits .andNot .i64 (Int.ofNat a) (Int.ofNat b) = Int.ofNat (a - (a &&& b)) := by decide +kernel
theorem andNot_hidden {t : Task} (ht : taskValid t = true) : ∃ H : Int, bits .andNot .i64 t.sys.alphabet t.alphabet = H ∧ 0 ≤ H ∧ H ≤ 63 ∧ letters H = hiddenOf t := by
  obtain ⟨hs, -, ha⟩ := taskValid_facts ht
  obtain ⟨h1, h2⟩ := sys_alpha hs
  obtain ⟨h3, h4⟩ := alpha_facts ha
  obtain ⟨m, hm⟩ := Int.eq_ofNat_of_zero_le h1
  obtain ⟨n, hn⟩ := Int.eq_ofNat_of_zero_le h3
  have h5 := andNot_all m (List.mem_range.2 (by omega)) n (List.mem_range.2 (by omega))
  have h6 := hid_all m (List.mem_range.2 (by omega)) n (List.mem_range.2 (by omega))
  have hle : m - (m &&& n) ≤ m := Nat.sub_le _ _
  refine ⟨Int.ofNat (m - (m &&& n)), by rw [hm, hn]; exact h5, by simp, by simp; omega, ?_⟩
  rw [h6]; unfold hiddenOf; rw [hm, hn]; rfl
theorem pval_start : pval startM = .agg #[.int .u16 1, .int .u16 0, .int .u16 0, .int .u16 0, .int .u16 0, .int .u16 0, .int .u16 0, .int .u16 0, .int .u16 0, .int .u16 0, .int .u16 0, .int .u16 0] := rfl

end Go.Proofs.YtanekmfifmkbmaaGreatDoor
