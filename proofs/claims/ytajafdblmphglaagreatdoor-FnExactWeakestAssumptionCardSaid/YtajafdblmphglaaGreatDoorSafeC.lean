/- The program's safe words: move, close. -/
import Derived.Test.YtajafdblmphglaaGreatDoorPlainE
import Derived.Test.YtajafdblmphglaaGreatDoorSubS
import Derived.Test.YtajafdblmphglaaGreatDoorWalkK
import Derived.Test.YtajafdblmphglaaGreatDoorWalkV
import Derived.Test.YtajafdblmphglaaGreatDoorPool
import Derived.DeepKeys4
import Derived.Maps.OwnSet
import Derived.Maps.OwnOps

namespace Go.Proofs.YtajafdblmphglaaGreatDoor
set_option linter.unusedSimpArgs false
set_option linter.unusedVariables false
open Go.RowKit Go.Maps
set_option maxHeartbeats 4000000
set_option maxRecDepth 100000

/-! ### Sets of pairs in memory -/
def pcells (f : Sets) : Array Value := ((List.range 12).map fun p => Value.int .u16 (f p : Int)).toArray
def pval (f : Sets) : Value := .agg #[.int .u16 (f 0 : Int), .int .u16 (f 1 : Int), .int .u16 (f 2 : Int), .int .u16 (f 3 : Int), .int .u16 (f 4 : Int), .int .u16 (f 5 : Int), .int .u16 (f 6 : Int), .int .u16 (f 7 : Int), .int .u16 (f 8 : Int), .int .u16 (f 9 : Int), .int .u16 (f 10 : Int), .int .u16 (f 11 : Int)]
theorem pval_eq (f : Sets) : pval f = .agg (pcells f) := rfl
theorem pcells_at {f : Sets} {p : Nat} (h : p < 12) : (pcells f)[p]? = some (.int .u16 (f p : Int)) := by simp [pcells, h]
theorem pcells_size (f : Sets) : (pcells f).size = 12 := by simp [pcells]
theorem pcells_set (f : Sets) {p : Nat} (h : p < 12) (y : Nat) : (pcells f).setIfInBounds p (.int .u16 (y : Int)) = pcells (updS f p y) := by
  apply Array.ext_getElem?
  intro i
  by_cases hip : p = i
  · subst hip
    rw [Array.getElem?_setIfInBounds_self_of_lt (by rw [pcells_size]; exact h), pcells_at h]; simp [updS]
  · rw [Array.getElem?_setIfInBounds_ne hip]
    by_cases hi : i < 12
    · rw [pcells_at hi, pcells_at hi]; unfold updS; rw [if_neg fun e => hip e.symm]
    · rw [Array.getElem?_eq_none (by rw [pcells_size]; omega), Array.getElem?_eq_none (by rw [pcells_size]; omega)]
def PB (w : World) (b : Nat) (f : Sets) : Prop := Blk w b (pcells f) 154
theorem PB.cell {w : World} {b : Nat} {f : Sets} (h : PB w b f) {p : Nat} (hp : p < 12) : w.cell? ⟨b, p, none⟩ = some (.int .u16 (f p : Int)) := Blk.cell h p (pcells_at hp)
theorem PB.fr {w : World} {b : Nat} {f : Sets} (h : PB w b f) (p : Nat) : w.frozen? ⟨b, p, none⟩ = false := Blk.fr h p
theorem PB.ext {w w' : World} {b : Nat} {f : Sets} (h : PB w b f) (he : Ext w w') : PB w' b f := Blk.ext h he
theorem PB.set {w : World} {b : Nat} {f : Sets} (h : PB w b f) {p : Nat} (hp : p < 12) (y : Nat) : PB (w.setCell ⟨b, p, none⟩ (.int .u16 (y : Int))) b (updS f p y) := by
  have := Blk.set h p (.int .u16 (y : Int))
  unfold PB; rw [← pcells_set f hp]; exact this
theorem PB.other {w : World} {b : Nat} {f : Sets} (h : PB w b f) {p : Addr} (hp : b ≠ p.block) (v : Value) : PB (w.setCell p v) b f := Blk.other h hp v
theorem PB.all {w : World} {b : Nat} {f : Sets} (h : PB w b f) : w.cell? ⟨b, 0, none⟩ = some (.int .u16 (f 0 : Int)) ∧ w.cell? ⟨b, 1, none⟩ = some (.int .u16 (f 1 : Int)) ∧ w.cell? ⟨b, 2, none⟩ = some (.int .u16 (f 2 : Int)) ∧ w.cell? ⟨b, 3, none⟩ = some (.int .u16 (f 3 : Int)) ∧ w.cell? ⟨b, 4, none⟩ = some (.int .u16 (f 4 : Int)) ∧ w.cell? ⟨b, 5, none⟩ = some (.int .u16 (f 5 : Int)) ∧ w.cell? ⟨b, 6, none⟩ = some (.int .u16 (f 6 : Int)) ∧ w.cell? ⟨b, 7, none⟩ = some (.int .u16 (f 7 : Int)) ∧ w.cell? ⟨b, 8, none⟩ = some (.int .u16 (f 8 : Int)) ∧ w.cell? ⟨b, 9, none⟩ = some (.int .u16 (f 9 : Int)) ∧ w.cell? ⟨b, 10, none⟩ = some (.int .u16 (f 10 : Int)) ∧ w.cell? ⟨b, 11, none⟩ = some (.int .u16 (f 11 : Int)) :=
  ⟨h.cell (by omega), h.cell (by omega), h.cell (by omega), h.cell (by omega), h.cell (by omega), h.cell (by omega), h.cell (by omega), h.cell (by omega), h.cell (by omega), h.cell (by omega), h.cell (by omega), h.cell (by omega)⟩
def zeroS : Sets := fun _ => 0
theorem u16_or_nat (a b : Nat) (ha : a < 65536) (hb : b < 65536) : bits .or .u16 (a : Int) (b : Int) = ((a ||| b : Nat) : Int) := by
  have hx : a ||| b < 2 ^ 16 := Nat.or_lt_two_pow (by omega) (by omega)
  have e : ∀ n : Nat, n < 65536 → (BitVec.ofInt 16 (n : Int)).toNat = n := fun n hn => by
    rw [BitVec.ofInt_natCast, BitVec.toNat_ofNat]; exact Nat.mod_eq_of_lt (by omega)
  show IntKind.u16.wrap ((BitVec.ofInt 16 (a : Int) ||| BitVec.ofInt 16 (b : Int)).toNat : Int) = _
  rw [BitVec.toNat_or, e a ha, e b hb, IntKind.wrap_u16]
  omega

/-- A whole set is stored. -/
def stAll (w : World) (b : Nat) (m : Sets) : World := ((((((((((((w.setCell ⟨b, 0, none⟩ (.int .u16 (m 0 : Int))).setCell ⟨b, 1, none⟩ (.int .u16 (m 1 : Int))).setCell ⟨b, 2, none⟩ (.int .u16 (m 2 : Int))).setCell ⟨b, 3, none⟩ (.int .u16 (m 3 : Int))).setCell ⟨b, 4, none⟩ (.int .u16 (m 4 : Int))).setCell ⟨b, 5, none⟩ (.int .u16 (m 5 : Int))).setCell ⟨b, 6, none⟩ (.int .u16 (m 6 : Int))).setCell ⟨b, 7, none⟩ (.int .u16 (m 7 : Int))).setCell ⟨b, 8, none⟩ (.int .u16 (m 8 : Int))).setCell ⟨b, 9, none⟩ (.int .u16 (m 9 : Int))).setCell ⟨b, 10, none⟩ (.int .u16 (m 10 : Int))).setCell ⟨b, 11, none⟩ (.int .u16 (m 11 : Int)))
theorem PB.congr {w : World} {b : Nat} {f g : Sets} (h : PB w b f) (e : ∀ p, p < 12 → f p = g p) : PB w b g := by
  have : pcells f = pcells g := by
    apply Array.ext_getElem?
    intro i
    by_cases hi : i < 12
    · rw [pcells_at hi, pcells_at hi, e i hi]
    · rw [Array.getElem?_eq_none (by rw [pcells_size]; omega), Array.getElem?_eq_none (by rw [pcells_size]; omega)]
  unfold PB; rw [← this]; exact h
theorem PB.store {w : World} {b : Nat} {f : Sets} (h : PB w b f) (m : Sets) : PB (stAll w b m) b m := by
  unfold stAll
  refine ((((((((((((h.set (p := 0) (by omega) (m 0)).set (p := 1) (by omega) (m 1)).set (p := 2) (by omega) (m 2)).set (p := 3) (by omega) (m 3)).set (p := 4) (by omega) (m 4)).set (p := 5) (by omega) (m 5)).set (p := 6) (by omega) (m 6)).set (p := 7) (by omega) (m 7)).set (p := 8) (by omega) (m 8)).set (p := 9) (by omega) (m 9)).set (p := 10) (by omega) (m 10)).set (p := 11) (by omega) (m 11)).congr fun p hp => ?_
  have : p = 0 ∨ p = 1 ∨ p = 2 ∨ p = 3 ∨ p = 4 ∨ p = 5 ∨ p = 6 ∨ p = 7 ∨ p = 8 ∨ p = 9 ∨ p = 10 ∨ p = 11 := by omega
  rcases this with rfl | rfl | rfl | rfl | rfl | rfl | rfl | rfl | rfl | rfl | rfl | rfl <;> rfl
theorem stAll_ext {w w0 : World} (h : Ext w0 w) {b : Nat} (hb : w0.heap.size ≤ b) (m : Sets) : Ext w0 (stAll w b m) := by
  unfold stAll
  exact (((((((((((h.setCell hb _).setCell hb _).setCell hb _).setCell hb _).setCell hb _).setCell hb _).setCell hb _).setCell hb _).setCell hb _).setCell hb _).setCell hb _).setCell hb _
theorem Blk.stAll {w : World} {b b' : Nat} {cs : Array Value} {t : TypeId} (h : Blk w b' cs t) (hne : b' ≠ b) (m : Sets) : Blk (stAll w b m) b' cs t := by
  unfold Go.Proofs.YtajafdblmphglaaGreatDoor.stAll
  exact (((((((((((h.other hne _).other hne _).other hne _).other hne _).other hne _).other hne _).other hne _).other hne _).other hne _).other hne _).other hne _).other hne _

/-- What move and close read of a safety. -/
structure SafR (w : World) (sb : Nat) (t : Task) : Prop where
  al : w.cell? ⟨sb, 0, none⟩ = some (.int .i64 t.sys.alphabet)
  mv : ∃ vm, w.cell? ⟨sb, 7, none⟩ = some vm ∧ MovesV w vm t.sys
  rule : ∃ vr, w.cell? ⟨sb, 8, none⟩ = some vr ∧ TabV w vr (table t.prop)
  hid : ∃ vh, w.cell? ⟨sb, 9, none⟩ = some vh ∧ IntsV w vh (hiddenOf t)
theorem SafR.ext {w w' : World} {sb : Nat} {t : Task} (h : SafR w sb t) (he : Ext w w') : SafR w' sb t :=
  ⟨he.cell h.al, let ⟨v, h1, h2⟩ := h.mv; ⟨v, he.cell h1, h2.mono he⟩, let ⟨v, h1, h2⟩ := h.rule; ⟨v, he.cell h1, h2.mono he⟩, let ⟨v, h1, h2⟩ := h.hid; ⟨v, he.cell h1, h2.mono he⟩⟩

theorem index_p (f : Sets) {k : Nat} (h : k < 12) (w : World) : (Instr.index 154 (.agg (pcells f)) (.int .i64 (k : Int))).run Tryz.prog w = .ok (.int .u16 (f k : Int)) w := by
  have hk : (k : Int) < 12 := by omega
  have hc := pcells_at (f := f) h
  have hi : Tryz.prog.info? 152 = some (Tryz.prog.info? 152).get! := by kernel_rfl
  have hs := run_sizeOf w hi
  simp [Instr.index, asIntOf, run_underlying Tryz.underlying154, part, hk]
  rw [if_pos h, hc]; rfl

theorem move_c (sb l : Nat) (t : Task) (f : Sets) (w : World) (hR : SafR w sb t) (hs : sysValid t.sys = true) (hp : autoValid t.prop = true) (hf : Within t f) (hl : l < 6) (hT : Deb w) :
    Calls Tryz.prog 128 #[.pointer (some ⟨sb, 0, none⟩), pval f, .int .i64 (l : Int)] w (Grows (pval (moveM t f (l : Nat))) w) := by
  obtain ⟨wo, hwo⟩ : ∃ wo, wo = ((w.alloc (.cells #[.int .u16 (f 0 : Int), .int .u16 (f 1 : Int), .int .u16 (f 2 : Int), .int .u16 (f 3 : Int), .int .u16 (f 4 : Int), .int .u16 (f 5 : Int), .int .u16 (f 6 : Int), .int .u16 (f 7 : Int), .int .u16 (f 8 : Int), .int .u16 (f 9 : Int), .int .u16 (f 10 : Int), .int .u16 (f 11 : Int)] 154)).alloc (.cells #[.int .u16 0, .int .u16 0, .int .u16 0, .int .u16 0, .int .u16 0, .int .u16 0, .int .u16 0, .int .u16 0, .int .u16 0, .int .u16 0, .int .u16 0, .int .u16 0] 154)).alloc (.cells #[.int .u16 0, .int .u16 0, .int .u16 0, .int .u16 0, .int .u16 0, .int .u16 0, .int .u16 0, .int .u16 0, .int .u16 0, .int .u16 0, .int .u16 0, .int .u16 0] 154) := ⟨_, rfl⟩
  have he : Ext w wo := by rw [hwo]; exact ((Ext.alloc _ _).trans (Ext.alloc _ _)).trans (Ext.alloc _ _)
  have B6 : PB wo (w.heap.size + 1) zeroS := by rw [hwo]; exact Ext.blk1 (Ext.alloc _ _)
  have B7 : PB wo (w.heap.size + 1 + 1) (moveTo t f (l : Nat) 0) := by rw [hwo]; exact Ext.blk2 (Ext.refl _)
  have hn12 : t.prop.next.length ≤ 12 := (autoValid_facts hp).2.2.2.1
  have HM := Lib.hid (moveTo_12 hf (l : Nat) hn12)
  have HLT := Lib.hid (moveTo_lt hs hp hf (l : Nat))
  have HRR := Lib.hid hR
  have HDeb := Lib.hid hT
  obtain ⟨al0, al63⟩ := sys_alpha hs
  clear hR hT
  unfold pval
  go_enter Tryz.func128, Tryz.ntmps128
  go_wp2_with fail
  rw [← hwo]
  clear hwo
  go_loopw [12] (fun i wr => ∃ k : Nat, k ≤ 12 ∧ i = .int .i64 k ∧ PB wr (w.heap.size + 1) zeroS ∧ PB wr (w.heap.size + 1 + 1) (moveTo t f (l : Nat) k) ∧ Ext w wr) (fun i _ => 12 - (intOf i).toNat)
  case atStart => exact ⟨0, by omega, rfl, B6, B7, he⟩
  case round =>
    clear B6 B7 he
    obtain ⟨k, hk, rfl, B6, B7, he⟩ := hrel
    by_cases hlt : k < 12
    · have hix : ∀ w', (Instr.index 154 (.agg #[.int .u16 (f 0 : Int), .int .u16 (f 1 : Int), .int .u16 (f 2 : Int), .int .u16 (f 3 : Int), .int .u16 (f 4 : Int), .int .u16 (f 5 : Int), .int .u16 (f 6 : Int), .int .u16 (f 7 : Int), .int .u16 (f 8 : Int), .int .u16 (f 9 : Int), .int .u16 (f 10 : Int), .int .u16 (f 11 : Int)]) (.int .i64 (k : Int))).run Tryz.prog w' = .ok (.int .u16 (f k : Int)) w' := fun w' => index_p f hlt w'
      by_cases hz : f k = 0
      · have HS := Lib.hid (moveTo_skip (t := t) (l : Nat) hz)
        rw [hz] at hix
        clear hz
        go_wp2_with fail
        exact ⟨⟨k + 1, by omega, by go_num, B6, by rw [HS.out]; exact B7, he⟩, by simp [intOf]; omega⟩
      · have hkn : k < t.prop.next.length := by
          by_cases h : k < t.prop.next.length
          · exact h
          · exact absurd (within_zero hf (by omega)) hz
        have hzi : ((f k : Int) == 0) = false := by simp; exact hz
        have hfk : f k < 65536 := lt_of_bits fun q hq => (hf k q hq).2
        have hmo := movedOne_lt hs hf (l : Nat) k
        have hup := Lib.hid (moveTo_upd t f (l : Nat) k)
        have hnx := step_lt hp hkn (l : Nat)
        have hR := HRR.out.ext he
        have ca := hR.al
        obtain ⟨vr, cr, hvr⟩ := hR.rule
        obtain ⟨ar, capr, rfl, -, hrow⟩ := hvr.open
        rw [table_len] at cr
        obtain ⟨br, offr, rfl, -, hrow⟩ := hrow k _ (table_at t.prop k hkn)
        have gr := hrow k _ (table_at t.prop k hkn) l hl
        unfold tabRow at gr
        obtain ⟨nx, hnxe⟩ : ∃ nx, step t.prop k (l : Nat) = nx := ⟨_, rfl⟩
        rw [hnxe] at hup hnx gr
        obtain ⟨vm, cm, hmv⟩ := hR.mv
        obtain ⟨mo, hmoe⟩ : ∃ mo, movedOne t f (l : Nat) k = mo := ⟨_, rfl⟩
        have HMO := Lib.hid hmoe
        rw [hmoe] at hup hmo
        have hold := HLT.out k nx
        have cnx := B7.cell (p := nx) (by omega)
        have fnx := B7.fr nx
        obtain ⟨y, hye⟩ : ∃ y, moveTo t f (l : Nat) k nx = y := ⟨_, rfl⟩
        rw [hye] at hup hold cnx
        have hor := u16_or_nat y mo hold hmo
        have hw16 : IntKind.u16.wrap (mo : Int) = (mo : Int) := by rw [IntKind.wrap_u16]; omega
        have hnx12 : (nx : Int) < 12 := by omega
        have hkn2 : (k : Int) < (t.prop.next.length : Int) := by omega
        have hl2 : (l : Int) < 6 := by omega
        have HH := Lib.hid (fun w' => has_c t.sys.alphabet (l : Int) w' al0 (by omega) (by omega))
        have hz2 := Lib.hid hz
        clear hnxe hmoe hye hvr hrow hz
        by_cases hb : bit t.sys.alphabet (l : Int) = true
        · have hmo2 := HMO.out
          unfold movedOne at hmo2
          rw [if_pos hb] at hmo2
          have HST := Lib.hid (step_c vm t.sys (f k) l wr hmv hs hfk hl (HDeb.out.ext he))
          rw [hmo2] at HST
          clear hmo2 hmv
          go_wp2_with (first | (go_at_call 49; refine (HH.out _).mono ?_; rintro e w' ⟨rfl, rfl⟩; rw [hb]))
          refine HST.out.mono ?_
          rintro e w1 ⟨rfl, he1⟩
          replace he := he.trans he1
          replace B6 := B6.ext he1
          replace B7 := B7.ext he1
          replace cr := he1.cell cr
          replace gr := he1.cell gr
          replace cnx := he1.cell cnx
          replace fnx := B7.fr nx
          have hB6 := B6.other (p := ⟨w.heap.size + 1 + 1, nx, none⟩) (by simp only []; omega) (.int .u16 ((y ||| mo : Nat) : Int))
          have hB7 := B7.set (p := nx) (by omega) (y ||| mo)
          have hE7 := he.setCell (p := ⟨w.heap.size + 1 + 1, nx, none⟩) (by simp only []; omega) (.int .u16 ((y ||| mo : Nat) : Int))
          clear he1 ca cm hR HST
          go_wp2_with fail
          exact ⟨⟨k + 1, by omega, by go_num, hB6, by rw [hup.out]; exact hB7, hE7⟩, by simp [intOf]; omega⟩
        · have hmo2 := HMO.out
          unfold movedOne at hmo2
          rw [if_neg hb] at hmo2
          have hb' : bit t.sys.alphabet (l : Int) = false := by simpa using hb
          rw [hmo2] at hix hzi
          have hB6 := B6.other (p := ⟨w.heap.size + 1 + 1, nx, none⟩) (by simp only []; omega) (.int .u16 ((y ||| mo : Nat) : Int))
          have hB7 := B7.set (p := nx) (by omega) (y ||| mo)
          have hE7 := he.setCell (p := ⟨w.heap.size + 1 + 1, nx, none⟩) (by simp only []; omega) (.int .u16 ((y ||| mo : Nat) : Int))
          clear hmv
          go_wp2_with (first | (go_at_call 49; refine (HH.out _).mono ?_; rintro e w' ⟨rfl, rfl⟩; rw [hb']))
          exact ⟨⟨k + 1, by omega, by go_num, hB6, by rw [hup.out]; exact hB7, hE7⟩, by simp [intOf]; omega⟩
    · obtain rfl : k = 12 := by omega
      rw [HM.out] at B7
      obtain ⟨k0, k1, k2, k3, k4, k5, k6, k7, k8, k9, k10, k11⟩ := B7.all
      obtain ⟨j0, j1, j2, j3, j4, j5, j6, j7, j8, j9, j10, j11⟩ := B6.all
      have g0 := B6.fr 0; have g1 := B6.fr 1; have g2 := B6.fr 2; have g3 := B6.fr 3; have g4 := B6.fr 4; have g5 := B6.fr 5; have g6 := B6.fr 6; have g7 := B6.fr 7; have g8 := B6.fr 8; have g9 := B6.fr 9; have g10 := B6.fr 10; have g11 := B6.fr 11
      go_wp2_with fail
      obtain ⟨w9, hw9⟩ : ∃ w9, w9 = stAll wr (w.heap.size + 1) (moveM t f (l : Nat)) := ⟨_, rfl⟩
      have B9 := by have := B6.store (moveM t f (l : Nat)); rw [← hw9] at this; exact this
      have he9 := by have := stAll_ext he (b := w.heap.size + 1) (by omega) (moveM t f (l : Nat)); rw [← hw9] at this; exact this
      unfold stAll at hw9
      rw [← hw9]
      clear hw9
      obtain ⟨q0, q1, q2, q3, q4, q5, q6, q7, q8, q9, q10, q11⟩ := B9.all
      refine bodyPost_ret (v := .agg #[.int .u16 (moveM t f (l : Nat) 0 : Int), .int .u16 (moveM t f (l : Nat) 1 : Int), .int .u16 (moveM t f (l : Nat) 2 : Int), .int .u16 (moveM t f (l : Nat) 3 : Int), .int .u16 (moveM t f (l : Nat) 4 : Int), .int .u16 (moveM t f (l : Nat) 5 : Int), .int .u16 (moveM t f (l : Nat) 6 : Int), .int .u16 (moveM t f (l : Nat) 7 : Int), .int .u16 (moveM t f (l : Nat) 8 : Int), .int .u16 (moveM t f (l : Nat) 9 : Int), .int .u16 (moveM t f (l : Nat) 10 : Int), .int .u16 (moveM t f (l : Nat) 11 : Int)]) (by simp [results, Tryz.results128, go_sem, q0, q1, q2, q3, q4, q5, q6, q7, q8, q9, q10, q11]) rfl ?_
      exact Grows.mk rfl he9

theorem laidOutP : laidOutB Tryz.prog = true := by kernel_rfl
theorem keyP : Tryz.prog.keyTypeAt 4 154 = true := by kernel_rfl
theorem wideP : (match Tryz.prog.underlying 154 with | some (.array _ _) | some (.struct _) => true | _ => false) = true := by kernel_rfl

def keyL (f : Sets) : Lit := .string (keyBytes [.int .u16 (f 0 : Int), .int .u16 (f 1 : Int), .int .u16 (f 2 : Int), .int .u16 (f 3 : Int), .int .u16 (f 4 : Int), .int .u16 (f 5 : Int), .int .u16 (f 6 : Int), .int .u16 (f 7 : Int), .int .u16 (f 8 : Int), .int .u16 (f 9 : Int), .int .u16 (f 10 : Int), .int .u16 (f 11 : Int)])
theorem keyOf_p {f : Sets} (h : ∀ p, f p < 65536) : keyOf Tryz.prog 154 (pval f) = some (keyL f) := by
  have hw : ∀ p, (Lit.int .u16 (f p : Int)).wf = true := fun p => WalkArith.wf_u16 (by have := h p; omega)
  have hs : Tryz.prog.types.size = (Tryz.prog.types.size - 1) + 1 := by kernel_rfl
  have h1 : Tryz.prog.cellsOf 152 = 1 := by kernel_rfl
  have hk : Tryz.prog.keyType 154 = true := by kernel_rfl
  have h12 : Tryz.prog.cellsOf 154 = 12 := by kernel_rfl
  unfold keyOf
  simp only [Tryz.underlying154]
  rw [if_pos (by simp [hk, Value.formed, pval, Tryz.underlying154, h1, h12]), hs]
  unfold Program.keyLits
  simp only [Tryz.underlying154, Value.cells, pval]
  rw [if_pos (by rw [h12]; rfl), show List.range 12 = [0, 1, 2, 3, 4, 5, 6, 7, 8, 9, 10, 11] from rfl]
  simp only [List.mapM_cons, List.mapM_nil]
  simp [h1, Program.keyLits, Tryz.underlying152, hw, keyL]
theorem law_p : WideMaps.KeyLaw Tryz.prog 154 := deep_law_laid laidOutP (m := 4) (by omega) (by decide) keyP wideP
/-- Two sets of pairs are alike. -/
def eqS (f g : Sets) : Bool := (List.range 12).all fun p => decide (f p = g p)
theorem eqS_iff (f g : Sets) : eqS f g = true ↔ ∀ p, p < 12 → f p = g p := by simp [eqS]
theorem pval_inj {f g : Sets} : pval f = pval g ↔ eqS f g = true := by
  rw [eqS_iff]
  constructor
  · intro h p hp
    rw [pval_eq, pval_eq] at h
    injection h with h
    have h1 := pcells_at (f := f) hp
    rw [h, pcells_at hp] at h1
    injection h1 with h1
    injection h1 with _ h1
    omega
  · intro h
    rw [pval_eq, pval_eq]
    congr 1
    apply Array.ext_getElem?
    intro i
    by_cases hi : i < 12
    · rw [pcells_at hi, pcells_at hi, h i hi]
    · rw [Array.getElem?_eq_none (by rw [pcells_size]; omega), Array.getElem?_eq_none (by rw [pcells_size]; omega)]
theorem eql_p {f g : Sets} (hf : ∀ p, f p < 65536) (hg : ∀ p, g p < 65536) (w : World) : (binOp .eql 154 (pval f) (pval g)).run Tryz.prog w = .ok (.bool (eqS f g)) w := by
  obtain ⟨r, h1, h2⟩ := run_equal_deep (m := 4) w (by omega) keyP wideP (keyOf_p hf) (keyOf_p hg)
  have : r = eqS f g := by
    rw [Bool.eq_iff_iff, h2]
    constructor
    · intro h
      exact pval_inj.1 (law_p.inj (keyOf_p hf) (by rw [h]; exact keyOf_p hg))
    · intro h
      have e := pval_inj.2 h
      have k1 := keyOf_p hf
      rw [e, keyOf_p hg] at k1
      injection k1 with k1; exact k1.symm
  subst this
  show Sem.run _ (Value.bool <$> Op.equal 154 (pval f) (pval g)) w = _
  simp [h1]

theorem wRest_P {w : World} {b : Nat} {f : Sets} (h : PB w b f) : wRest w b 12 = restOf f 12 := by
  have : ∀ k, k ≤ 12 → wRest w b k = restOf f k := by
    intro k
    induction k with
    | zero => intro _; rfl
    | succ k ih =>
      intro hk
      unfold wRest restOf
      rw [ih (by omega), h.cell (p := k) (by omega)]
      simp [cellNat]
  exact this 12 (Nat.le_refl _)
theorem eqS_within {t : Task} {f g : Sets} (hf : Within t f) (hg : Within t g) (hn : t.prop.next.length ≤ 12) (h : eqS f g = true) : f = g := by
  funext p
  by_cases hp : p < 12
  · exact (eqS_iff f g).1 h p hp
  · rw [within_zero hf (by omega), within_zero hg (by omega)]
theorem index_pv (f : Sets) {k : Nat} (h : k < 12) (w : World) : (Instr.index 154 (pval f) (.int .i64 (k : Int))).run Tryz.prog w = .ok (.int .u16 (f k : Int)) w := index_p f h w
theorem close_c (sb : Nat) (t : Task) (f : Sets) (w : World) (hR : SafR w sb t) (hs : sysValid t.sys = true) (hp : autoValid t.prop = true) (hf : Within t f) (hT : Deb w) :
    Calls Tryz.prog 127 #[.pointer (some ⟨sb, 0, none⟩), pval f] w (Grows (pval (closeM t f)) w) := by
  obtain ⟨wo, hwo⟩ : ∃ wo, wo = (w.alloc (.cells #[.int .u16 (f 0 : Int), .int .u16 (f 1 : Int), .int .u16 (f 2 : Int), .int .u16 (f 3 : Int), .int .u16 (f 4 : Int), .int .u16 (f 5 : Int), .int .u16 (f 6 : Int), .int .u16 (f 7 : Int), .int .u16 (f 8 : Int), .int .u16 (f 9 : Int), .int .u16 (f 10 : Int), .int .u16 (f 11 : Int)] 154)).alloc (.cells #[.int .u16 0, .int .u16 0, .int .u16 0, .int .u16 0, .int .u16 0, .int .u16 0, .int .u16 0, .int .u16 0, .int .u16 0, .int .u16 0, .int .u16 0, .int .u16 0] 154) := ⟨_, rfl⟩
  have he : Ext w wo := by rw [hwo]; exact (Ext.alloc _ _).trans (Ext.alloc _ _)
  have B3 : PB wo w.heap.size f := by rw [hwo]; exact Ext.blk (Ext.alloc _ _)
  have B4 : PB wo (w.heap.size + 1) zeroS := by rw [hwo]; exact Ext.blk1 (Ext.refl _)
  have hn12 : t.prop.next.length ≤ 12 := (autoValid_facts hp).2.2.2.1
  have HRR := Lib.hid hR
  have HDeb := Lib.hid hT
  have HO0 : Hid (OnClose t f f) := Lib.hid ⟨fun _ _ h => h, (closeM_is hs hf).above, hf⟩
  obtain ⟨vh, ch, hvh⟩ := hR.hid
  obtain ⟨ah, caph, rfl, -, hhid⟩ := hvh.open
  obtain ⟨L, hLe⟩ : ∃ L, hiddenOf t = L := ⟨_, rfl⟩
  have HLE := Lib.hid hLe
  rw [hLe] at ch hhid
  have HHI := Lib.hid hhid
  clear hR hT hvh hLe hhid
  unfold pval
  go_enter Tryz.func127, Tryz.ntmps127
  go_wp2_with fail
  rw [← hwo]
  clear hwo
  go_loopw [] (fun wr => ∃ g, PB wr w.heap.size g ∧ PB wr (w.heap.size + 1) zeroS ∧ Hid (OnClose t f g) ∧ Ext w wr) (fun wr => wRest wr w.heap.size 12)
  case atStart => exact ⟨f, B3, B4, HO0, he⟩
  case round =>
    clear B3 B4 HO0 he
    obtain ⟨g, B3, B4, HO, he⟩ := hrel
    obtain ⟨k0, k1, k2, k3, k4, k5, k6, k7, k8, k9, k10, k11⟩ := B3.all
    have hmeas := Lib.hid (wRest_P B3)
    have ch2 := fun o => (he.trans (Ext.alloc wr o)).cell ch
    have hb4 := Blk.lt B4
    have HB := Lib.hid (Ext.alloc wr (.cells #[.int .u16 (g 0 : Int), .int .u16 (g 1 : Int), .int .u16 (g 2 : Int), .int .u16 (g 3 : Int), .int .u16 (g 4 : Int), .int .u16 (g 5 : Int), .int .u16 (g 6 : Int), .int .u16 (g 7 : Int), .int .u16 (g 8 : Int), .int .u16 (g 9 : Int), .int .u16 (g 10 : Int), .int .u16 (g 11 : Int)] 154))
    have B5 : PB (wr.alloc (.cells #[.int .u16 (g 0 : Int), .int .u16 (g 1 : Int), .int .u16 (g 2 : Int), .int .u16 (g 3 : Int), .int .u16 (g 4 : Int), .int .u16 (g 5 : Int), .int .u16 (g 6 : Int), .int .u16 (g 7 : Int), .int .u16 (g 8 : Int), .int .u16 (g 9 : Int), .int .u16 (g 10 : Int), .int .u16 (g 11 : Int)] 154)) wr.heap.size g := Blk.new _ _ _
    have hw5 : wr.heap.size < (wr.alloc (.cells #[.int .u16 (g 0 : Int), .int .u16 (g 1 : Int), .int .u16 (g 2 : Int), .int .u16 (g 3 : Int), .int .u16 (g 4 : Int), .int .u16 (g 5 : Int), .int .u16 (g 6 : Int), .int .u16 (g 7 : Int), .int .u16 (g 8 : Int), .int .u16 (g 9 : Int), .int .u16 (g 10 : Int), .int .u16 (g 11 : Int)] 154)).heap.size := by simp
    go_wp2_with fail
    obtain ⟨b5, hb5⟩ : ∃ b5, wr.heap.size = b5 := ⟨_, rfl⟩
    rw [hb5] at B5 hb4 hw5 ⊢
    have hx5 := HB.out
    replace B3 := B3.ext hx5
    replace B4 := B4.ext hx5
    replace he := he.trans hx5
    clear HB hx5 ch2 hb5
    generalize wr.alloc (.cells #[.int .u16 (g 0 : Int), .int .u16 (g 1 : Int), .int .u16 (g 2 : Int), .int .u16 (g 3 : Int), .int .u16 (g 4 : Int), .int .u16 (g 5 : Int), .int .u16 (g 6 : Int), .int .u16 (g 7 : Int), .int .u16 (g 8 : Int), .int .u16 (g 9 : Int), .int .u16 (g 10 : Int), .int .u16 (g 11 : Int)] 154) = wb at B3 B4 B5 he hw5 ⊢
    clear k0 k1 k2 k3 k4 k5 k6 k7 k8 k9 k10 k11
    have HC0 : Hid (CloseSt t f g g 0 0 zeroS) := Lib.hid (CloseSt.start HO.out)
    have hL6 : L.length ≤ 6 := by rw [← HLE.out]; exact hidden_len t
    have HGL := Lib.hid (within_lt HO.out.within)
    go_loopw [16] (fun i wr => ∃ (q : Nat) (h : Sets), q ≤ L.length ∧ i = .int .i64 q ∧ PB wr w.heap.size g ∧ PB wr (w.heap.size + 1) zeroS ∧ PB wr b5 h ∧ Hid (CloseSt t f g h q 0 zeroS) ∧ Ext w wr) (fun i _ => L.length - (intOf i).toNat)
    case atStart => exact ⟨0, g, by omega, rfl, B3, B4, B5, HC0, he⟩
    case round =>
      clear B3 B4 B5 HC0 he hw5
      obtain ⟨q, h, hq, rfl, B3, B4, B5, HC, he⟩ := hrel
      by_cases hql : q < L.length
      · obtain ⟨l, hlq⟩ : ∃ l, L[q]? = some l := ⟨_, List.getElem?_eq_getElem hql⟩
        have hlH : l ∈ hiddenOf t := by rw [HLE.out]; exact List.mem_of_getElem? hlq
        obtain ⟨l0, l6⟩ := bit_range (sys_alpha hs).2 ((hidden_iff hs l).1 hlH).1
        obtain ⟨ln, rfl⟩ := Int.eq_ofNat_of_zero_le l0
        obtain ⟨bh, offh, rfl, -, hcell⟩ := HHI.out q _ hlq
        have gl := he.cell (hcell q _ hlq)
        rw [Nat.mul_one] at gl
        have HLQ := Lib.hid (show (hiddenOf t)[q]? = some (ln : Int) from by rw [HLE.out]; exact hlq)
        have HLH := Lib.hid hlH
        have HCM := Lib.hid (move_c sb ln t g wr (HRR.out.ext he) hs hp HO.out.within (by omega) (HDeb.out.ext he))
        have HML := Lib.hid (moveTo_lt hs hp HO.out.within (ln : Int) t.prop.next.length)
        obtain ⟨m, hme⟩ : ∃ m, moveM t g (ln : Int) = m := ⟨_, rfl⟩
        have HME := Lib.hid hme
        rw [show moveTo t g (ln : Int) t.prop.next.length = moveM t g (ln : Int) from rfl] at HML
        rw [hme] at HCM HML
        obtain ⟨k0, k1, k2, k3, k4, k5, k6, k7, k8, k9, k10, k11⟩ := B3.all
        have hql2 : (q : Int) < (L.length : Int) := by omega
        clear hcell hlq hlH hme
        go_wp2_with fail
        refine HCM.out.mono ?_
        rintro e w1 ⟨rfl, he1⟩
        replace he := he.trans he1
        replace B3 := B3.ext he1
        replace B4 := B4.ext he1
        replace B5 := B5.ext he1
        clear k0 k1 k2 k3 k4 k5 k6 k7 k8 k9 k10 k11
        clear gl he1 HCM
        have HC1 : Hid (CloseSt t f g h q 0 m) := Lib.hid HC.out.again
        go_wp2_with fail
        go_loopw [24] (fun i wr => ∃ (p : Nat) (h : Sets), p ≤ 12 ∧ i = .int .i64 p ∧ PB wr w.heap.size g ∧ PB wr (w.heap.size + 1) zeroS ∧ PB wr b5 h ∧ Hid (CloseSt t f g h q p m) ∧ Ext w wr) (fun i _ => 12 - (intOf i).toNat)
        case atStart => exact ⟨0, h, by omega, rfl, B3, B4, B5, HC1, he⟩
        case round =>
          clear B3 B4 B5 HC HC1 he
          obtain ⟨p, h, hp12, rfl, B3, B4, B5, HC, he⟩ := hrel
          by_cases hpl : p < 12
          · have hix := fun w' => index_pv m hpl w'
            have hpi : (p : Int) < 12 := by omega
            have c5 := B5.cell hpl
            have f5 := B5.fr p
            have hh := within_lt HC.out.on.within p
            have hm := HML.out p
            have HN := Lib.hid (CloseSt.or hs hp hf HO.out HLH.out (show CloseSt t f g h q p (moveM t g (ln : Int)) from by rw [HME.out]; exact HC.out))
            rw [HME.out] at HN
            obtain ⟨x, hxe⟩ : ∃ x, h p = x := ⟨_, rfl⟩
            obtain ⟨y, hye⟩ : ∃ y, m p = y := ⟨_, rfl⟩
            rw [hxe] at c5 hh HN
            rw [hye] at hm HN
            simp only [hye] at hix
            have hor := u16_or_nat x y hh hm
            have h3 := B3.other (p := ⟨b5, p, none⟩) (by simp only []; omega) (.int .u16 ((x ||| y : Nat) : Int))
            have h4 := B4.other (p := ⟨b5, p, none⟩) (by simp only []; omega) (.int .u16 ((x ||| y : Nat) : Int))
            have h5 := B5.set hpl (x ||| y)
            have h6 := he.setCell (p := ⟨b5, p, none⟩) (by simp only []; omega) (.int .u16 ((x ||| y : Nat) : Int))
            clear hxe hye
            go_wp2_with fail
            exact ⟨⟨p + 1, _, by omega, by go_num, h3, h4, h5, HN, h6⟩, by simp [intOf]; omega⟩
          · obtain rfl : p = 12 := by omega
            have HN : Hid (CloseSt t f g h (q + 1) 0 zeroS) := Lib.hid (CloseSt.next hs hp hn12 HO.out HLQ.out (by rw [HME.out]; exact HC.out))
            go_wp2_with fail
            exact ⟨⟨q + 1, h, by omega, by go_num, B3, B4, B5, HN, he⟩, by simp [intOf]; omega⟩
      · obtain rfl : q = L.length := by omega
        have hC := HC.out
        rw [← HLE.out] at hC
        have hhl := within_lt hC.on.within
        have heq := fun w' => eql_p hhl HGL.out w'
        unfold pval at heq
        obtain ⟨j0, j1, j2, j3, j4, j5, j6, j7, j8, j9, j10, j11⟩ := B5.all
        obtain ⟨k0, k1, k2, k3, k4, k5, k6, k7, k8, k9, k10, k11⟩ := B3.all
        obtain ⟨i0, i1, i2, i3, i4, i5, i6, i7, i8, i9, i10, i11⟩ := B4.all
        by_cases hE : eqS h g = true
        · have hfg := eqS_within hC.on.within HO.out.within hn12 hE
          have HF : Hid (closeM t f = g) := Lib.hid (by
            refine CloseSt.fin (m := zeroS) hs hf ?_
            have := hC; rw [hfg] at this; exact this)
          rw [hE] at heq
          have fi0 := B4.fr 0; have fi1 := B4.fr 1; have fi2 := B4.fr 2; have fi3 := B4.fr 3; have fi4 := B4.fr 4; have fi5 := B4.fr 5; have fi6 := B4.fr 6; have fi7 := B4.fr 7; have fi8 := B4.fr 8; have fi9 := B4.fr 9; have fi10 := B4.fr 10; have fi11 := B4.fr 11
          clear hfg hC
          go_wp2_with fail
          obtain ⟨w9, hw9⟩ : ∃ w9, w9 = stAll wr (w.heap.size + 1) (g) := ⟨_, rfl⟩
          have B9 := by have := B4.store (g); rw [← hw9] at this; exact this
          have he9 := by have := stAll_ext he (b := w.heap.size + 1) (by omega) g; rw [← hw9] at this; exact this
          unfold stAll at hw9
          rw [← hw9]
          clear hw9
          clear k0 k1 k2 k3 k4 k5 k6 k7 k8 k9 k10 k11; clear j0 j1 j2 j3 j4 j5 j6 j7 j8 j9 j10 j11; clear i0 i1 i2 i3 i4 i5 i6 i7 i8 i9 i10 i11; clear fi0 fi1 fi2 fi3 fi4 fi5 fi6 fi7 fi8 fi9 fi10 fi11
          obtain ⟨q0, q1, q2, q3, q4, q5, q6, q7, q8, q9, q10, q11⟩ := B9.all
          refine bodyPost_ret (v := pval (closeM t f)) (by rw [HF.out]; simp [results, Tryz.results127, go_sem, pval, q0, q1, q2, q3, q4, q5, q6, q7, q8, q9, q10, q11]) rfl ?_
          exact Grows.mk rfl he9
        · have hE' : eqS h g = false := by simpa using hE
          rw [hE'] at heq
          have hne : ∃ p, p < 12 ∧ g p ≠ h p := by
            refine Classical.byContradiction fun hno => hE ((eqS_iff h g).2 fun p hp => ?_)
            refine Classical.byContradiction fun h' => hno ⟨p, hp, fun e => h' e.symm⟩
          have HLS := Lib.hid (restOf_less hC.from' hhl hne)
          have HON := Lib.hid hC.on
          have fk0 := B3.fr 0; have fk1 := B3.fr 1; have fk2 := B3.fr 2; have fk3 := B3.fr 3; have fk4 := B3.fr 4; have fk5 := B3.fr 5; have fk6 := B3.fr 6; have fk7 := B3.fr 7; have fk8 := B3.fr 8; have fk9 := B3.fr 9; have fk10 := B3.fr 10; have fk11 := B3.fr 11
          clear hE hne hC
          go_wp2_with fail
          obtain ⟨w9, hw9⟩ : ∃ w9, w9 = stAll wr (w.heap.size) (h) := ⟨_, rfl⟩
          have B9 := by have := B3.store (h); rw [← hw9] at this; exact this
          have he9 := by have := stAll_ext he (b := w.heap.size) (by omega) h; rw [← hw9] at this; exact this
          have B94 := by have := Blk.stAll B4 (b := w.heap.size) (by omega) h; rw [← hw9] at this; exact this
          unfold stAll at hw9
          rw [← hw9]
          clear hw9
          refine ⟨⟨h, B9, B94, HON, he9⟩, ?_⟩
          rw [hmeas.out, wRest_P B9]
          exact HLS.out
end Go.Proofs.YtajafdblmphglaaGreatDoor
