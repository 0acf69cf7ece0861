/- The program's UnsafeWitness. -/
import Derived.Test.YtloampfmlhmlhaaGreatDoorSafeN
import Derived.Test.YtloampfmlhmlhaaGreatDoorWalkFB
import Derived.Test.YtloampfmlhmlhaaGreatDoorPlainW
import Derived.Deep.DeepCutAuto
namespace Go.Proofs.YtloampfmlhmlhaaGreatDoor
set_option linter.unusedSimpArgs false
set_option linter.unusedVariables false
open Go Go.RowKit
set_option maxHeartbeats 1600000
set_option maxRecDepth 100000

theorem Tnd.cell {S : Nat → Prop} {w w' : World} (h : Tnd S w w') {p : Addr} (hp : ¬ S p.block) {v : Value} (hv : w.cell? p = some v) : w'.cell? p = some v := by
  have hlt := World.block_lt_of_cell? w p hv
  rw [← hv]
  unfold World.cell?
  rw [h.block p.block hlt hp]
theorem bitsOf_pow_all : ∀ q ∈ List.range 16, bitsOf (2 ^ q) = [q] := by decide +kernel
theorem bitsOf_pow {q : Nat} (h : q < 16) : bitsOf (2 ^ q) = [q] := bitsOf_pow_all q (List.mem_range.2 h)

/-- What the two functions of the search lean on. -/
structure GrW (w : World) (bm bs bt bw bv bu : Nat) (t : Task) (s : ByteArray) : Prop where
  fm : Blk w bm #[.int .i64 (t.prop.next.length : Nat)] 3
  fs : Blk w bs #[.int .i64 t.sys.states] 3
  ft : ∃ ve vn va, Blk w bt #[.int .i64 t.sys.alphabet, .int .i64 t.sys.states, ve, .int .i64 t.prop.alphabet, vn, va, .int .i64 t.alphabet] 31 ∧ BoolsV w va t.prop.accept
  fw : Blk w bw #[.string s] 9
  fv : ∃ vm, Blk w bv #[vm] 115 ∧ MovesV w vm t.sys
  fu : ∃ vu, Blk w bu #[vu] 117 ∧ TabV w vu (table t.prop)
theorem GrW.ext {w w' : World} {bm bs bt bw bv bu : Nat} {t : Task} {s : ByteArray} (h : GrW w bm bs bt bw bv bu t s) (he : Ext w w') : GrW w' bm bs bt bw bv bu t s := by
  obtain ⟨h1, h2, ⟨ve, vn, va, h3, h4⟩, h5, ⟨vm, h6, h7⟩, ⟨vu, h8, h9⟩⟩ := h
  exact ⟨h1.ext he, h2.ext he, ⟨ve, vn, va, h3.ext he, h4.mono he⟩, h5.ext he, ⟨vm, h6.ext he, h7.mono he⟩, ⟨vu, h8.ext he, h9.mono he⟩⟩

/-- The first k nodes that a node leads to. -/
def witTo (d' K M sp : Nat) (TO : List Nat) (k : Nat) : List Nat := (TO.take k).map fun r => (d' * K + r) * M + sp
theorem witTo_succ {d' K M sp k r : Nat} {TO : List Nat} (h : TO[k]? = some r) : witTo d' K M sp TO (k + 1) = witTo d' K M sp TO k ++ [(d' * K + r) * M + sp] := by
  unfold witTo; rw [List.take_add_one, h, List.map_append]; rfl
theorem witTo_len (d' K M sp k : Nat) (TO : List Nat) : (witTo d' K M sp TO k).length ≤ k := by
  unfold witTo; rw [List.length_map, List.length_take]; omega

theorem witNext_c (bm bs bt bw bv bu : Nat) (t : Task) (s : ByteArray) (node lt : Nat) (vo : Value) (out : List Int) (base : Nat) (w0 w : World) (h0 : GrW w0 bm bs bt bw bv bu t s) (hx0 : Ext w0 w) (hb0 : w0.heap.size ≤ base)
    (ht : taskValid t = true) (hw : wordIn s t.alphabet = true) (hn : node < (s.size + 1) * t.sys.states.toNat * t.prop.next.length) (hl : lt < 6) (hT : Deb w) (ho : IntsOwn 3 base w vo out) (hout : out.length + 16 ≤ 4294967296) (hbase : base ≤ w.heap.size) :
    Calls Tryz.prog 76 #[.int .i64 node, .int .i64 lt, vo, .pointer (some ⟨bm, 0, none⟩), .pointer (some ⟨bs, 0, none⟩), .pointer (some ⟨bt, 0, none⟩), .pointer (some ⟨bw, 0, none⟩), .pointer (some ⟨bv, 0, none⟩), .pointer (some ⟨bu, 0, none⟩)] w
      (Appends base vo (out ++ ints (witN t.sys t.prop t.alphabet (chars s) node (lt : Nat))) w) := by
  obtain ⟨hs, hp, hal⟩ := taskValid_facts ht
  obtain ⟨al0, al63⟩ := alpha_facts hal
  obtain ⟨sa0, sa63, st1, st16⟩ := valid_alpha hs
  obtain ⟨p0, p63, pn1, pn12, -⟩ := autoValid_facts hp
  have hsz : s.size ≤ 50000 := by simp only [wordIn, Bool.and_eq_true, decide_eq_true_eq] at hw; exact hw.1.2
  have HLW := Lib.hid (fun i (h : i < s.size) => wordIn_at hw h)
  have HS := Lib.hid hs
  have HP := Lib.hid hp
  have lbm := Nat.lt_of_lt_of_le h0.fm.lt hb0
  have lbs := Nat.lt_of_lt_of_le h0.fs.lt hb0
  obtain ⟨K, hK⟩ := Int.eq_ofNat_of_zero_le (show 0 ≤ t.sys.states by omega)
  have hKn : t.sys.states.toNat = K := by omega
  have hK1 : 1 ≤ K := by omega
  have hK16 : K ≤ 16 := by omega
  obtain ⟨M, hM⟩ : ∃ M, t.prop.next.length = M := ⟨_, rfl⟩
  have lbu : bu < base := by obtain ⟨vu, hu, -⟩ := h0.fu; exact Nat.lt_of_lt_of_le hu.lt hb0
  obtain ⟨vu0, hu0, htab0⟩ := h0.fu
  obtain ⟨au, cu, rfl, -, hrow0⟩ := htab0.open
  obtain ⟨d1, hd1⟩ : ∃ d1, Hid (d1 = node / M) := ⟨_, rfl⟩
  obtain ⟨d, hd⟩ : ∃ d, Hid (d = d1 / K) := ⟨_, rfl⟩
  obtain ⟨q, hq⟩ : ∃ q, Hid (q = d1 % K) := ⟨_, rfl⟩
  obtain ⟨p, hpp⟩ : ∃ p, Hid (p = node % M) := ⟨_, rfl⟩
  rw [hM] at pn1 pn12 hn
  rw [hKn] at hn
  have hqK : q < K := by rw [hq.out]; exact Nat.mod_lt _ hK1
  have hpM : p < M := by rw [hpp.out]; exact Nat.mod_lt _ pn1
  have hds : d ≤ s.size := by
    have h1 : node / M < (s.size + 1) * K := Nat.div_lt_of_lt_mul (by rw [Nat.mul_comm]; exact hn)
    have h2 : node / M / K < s.size + 1 := Nat.div_lt_of_lt_mul (by rw [Nat.mul_comm]; exact h1)
    rw [hd.out, hd1.out]; omega
  have hn40 : node ≤ 1099511627776 := by
    have h1 : (s.size + 1) * K ≤ 50001 * 16 := Nat.mul_le_mul (by omega) hK16
    have h2 : (s.size + 1) * K * M ≤ 50001 * 16 * 12 := Nat.mul_le_mul h1 pn12
    omega
  have hd140 : d1 ≤ 1099511627776 := by rw [hd1.out]; exact Nat.le_trans (Nat.div_le_self _ _) hn40
  obtain ⟨sp, hsp⟩ : ∃ sp, Hid (sp = step t.prop p (lt : Nat)) := ⟨_, rfl⟩
  have hspM : sp < 12 := by rw [hsp.out]; have := step_lt hp (q := p) (by rw [hM]; exact hpM) (lt : Nat); omega
  obtain ⟨b2, o2, rfl, hb2, hc2⟩ := hrow0 p _ (table_at t.prop p (by rw [hM]; exact hpM))
  have g2 := hc2 p _ (table_at t.prop p (by rw [hM]; exact hpM)) lt hl
  simp only [tabRow] at g2
  rw [← hsp.out] at g2
  have hb2' : b2 < base := Nat.lt_of_lt_of_le (World.block_lt_of_cell? w0 _ g2) hb0
  rw [table_len, hM] at hu0
  clear hc2 hrow0 htab0
  have hu := hu0.ext hx0
  replace g2 := hx0.cell g2
  obtain ⟨hm, hns, ⟨ve, vn, va, hBT, -⟩, hBW, ⟨vm, hBV, hMV⟩, -⟩ := h0.ext hx0
  rw [hM] at hm
  rw [hK] at hns hBT
  have HFIN : Hid (∀ d', doneN t.alphabet (chars s) d (lt : Nat) = [d'] → witN t.sys t.prop t.alphabet (chars s) node (lt : Nat) = (sysBits t.sys q (lt : Nat)).map fun r => (d' * K + r) * M + sp) := Lib.hid fun d' h => by
    unfold witN
    rw [hM, hKn, ← hd1.out, ← hd.out, ← hq.out, ← hpp.out, ← hsp.out, h]; simp
  have HNIL : Hid (doneN t.alphabet (chars s) d (lt : Nat) = [] → witN t.sys t.prop t.alphabet (chars s) node (lt : Nat) = []) := Lib.hid fun h => by
    unfold witN
    rw [hM, hKn, ← hd1.out, ← hd.out, h]; rfl
  have HHA := Lib.hid (fun w' => has_c t.alphabet (lt : Nat) w' al0 (by omega) (by omega))
  have HHS := Lib.hid (fun w' => has_c t.sys.alphabet (lt : Nat) w' sa0 (by omega) (by omega))
  have e1 : Int.tdiv (node : Int) (M : Int) = (d1 : Int) := by rw [hd1.out]; simp [Int.tdiv_eq_ediv_of_nonneg]
  have e2 : Int.tdiv (d1 : Int) (K : Int) = (d : Int) := by rw [hd.out]; simp [Int.tdiv_eq_ediv_of_nonneg]
  have e3 : Int.tmod (d1 : Int) (K : Int) = (q : Int) := by rw [hq.out]; simp [Int.tmod_eq_emod_of_nonneg]
  have e4 : Int.tmod (node : Int) (M : Int) = (p : Int) := by rw [hpp.out]; simp [Int.tmod_eq_emod_of_nonneg]
  have e5 : IntKind.i64.wrap (d1 : Int) = (d1 : Int) := by rw [IntKind.wrap_i64]; omega
  have e6 : IntKind.i64.wrap (d : Int) = (d : Int) := by rw [IntKind.wrap_i64]; omega
  have m0 : ¬ M = 0 := by omega
  have k0 : ¬ K = 0 := by omega
  obtain ⟨ao, co, rfl⟩ := ho.shape
  have hvob : ∀ g, (Value.slice ao out.length co).ownBlock = some g → base ≤ g ∧ g < w.heap.size := fun g hg => World.ownsRow.lt ho g hg
  have D1 := fun d os => cell_regrown (hm.cell 0 rfl) d os
  have D2 := fun d os => cell_regrown (hns.cell 0 rfl) d os
  have HM0 := Lib.hid hM
  have HK0 := Lib.hid hK
  have HKN := Lib.hid hKn
  clear hM hK hKn h0 hu0 sa0 sa63 st1 st16 p0 p63 hs hp
  go_enter Tryz.func76, Tryz.ntmps76
  go_wp2_with fail
  obtain ⟨Kc, HKc⟩ : ∃ Kc : FuncId → Array Value → World → Value → World → Prop, Hid (Kc = fun (_ : FuncId) (_ : Array Value) (w0 : World) (v : Value) (w' : World) => Ext w0 w') := ⟨_, rfl⟩
  refine wp_region_ext (Kc := Kc) 16 (by kernel_rfl) (by kernel_rfl) ?_
  simp only [List.take_succ_cons, List.take_zero]
  repeat (refine WalkE.pure rfl (fun K hK => ?_); simp only [PureDo]; go_simp; refine hK _ ?_; clear hK K)
  refine WalkE.nil (fun wn hwn hmn => ?_)
  simp only [List.drop_succ_cons, List.drop_zero, List.drop_nil]
  clear hmn HKc
  have hx : Ext w wn := (Ext.drew _).trans hwn
  clear hwn D1 D2 e1 e2 e3 e4 e5 e6
  replace hm := hm.ext hx
  replace hns := hns.ext hx
  replace hBT := hBT.ext hx
  replace hBW := hBW.ext hx
  replace hBV := hBV.ext hx
  replace hMV := hMV.mono hx
  replace hu := hu.ext hx
  replace g2 := hx.cell g2
  replace ho := IntsOwn.ext ho hx
  have t6 := hBT.cell 6 rfl
  have t0 := hBT.cell 0 rfl
  have cw := hBW.cell 0 rfl
  go_upto_if 35 with (go_at_call 53; refine (HHA.out _).mono ?_; rintro e w' ⟨rfl, rfl⟩)
  go_cut [13] (fun v13 wc => ∃ d' : Nat, v13 = .int .i64 d' ∧ d' ≤ s.size ∧ Hid (doneN t.alphabet (chars s) d (lt : Nat) = [d']) ∧ wc = wn)
  case first =>
    cases hb : bit t.alphabet (lt : Nat) with
    | false =>
      have HD : Hid (doneN t.alphabet (chars s) d (lt : Nat) = [d]) := Lib.hid (by unfold doneN; rw [hb]; rfl)
      go_wp2_with fail
      go_meet
      case rel => exact ⟨d, rfl, hds, HD, rfl⟩
    | true =>
      have HBT := Lib.hid hb
      by_cases hde : d = s.size
      · have HN : Hid (doneN t.alphabet (chars s) d (lt : Nat) = []) := Lib.hid (by unfold doneN; rw [HBT.out, List.getElem?_eq_none (by rw [chars_len]; omega)]; rfl)
        have heq : ((d : Int) == (s.size : Int)) = true := by simp; omega
        clear hde hb
        go_wp2_with fail
        go_ret
        refine ⟨_, rfl, ?_, Tnd.ext hx, fun g hg => .inl hg⟩
        rw [HNIL.out HN.out]; simpa [ints] using ho
      · have hdlt : d < s.size := by omega
        have hneq : ((d : Int) == (s.size : Int)) = false := by simp; omega
        obtain ⟨l0, l6⟩ := bit_range al63 (HLW.out d hdlt)
        obtain ⟨j, hj⟩ := Int.eq_ofNat_of_zero_le l0
        have HLA := Lib.hid (letterAt_in s d j wn hdlt (by omega) hj (by omega))
        have HAT : Hid ((chars s)[d]? = some (j : Int)) := Lib.hid (by rw [chars_at s d hdlt, hj])
        clear l0 l6 hj hde hb
        by_cases hjl : j = lt
        · subst hjl
          have HD : Hid (doneN t.alphabet (chars s) d (j : Nat) = [d + 1]) := Lib.hid (by unfold doneN; rw [HBT.out, HAT.out]; simp)
          have hjj : ((j : Int) != (j : Int)) = false := by simp
          go_wp2_with (go_at_call 54; refine HLA.out.mono ?_; rintro e w' ⟨rfl, rfl⟩)
          go_meet
          case rel => exact ⟨d + 1, by go_num, by omega, HD, rfl⟩
        · have HN : Hid (doneN t.alphabet (chars s) d (lt : Nat) = []) := Lib.hid (by unfold doneN; rw [HBT.out, HAT.out]; simp; omega)
          have hjj : ((j : Int) != (lt : Int)) = true := by simp; omega
          clear hjl
          go_wp2_with (go_at_call 54; refine HLA.out.mono ?_; rintro e w' ⟨rfl, rfl⟩)
          go_ret
          refine ⟨_, rfl, ?_, Tnd.ext hx, fun g hg => .inl hg⟩
          rw [HNIL.out HN.out]; simpa [ints] using ho
  case rest =>
    obtain ⟨d', rfl, hd's, HD, rfl⟩ := hcut
    have HMV := Lib.hid hMV
    obtain ⟨bmv, csm, rfl, hMB⟩ := hMV
    have hq16 : q < 16 := by omega
    have gmv := hMB.get hq16 hl
    rw [mv_all] at gmv
    have hst16 := stepM_lt HS.out (2 ^ q) (lt : Nat)
    have hpw := wrap_pow q hq16
    have hp16 := pow_lt16 hq16
    have cv := hBV.cell 0 rfl
    have hq16i : (q : Int) < 16 := by omega
    have hl6i : (lt : Int) < 6 := by omega
    go_upto_if 56 with (go_at_call 53; refine (HHS.out _).mono ?_; rintro e w' ⟨rfl, rfl⟩)
    go_cut [16] (fun v16 wd => ∃ sset : Nat, v16 = .int .i64 sset ∧ sset < 65536 ∧ Hid (bitsOf sset = sysBits t.sys q (lt : Nat)) ∧ wd = wc)
    case first =>
      cases hb : bit t.sys.alphabet (lt : Nat) with
      | false =>
        have HB : Hid (bitsOf (2 ^ q) = sysBits t.sys q (lt : Nat)) := Lib.hid (by unfold sysBits; rw [hb, bitsOf_pow hq16]; rfl)
        go_wp2_with fail
        go_meet
        case rel => exact ⟨2 ^ q, by simp [hpw], hp16, HB, rfl⟩
      | true =>
        have HB : Hid (bitsOf (stepM t.sys (2 ^ q) (lt : Nat)) = sysBits t.sys q (lt : Nat)) := Lib.hid (by unfold sysBits; rw [hb]; rfl)
        go_wp2_with fail
        go_meet
        case rel => exact ⟨_, rfl, hst16, HB, rfl⟩
    case rest =>
      obtain ⟨sset, rfl, hss, HB, rfl⟩ := hcut
      clear gmv hMB hst16 hpw hp16 cv cw t0 t6 HMV hBV hBW hBT
      go_wp2_with fail
      refine (members_c sset _ hss (hT.ext hx)).mono ?_
      rintro e w5 ⟨vl, rfl, he5, hvl⟩
      rw [HB.out] at hvl
      obtain ⟨TO, hTO⟩ : ∃ TO, Hid (TO = sysBits t.sys q (lt : Nat)) := ⟨_, rfl⟩
      rw [← hTO.out] at hvl
      have hTOl : TO.length ≤ 16 := by rw [hTO.out]; exact sysBits_len _ _ _
      have hTOb : Hid (∀ r ∈ TO, r < K) := Lib.hid (by rw [hTO.out, ← HKN.out]; exact sysBits_small HS.out (by rw [HKN.out]; exact hqK) _)
      have hxw := hx.trans he5
      have hvlb : ∀ g, vl.ownBlock = some g → w.heap.size ≤ g := fun g hg => Nat.le_trans hx.size (World.ownsRow.lt hvl.own g hg).1
      obtain ⟨aL, cL, rfl⟩ := hvl.shape
      have hnL : (Value.slice aL (ints TO).length cL).ownBlock = (Value.slice aL TO.length cL).ownBlock := by rw [ints_len]
      have hll := ints_len TO
      replace hm := hm.ext he5
      replace hns := hns.ext he5
      replace hu := hu.ext he5
      replace g2 := he5.cell g2
      replace ho := IntsOwn.ext ho he5
      clear he5
      rw [hll] at hvlb ⊢
      go_wp2_with fail
      go_loopw [2, 67] (fun v2 i wr => ∃ k : Nat, k ≤ TO.length ∧ i = .int .i64 k ∧ IntsOwn 3 base wr v2 (out ++ ints (witTo d' K M sp TO k)) ∧ Tnd (SlB (.slice ao out.length co)) w5 wr ∧ (∀ g, v2.ownBlock = some g → (Value.slice ao out.length co).ownBlock = some g ∨ w5.heap.size ≤ g)) (fun _ i _ => TO.length - (intOf i).toNat)
      case atStart => exact ⟨0, by omega, rfl, by simpa [witTo, ints] using ho, Tnd.refl _ _, fun g hg => .inl hg⟩
      case round =>
        obtain ⟨k, hk, rfl, hown, htn, hloc⟩ := hrel
        obtain ⟨LL, hLL⟩ : ∃ LL, Hid (LL = out ++ ints (witTo d' K M sp TO k)) := ⟨_, rfl⟩
        have hwlen := witTo_len d' K M sp k TO
        have hol : LL.length ≤ out.length + k := by rw [hLL.out, List.length_append, ints_len]; omega
        rw [← hLL.out] at hown
        obtain ⟨a2, c2, rfl⟩ := hown.shape
        have hwl := hxw.size
        by_cases hlt : k < TO.length
        · obtain ⟨r, hr⟩ : ∃ r, TO[k]? = some r := ⟨_, List.getElem?_eq_getElem hlt⟩
          obtain ⟨gL, rfl, -⟩ := own_some hvl.own (by rw [hll]; omega)
          have hgL := hvlb gL rfl
          have gl := own_cell hvl.own (j := k) (u := .int .i64 r) (by rw [List.getElem?_map, ints_at hr]; rfl)
          have hng : ∀ b, b < base → ¬ SlB (.slice ao out.length co) b := fun b hb h => by have := (hvob b h).1; omega
          have hngL : ¬ SlB (.slice ao out.length co) gL := fun h => by have := (hvob gL h).2; omega
          replace gl := htn.cell (p := ⟨gL, k, none⟩) hngL gl
          have hrK := hTOb.out r (List.mem_of_getElem? hr)
          have HWS := Lib.hid (witTo_succ (d' := d') (K := K) (M := M) (sp := sp) hr)
          have cm := (hm.tnd htn (hng _ lbm)).cell 0 rfl
          have cs := (hns.tnd htn (hng _ lbs)).cell 0 rfl
          have cu5 := (hu.tnd htn (hng _ lbu)).cell 0 rfl
          have g3 := htn.cell (p := ⟨b2, o2 + p * 6 + lt, none⟩) (hng _ hb2') (by simpa using g2)
          clear hr
          go_wp2_with fail
          have hr16 : r ≤ 16 := by omega
          have hm1 : d' * K ≤ 50000 * 16 := Nat.mul_le_mul (by omega) hK16
          have hm2 : (d' * K + r) * M ≤ 800016 * 12 := Nat.mul_le_mul (by omega) pn12
          have e1 : IntKind.i64.wrap ((d' : Int) * (K : Int)) = (d' : Int) * (K : Int) := by rw [show (d' : Int) * (K : Int) = ((d' * K : Nat) : Int) by simp, IntKind.wrap_i64]; omega
          have e2 : IntKind.i64.wrap ((d' : Int) * (K : Int) + (r : Int)) = (d' : Int) * (K : Int) + (r : Int) := by rw [show (d' : Int) * (K : Int) + (r : Int) = ((d' * K + r : Nat) : Int) by simp, IntKind.wrap_i64]; omega
          have e3 : IntKind.i64.wrap (((d' : Int) * (K : Int) + (r : Int)) * (M : Int)) = ((d' : Int) * (K : Int) + (r : Int)) * (M : Int) := by rw [show ((d' : Int) * (K : Int) + (r : Int)) * (M : Int) = (((d' * K + r) * M : Nat) : Int) by simp, IntKind.wrap_i64]; omega
          have e4 : IntKind.i64.wrap (((d' : Int) * (K : Int) + (r : Int)) * (M : Int) + (sp : Int)) = (((d' * K + r) * M + sp : Nat) : Int) := by rw [show ((d' : Int) * (K : Int) + (r : Int)) * (M : Int) + (sp : Int) = (((d' * K + r) * M + sp : Nat) : Int) by simp, IntKind.wrap_i64]; omega
          have i1 : (p : Int) < (M : Int) := by omega
          have D1 := fun d os => cell_regrown cm d os
          have D2 := fun d os => cell_regrown cs d os
          have D3 := fun d os => cell_regrown cu5 d os
          have D4 := fun d os => cell_regrown g3 d os
          have HOWN := Lib.hid hown
          have hbw : base ≤ wr.heap.size := Nat.le_trans (Nat.le_trans hbase hwl) htn.size
          clear cm cs cu5 g3 hown
          generalize hXV : (d' * K + r) * M + sp = xv at e4 HWS
          obtain ⟨Kc, HKc⟩ : ∃ Kc : FuncId → Array Value → World → Value → World → Prop, Hid (Kc = fun (_ : FuncId) (_ : Array Value) (w0 : World) (v : Value) (w' : World) => Ext w0 w') := ⟨_, rfl⟩
          refine wp_region_ext (Kc := Kc) 16 (by kernel_rfl) (by kernel_rfl) ?_
          simp only [List.take_succ_cons, List.take_zero]
          repeat (refine WalkE.pure rfl (fun K hK => ?_); simp only [PureDo]; go_simp; refine hK _ ?_; clear hK K)
          refine WalkE.step (fun K hK wd hwd hdd => ?_)
          simp only [OpDo, OpSafe, OpOut]
          go_simp
          refine ⟨Ext.alloc _ _, hK _ _ ?_⟩
          clear hK K hdd
          refine WalkE.nil (fun wz hwz hmz => ?_)
          simp only [List.drop_succ_cons, List.drop_zero, List.drop_nil]
          have hbz := (Blk.new wd #[.int .i64 (xv : Int)] 3).ext (hmz 15 (by omega))
          clear hmz HKc D1 D2 D3 D4 e1 e2 e3 e4 hwd
          have hx9 : Ext wr wz := (Ext.drew _).trans hwz
          have hoz := IntsOwn.ext HOWN.out hx9
          have hxv : IntsV wz (.slice (some ⟨wd.heap.size, 0, none⟩) 1 1) [(xv : Int)] := by
            refine ⟨_, 1, rfl, by simp, by unfold maxLen; omega, fun _ => ⟨_, _, rfl, hbz.lt, fun i y hy => ?_⟩⟩
            cases i with
            | zero => simp at hy; subst hy; exact hbz.cell 0 rfl
            | succ i => simp at hy
          clear hbz
          generalize wd.heap.size = bq at hxv ⊢
          clear wd
          go_wp2_with (at_builtin; refine appInts rfl rfl Tryz.underlying93 infoInt hoz rfl rfl hxv (by simp; omega) (by decide) (Nat.le_trans hbw hx9.size) ?_; intro v1 w1 hown1 hgr1 hloc1)
          refine ⟨⟨k + 1, by omega, by go_num, by rw [HWS.out, ints_append, ← List.append_assoc, ← hLL.out]; exact hown1, ?_, ?_⟩, by simp [intOf]; omega⟩
          · have ht9 := htn.trans (Tnd.ext hx9)
            refine ⟨hgr1.os.trans ht9.os, hgr1.tape.trans ht9.tape, hgr1.output.trans ht9.output, Nat.le_trans ht9.size hgr1.size, fun b hb hnb => ?_⟩
            refine (hgr1.block b (Nat.lt_of_lt_of_le hb ht9.size) fun he => ?_).trans (ht9.block b hb hnb)
            rcases hloc b he.symm with h1 | h1
            · exact hnb h1
            · omega
          · intro g hg
            rcases hloc1 with h3 | h3
            · exact hloc g (h3 ▸ hg)
            · have h4 : some wz.heap.size = some g := h3.symm.trans hg
              cases h4
              exact .inr (Nat.le_trans htn.size hx9.size)
        · obtain rfl : k = TO.length := by omega
          go_wp2_with fail
          go_ret
          refine ⟨_, rfl, ?_, (Tnd.ext hxw).trans htn, fun g hg => (hloc g hg).imp id fun h => Nat.le_trans hwl h⟩
          rw [HFIN.out d' HD.out, ← hTO.out]
          have : witTo d' K M sp TO TO.length = TO.map fun r => (d' * K + r) * M + sp := by unfold witTo; rw [List.take_length]
          rw [← this, ← hLL.out]; exact hown

theorem enter_wnext : ∀ args w, (callFunc 76 args).run Tryz.prog w = .ok (.enter 76 args) w := fun _ _ => rfl
theorem enter_wgoal : ∀ args w, (callFunc 78 args).run Tryz.prog w = .ok (.enter 78 args) w := fun _ _ => rfl

theorem witGoal_c (bm bs bt bw bv bu : Nat) (t : Task) (s : ByteArray) (node : Nat) (w : World) (h0 : GrW w bm bs bt bw bv bu t s) (hp : autoValid t.prop = true) (hn : node ≤ 1099511627776) :
    Calls Tryz.prog 78 #[.int .i64 node, .pointer (some ⟨bt, 0, none⟩), .pointer (some ⟨bm, 0, none⟩)] w (Grows (.bool (witG t.prop node)) w) := by
  obtain ⟨hm, -, ⟨ve, vn, va, hBT, hva⟩, -⟩ := h0
  obtain ⟨aa, ca, rfl, -, hr3⟩ := hva.open
  obtain ⟨-, -, m1, m2, ma⟩ := autoValid_facts hp
  obtain ⟨M, hMd⟩ : ∃ M, Hid (M = t.prop.next.length) := ⟨_, rfl⟩
  obtain ⟨qp, hqp⟩ : ∃ qp, Hid (qp = node % M) := ⟨_, rfl⟩
  have tp := accepts_at hp (q := qp) (by rw [hqp.out, hMd.out]; exact Nat.mod_lt _ m1)
  rw [← hMd.out] at hm m1 m2 ma
  have hqpM : qp < M := by rw [hqp.out]; exact Nat.mod_lt _ m1
  have lp := (List.getElem?_eq_some_iff.1 tp).1
  obtain ⟨b2, o2, rfl, -, hc2⟩ := hr3 qp _ tp
  have g2 : w.cell? ⟨b2, o2 + qp, none⟩ = some (.bool (accepts t.prop qp)) := by have := hc2 qp _ tp; rw [Nat.mul_one] at this; exact this
  have e3 : Int.tmod (node : Int) (M : Int) = (qp : Int) := by rw [hqp.out]; simp [Int.tmod_eq_emod_of_nonneg]
  have m0 : ¬ M = 0 := by omega
  have i2 : (qp : Int) < (t.prop.accept.length : Int) := by omega
  have hG : Hid (witG t.prop node = !accepts t.prop qp) := Lib.hid (by unfold witG; rw [← hMd.out, ← hqp.out])
  generalize accepts t.prop qp = x2 at g2 hG
  have D1 := hBT.cell 5 rfl
  have D2 := hm.cell 0 rfl
  clear hr3 hc2 tp hva ma
  go_enter Tryz.func78, Tryz.ntmps78
  go_wp2_with fail
  go_quiet (fail)
  go_wp2_with fail
  go_ret
  exact Grows.mk (by rw [hG.out]; rfl) (Ext.drewN _ _)

theorem witSize {t : Task} (ht : taskValid t = true) {s : ByteArray} (hw : wordIn s t.alphabet = true) : (s.size + 1) * t.sys.states.toNat * t.prop.next.length ≤ 9600192 := by
  obtain ⟨hs, hp, -⟩ := taskValid_facts ht
  have hsz : s.size ≤ 50000 := by simp only [wordIn, Bool.and_eq_true, decide_eq_true_eq] at hw; exact hw.1.2
  have h1 := valid_alpha hs
  have h2 := autoValid_facts hp
  have h3 : (s.size + 1) * t.sys.states.toNat ≤ 50001 * 16 := Nat.mul_le_mul (by omega) (by omega)
  exact Nat.mul_le_mul h3 h2.2.2.2.1
theorem witLen {S : Sys} {P : Auto} (al : Int) (u : List Int) (node : Nat) (l : Int) : (witN S P al u node l).length ≤ 16 := by
  have h1 := done_len al u (node / P.next.length / S.states.toNat) l
  have h2 := sysBits_len S (node / P.next.length % S.states.toNat) l
  unfold witN
  generalize doneN al u (node / P.next.length / S.states.toNat) l = D at h1 ⊢
  match D, h1 with
  | [], _ => simp
  | [d], _ => simpa using h2
  | d :: e :: D, h1 => simp at h1
theorem nextIs_wit {w0 : World} {bm bs bt bw bv bu : Nat} {t : Task} {s : ByteArray} (h0 : GrW w0 bm bs bt bw bv bu t s) (ht : taskValid t = true) (hw : wordIn s t.alphabet = true) (hT : Deb w0) {al : Int} (hal : al ≤ 63) :
    NextIs w0 ((s.size + 1) * t.sys.states.toNat * t.prop.next.length) 16 (letters al) (.func (.func 76) #[] #[.pointer (some ⟨bm, 0, none⟩), .pointer (some ⟨bs, 0, none⟩), .pointer (some ⟨bt, 0, none⟩), .pointer (some ⟨bw, 0, none⟩), .pointer (some ⟨bv, 0, none⟩), .pointer (some ⟨bu, 0, none⟩)]) (witN t.sys t.prop t.alphabet (chars s)) := by
  obtain ⟨hs, hp, -⟩ := taskValid_facts ht
  have hlt := fun k (hk : k < (s.size + 1) * t.sys.states.toNat * t.prop.next.length) l => wit_lt hs hp t.alphabet (chars s) (node := k) (by rw [chars_len]; exact hk) l
  simp only [chars_len] at hlt
  refine ⟨⟨_, _, rfl, enter_wnext, fun w' k l vo out b hx hk hl ho hb0 hb1 hout => ?_⟩, fun k l _ _ => witLen _ _ _ _, fun k l hk _ => hlt k hk l⟩
  obtain ⟨hl0, hl6⟩ := letters_lt6 hal l hl
  obtain ⟨lt, rfl⟩ := Int.eq_ofNat_of_zero_le hl0
  exact witNext_c bm bs bt bw bv bu t s k lt vo out b w0 w' h0 hx hb0 ht hw hk (by omega) (hT.ext hx) ho hout hb1
theorem goalIs_wit {w0 : World} {bm bs bt bw bv bu : Nat} {t : Task} {s : ByteArray} (h0 : GrW w0 bm bs bt bw bv bu t s) (hp : autoValid t.prop = true) {n : Nat} (hn : n ≤ 1099511627776) :
    GoalIs w0 n (.func (.func 78) #[] #[.pointer (some ⟨bt, 0, none⟩), .pointer (some ⟨bm, 0, none⟩)]) (witG t.prop) :=
  ⟨_, _, rfl, enter_wgoal, fun w' k hx hk => witGoal_c bm bs bt bw bv bu t s k w' (h0.ext hx) hp (by omega)⟩

theorem uw_none {t : Task} {s : ByteArray} (h : (taskValid t && wordIn s t.alphabet) = false ∨ safeWord t s = true) : UW t s none := by
  have hu : uwOf t s = none := by
    rcases uw_cases t s with ⟨-, h2⟩ | ⟨h1, -⟩
    · exact h2
    · rcases h with h | h
      · rw [h] at h1; cases h1
      · simp only [Bool.and_eq_true] at h1
        rw [safe_uw h1.1 h1.2] at h
        simpa using h
  rw [← hu]; exact uw_spec t s
end Go.Proofs.YtloampfmlhmlhaaGreatDoor
