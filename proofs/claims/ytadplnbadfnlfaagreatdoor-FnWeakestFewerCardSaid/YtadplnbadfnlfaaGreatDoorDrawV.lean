/- Part of this seat's proofs, cut to what its law needs. -/

import Derived.Test.YtadplnbadfnlfaaGreatDoorDrawK
import Derived.Test.YtadplnbadfnlfaaGreatDoorDrawU
import Derived.Test.YtadplnbadfnlfaaGreatDoorSubS

namespace Go.Proofs.YtadplnbadfnlfaaGreatDoor
set_option linter.unusedSimpArgs false
set_option linter.unusedVariables false
open Go.RowKit
set_option maxHeartbeats 1000000
set_option maxRecDepth 100000

variable {D D' : Nat → Prop} {g q q' : Nat} {w w' : World}

theorem AutomatonValid_t {v : Value} {x : Auto} {w : World} {b : Bool} (hb : autoValid x = b) (hv : AutoV w v x) :
    Calls Tryz.prog 202 #[v] w (Grows (.bool b) w) := hb ▸ (AutomatonValid_s v x w hv).mono fun _ _ h => h

theorem FormatAutomaton_t (v : Value) (x : Auto) (w : World) (hv : AutoV w v x) : Calls Tryz.prog 266 #[v] w (Text 10000 w) := by
  obtain ⟨vn, va, rfl, h1, h2⟩ := hv
  have HV := Lib.hid (show ∀ w', Ext w w' → AutoV w' (.agg #[.int .i64 x.alphabet, vn, va]) x from fun w' he => ⟨vn, va, rfl, h1.mono he, h2.mono he⟩)
  obtain ⟨an, cn, rfl, -, hc⟩ := h1.open
  obtain ⟨aa, ca, rfl, -, hd⟩ := h2.open
  have HC := Lib.hid hc
  have HDA := Lib.hid hd
  clear hc hd h1 h2
  have he := Ext.alloc w (.cells #[.int .i64 x.alphabet, .slice an x.next.length cn, .slice aa x.accept.length ca] 31)
  have hB := Blk.new w #[.int .i64 x.alphabet, .slice an x.next.length cn, .slice aa x.accept.length ca] 31
  go_enter Tryz.func266, Tryz.ntmps266
  go_wp2_with fail
  generalize w.alloc (.cells #[.int .i64 x.alphabet, .slice an x.next.length cn, .slice aa x.accept.length ca] 31) = w1 at he hB ⊢
  by_cases hval : autoValid x = true
  case neg =>
    have hval' : autoValid x = false := by simpa using hval
    refine (AutomatonValid_t hval' (HV.out _ he)).mono ?_
    rintro e w2 ⟨rfl, he2⟩
    go_wp2_with fail
    go_ret
    exact ⟨_, rfl, by decide, he.trans he2⟩
  refine (AutomatonValid_t hval (HV.out _ he)).mono ?_
  rintro e w2 ⟨rfl, he2⟩
  have hB := hB.ext he2
  have he := he.trans he2
  have f := autoValid_facts hval
  obtain ⟨al, hal1⟩ := Int.eq_ofNat_of_zero_le f.1
  have hal2 : al ≤ 63 := by omega
  have hn12 : x.next.length ≤ 12 := f.2.2.2.1
  have hac : x.accept.length = x.next.length := f.2.2.2.2
  have HROW := Lib.hid (fun q hq => autoValid_row hval (q := q) hq)
  have HAC := Lib.hid hac
  have hnl6 : nletters x.alphabet ≤ 6 := lettersTo_len _ 6
  have HNL := Lib.hid hnl6
  clear hval he2 f hnl6 hac
  have c0 := hB.cell 0 rfl
  rw [hal1] at c0
  go_wp2_with fail
  refine (FormatAlphabet_t al _ hal2).mono ?_
  rintro e w3 ⟨t, rfl, ht, he3⟩
  have hB := hB.ext he3
  have he := he.trans he3
  clear c0 he3 hal1 HV
  go_wp2_with fail
  go_loopw [3, 4] (fun s i wr => ∃ (k : Nat) (t : ByteArray), k ≤ x.next.length ∧ i = .int .i64 k ∧ s = .string t ∧ t.size ≤ 6 + k * 140 ∧ Blk wr w.heap.size #[.int .i64 x.alphabet, .slice an x.next.length cn, .slice aa x.accept.length ca] 31 ∧ Ext w wr) (fun _ i _ => x.next.length - (intOf i).toNat)
  case atStart => exact ⟨0, t, by omega, rfl, rfl, by omega, hB, he⟩
  case round =>
    clear hB he
    obtain ⟨k, t, hk, rfl, rfl, ht, hB, he⟩ := hrel
    have c1 := hB.cell 1 rfl
    have c2 := hB.cell 2 rfl
    by_cases hlt : k < x.next.length
    · obtain ⟨b, hb⟩ : ∃ b, x.accept[k]? = some b := ⟨_, List.getElem?_eq_getElem (by rw [HAC.out]; exact hlt)⟩
      obtain ⟨bb, off, rfl, -, hcb⟩ := HDA.out k b hb
      have g1 : w.cell? ⟨bb, off + k * 1, none⟩ = some (.bool b) := hcb k b hb
      rw [Nat.mul_one] at g1
      have g2 := he.cell g1
      obtain ⟨row, hrow, hrl, hrb⟩ := HROW.out k hlt
      obtain ⟨br, offr, rfl, -, hcr⟩ := HC.out k row hrow
      obtain ⟨vr, g3, hvr⟩ := hcr k row hrow
      rw [Nat.mul_one] at g3
      obtain ⟨ar, cr, rfl, -, hnr⟩ := hvr.open
      have g4 := he.cell g3
      have HNR := Lib.hid hnr
      have HG3 := Lib.hid g3
      have HRB := Lib.hid hrb
      have hr6 : row.length ≤ 6 := by have := HNL.out; omega
      have hlt1 : (k : Int) < (x.next.length : Int) := by omega
      have hlt2 : (k : Int) < (x.accept.length : Int) := by have := HAC.out; omega
      have hov1 : ¬ 9223372036854775807 < t.size + 2 := by omega
      clear hcb hcr hb hrow hnr hvr hrb hrl
      cases b
      all_goals
        go_upto_region 11 with fail
        go_cut [3, 6] (fun s z wc => ∃ t' : ByteArray, s = .string t' ∧ t'.size ≤ 6 + k * 140 + 2 ∧ z = .int .i64 0 ∧ wc = wr)
        case first =>
          go_wp2_with fail
          go_meet
          case rel => exact ⟨_, rfl, by rw [ByteArray.size_append]; show _ + 2 ≤ _; omega, rfl, rfl⟩
        case rest =>
          obtain ⟨t', rfl, ht', rfl, rfl⟩ := hcut
          go_wp2_with fail
          go_loopw [3, 6] (fun s j wz => ∃ (p : Nat) (t2 : ByteArray), p ≤ row.length ∧ j = .int .i64 p ∧ s = .string t2 ∧ t2.size ≤ 6 + k * 140 + 2 + p * 21 ∧ Blk wz w.heap.size #[.int .i64 x.alphabet, .slice (some ⟨br, offr, none⟩) x.next.length cn, .slice (some ⟨bb, off, none⟩) x.accept.length ca] 31 ∧ Ext w wz) (fun _ j _ => row.length - (intOf j).toNat)
          case atStart => exact ⟨0, t', by omega, rfl, rfl, by omega, hB, he⟩
          case round =>
            clear hB he c1 c2 g2 g4
            obtain ⟨p, t2, hp, rfl, rfl, ht2, hB, he⟩ := hrel
            have c1 := hB.cell 1 rfl
            have g4 := he.cell HG3.out
            by_cases hpl : p < row.length
            · obtain ⟨y, hy⟩ : ∃ y, row[p]? = some y := ⟨_, List.getElem?_eq_getElem hpl⟩
              obtain ⟨hy0, hy1⟩ := HRB.out p y hy
              obtain ⟨yn, rfl⟩ := Int.eq_ofNat_of_zero_le hy0
              obtain ⟨b5, off5, rfl, -, hc5⟩ := HNR.out p _ hy
              have g5 := he.cell (hc5 p _ hy)
              rw [Nat.mul_one] at g5
              have hpi : (p : Int) < (row.length : Int) := by omega
              have hk12 : k * 140 ≤ 1680 := by omega
              have hov2 : ¬ 9223372036854775807 < t2.size + 1 := by omega
              clear hc5 hy
              by_cases hp0 : 0 < p
              · have hp0' : (0 : Int) < (p : Int) := by omega
                go_wp2_with fail
                refine (l19Dec_p yn _ (by omega)).mono ?_
                rintro e w5 ⟨t3, rfl, ht3, he5⟩
                have hov3 : ¬ 9223372036854775807 < t2.size + 1 + t3.size := by omega
                go_wp2_with fail
                exact ⟨⟨p + 1, _, by omega, by go_num, rfl, by rw [ByteArray.size_append, ByteArray.size_append]; show t2.size + 1 + t3.size ≤ _; omega, hB.ext he5, he.trans he5⟩, by simp [intOf]; omega⟩
              · have hp0' : ¬ (0 : Int) < (p : Int) := by omega
                go_wp2_with fail
                refine (l19Dec_p yn _ (by omega)).mono ?_
                rintro e w5 ⟨t3, rfl, ht3, he5⟩
                have hov3 : ¬ 9223372036854775807 < t2.size + t3.size := by omega
                go_wp2_with fail
                exact ⟨⟨p + 1, _, by omega, by go_num, rfl, by rw [ByteArray.size_append]; omega, hB.ext he5, he.trans he5⟩, by simp [intOf]; omega⟩
            · obtain rfl : p = row.length := by omega
              go_wp2_with fail
              exact ⟨⟨k + 1, t2, by omega, by go_num, rfl, by omega, hB, he⟩, by simp [intOf]; omega⟩
    · obtain rfl : k = x.next.length := by omega
      go_wp2_with fail
      go_ret
      exact ⟨_, rfl, by omega, he⟩
end Go.Proofs.YtadplnbadfnlfaaGreatDoor

namespace Go.Proofs.YtadplnbadfnlfaaGreatDoor
set_option linter.unusedSimpArgs false
set_option linter.unusedVariables false
open Go.RowKit
set_option maxHeartbeats 1000000
set_option maxRecDepth 100000
attribute [local go_sem ↓] Go.wp_at_zero Go.wp_at_succ

variable {D D' D'' : Nat → Prop} {g q q' : Nat} {w w' : World}

def CutEnd (s : ByteArray) (w : World) (e : Ending) (w' : World) : Prop := ∃ (v : Value) (l : List ByteArray), e = .returned v ∧ Ext w w' ∧ 1 ≤ l.length ∧ l.length ≤ s.size + 1 ∧ (∀ x ∈ l, x.size ≤ s.size) ∧ w'.ownsRow w.heap.size 9 1 v l.length (l.map Value.string)
theorem l19Cut_x (s : ByteArray) (c : Int) (w : World) (hs : s.size ≤ 1000) : Calls Tryz.prog 214 #[.string s, .int .u8 c] w (CutEnd s w) := by
  have hP0 := (Pool.nil w.heap.size w).addLit 9 1 (Nat.le_refl _) (Nat.le_refl _) (Ext.alloc w (.cells #[] 9)) (Blk.new _ _ _)
  go_enter Tryz.func214, Tryz.ntmps214
  go_wp2_with fail
  go_loopw [5, 6, 7, 20, 21, 22, 23, 24] (fun v f i _ _ _ _ _ wr => ∃ (k fr : Nat) (l : List ByteArray), k ≤ s.size + 1 ∧ i = .int .i64 k ∧ f = .int .i64 fr ∧ fr ≤ k ∧ l.length ≤ k ∧ (k = s.size + 1 → 1 ≤ l.length) ∧ Hid (∀ x ∈ l, x.size ≤ s.size) ∧ Pool w.heap.size wr [⟨9, 1, v, l.length, l.map Value.string⟩] ∧ Ext w wr) (fun _ _ i _ _ _ _ _ _ => s.size + 1 - (intOf i).toNat)
  case atStart => exact ⟨0, 0, [], by omega, rfl, rfl, by omega, by simp, fun h => by omega, Lib.hid (fun x hx => by cases hx), hP0, Ext.alloc _ _⟩
  case round =>
    clear hP0
    obtain ⟨k, fr, l, hk, rfl, rfl, hf, hn, hn1, HL, hP, hx⟩ := hrel
    obtain ⟨av, cv, rfl⟩ := own_any' (Pool.hd hP)
    have hsz := hx.size
    have hn32 : l.length ≤ 4294967296 := by omega
    by_cases hle : k ≤ s.size
    · have hpc : (s.extract fr k).size ≤ s.size := by rw [ByteArray.size_extract]; omega
      have HL2 : Hid (∀ x ∈ l ++ [s.extract fr k], x.size ≤ s.size) := Lib.hid (fun x hx => by
        rcases List.mem_append.1 hx with hx | hx
        · exact HL.out x hx
        · rw [List.mem_singleton] at hx; rw [hx]; exact hpc)
      by_cases he : k = s.size
      · subst he
        go_wp2_with (at_builtin; refine appP (news := [Value.string (s.extract fr s.size)]) rfl rfl Tryz.underlying50 infoStr rfl (by decide) hP rfl rfl rfl (by simp [Value.oneCell']) hn32 (by decide) hsz ?_; intro v1 w1 hP1 hg1 hb1)
        exact ⟨⟨s.size + 1, s.size + 1, l ++ [s.extract fr s.size], by omega, by go_num, by go_num, by omega, by simp; omega, fun _ => by simp, HL2, by rw [List.length_append, List.map_append]; exact hP1, Below.trans hx hb1⟩, by simp [intOf]⟩
      · have hlt : k < s.size := by omega
        have he' : ((k : Int) == (s.size : Int)) = false := beq_eq_false_iff_ne.2 (by omega)
        cases hb : ((s[k].toNat : Int) == c)
        · go_wp2_with fail
          exact ⟨⟨k + 1, fr, l, by omega, by go_num, by go_num, by omega, by omega, fun h => by omega, HL, hP, hx⟩, by simp [intOf]; omega⟩
        · go_wp2_with (at_builtin; refine appP (news := [Value.string (s.extract fr k)]) rfl rfl Tryz.underlying50 infoStr rfl (by decide) hP rfl rfl rfl (by simp [Value.oneCell']) hn32 (by decide) hsz ?_; intro v1 w1 hP1 hg1 hb1)
          exact ⟨⟨k + 1, k + 1, l ++ [s.extract fr k], by omega, by go_num, by go_num, by omega, by simp; omega, fun _ => by simp, HL2, by rw [List.length_append, List.map_append]; exact hP1, Below.trans hx hb1⟩, by simp [intOf]; omega⟩
    · obtain rfl : k = s.size + 1 := by omega
      have hown := Pool.hd hP
      go_wp2_with fail
      go_ret
      exact ⟨_, l, rfl, hx, hn1 trivial, hn, HL.out, hown⟩
theorem agr_drawn {lo hi : Nat} (ha : Agr lo hi w w') (hh : hi ≤ w'.heap.size) (hn : ∀ b, lo ≤ b → b < hi → ¬ D b) (hg : g < lo) {w'' : World} {D' : Nat → Prop} (hi' : Inc D D' w') (ht : Tr D g w' w'') : Agr lo hi w w'' ∧ hi ≤ w''.heap.size ∧ ∀ b, lo ≤ b → b < hi → ¬ D' b :=
  ⟨ha.trans (Agr.tr ht hh hn hg), Nat.le_trans hh ht.size, fun b h1 h2 => hi'.out (hn b h1 h2) (by omega)⟩

theorem l3Parse_t (s : ByteArray) (hs : s.size ≤ 200) (h : St D g q w) (hq : q + 202 ≤ 1000000) :
    Calls Tryz.prog 265 #[.string s] w (Drawn D g q 202 w fun D' _ w' v => ∃ u b n, v = .tuple #[u, .bool b] ∧ n ≤ 201 ∧ SlOk D' w' 3 1 u n) := by
  obtain ⟨i3, s3, t3, l3⟩ := SlOk.lit h 3 1
  have hg := h.g_lt
  have N := (Bare.new h).drawn (c' := 0) i3 t3 s3
  clear i3 s3 t3
  go_enter Tryz.func265, Tryz.ntmps265
  cases hb : s.toList.isEmpty
  case true =>
    go_wp2_with fail
    go_ret2
    exact ⟨_, _, rfl, N.inc, N.st.up (by omega), N.tr, _, _, 0, rfl, by omega, l3⟩
  go_wp2_with fail
  generalize w.alloc (.cells #[] 3) = w1 at N l3 ⊢
  refine (l19Cut_x s 44 w1 (by omega)).mono ?_
  rintro e w2 ⟨v2, l, rfl, he2, hl1, hl2, hls, hown⟩
  have hdm := N.st.dom
  have hg1 : g < w1.heap.size := N.st.g_lt
  have l3 := l3.tr' (Inc.refl _ _) (Tr.ext N.st he2)
  have N := N.ext he2
  obtain ⟨ap, cp, rfl⟩ := own_any' hown
  have HOWN := Lib.hid hown
  have HLS := Lib.hid hls
  obtain ⟨lo, hlo⟩ : ∃ lo, w1.heap.size = lo := ⟨_, rfl⟩
  rw [hlo] at HOWN hdm hg1
  have ha : Agr lo w2.heap.size w2 w2 := Agr.refl _ _ _
  have hn0 : ∀ b, lo ≤ b → b < w2.heap.size → ¬ (fun x => D x ∨ x = w.heap.size) b := fun b h1 _ h2 => by have := (hdm b h2).2; omega
  clear he2 hown hls hdm
  clear hlo
  go_wp2_with fail
  go_loopw [4, 6] (fun v i wr => ∃ (k : Nat) (D' : Nat → Prop), k ≤ l.length ∧ i = .int .i64 k ∧ Bare D g q w k wr D' ∧ SlOk D' wr 3 1 v k ∧ Agr lo w2.heap.size w2 wr ∧ w2.heap.size ≤ wr.heap.size ∧ ∀ b, lo ≤ b → b < w2.heap.size → ¬ D' b) (fun _ i _ => l.length - (intOf i).toNat)
  case atStart => exact ⟨0, _, by omega, rfl, N, l3, ha, Nat.le_refl _, hn0⟩
  case round =>
    clear N l3 ha hn0
    obtain ⟨k, D3, hk, rfl, N, hv, ha, hh, hnD⟩ := hrel
    obtain ⟨av, cv, rfl⟩ := hv.shape
    by_cases hlt : k < l.length
    · obtain ⟨p5, hp5⟩ : ∃ p5, l[k]? = some p5 := ⟨_, List.getElem?_eq_getElem hlt⟩
      obtain ⟨b5, c5, e5, g5⟩ := own_at (own_agr HOWN.out rfl ha) (j := k) (u := .string p5) (by rw [List.getElem?_map, hp5]; rfl)
      cases e5
      have hps := HLS.out p5 (List.mem_of_getElem? hp5)
      have hki : (k : Int) < (l.length : Int) := by omega
      clear hp5
      go_wp2_with fail
      refine (l19Num_t p5 wr (by omega)).mono ?_
      rintro e w4 ⟨x, b2, rfl, rfl⟩
      clear g5
      cases b2
      case false =>
        go_wp2_with fail
        go_ret2
        exact ⟨_, _, rfl, N.inc, N.st.up (by omega), N.tr, _, _, 0, rfl, by omega, SlOk.nil⟩
      have hst := N.st
      go_wp2_with (at_builtin; refine app1_t (q + (k + 1)) rfl rfl Tryz.underlying96 infoInt rfl (by decide) per_int zk_int hst hv rfl rfl rfl (by simp [Value.oneCell']) (kin_int _) (by omega) (by decide) (by omega) ?_; intro v1 w1 D4 hi1 hst1 htr1 hs1)
      obtain ⟨ha2, hh2, hnD2⟩ := agr_drawn ha hh hnD hg1 hi1 htr1
      exact ⟨⟨k + 1, D4, by omega, by go_num, N.drawn hi1 htr1 hst1, hs1, ha2, hh2, hnD2⟩, by simp [intOf]; omega⟩
    · obtain rfl : k = l.length := by omega
      go_wp2_with fail
      go_ret2
      exact ⟨_, _, rfl, N.inc, N.st.up (by omega), N.tr, _, _, l.length, rfl, by omega, hv⟩

theorem ParseAutomaton_t (s : ByteArray) (hs : s.size ≤ 200) (h : St D g q w) (hq : q + 42000 ≤ 1000000) :
    Calls Tryz.prog 187 #[.string s] w (Drawn D g q 42000 w fun D' q' w' v => ∃ u b, v = .tuple #[u, .bool b] ∧ AutoT D' q' w' u) := by
  have hg := h.g_lt
  have hd := fun x hx => (h.dom x hx).2
  have hdm := h.dom
  have B0 := Box.new h #[.int .i64 0, .slice none 0 0, .slice none 0 0] 31
  go_enter Tryz.func187, Tryz.ntmps187
  go_wp2_with fail
  generalize w.alloc (.cells #[.int .i64 0, .slice none 0 0, .slice none 0 0] 31) = w1 at B0 ⊢
  refine (l19Cut_x s 32 w1 (by omega)).mono ?_
  rintro e w2 ⟨v2, l, rfl, he2, hl1, hl2, hls, hown⟩
  have hg1 : g < w1.heap.size := B0.st.g_lt
  have hww : w.heap.size < w1.heap.size := B0.blk.lt
  have B0 := B0.ext he2
  obtain ⟨ap, cp, rfl⟩ := own_any' hown
  have HOWN := Lib.hid hown
  have HLS := Lib.hid hls
  obtain ⟨lo, hlo⟩ : ∃ lo, w1.heap.size = lo := ⟨_, rfl⟩
  rw [hlo] at HOWN hg1 hww
  have ha0 : Agr lo w2.heap.size w2 w2 := Agr.refl _ _ _
  have hn0 : ∀ b, lo ≤ b → b < w2.heap.size → ¬ D b := fun b h1 _ h2 => by have := (hdm b h2).2; omega
  obtain ⟨p0, hp0⟩ : ∃ p0, l[0]? = some p0 := ⟨_, List.getElem?_eq_getElem (by omega)⟩
  obtain ⟨b5, c5, e5, g5⟩ := own_at (own_agr HOWN.out rfl ha0) (j := 0) (u := .string p0) (by rw [List.getElem?_map, hp0]; rfl)
  cases e5
  have hi0 : (0 : Int) < (l.length : Int) := by omega
  clear he2 hown hls hlo hp0 hdm
  go_wp2_with fail
  refine (ParseAlphabet_t p0 w2).mono ?_
  rintro e w3 ⟨al, b0, hal, rfl, he3⟩
  obtain ⟨ha, hh, -⟩ := agr_drawn ha0 (Nat.le_refl _) hn0 hg1 (Inc.refl D w2) (Tr.ext B0.st he3)
  have B0 := B0.ext he3
  clear g5 he3 ha0
  cases b0
  case false =>
    have rc0 := B0.blk.cell 0 rfl; have rf0 := B0.blk.fr 0; have rc1 := B0.blk.cell 1 rfl; have rf1 := B0.blk.fr 1; have rc2 := B0.blk.cell 2 rfl; have rf2 := B0.blk.fr 2
    go_wp2_with fail
    clear rc0 rc1 rc2 rf0 rf1 rf2
    have zc0 := B0.blk.cell 0 rfl; have zf0 := B0.blk.fr 0; have zc1 := B0.blk.cell 1 rfl; have zf1 := B0.blk.fr 1; have zc2 := B0.blk.cell 2 rfl; have zf2 := B0.blk.fr 2
    refine bodyPost_ret (v := .tuple #[.agg #[.int .i64 0, .slice none 0 0, .slice none 0 0], .bool false]) (by simp [results, Tryz.results187, go_sem, zc0, zc1, zc2, zf0, zf1, zf2]) rfl ?_
    have BZ := ((B0.set hg hd (Nat.le_refl _) 0 (.int .i64 0)).set hg hd (Nat.le_refl _) 1 (.slice none 0 0)).set hg hd (Nat.le_refl _) 2 (.slice none 0 0)
    exact ⟨_, _, rfl, BZ.inc, BZ.st.up (by omega), BZ.tr, _, _, rfl, _, _, _, 0, 0, rfl, by omega, by omega, SlOk.nil, SlOk.nil⟩
  go_upto_region 6 with fail
  have he := Ext.alloc w3 (.cells #[.int .i64 al, .slice none 0 0, .slice none 0 0] 31)
  have BG : Box D g q w w3.heap.size 0 #[.int .i64 al, .slice none 0 0, .slice none 0 0] 31 _ D := ⟨B0.inc, (B0.ext he).st, (B0.ext he).tr, Blk.new _ _ _, B0.st.out (Nat.le_refl _)⟩
  obtain ⟨ha4, hh4, -⟩ := agr_drawn ha hh hn0 hg1 (Inc.refl D w3) (Tr.ext B0.st he)
  have hGs : w.heap.size < w3.heap.size := B0.blk.lt
  have hGh : w2.heap.size ≤ w3.heap.size := hh
  have BR := B0.ext he
  clear he B0 ha hh
  generalize w3.alloc (.cells #[.int .i64 al, .slice none 0 0, .slice none 0 0] 31) = w4 at BG BR ha4 hh4 ⊢
  generalize w3.heap.size = G at BG hGs hGh ⊢
  have hne1 : w.heap.size ≠ G := by omega
  have hne2 : G ≠ w.heap.size := by omega
  have hl201 : l.length ≤ 201 := by omega
  go_wp2_with fail
  go_loopw [8] (fun i wr => ∃ (k : Nat) (D' : Nat → Prop) (vN vA : Value), 1 + k ≤ l.length ∧ i = .int .i64 ((1 + k : Nat) : Int) ∧ Box D g q w w.heap.size (k * 205) #[.int .i64 0, .slice none 0 0, .slice none 0 0] 31 wr D' ∧ Box D g q w G (k * 205) #[.int .i64 al, vN, vA] 31 wr D' ∧ SlOk D' wr 96 1 vN k ∧ SlOk D' wr 4 1 vA k ∧ Agr lo w2.heap.size w2 wr ∧ w2.heap.size ≤ wr.heap.size ∧ ∀ b, lo ≤ b → b < w2.heap.size → ¬ D' b) (fun i _ => l.length - (intOf i).toNat)
  case atStart => exact ⟨0, D, _, _, by omega, rfl, BR.up (by omega), BG.up (by omega), SlOk.nil, SlOk.nil, ha4, hh4, hn0⟩
  case round =>
    clear BR BG ha4 hh4 hn0
    obtain ⟨k, D3, vN, vA, hk, rfl, BR, BG, hN, hA, ha, hh, hnD⟩ := hrel
    obtain ⟨aN, cN, rfl⟩ := hN.shape
    obtain ⟨aA, cA, rfl⟩ := hA.shape
    by_cases hlt : 1 + k < l.length
    · obtain ⟨p5, hp5⟩ : ∃ p5, l[1 + k]? = some p5 := ⟨_, List.getElem?_eq_getElem hlt⟩
      have HP5 := Lib.hid hp5
      obtain ⟨b6, c6, e6, g5⟩ := own_at (own_agr HOWN.out rfl ha) (j := 1 + k) (u := .string p5) (by rw [List.getElem?_map, hp5]; rfl)
      cases e6
      have hps := HLS.out p5 (List.mem_of_getElem? hp5)
      have hk1 : (0 : Int) ≤ 1 + (k : Int) := by omega
      have hk2 : 1 + (k : Int) < (l.length : Int) := by omega
      clear hp5
      cases he5 : p5.toList.isEmpty
      case true =>
        have rc0 := BR.blk.cell 0 rfl; have rf0 := BR.blk.fr 0; have rc1 := BR.blk.cell 1 rfl; have rf1 := BR.blk.fr 1; have rc2 := BR.blk.cell 2 rfl; have rf2 := BR.blk.fr 2
        go_wp2_with fail
        clear rc0 rc1 rc2 rf0 rf1 rf2
        have zc0 := BR.blk.cell 0 rfl; have zf0 := BR.blk.fr 0; have zc1 := BR.blk.cell 1 rfl; have zf1 := BR.blk.fr 1; have zc2 := BR.blk.cell 2 rfl; have zf2 := BR.blk.fr 2
        refine bodyPost_ret (v := .tuple #[.agg #[.int .i64 0, .slice none 0 0, .slice none 0 0], .bool false]) (by simp [results, Tryz.results187, go_sem, zc0, zc1, zc2, zf0, zf1, zf2]) rfl ?_
        have BZ := ((BR.set hg hd (Nat.le_refl _) 0 (.int .i64 0)).set hg hd (Nat.le_refl _) 1 (.slice none 0 0)).set hg hd (Nat.le_refl _) 2 (.slice none 0 0)
        exact ⟨_, _, rfl, BZ.inc, BZ.st.up (by omega), BZ.tr, _, _, rfl, _, _, _, 0, 0, rfl, by omega, by omega, SlOk.nil, SlOk.nil⟩
      have hz5 : 0 < p5.size := by
        by_cases h0 : p5.size = 0
        · rw [empty_text h0] at he5
          exact absurd he5 (by decide +kernel)
        · omega
      have hz6 : 1 ≤ p5.size := hz5
      have hpx : (p5.extract 1 p5.size).size ≤ 200 := by rw [ByteArray.size_extract]; omega
      have hz7 : (1 : Int) ≤ (p5.size : Int) := by omega
      go_wp2_with fail
      refine (l3Parse_t (p5.extract 1 p5.size) hpx BG.st (by omega)).mono ?_
      rintro e w5 ⟨v5, D5, rfl, hi5, hs5, ht5, u5, b7, m, rfl, hm, hu⟩
      obtain ⟨ha5, hh5, hnD5⟩ := agr_drawn ha hh hnD hg1 hi5 ht5
      have hN := hN.tr' hi5 ht5
      have hA := hA.tr' hi5 ht5
      have BR := BR.drawn hg hi5 ht5 (c' := k * 205 + 202) (hs5.up (by omega))
      have BG := BG.drawn (by omega) hi5 ht5 (c' := k * 205 + 202) (hs5.up (by omega))
      clear hs5 ht5 hi5 g5 hpx ha hh hnD
      obtain ⟨au, cu, rfl⟩ := hu.shape
      cases b7
      case false =>
        have rc0 := BR.blk.cell 0 rfl; have rf0 := BR.blk.fr 0; have rc1 := BR.blk.cell 1 rfl; have rf1 := BR.blk.fr 1; have rc2 := BR.blk.cell 2 rfl; have rf2 := BR.blk.fr 2
        go_wp2_with fail
        clear rc0 rc1 rc2 rf0 rf1 rf2
        have zc0 := BR.blk.cell 0 rfl; have zf0 := BR.blk.fr 0; have zc1 := BR.blk.cell 1 rfl; have zf1 := BR.blk.fr 1; have zc2 := BR.blk.cell 2 rfl; have zf2 := BR.blk.fr 2
        refine bodyPost_ret (v := .tuple #[.agg #[.int .i64 0, .slice none 0 0, .slice none 0 0], .bool false]) (by simp [results, Tryz.results187, go_sem, zc0, zc1, zc2, zf0, zf1, zf2]) rfl ?_
        have BZ := ((BR.set hg hd (Nat.le_refl _) 0 (.int .i64 0)).set hg hd (Nat.le_refl _) 1 (.slice none 0 0)).set hg hd (Nat.le_refl _) 2 (.slice none 0 0)
        exact ⟨_, _, rfl, BZ.inc, BZ.st.up (by omega), BZ.tr, _, _, rfl, _, _, _, 0, 0, rfl, by omega, by omega, SlOk.nil, SlOk.nil⟩
      have gc1 := BG.blk.cell 1 rfl
      go_wp2_with (at_builtin; refine app1_t (q + (k * 205 + 203)) rfl rfl Tryz.underlying28 infoInts rfl (by decide) per_ints zk_ints BG.st hN rfl rfl rfl (by simp [Value.oneCell']) (kin_ints hu (by omega)) (by omega) (by decide) (by omega) ?_; intro v1 w6 D6 hi6 hs6 ht6 hN6; obtain ⟨aM, cM, rfl⟩ := hN6.shape; have BR := BR.drawn hg hi6 ht6 hs6; have hA := hA.tr' hi6 ht6; have BG := BG.drawn (by omega) hi6 ht6 hs6; have gc4 := BG.blk.cell 1 rfl; have gf4 := BG.blk.fr 1)
      obtain ⟨ha6, hh6, hnD6⟩ := agr_drawn ha5 hh5 hnD5 hg1 hi6 ht6
      have o4 := BG.out
      have BR := BR.other (b' := G) (by omega) hd (by omega) (by omega) o4 1 (.slice aM (k + 1) cM)
      have BG := BG.set (by omega) hd (by omega) 1 (.slice aM (k + 1) cM)
      have hN7 := hN6.tr (fun _ h => h) (Shp.box (j := 1) (u := .slice aM (k + 1) cM) o4)
      have hA := hA.tr (fun _ h => h) (Shp.box (j := 1) (u := .slice aM (k + 1) cM) o4)
      have ha7 := ha6.trans (Agr.set (w := w6) (lo := lo) (hi := w2.heap.size) (b := G) (.inr hGh) 1 (.slice aM (k + 1) cM))
      have hh7 : w2.heap.size ≤ (w6.setCell ⟨G, 1, none⟩ (.slice aM (k + 1) cM)).heap.size := by simp; exact hh6
      generalize w6.setCell ⟨G, 1, none⟩ (.slice aM (k + 1) cM) = w7 at BR BG hN7 hA ha7 hh7 ⊢
      clear gc1 gc4 gf4 ha5 hh5 hnD5 ha6 hh6 hN6 hN
      obtain ⟨b8, c8, e8, g5⟩ := own_at (own_agr HOWN.out rfl ha7) (j := 1 + k) (u := .string p5) (by rw [List.getElem?_map, HP5.out]; rfl)
      cases e8
      have D0 := fun d os => cell_regrown (BG.blk.cell 2 rfl) d os
      have D1 := fun d os => cell_regrown g5 d os
      have htn : (1 + (k : Int)).toNat = 1 + k := by omega
      obtain ⟨Kc, HKc⟩ : ∃ Kc : FuncId → Array Value → World → Value → World → Prop, Hid (Kc = fun _ _ _ _ _ => False) := ⟨_, rfl⟩
      refine wp_region_ext (Kc := Kc) 9 (by kernel_rfl) (by kernel_rfl) ?_
      simp only [List.take_succ_cons, List.take_zero]
      repeat (refine WalkE.pure rfl (fun K hK => ?_); simp only [PureDo]; go_simp; refine hK _ ?_; clear hK K)
      refine WalkE.step (fun K hK we hwe hde => ?_)
      simp only [OpDo, OpSafe, OpOut]
      go_simp
      refine ⟨Ext.alloc _ _, hK _ _ ?_⟩
      clear hK K hde
      refine WalkE.nil (fun wn hwn hmn => ?_)
      simp only [List.drop_succ_cons, List.drop_zero, List.drop_nil]
      have x0 : Ext w7 wn := (Ext.drew _).trans hwn
      obtain ⟨z, hbn⟩ : ∃ z, Blk wn we.heap.size #[.bool z] 4 := ⟨_, (Blk.new we _ _).ext (hmn 8 (by omega))⟩
      have hcell : ∀ (j : Nat) u, [Value.bool z][j]? = some u → wn.cell? ((⟨we.heap.size, 0, none⟩ : Addr).add j) = some u := fun j u hu => by
        rw [add_none, Nat.zero_add]
        exact hbn.cell j (by simpa using hu)
      obtain ⟨ha8, hh8, -⟩ := agr_drawn ha7 hh7 hnD6 hg1 (Inc.refl _ _) (Tr.ext BG.st x0)
      have hN8 := hN7.tr' (Inc.refl _ _) (Tr.ext BG.st x0)
      have hA8 := hA.tr' (Inc.refl _ _) (Tr.ext BG.st x0)
      have BR8 := BR.ext x0
      have BG8 := BG.ext x0
      clear hmn HKc D0 D1 hwn hwe hbn x0 g5 ha7 hh7 BR BG hN7 hA
      generalize we.heap.size = gN at hcell ⊢
      go_wp2_with (at_builtin; refine app_t (news := [Value.bool z]) (q' := q + (k + 1) * 205) rfl _ _ _ rfl Tryz.underlying29 infoBool rfl (by decide) per_bool zk_bool BG8.st hA8 rfl rfl (by simp) hcell (by simp [Value.oneCell']) (kin_bool _) (by omega) (by decide) (by omega) ?_; intro v1 w9 D9 hi9 hs9 ht9 hA9; obtain ⟨a9, c9, rfl⟩ := hA9.shape; have BG9 := BG8.drawn (by omega) hi9 ht9 (c' := (k + 1) * 205) hs9; have BR9 := BR8.drawn hg hi9 ht9 (c' := (k + 1) * 205) hs9; have gc9 := BG9.blk.cell 2 rfl; have gf9 := BG9.blk.fr 2)
      obtain ⟨ha9, hh9, hnD9⟩ := agr_drawn ha8 hh8 hnD6 hg1 hi9 ht9
      have o9 := BG9.out
      have hN9 := hN8.tr' hi9 ht9
      exact ⟨⟨k + 1, D9, _, _, by omega, by go_num, BR9.other (b' := G) (by omega) hd (by omega) (by omega) o9 2 _, BG9.set (by omega) hd (by omega) 2 _, hN9.tr (fun _ h => h) (Shp.box o9), hA9.tr (fun _ h => h) (Shp.box o9), ha9.trans (Agr.set (lo := lo) (hi := w2.heap.size) (b := G) (.inr hGh) 2 _), by simp; exact hh9, hnD9⟩, by simp [intOf]; omega⟩
    · have hkn : 1 + k = l.length := by omega
      have HT : AutoT D3 (q + k * 205) wr (.agg #[.int .i64 al, .slice aN k cN, .slice aA k cA]) := ⟨_, _, _, _, _, rfl, by omega, by omega, hN, hA⟩
      obtain ⟨X, -, -, hX⟩ := HT.auto BG.st.typ
      have hkn' : ¬ 1 + (k : Int) < (l.length : Int) := by omega
      clear hkn
      have gc0 := BG.blk.cell 0 rfl; have gf0 := BG.blk.fr 0; have gc1 := BG.blk.cell 1 rfl; have gf1 := BG.blk.fr 1; have gc2 := BG.blk.cell 2 rfl; have gf2 := BG.blk.fr 2
      go_wp2_with fail
      refine (FormatAutomaton_t _ X wr hX).mono ?_
      rintro e w5 ⟨t, rfl, ht, he5⟩
      clear gc0 gc1 gc2 gf0 gf1 gf2
      have hN := hN.tr' (Inc.refl _ _) (Tr.ext BG.st he5)
      have hA := hA.tr' (Inc.refl _ _) (Tr.ext BG.st he5)
      have BR := BR.ext he5
      have BG := BG.ext he5
      have gc0 := BG.blk.cell 0 rfl; have gf0 := BG.blk.fr 0; have gc1 := BG.blk.cell 1 rfl; have gf1 := BG.blk.fr 1; have gc2 := BG.blk.cell 2 rfl; have gf2 := BG.blk.fr 2; have rc0 := BR.blk.cell 0 rfl; have rf0 := BR.blk.fr 0; have rc1 := BR.blk.cell 1 rfl; have rf1 := BR.blk.fr 1; have rc2 := BR.blk.cell 2 rfl; have rf2 := BR.blk.fr 2
      cases hb : (t.toList == s.toList)
      · go_wp2_with fail
        clear gc0 gc1 gc2 gf0 gf1 gf2 rc0 rc1 rc2 rf0 rf1 rf2
        have zc0 := BR.blk.cell 0 rfl; have zf0 := BR.blk.fr 0; have zc1 := BR.blk.cell 1 rfl; have zf1 := BR.blk.fr 1; have zc2 := BR.blk.cell 2 rfl; have zf2 := BR.blk.fr 2
        refine bodyPost_ret (v := .tuple #[.agg #[.int .i64 0, .slice none 0 0, .slice none 0 0], .bool false]) (by simp [results, Tryz.results187, go_sem, zc0, zc1, zc2, zf0, zf1, zf2]) rfl ?_
        have BZ := ((BR.set hg hd (Nat.le_refl _) 0 (.int .i64 0)).set hg hd (Nat.le_refl _) 1 (.slice none 0 0)).set hg hd (Nat.le_refl _) 2 (.slice none 0 0)
        exact ⟨_, _, rfl, BZ.inc, BZ.st.up (by omega), BZ.tr, _, _, rfl, _, _, _, 0, 0, rfl, by omega, by omega, SlOk.nil, SlOk.nil⟩
      · go_wp2_with fail
        clear gc0 gc1 gc2 gf0 gf1 gf2 rc0 rc1 rc2 rf0 rf1 rf2
        have zc0 := BR.blk.cell 0 rfl; have zf0 := BR.blk.fr 0; have zc1 := BR.blk.cell 1 rfl; have zf1 := BR.blk.fr 1; have zc2 := BR.blk.cell 2 rfl; have zf2 := BR.blk.fr 2
        refine bodyPost_ret (v := .tuple #[.agg #[.int .i64 al, .slice aN k cN, .slice aA k cA], .bool true]) (by simp [results, Tryz.results187, go_sem, zc0, zc1, zc2, zf0, zf1, zf2]) rfl ?_
        have BZ := ((BR.set hg hd (Nat.le_refl _) 0 (.int .i64 al)).set hg hd (Nat.le_refl _) 1 (.slice aN k cN)).set hg hd (Nat.le_refl _) 2 (.slice aA k cA)
        have oZ := BR.out
        exact ⟨_, D3, rfl, BZ.inc, BZ.st.up (by omega), BZ.tr, _, _, rfl, _, _, _, k, k, rfl, by omega, by omega, ((hN.tr (fun _ h => h) (Shp.box oZ)).tr (fun _ h => h) (Shp.box oZ)).tr (fun _ h => h) (Shp.box oZ), ((hA.tr (fun _ h => h) (Shp.box oZ)).tr (fun _ h => h) (Shp.box oZ)).tr (fun _ h => h) (Shp.box oZ)⟩

theorem SysE.drawn {lo hi : Nat} {ve : Value} (h : SysE lo hi D q w ve) (hi' : Inc D D' w) (ht : Tr D g w w') (hq : q ≤ q') (hh : hi ≤ w.heap.size) (hn : ∀ b, lo ≤ b → b < hi → ¬ D b) (hg : g < lo) : SysE lo hi D' q' w' ve := h.go hi'.sub ht.shp hq (Agr.tr ht hh hn hg) ht.size
theorem AutoE.drawn {lo hi : Nat} {pal : Int} {vn va : Value} (h : AutoE lo hi D q w pal vn va) (hi' : Inc D D' w) (ht : Tr D g w w') (hq : q ≤ q') (hh : hi ≤ w.heap.size) (hn : ∀ b, lo ≤ b → b < hi → ¬ D b) (hg : g < lo) : AutoE lo hi D' q' w' pal vn va := h.go hi'.sub ht.shp hq (Agr.tr ht hh hn hg) ht.size
theorem l9d_put {D8 : Nat → Prop} {lo hi G n6 n8 m8 c6 cN8 cA8 : Nat} {al6 st6 al8 y o1 o2 o3 o4 : Int} {v2 v4 v5 : Value} {a6 aN8 aA8 : Option Addr} {w10 : World} (hg : g < w.heap.size) (hd : ∀ x, D x → x < w.heap.size) (hG : w.heap.size < G) (hhi : hi ≤ G) (hn6 : n6 ≤ q + 62000) (hn8 : n8 ≤ q + 62000) (hm8 : m8 ≤ q + 62000)
    (B0k : Box D g q w w.heap.size 62000 #[.int .i64 0, .int .i64 0, .slice none 0 0, .int .i64 0, .slice none 0 0, .slice none 0 0, .int .i64 0] 57 w10 D8) (B6k : Box D g q w G 62000 #[.int .i64 o1, .int .i64 o2, v2, .int .i64 o3, v4, v5, .int .i64 o4] 57 w10 D8)
    (GE : SlOk D8 w10 103 3 (.slice a6 n6 c6) n6) (GN : SlOk D8 w10 96 1 (.slice aN8 n8 cN8) n8) (GA : SlOk D8 w10 4 1 (.slice aA8 m8 cA8) m8) (hWin8 : ∀ b, lo ≤ b → b < hi → ¬ D8 b) :
    L9D D g q w lo hi G 62000 (((((((w10.setCell ⟨G, 0, none⟩ (.int .i64 al6)).setCell ⟨G, 1, none⟩ (.int .i64 st6)).setCell ⟨G, 2, none⟩ (.slice a6 n6 c6)).setCell ⟨G, 3, none⟩ (.int .i64 al8)).setCell ⟨G, 4, none⟩ (.slice aN8 n8 cN8)).setCell ⟨G, 5, none⟩ (.slice aA8 m8 cA8)).setCell ⟨G, 6, none⟩ (.int .i64 y)) := by
  have o6 := B6k.out
  have hSS : SysE lo hi D8 (q + 62000) w10 (.slice a6 n6 c6) := .inl ⟨n6, hn6, GE⟩
  have hAA : AutoE lo hi D8 (q + 62000) w10 al8 (.slice aN8 n8 cN8) (.slice aA8 m8 cA8) := .inl ⟨n8, m8, hn8, hm8, GN, GA⟩
  exact ⟨D8, _, _, _, _, _, _, _, (((((((B0k.other (b' := G) (by omega) hd (by omega) (by omega) o6 0 (.int .i64 al6)).other (b' := G) (by omega) hd (by omega) (by omega) o6 1 (.int .i64 st6)).other (b' := G) (by omega) hd (by omega) (by omega) o6 2 (.slice a6 n6 c6)).other (b' := G) (by omega) hd (by omega) (by omega) o6 3 (.int .i64 al8)).other (b' := G) (by omega) hd (by omega) (by omega) o6 4 (.slice aN8 n8 cN8)).other (b' := G) (by omega) hd (by omega) (by omega) o6 5 (.slice aA8 m8 cA8)).other (b' := G) (by omega) hd (by omega) (by omega) o6 6 (.int .i64 y)), (((((((B6k.set (by omega) hd (by omega) 0 (.int .i64 al6)).set (by omega) hd (by omega) 1 (.int .i64 st6)).set (by omega) hd (by omega) 2 (.slice a6 n6 c6)).set (by omega) hd (by omega) 3 (.int .i64 al8)).set (by omega) hd (by omega) 4 (.slice aN8 n8 cN8)).set (by omega) hd (by omega) 5 (.slice aA8 m8 cA8)).set (by omega) hd (by omega) 6 (.int .i64 y)), hSS |>.set o6 (.inr hhi) 0 (.int .i64 al6) |>.set o6 (.inr hhi) 1 (.int .i64 st6) |>.set o6 (.inr hhi) 2 (.slice a6 n6 c6) |>.set o6 (.inr hhi) 3 (.int .i64 al8) |>.set o6 (.inr hhi) 4 (.slice aN8 n8 cN8) |>.set o6 (.inr hhi) 5 (.slice aA8 m8 cA8) |>.set o6 (.inr hhi) 6 (.int .i64 y), hAA |>.set o6 (.inr hhi) 0 (.int .i64 al6) |>.set o6 (.inr hhi) 1 (.int .i64 st6) |>.set o6 (.inr hhi) 2 (.slice a6 n6 c6) |>.set o6 (.inr hhi) 3 (.int .i64 al8) |>.set o6 (.inr hhi) 4 (.slice aN8 n8 cN8) |>.set o6 (.inr hhi) 5 (.slice aA8 m8 cA8) |>.set o6 (.inr hhi) 6 (.int .i64 y), hWin8⟩
set_option maxHeartbeats 8000000 in
theorem l9Large_t (h : St D g q w) (hq : q + 62000 ≤ 1000000) :
    Calls Tryz.prog 101 #[.pointer (some ⟨g, 0, none⟩)] w (Drawn D g q 62000 w fun D' q' w' v => TaskE D' g q' w' v) := by
  have hg := h.g_lt
  have hd := fun x hx => (h.dom x hx).2
  have B0 := Box.new h #[.int .i64 0, .int .i64 0, .slice none 0 0, .int .i64 0, .slice none 0 0, .slice none 0 0, .int .i64 0] 57
  have hs1 : w.heap.size < (w.alloc (.cells #[.int .i64 0, .int .i64 0, .slice none 0 0, .int .i64 0, .slice none 0 0, .slice none 0 0, .int .i64 0] 57)).heap.size := by simp
  go_enter Tryz.func101, Tryz.ntmps101
  go_wp2_with fail
  generalize w.alloc (.cells #[.int .i64 0, .int .i64 0, .slice none 0 0, .int .i64 0, .slice none 0 0, .slice none 0 0, .int .i64 0] 57) = w1 at B0 hs1 ⊢
  refine (l9Draw_f B0.st (by omega)).mono ?_
  rintro e w2 ⟨r, D2, rfl, hi2, hs2, ht2, lo, hi, al, st, pal, tal, ve, vn, va, rfl, hES, hEA, hWin, hglo, hhi, hwlo⟩
  have B0 := B0.drawn hg hi2 ht2 (c' := 18060) (hs2.up (by omega))
  obtain ⟨s1, s2, s3, rfl⟩ := hES.shape
  obtain ⟨⟨s4, s5, s6, rfl⟩, s7, s8, s9, rfl⟩ := hEA.shape
  replace hwlo : w.heap.size < lo := by omega
  have hz2 : w.heap.size < w2.heap.size := B0.blk.lt
  clear hi2 hs2 ht2 hs1
  go_upto_region 2 with fail
  have hx3 := Ext.alloc w2 (.cells #[.int .i64 al, .int .i64 st, .slice s1 s2 s3, .int .i64 pal, .slice s4 s5 s6, .slice s7 s8 s9, .int .i64 tal] 57)
  have B6 : Box D g q w w2.heap.size 18060 #[.int .i64 al, .int .i64 st, .slice s1 s2 s3, .int .i64 pal, .slice s4 s5 s6, .slice s7 s8 s9, .int .i64 tal] 57 _ D2 := ⟨B0.inc, (B0.ext hx3).st, (B0.ext hx3).tr, Blk.new _ _ _, B0.st.out (Nat.le_refl _)⟩
  have hES := hES.drawn (Inc.refl _ _) (Tr.ext B0.st hx3) (Nat.le_refl _) hhi hWin hglo
  have hEA := hEA.drawn (Inc.refl _ _) (Tr.ext B0.st hx3) (Nat.le_refl _) hhi hWin hglo
  have B0 := B0.ext hx3
  generalize w2.alloc (.cells #[.int .i64 al, .int .i64 st, .slice s1 s2 s3, .int .i64 pal, .slice s4 s5 s6, .slice s7 s8 s9, .int .i64 tal] 57) = w3 at B0 B6 hES hEA ⊢
  obtain ⟨G, hG⟩ : ∃ G, w2.heap.size = G := ⟨_, rfl⟩
  rw [hG] at B6 hhi hz2 ⊢
  clear hx3 hG
  go_wp2_with fail
  refine (pick_t 10 B0.st (by omega) (by omega)).mono ?_
  rintro e w4 ⟨x, rfl, -, -, hs4, hk4⟩
  have hh3 : hi ≤ w3.heap.size := Nat.le_trans hhi (Nat.le_of_lt B6.blk.lt)
  have hES := hES.drawn (Inc.refl _ _) (Tr.kept B0.st hk4) (q' := q + 18061) (by omega) hh3 hWin hglo
  have hEA := hEA.drawn (Inc.refl _ _) (Tr.kept B0.st hk4) (q' := q + 18061) (by omega) hh3 hWin hglo
  have B0 := B0.kept hg hk4 (c' := 18061) (hs4.up (by omega))
  have B6 := B6.kept (by omega) hk4 (c' := 18061) (hs4.up (by omega))
  clear hs4 hk4 hh3
  have hh4 : hi ≤ w4.heap.size := Nat.le_trans hhi (Nat.le_of_lt B6.blk.lt)
  go_upto_if 12 with fail
  go_cut [] (fun wc => L9D D g q w lo hi G 62000 wc)
  case first =>
    by_cases hx0 : x = 0
    case neg =>
      have hx0' : ((x : Int) == 0) = false := beq_eq_false_iff_ne.2 (by omega)
      go_wp2_with fail
      go_meet
      case rel => exact ⟨D2, _, _, _, _, _, _, _, B0.up (by omega), B6.up (by omega), hES.drawn (Inc.refl _ _) (Tr.refl D2 g _) (by omega) hh4 hWin hglo, hEA.drawn (Inc.refl _ _) (Tr.refl D2 g _) (by omega) hh4 hWin hglo, hWin⟩
    subst hx0
    go_wp2_with fail
    refine (of_three _ _ _ (by decide) (by decide) (by decide) B0.st (by omega)).mono ?_
    rintro e w5 ⟨t, ht, rfl, hs5, hk5⟩
    have B0 := B0.kept hg hk5 (c' := 18062) (hs5.up (by omega))
    have B6 := B6.kept (by omega) hk5 (c' := 18062) (hs5.up (by omega))
    have hh5 : hi ≤ w5.heap.size := Nat.le_trans hh4 hk5.size
    clear hs5 hk5 hES hEA
    go_wp2_with fail
    refine (ParseSystem_t t ht B0.st (by omega)).mono ?_
    rintro e w6 ⟨v6, D6, rfl, hi6, hs6, ht6, u6, b6, rfl, hS6⟩
    obtain ⟨al6, st6, n6, a6, c6, rfl, hn6, hE6⟩ := hS6.boxed
    have B0 := B0.drawn hg hi6 ht6 (c' := 18562) (hs6.up (by omega))
    have B6 := B6.drawn (by omega) hi6 ht6 (c' := 18562) (hs6.up (by omega))
    have hWin6 : ∀ b, lo ≤ b → b < hi → ¬ D6 b := fun b h1 h2 => hi6.out (hWin b h1 h2) (by omega)
    clear hi6 hs6 ht6 hS6 hh5
    go_upto_region 4 with fail
    have hx7 := Ext.alloc w6 (.cells #[.int .i64 al6, .int .i64 st6, .slice a6 n6 c6] 25)
    have B4 : Box D g q w w6.heap.size 18562 #[.int .i64 al6, .int .i64 st6, .slice a6 n6 c6] 25 _ D6 := ⟨B0.inc, (B0.ext hx7).st, (B0.ext hx7).tr, Blk.new _ _ _, B0.st.out (Nat.le_refl _)⟩
    have hE6 := hE6.tr' (Inc.refl _ _) (Tr.ext B0.st hx7)
    have l6 : w.heap.size < w6.heap.size := B0.blk.lt
    have l6' : G < w6.heap.size := B6.blk.lt
    have B0 := B0.ext hx7
    have B6 := B6.ext hx7
    generalize w6.alloc (.cells #[.int .i64 al6, .int .i64 st6, .slice a6 n6 c6] 25) = w7 at B0 B4 B6 hE6 ⊢
    go_wp2_with fail
    refine (ParseAutomaton_t _ (by decide) B0.st (by omega)).mono ?_
    rintro e w8 ⟨v8, D8, rfl, hi8, hs8, ht8, u8, b8, rfl, hA8⟩
    obtain ⟨al8, n8, m8, aN8, cN8, aA8, cA8, rfl, hn8, hm8, hN8, hA8'⟩ := hA8.boxed
    have l7 : w7.heap.size ≤ w8.heap.size := ht8.size
    have l77 : w6.heap.size < w7.heap.size := B4.blk.lt
    have B0 := B0.drawn hg hi8 ht8 (c' := 60562) (hs8.up (by omega))
    have B4 := B4.drawn (by omega) hi8 ht8 (c' := 60562) (hs8.up (by omega))
    have B6 := B6.drawn (by omega) hi8 ht8 (c' := 60562) (hs8.up (by omega))
    have hE6 := hE6.tr' hi8 ht8
    have hWin8 : ∀ b, lo ≤ b → b < hi → ¬ D8 b := fun b h1 h2 => hi8.out (hWin6 b h1 h2) (by omega)
    clear hi8 hs8 ht8 hA8
    go_upto_region 5 with fail
    have hx9 := Ext.alloc w8 (.cells #[.int .i64 al8, .slice aN8 n8 cN8, .slice aA8 m8 cA8] 31)
    have B5 : Box D g q w w8.heap.size 60562 #[.int .i64 al8, .slice aN8 n8 cN8, .slice aA8 m8 cA8] 31 _ D8 := ⟨B0.inc, (B0.ext hx9).st, (B0.ext hx9).tr, Blk.new _ _ _, B0.st.out (Nat.le_refl _)⟩
    have hE6 := hE6.tr' (Inc.refl _ _) (Tr.ext B0.st hx9)
    have hN8 := hN8.tr' (Inc.refl _ _) (Tr.ext B0.st hx9)
    have hA8 := hA8'.tr' (Inc.refl _ _) (Tr.ext B0.st hx9)
    have l8 : w.heap.size < w8.heap.size := B0.blk.lt
    have B0 := B0.ext hx9
    have B4 := B4.ext hx9
    have B6 := B6.ext hx9
    generalize w8.alloc (.cells #[.int .i64 al8, .slice aN8 n8 cN8, .slice aA8 m8 cA8] 31) = w9 at B0 B4 B5 B6 hE6 hN8 hA8 ⊢
    clear hx9 hx7 hA8'
    generalize w8.heap.size = G5 at B5 l7 l8 ⊢
    generalize w6.heap.size = G4 at B4 l6 l6' l77 ⊢
    have E0 := B0.ext (Ext.drew w9)
    have E4 := B4.ext (Ext.drew w9)
    have E5 := B5.ext (Ext.drew w9)
    have E6 := B6.ext (Ext.drew w9)
    have FE := hE6.tr' (Inc.refl _ _) (Tr.ext B0.st (Ext.drew w9))
    have FN := hN8.tr' (Inc.refl _ _) (Tr.ext B0.st (Ext.drew w9))
    have FA := hA8.tr' (Inc.refl _ _) (Tr.ext B0.st (Ext.drew w9))
    have p0 := E4.blk.cell 0 rfl; have pa0 := fun o => (Ext.alloc w9 o).cell (B4.blk.cell 0 rfl); have pb0 := B4.blk.cell 0 rfl; have p1 := E4.blk.cell 1 rfl; have pa1 := fun o => (Ext.alloc w9 o).cell (B4.blk.cell 1 rfl); have pb1 := B4.blk.cell 1 rfl; have p2 := E4.blk.cell 2 rfl; have pa2 := fun o => (Ext.alloc w9 o).cell (B4.blk.cell 2 rfl); have pb2 := B4.blk.cell 2 rfl
    have r0 := E5.blk.cell 0 rfl; have ra0 := fun o => (Ext.alloc w9 o).cell (B5.blk.cell 0 rfl); have rb0 := B5.blk.cell 0 rfl; have r1 := E5.blk.cell 1 rfl; have ra1 := fun o => (Ext.alloc w9 o).cell (B5.blk.cell 1 rfl); have rb1 := B5.blk.cell 1 rfl; have r2 := E5.blk.cell 2 rfl; have ra2 := fun o => (Ext.alloc w9 o).cell (B5.blk.cell 2 rfl); have rb2 := B5.blk.cell 2 rfl
    go_wp2_with fail
    go_region_law (go_simp; go_wp2_with (go_at_call 128; refine (num_t [7, 3] rfl E0.st (by omega) (by simp) (by simp)).mono ?_; rintro e w10 ⟨y, hy, rfl, hs10, hk10⟩; have B4k := E4.kept (by omega) hk10 (c' := 60563) (hs10.up (by omega)); have B5k := E5.kept (by omega) hk10 (c' := 60563) (hs10.up (by omega)); have B6k := E6.kept (by omega) hk10 (c' := 60563) (hs10.up (by omega)); have k0 := B4k.blk.cell 0 rfl; have k1 := B4k.blk.cell 1 rfl; have k2 := B4k.blk.cell 2 rfl; have k3 := B5k.blk.cell 0 rfl; have k4 := B5k.blk.cell 1 rfl; have k5 := B5k.blk.cell 2 rfl; have f0 := B6k.blk.fr 0; have f1 := B6k.blk.fr 1; have f2 := B6k.blk.fr 2; have f3 := B6k.blk.fr 3; have f4 := B6k.blk.fr 4; have f5 := B6k.blk.fr 5; have f6 := B6k.blk.fr 6; have y0 := B6k.blk.cell 0 rfl; have y1 := B6k.blk.cell 1 rfl; have y2 := B6k.blk.cell 2 rfl; have y3 := B6k.blk.cell 3 rfl; have y4 := B6k.blk.cell 4 rfl; have y5 := B6k.blk.cell 5 rfl; have y6 := B6k.blk.cell 6 rfl))
    all_goals
      have B0k := E0.kept hg hk10 (c' := 60563) (hs10.up (by omega))
      have GE := FE.tr' (Inc.refl _ _) (Tr.kept E0.st hk10)
      have GN := FN.tr' (Inc.refl _ _) (Tr.kept E0.st hk10)
      have GA := FA.tr' (Inc.refl _ _) (Tr.kept E0.st hk10)
      go_wp2_with fail
      go_meet
      case rel => exact l9d_put hg hd (by omega) hhi (by omega) (by omega) (by omega) (B0k.up (by omega)) (B6k.up (by omega)) GE GN GA hWin8
  case rest =>
    clear B0 B6 hES hEA hWin hh4
    obtain ⟨D', al, st, pal, tal, ve, vn, va, B0, B6, hES, hEA, hWin⟩ := hcut
    obtain ⟨s1, s2, s3, rfl⟩ := hES.shape
    obtain ⟨⟨s4, s5, s6, rfl⟩, s7, s8, s9, rfl⟩ := hEA.shape
    have o0 := B0.out
    have hh6 : hi ≤ wc.heap.size := Nat.le_trans hhi (Nat.le_of_lt B6.blk.lt)
    have g0 := B6.blk.cell 0 rfl; have g1 := B6.blk.cell 1 rfl; have g2 := B6.blk.cell 2 rfl; have g3 := B6.blk.cell 3 rfl; have g4 := B6.blk.cell 4 rfl; have g5 := B6.blk.cell 5 rfl; have g6 := B6.blk.cell 6 rfl
    have r0 := B0.blk.cell 0 rfl; have f0 := B0.blk.fr 0; have r1 := B0.blk.cell 1 rfl; have f1 := B0.blk.fr 1; have r2 := B0.blk.cell 2 rfl; have f2 := B0.blk.fr 2; have r3 := B0.blk.cell 3 rfl; have f3 := B0.blk.fr 3; have r4 := B0.blk.cell 4 rfl; have f4 := B0.blk.fr 4; have r5 := B0.blk.cell 5 rfl; have f5 := B0.blk.fr 5; have r6 := B0.blk.cell 6 rfl; have f6 := B0.blk.fr 6
    go_wp2_with fail
    have B9 := (((((((B0.set (by omega) hd (by omega) 0 (.int .i64 al)).set (by omega) hd (by omega) 1 (.int .i64 st)).set (by omega) hd (by omega) 2 (.slice s1 s2 s3)).set (by omega) hd (by omega) 3 (.int .i64 pal)).set (by omega) hd (by omega) 4 (.slice s4 s5 s6)).set (by omega) hd (by omega) 5 (.slice s7 s8 s9)).set (by omega) hd (by omega) 6 (.int .i64 tal))
    have hS9 := hES |>.set o0 (.inl hwlo) 0 (.int .i64 al) |>.set o0 (.inl hwlo) 1 (.int .i64 st) |>.set o0 (.inl hwlo) 2 (.slice s1 s2 s3) |>.set o0 (.inl hwlo) 3 (.int .i64 pal) |>.set o0 (.inl hwlo) 4 (.slice s4 s5 s6) |>.set o0 (.inl hwlo) 5 (.slice s7 s8 s9) |>.set o0 (.inl hwlo) 6 (.int .i64 tal)
    have hA9 := hEA |>.set o0 (.inl hwlo) 0 (.int .i64 al) |>.set o0 (.inl hwlo) 1 (.int .i64 st) |>.set o0 (.inl hwlo) 2 (.slice s1 s2 s3) |>.set o0 (.inl hwlo) 3 (.int .i64 pal) |>.set o0 (.inl hwlo) 4 (.slice s4 s5 s6) |>.set o0 (.inl hwlo) 5 (.slice s7 s8 s9) |>.set o0 (.inl hwlo) 6 (.int .i64 tal)
    clear g0 r0 f0 g1 r1 f1 g2 r2 f2 g3 r3 f3 g4 r4 f4 g5 r5 f5 g6 r6 f6 hES hEA B0 B6
    have hz9 : hi ≤ ((((((((wc.setCell ⟨w.heap.size, 0, none⟩ (.int .i64 al)).setCell ⟨w.heap.size, 1, none⟩ (.int .i64 st)).setCell ⟨w.heap.size, 2, none⟩ (.slice s1 s2 s3)).setCell ⟨w.heap.size, 3, none⟩ (.int .i64 pal)).setCell ⟨w.heap.size, 4, none⟩ (.slice s4 s5 s6)).setCell ⟨w.heap.size, 5, none⟩ (.slice s7 s8 s9)).setCell ⟨w.heap.size, 6, none⟩ (.int .i64 tal))).heap.size := by simp; exact hh6
    generalize (((((((wc.setCell ⟨w.heap.size, 0, none⟩ (.int .i64 al)).setCell ⟨w.heap.size, 1, none⟩ (.int .i64 st)).setCell ⟨w.heap.size, 2, none⟩ (.slice s1 s2 s3)).setCell ⟨w.heap.size, 3, none⟩ (.int .i64 pal)).setCell ⟨w.heap.size, 4, none⟩ (.slice s4 s5 s6)).setCell ⟨w.heap.size, 5, none⟩ (.slice s7 s8 s9)).setCell ⟨w.heap.size, 6, none⟩ (.int .i64 tal)) = w9 at B9 hS9 hA9 hz9 ⊢
    have B9' : Blk w9 w.heap.size #[.int .i64 al, .int .i64 st, (.slice s1 s2 s3), .int .i64 pal, (.slice s4 s5 s6), (.slice s7 s8 s9), .int .i64 tal] 57 := B9.blk
    have g0 := B9'.cell 0 rfl; have g1 := B9'.cell 1 rfl; have g2 := B9'.cell 2 rfl; have g3 := B9'.cell 3 rfl; have g4 := B9'.cell 4 rfl; have g5 := B9'.cell 5 rfl; have g6 := B9'.cell 6 rfl
    refine bodyPost_ret (v := .agg #[.int .i64 al, .int .i64 st, (.slice s1 s2 s3), .int .i64 pal, (.slice s4 s5 s6), (.slice s7 s8 s9), .int .i64 tal]) (by simp [results, Tryz.results101, go_sem, g0, g1, g2, g3, g4, g5, g6]) rfl ?_
    exact ⟨_, D', rfl, B9.inc, B9.st, B9.tr, lo, hi, al, st, pal, tal, (.slice s1 s2 s3), (.slice s4 s5 s6), (.slice s7 s8 s9), rfl, hS9, hA9, hWin, hglo, hz9⟩
end Go.Proofs.YtadplnbadfnlfaaGreatDoor

namespace Go.Proofs.YtadplnbadfnlfaaGreatDoor
set_option linter.unusedSimpArgs false
set_option linter.unusedVariables false
open Go.RowKit
set_option maxHeartbeats 2000000
set_option maxRecDepth 100000

def TaskDrawn (w : World) (e : Ending) (w' : World) : Prop := ∃ vt T, e = .returned vt ∧ Ext w w' ∧ TaskV w' vt T ∧ T.sys.edges.length ≤ 70000
theorem DrawWeakestAssumption_t (v : Value) (l : List UInt8) (w : World) (hv : BytesV w v l) (hl : l.length ≤ 1048576) :
    Calls Tryz.prog 36 #[v] w (TaskDrawn w) := by
  obtain ⟨wo, hwo⟩ : ∃ wo, wo = w.alloc (.cells #[.int .i64 0, .int .i64 0, .slice none 0 0, .int .i64 0, .slice none 0 0, .slice none 0 0, .int .i64 0] 57) := ⟨_, rfl⟩
  have he : Ext w wo := by rw [hwo]; exact Ext.alloc _ _
  have b0 : Blk wo w.heap.size #[.int .i64 0, .int .i64 0, .slice none 0 0, .int .i64 0, .slice none 0 0, .slice none 0 0, .int .i64 0] 57 := by rw [hwo]; exact Blk.new _ _ _
  have hso : w.heap.size < wo.heap.size := by rw [hwo]; simp
  go_enter Tryz.func36, Tryz.ntmps36
  go_wp2_with fail
  rw [← hwo]
  clear hwo
  refine (l19Open_t v l wo (hv.mono (fun b o x _ h => he.cell h) he.size) hl).mono ?_
  rintro e w1 ⟨g, rfl, hgb, he1, hs1⟩
  have b0 := b0.ext he1
  have hlo1 : Below w.heap.size w w1 := he.trans he1
  have hz1 : w.heap.size ≤ w1.heap.size := hlo1.size
  go_wp2_with fail
  refine (l9Large_t hs1 (by omega)).mono ?_
  rintro e w2 ⟨r, D2, rfl, hi2, hs2, ht2, hE⟩
  have hlow : Below w.heap.size w1 w2 := ht2.tnd.below hz1 fun b hb => by
    rcases hb with hb | hb
    · have := (hs1.dom b hb).1; omega
    · omega
  have hno : ¬ D2 w.heap.size := fun hb => by have := (hs2.dom _ hb).1; omega
  have b0 := b0.tr ht2 (fun h => h) (by omega)
  have hlo2 := Below.trans hlo1 hlow
  obtain ⟨al, st, pal, tal, s1, s2, s3, s4, s5, s6, s7, s8, s9, rfl⟩ := hE.shape
  have hgw : w.heap.size < g := by omega
  have hE9 := hE |>.set hgw hno 0 (.int .i64 al) |>.set hgw hno 1 (.int .i64 st) |>.set hgw hno 2 (.slice s1 s2 s3) |>.set hgw hno 3 (.int .i64 pal) |>.set hgw hno 4 (.slice s4 s5 s6) |>.set hgw hno 5 (.slice s7 s8 s9) |>.set hgw hno 6 (.int .i64 tal)
  have hk9 : Tnd (fun b => b = w.heap.size) w2 _ := (Kept.set w2 w.heap.size 0 (.int .i64 al)) |>.trans (Kept.set _ w.heap.size 1 (.int .i64 st)) |>.trans (Kept.set _ w.heap.size 2 (.slice s1 s2 s3)) |>.trans (Kept.set _ w.heap.size 3 (.int .i64 pal)) |>.trans (Kept.set _ w.heap.size 4 (.slice s4 s5 s6)) |>.trans (Kept.set _ w.heap.size 5 (.slice s7 s8 s9)) |>.trans (Kept.set _ w.heap.size 6 (.int .i64 tal))
  have hT9 := hs2.typ.tnd hk9 (fun b hb => by subst hb; exact hno)
  obtain ⟨T, hTe, hTV⟩ := hE9.task hT9
  have hx9 := Below.trans hlo2 (hk9.below hlo2.size fun b hb => by omega)
  have HEnd := Lib.hid (show TaskDrawn w (.returned (.agg #[.int .i64 al, .int .i64 st, .slice s1 s2 s3, .int .i64 pal, .slice s4 s5 s6, .slice s7 s8 s9, .int .i64 tal])) _ from ⟨_, T, rfl, hx9, hTV, by omega⟩)
  have b9 := ((((((b0.set 0 (.int .i64 al)).set 1 (.int .i64 st)).set 2 (.slice s1 s2 s3)).set 3 (.int .i64 pal)).set 4 (.slice s4 s5 s6)).set 5 (.slice s7 s8 s9)).set 6 (.int .i64 tal)
  have B9 : Blk _ w.heap.size #[.int .i64 al, .int .i64 st, .slice s1 s2 s3, .int .i64 pal, .slice s4 s5 s6, .slice s7 s8 s9, .int .i64 tal] 57 := b9
  have r0 := b0.cell 0 rfl; have f0 := b0.fr 0; have r1 := b0.cell 1 rfl; have f1 := b0.fr 1; have r2 := b0.cell 2 rfl; have f2 := b0.fr 2; have r3 := b0.cell 3 rfl; have f3 := b0.fr 3; have r4 := b0.cell 4 rfl; have f4 := b0.fr 4; have r5 := b0.cell 5 rfl; have f5 := b0.fr 5; have r6 := b0.cell 6 rfl; have f6 := b0.fr 6
  clear hE hE9 hk9 hT9 hTV hx9 b9 hs1 hs2 ht2 hi2 hlo1 hlo2 hlow
  go_wp2_with fail
  have g0 := B9.cell 0 rfl; have g1 := B9.cell 1 rfl; have g2 := B9.cell 2 rfl; have g3 := B9.cell 3 rfl; have g4 := B9.cell 4 rfl; have g5 := B9.cell 5 rfl; have g6 := B9.cell 6 rfl
  refine bodyPost_ret (v := .agg #[.int .i64 al, .int .i64 st, .slice s1 s2 s3, .int .i64 pal, .slice s4 s5 s6, .slice s7 s8 s9, .int .i64 tal]) (by simp [results, Tryz.results36, go_sem, g0, g1, g2, g3, g4, g5, g6]) rfl HEnd.out
end Go.Proofs.YtadplnbadfnlfaaGreatDoor
