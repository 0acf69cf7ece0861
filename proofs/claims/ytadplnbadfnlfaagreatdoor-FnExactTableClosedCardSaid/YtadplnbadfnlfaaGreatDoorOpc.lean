/- Part of this seat's proofs, cut to what its law needs. -/

import Derived.Test.YtadplnbadfnlfaaGreatDoorOrr
import Derived.Test.YtadplnbadfnlfaaGreatDoorOpn
import Derived.Laws.Runes
namespace Go.Proofs.YtadplnbadfnlfaaGreatDoor
set_option linter.unusedSimpArgs false
set_option linter.unusedVariables false
open Go Go.RowKit Go.Maps
set_option maxHeartbeats 4000000
set_option maxRecDepth 100000

theorem enc_letter {l : Nat} (h : l < 6) : Utf8.encode (97 + (l : Int)) = wtext [(l : Int)] := by
  have : l = 0 ∨ l = 1 ∨ l = 2 ∨ l = 3 ∨ l = 4 ∨ l = 5 := by omega
  rcases this with rfl | rfl | rfl | rfl | rfl | rfl <;> rfl

section
variable {al : Int} {f : ByteArray → Bool} {m lo bs : Nat} {vo : Value} {J : Nat → World → Prop}
def OpenEnd (m lo : Nat) (J : Nat → World → Prop) (c : Nat) (o : Option ByteArray) (w : World) (e : Ending) (w' : World) : Prop := e = .returned (.tuple #[.string (otext o), .bool o.isSome]) ∧ (∃ c', c' ≤ c + 17000000 ∧ J c' w') ∧ Touch eK m lo w w'

theorem firstOpen_c (hO : Ora al f m lo bs vo J) (vr vc : Value) (t : Table) (c : Nat) (w : World) (hJ : J c w) (hc : c + 20000000 ≤ 90000000) (hG : Grown al t) (hR : ∀ w', Touch eK m lo w w' → StrsV w' vr t.rows) (hC : ∀ w', Touch eK m lo w w' → StrsV w' vc t.cols) (hbs : bs ≤ w.heap.size) :
    Calls Tryz.prog 92 #[.agg #[.int .i64 al, vo], .agg #[vr, vc]] w (OpenEnd m lo J c (openW f al t) w) := by
  have hR0 := hR w (Touch.refl _ _ _ _)
  have hC0 := hC w (Touch.refl _ _ _ _)
  obtain ⟨aR, cR, rfl, -, -⟩ := SlV.open hR0
  obtain ⟨aC, cC, rfl, -, -⟩ := SlV.open hC0
  have HTV := Lib.hid hR
  have HTC := Lib.hid hC
  have HO := Lib.hid hO
  have HG := Lib.hid hG
  have hr12 := hG.len
  have hmlt := hO.mlt
  have hllt := hO.llt
  have ha : 0 ≤ al ∧ al ≤ 63 := by simpa [isAlpha] using hG.asks.alpha
  obtain ⟨ha0, ha63⟩ := ha
  have hl6 : (letters al).length ≤ 6 := lettersTo_len al 6
  obtain ⟨o, ho⟩ : ∃ o, openW f al t = o := ⟨_, rfl⟩
  rw [ho]
  have HOP := Lib.hid ho
  clear hG hR hC hR0 hC0 ho
  obtain ⟨wo, hwo⟩ : ∃ wo, wo = (w.alloc (.cells #[.int .i64 al, vo] 126)).alloc (.cells #[.slice aR t.rows.length cR, .slice aC t.cols.length cC] 61) := ⟨_, rfl⟩
  have he : Ext w wo := by rw [hwo]; exact (Ext.alloc _ _).trans (Ext.alloc _ _)
  have b2 : Blk wo w.heap.size #[.int .i64 al, vo] 126 := by rw [hwo]; exact Ext.blk (Ext.alloc _ _)
  have b3 : Blk wo (w.heap.size + 1) #[.slice aR t.rows.length cR, .slice aC t.cols.length cC] 61 := by rw [hwo]; exact Ext.blk1 (Ext.refl _)
  have hJo := hO.ext hbs hJ he
  have hszo := he.size
  have ht0 : Touch eK m lo w wo := Touch.ext he
  have HRN := Lib.hid (rowNumbers_c hO (.slice aR t.rows.length cR) (.slice aC t.cols.length cC) t.rows t.cols c wo hJo (by omega) HG.out.asks (fun r hr => ⟨(HG.out.row r hr).2, by have := (HG.out.row r hr).1; omega⟩) hr12 (fun w' h => HTV.out w' (ht0.trans h)) (fun w' h => HTC.out w' (ht0.trans h)) (by omega))
  clear hJ hJo hO he
  go_enter Tryz.func92, Tryz.ntmps92
  go_upto_region 1 with fail
  rw [← hwo]
  clear hwo
  have b2_0 := b2.cell 0 rfl
  have b2_1 := b2.cell 1 rfl
  have b3_0 := b3.cell 0 rfl
  have b3_1 := b3.cell 1 rfl
  go_wp2_with fail
  refine HRN.out.mono ?_
  rintro e w1 ⟨bm, D, nm, rfl, hmo, hbm, HM, ⟨c1, hc1, hJ1⟩, ht1⟩
  have HMM := Lib.hid HM
  replace b2 := ht1.blk b2 (by decide) (by omega)
  replace b3 := ht1.blk b3 (by decide) (by omega)
  have ht := ht0.trans ht1
  clear b2_0 b2_1 b3_0 b3_1 HRN HM ht0 ht1
  have b3_0 := b3.cell 0 rfl
  go_wp2_with fail
  go_loopw [20] (fun i wr => ∃ k c' : Nat, k ≤ t.rows.length ∧ i = .int .i64 k ∧ c' ≤ c1 + k * 1200000 ∧ J c' wr ∧ Hid (∀ x ∈ behindTo al t.rows k 0, isOpen f t x = false) ∧ wr.ownsMap Tryz.prog 9 (plainElem (H := Unit) Tryz.prog 3) bm nm D ∧ Touch eK m lo w wr ∧ Blk wr w.heap.size #[.int .i64 al, vo] 126 ∧ Blk wr (w.heap.size + 1) #[.slice aR t.rows.length cR, .slice aC t.cols.length cC] 61) (fun i _ => t.rows.length - (intOf i).toNat)
  case atStart => exact ⟨0, c1, by omega, rfl, by omega, hJ1, Lib.hid (by rw [behindTo_zero]; intro x hx; cases hx), hmo, ht, b2, b3⟩
  case round =>
    clear hJ1 hmo ht b2 b3 b3_0
    obtain ⟨k, c', hk, rfl, hc', hJ, HNO, hmo, ht, b2, b3⟩ := hrel
    have hszr := ht.size
    by_cases hlt : k < t.rows.length
    case neg =>
      obtain rfl : k = t.rows.length := by omega
      have hoe : o = none := by rw [← HOP.out]; exact openW_none HNO.out
      subst hoe
      go_wp2_with fail
      go_ret2
      exact ⟨rfl, ⟨c', by omega, hJ⟩, ht⟩
    obtain ⟨r, hr⟩ : ∃ r, t.rows[k]? = some r := ⟨_, List.getElem?_eq_getElem hlt⟩
    have HR := Lib.hid hr
    have hrs := (HG.out.row r (List.mem_of_getElem? hr)).1
    obtain ⟨aR', cR', eR, -, hat⟩ := SlV.open (HTV.out wr ht)
    cases eR
    obtain ⟨bR, oR, rfl, -, hcc⟩ := hat k r hr
    have q1 : wr.cell? ⟨bR, oR + k, none⟩ = some (.string r) := by have := hcc k r hr; unfold StrAt' at this; rwa [Nat.mul_one] at this
    have hks : (k : Int) < (t.rows.length : Int) := by omega
    have b2_0 := b2.cell 0 rfl
    clear hr hat hcc
    go_wp2_with fail
    refine (lettersOf_o al wr ha0 ha63).mono ?_
    rintro e w4 ⟨vl, rfl, he4, hLo⟩
    obtain ⟨aL, cL, rfl⟩ := hLo.shape
    have b24 := b2.ext he4
    have b34 := b3.ext he4
    have hJ4 := HO.out.ext (by omega) hJ he4
    have hm4 := map_ext hmo he4
    have ht4 := ht.trans (Touch.ext he4)
    have hz4 := he4.size
    obtain ⟨base, hbase⟩ : ∃ base, wr.heap.size = base := ⟨_, rfl⟩
    rw [hbase] at hLo hszr hz4
    clear hJ hmo ht b2 b3 q1 b2_0 he4 hbase
    go_wp2_with fail
    go_loopw [28] (fun i wr => ∃ j d : Nat, j ≤ (letters al).length ∧ i = .int .i64 j ∧ d ≤ c1 + k * 1200000 + j * 200000 ∧ J d wr ∧ Hid (∀ x ∈ behindTo al t.rows k j, isOpen f t x = false) ∧ wr.ownsMap Tryz.prog 9 (plainElem (H := Unit) Tryz.prog 3) bm nm D ∧ IntsOwn 3 base wr (.slice aL (letters al).length cL) (letters al) ∧ Touch eK m lo w wr ∧ Blk wr w.heap.size #[.int .i64 al, vo] 126 ∧ Blk wr (w.heap.size + 1) #[.slice (some ⟨bR, oR, none⟩) t.rows.length cR, .slice aC t.cols.length cC] 61) (fun i _ => (letters al).length - (intOf i).toNat)
    case atStart => exact ⟨0, c', by omega, rfl, by omega, hJ4, HNO, hm4, hLo, ht4, b24, b34⟩
    case round =>
      clear hJ4 HNO hm4 hLo ht4 b24 b34 hc' hz4
      obtain ⟨j, d, hj, rfl, hd, hJ, HNO, hmo, hLo, ht, b2, b3⟩ := hrel
      have hzr := ht.size
      by_cases hlj : j < (letters al).length
      case neg =>
        obtain rfl : j = (letters al).length := by omega
        have HNO2 : Hid (∀ x ∈ behindTo al t.rows (k + 1) 0, isOpen f t x = false) := Lib.hid (by rw [behindTo_next HR.out]; exact HNO.out)
        have hd2 : d ≤ c1 + (k + 1) * 1200000 := by omega
        go_wp2_with fail
        exact ⟨⟨k + 1, d, by omega, by go_num, hd2, hJ, HNO2, hmo, ht, b2, b3⟩, by simp [intOf]; omega⟩
      obtain ⟨l, hl⟩ : ∃ l, (letters al)[j]? = some l := ⟨_, List.getElem?_eq_getElem hlj⟩
      have HL := Lib.hid hl
      have hlm := List.mem_of_getElem? hl
      obtain ⟨l0, l6⟩ := letters_lt6 ha63 l hlm
      obtain ⟨ln, hln⟩ := Int.eq_ofNat_of_zero_le l0
      obtain ⟨gL, cL', eL, q2⟩ := own_at hLo.own (j := j) (u := .int .i64 ln) (by rw [List.getElem?_map, hl, hln]; rfl)
      obtain ⟨hwi, hws⟩ := HG.out.behind (List.mem_of_getElem? HR.out) hlm
      obtain ⟨s, hs0⟩ : ∃ s, r ++ wtext [(ln : Int)] = s := ⟨_, rfl⟩
      have HS := Lib.hid hs0
      have hin : wordIn s al = true ∧ s.size ≤ 23 := by rw [← hs0]; rw [hln] at hwi hws; exact ⟨hwi, hws⟩
      obtain ⟨hwi2, hws2⟩ := hin
      have hsz1 : (wtext [(ln : Int)]).size = 1 := by rw [size_wtext]; rfl
      obtain ⟨tl, htl⟩ : ∃ tl, wtext [(ln : Int)] = tl := ⟨_, rfl⟩
      have hen : Utf8.encode (wrap32 (97 + (ln : Int))) = tl := by rw [← htl, ← enc_letter (l := ln) (by omega)]; congr 1; unfold wrap32; omega
      have hs : r ++ tl = s := by rw [← htl]; exact hs0
      have hov : ¬ 9223372036854775807 < r.size + tl.size := by rw [← htl]; omega
      have HLB := Lib.hid (fun w' => letterByte_c ln w' (by omega))
      have HMK := Lib.hid (marks_c HO.out (.slice (some ⟨bR, oR, none⟩) t.rows.length cR) (.slice aC t.cols.length cC) t.cols s d wr hJ (by omega) HG.out.asks hwi2 (by omega) (fun w' h => HTC.out w' (ht.trans h)) (by omega))
      obtain ⟨mk, hmk⟩ : ∃ mk, rowB f t.cols s = mk := ⟨_, rfl⟩
      rw [hmk] at HMK
      have hmz : mk.size ≤ maxLen := by rw [← hmk, rowB_size]; have := HG.out.asks.len; unfold maxLen; omega
      have hkey := Lib.hid (key_str hmz)
      obtain ⟨ok, hok⟩ : ∃ ok, decide (mk ∈ seenM f t.rows t.cols) = ok := ⟨_, rfl⟩
      have hhas : Maps.has D (keyS mk) = ok := by rw [HMM.out.1 mk, hok]
      have HOPEN : Hid (isOpen f t s = !ok) := Lib.hid (isOpen_iff (by rw [hmk, ← hok]; exact decide_eq_decide.2 seenM_mem.symm))
      have HBT : Hid (behindTo al t.rows k (j + 1) = behindTo al t.rows k j ++ [s]) := Lib.hid (by rw [behindTo_succ HR.out HL.out, hln]; rw [← HS.out]; first | done | rfl)
      have HFO : Hid (ok = false → openW f al t = some s) := Lib.hid (fun hmf => by
        have := openW_found (f := f) HR.out HL.out HNO.out (by rw [hln]; show isOpen _ _ (r ++ wtext [(ln : Int)]) = true; rw [HS.out, HOPEN.out, hmf]; rfl)
        rw [this, hln]; rw [← HS.out]; first | done | rfl)
      have hjs : (j : Int) < ((letters al).length : Int) := by omega
      have b2_0 := b2.cell 0 rfl
      have b2_1 := b2.cell 1 rfl
      have b3_0 := b3.cell 0 rfl
      have b3_1 := b3.cell 1 rfl
      clear hl hlm hln hwi hws hmk hok htl hsz1 hs0 hwi2 hws2
      cases eL
      go_wp2_with (go_at_call 180; refine (HLB.out _).mono ?_; rintro e w' ⟨rfl, rfl⟩)
      refine HMK.out.mono ?_
      rintro e w5 ⟨rfl, ⟨c5, hc5, hJ5⟩, ht5⟩
      have hm5 := ht5.mapKept hmo (by omega)
      have hL5 := ht5.kept hLo.own (by decide) (by omega)
      have b25 := ht5.blk b2 (by decide) (by omega)
      have b35 := ht5.blk b3 (by decide) (by omega)
      have t5 := ht.trans ht5
      clear b2_0 b2_1 b3_0 b3_1 HMK q2
      cases ok with
      | true =>
        have HNO2 : Hid (∀ y ∈ behindTo al t.rows k (j + 1), isOpen f t y = false) := Lib.hid (by
          rw [HBT.out]
          intro y hy
          rcases List.mem_append.1 hy with hy | hy
          · exact HNO.out y hy
          · simp only [List.mem_singleton] at hy
            rw [hy, HOPEN.out]; rfl)
        go_wp2_with (at_lookup; refine wpList_lookup_own_ok_int _ rfl _ _ 201 rfl 9 3 .i64 lawStr Tryz.underlying201 Tryz.underlying3 (zeroInt _) bm nm D rfl hm5 _ _ rfl hkey.out ?_; intro c0 hat hwc; rw [hhas]; clear hat hwc)
        exact ⟨⟨j + 1, c5, by omega, by go_num, by omega, hJ5, HNO2, hm5, hL5, t5, b25, b35⟩, by simp [intOf]; omega⟩
      | false =>
        have hoe : o = some s := by rw [← HOP.out]; exact HFO.out (by first | rfl | trivial)
        subst hoe
        go_wp2_with (at_lookup; refine wpList_lookup_own_ok_int _ rfl _ _ 201 rfl 9 3 .i64 lawStr Tryz.underlying201 Tryz.underlying3 (zeroInt _) bm nm D rfl hm5 _ _ rfl hkey.out ?_; intro c0 hat hwc; rw [hhas]; clear hat hwc)
        go_ret2
        exact ⟨rfl, ⟨c5, by omega, hJ5⟩, t5⟩
end
end Go.Proofs.YtadplnbadfnlfaaGreatDoor
