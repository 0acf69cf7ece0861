/- Part of this seat's proofs, cut to what its law needs. -/

import Derived.Test.YtanekmfifmkbmaaGreatDoorWalkFB
import Derived.Test.YtanekmfifmkbmaaGreatDoorWalkK
namespace Go.Proofs.YtanekmfifmkbmaaGreatDoor
set_option linter.unusedSimpArgs false
set_option linter.unusedVariables false
open Go Go.RowKit
set_option maxHeartbeats 2000000
set_option maxRecDepth 100000

structure KnowW (w : World) (bt bc : Nat) (A : Auto) : Prop where
  tab : ∃ v, Blk w bt #[v] 147 ∧ TabV w v (table A)
  acc : ∃ k al vn va r0 r1 r2 r3 r4 r5 r6, Blk w bc #[k, al, vn, va, r0, r1, r2, r3, r4, r5, r6] 59 ∧ BoolsV w va A.accept
theorem KnowW.ext {w w' : World} {bt bc : Nat} {A : Auto} (h : KnowW w bt bc A) (he : Ext w w') : KnowW w' bt bc A :=
  let ⟨⟨v, h1, h2⟩, k, al, vn, va, r0, r1, r2, r3, r4, r5, r6, h3, h4⟩ := h
  ⟨⟨v, h1.ext he, h2.mono he⟩, k, al, vn, va, r0, r1, r2, r3, r4, r5, r6, h3.ext he, h4.mono he⟩

theorem orAsk_c (bt bc : Nat) (A : Auto) (s : ByteArray) (w : World) (h : KnowW w bt bc A) (hA : autoValid A = true) (hw : wordIn s A.alphabet = true) :
    Calls Tryz.prog 104 #[.string s, .pointer (some ⟨bt, 0, none⟩), .pointer (some ⟨bc, 0, none⟩)] w (Grows (.bool (accepts A (run A 0 (chars s)))) w) := by
  obtain ⟨⟨vt, hb1, htv⟩, ck, cal, cvn, cva, r0, r1, r2, r3, r4, r5, r6, hb2, hbv⟩ := h
  have hs : s.size ≤ 1048576 := by simp only [wordIn, Bool.and_eq_true, decide_eq_true_eq] at hw; omega
  have HX := Lib.hid hA
  have HW := Lib.hid hw
  obtain ⟨-, ha2, hn0, hn, hna⟩ := autoValid_facts HX.out
  have HNA := Lib.hid hna
  clear hw hA hna
  obtain ⟨at_, ct, rfl, -, hto⟩ := htv.open
  rw [table_len] at *
  have HT := Lib.hid hto
  clear htv hto
  obtain ⟨aa, ca, rfl, -, hc⟩ := hbv.open
  have HC := Lib.hid hc
  clear hbv hc
  have c1 := hb1.cell 0 rfl
  have c2 := hb2.cell 3 rfl
  go_enter Tryz.func104, Tryz.ntmps104
  go_wp2_with fail
  go_loopw [5, 9] (fun p i wr => ∃ k : Nat, k ≤ s.size ∧ i = .int .i64 k ∧ p = .int .i64 (run A 0 ((chars s).take k) : Nat) ∧ Ext w wr) (fun _ i _ => s.size - (intOf i).toNat)
  case atStart => exact ⟨0, by omega, rfl, rfl, Ext.refl _⟩
  case round =>
    obtain ⟨k, hk, rfl, rfl, hext⟩ := hrel
    by_cases hlt : k < s.size
    · have hq := run_lt HX.out ((chars s).take k) (q := 0) (by omega)
      obtain ⟨hl0, hl6⟩ := bit_range ha2 (wordIn_at HW.out hlt)
      obtain ⟨j, hj⟩ := Int.eq_ofNat_of_zero_le hl0
      have HR := Lib.hid (run_take (x := A) (q := 0) (chars_at s k hlt))
      have HJ := Lib.hid hj
      obtain ⟨b, off, rfl, -, hc⟩ := HT.out _ _ (table_at A _ hq)
      have hc := hext.cell (hc _ _ (table_at A _ hq) j (by omega))
      unfold tabRow at hc
      have hj6 : j < 6 := by omega
      have hj6i : (j : Int) < 6 := by omega
      have D0 := fun d os => cell_regrown hc d os
      have D1 := fun d os => cell_regrown (hext.cell c1) d os
      clear hc hl0 hl6 hj
      go_wp2_with fail
      refine wp_region_quiet_below (by kernel_rfl) (by kernel_rfl) ?_
      repeat (go_big_quiet_step ((go_at_call 105; exact Same.quiet (letterAt_in s k j _ hlt hs HJ.out hj6))))
      refine wpQuiet_nil ?_
      intro _ hw'
      obtain ⟨⟨dq, osq⟩, hw''⟩ := hw'
      subst hw''
      have hq2 : Ext wr (Go.Sort.grow (redrawn wr dq) osq) := below_regrown wr dq osq
      generalize Go.Sort.grow (redrawn wr dq) osq = wq at hq2 ⊢
      go_wp2_with fail
      exact ⟨⟨k + 1, by omega, by go_num, by rw [HR.out, HJ.out], hext.trans hq2⟩, by simp [intOf]; omega⟩
    · obtain rfl : k = s.size := by omega
      have hq := run_lt HX.out ((chars s).take s.size) (q := 0) (by omega)
      have HTK : Hid ((chars s).take s.size = chars s) := Lib.hid (by rw [← chars_len, List.take_length])
      rw [HTK.out] at hq ⊢
      obtain ⟨q, hqe⟩ : ∃ q, run A 0 (chars s) = q := ⟨_, rfl⟩
      rw [hqe] at hq ⊢
      obtain ⟨b9, o9, rfl, -, hc9⟩ := HC.out q _ (accepts_at HX.out hq)
      have g9 : wr.cell? ⟨b9, o9 + q, none⟩ = some (.bool (accepts A q)) := by have := hc9 q _ (accepts_at HX.out hq); rw [Nat.mul_one] at this; exact hext.cell this
      obtain ⟨z, hz⟩ : ∃ z, accepts A q = z := ⟨_, rfl⟩
      rw [hz] at g9
      have HZ : Hid (accepts A (run A 0 (chars s)) = z) := Lib.hid (by rw [hqe]; exact hz)
      have i1 : (q : Int) < (A.accept.length : Int) := by have := HNA.out; omega
      have c2r := hext.cell c2
      clear hc9 hqe hz
      go_wp2_with fail
      go_ret
      exact Grows.mk (by rw [HZ.out]; rfl) hext
end Go.Proofs.YtanekmfifmkbmaaGreatDoor
