/- Part of this seat's proofs, cut to what its law needs. -/

import Derived.Test.YtanekmfifmkbmaaGreatDoorCtS
import Derived.Test.YtanekmfifmkbmaaGreatDoorWalkP
import Derived.Test.YtanekmfifmkbmaaGreatDoorWalkSI
namespace Go.Proofs.YtanekmfifmkbmaaGreatDoor
set_option linter.unusedSimpArgs false
set_option linter.unusedVariables false
open Go Go.RowKit
set_option maxHeartbeats 2000000
set_option maxRecDepth 100000

def digB (d : Nat) : ByteArray := ⟨#[UInt8.ofNat (48 + d)]⟩
def mgo : Nat → Nat → ByteArray → ByteArray
  | 0, _, acc => acc
  | f + 1, n, acc => if n = 0 then acc else mgo f (n / 10) (digB (n % 10) ++ acc)
def mtext (n : Nat) : ByteArray := ByteArray.mk #[109] ++ mgo 20 n (ByteArray.mk #[])
theorem mgo_zero (f : Nat) (acc : ByteArray) : mgo f 0 acc = acc := by cases f <;> simp [mgo]
theorem mgo_step {f n : Nat} (h : n ≠ 0) (acc : ByteArray) : mgo (f + 1) n acc = mgo f (n / 10) (digB (n % 10) ++ acc) := by rw [mgo, if_neg h]
theorem dig_val (d : Nat) (h : d < 10) : byteVal (UInt8.ofNat (48 + d)) = .int .u8 (48 + (d : Int)) := by
  unfold byteVal
  congr 1
  simp
  omega

theorem markText_c (n : Nat) (w : World) (h0 : 1 ≤ n) (hn : n ≤ 1000000) : Calls Tryz.prog 115 #[.int .i64 n] w (Grows (.string (mtext n)) w) := by
  obtain ⟨M, hM⟩ : ∃ M, mgo 20 n (ByteArray.mk #[]) = M := ⟨_, rfl⟩
  have hMT : Hid (mtext n = ByteArray.mk #[109] ++ M) := Lib.hid (by unfold mtext; rw [hM])
  have hM' := Lib.hid hM
  clear hM
  have h1 : ¬ (n : Int) ≤ 0 := by omega
  go_enter Tryz.func115, Tryz.ntmps115
  go_wp2_with fail
  go_loopw [0, 3] (fun i s wr => ∃ (k fu : Nat) (acc : ByteArray), i = .int .i64 k ∧ s = .string acc ∧ acc.size + fu = 20 ∧ k ≤ n ∧ Hid (k * 10 ^ acc.size ≤ n) ∧ Hid (M = mgo fu k acc) ∧ Ext w wr) (fun i _ _ => (intOf i).toNat)
  case atStart => exact ⟨n, 20, _, rfl, rfl, rfl, Nat.le_refl _, Lib.hid (by show n * 10 ^ 0 ≤ n; omega), Lib.hid hM'.out.symm, Ext.refl _⟩
  case round =>
    obtain ⟨k, fu, acc, rfl, rfl, hfu, hkn, hk, HM, hx⟩ := hrel
    by_cases hz : 0 < k
    · have hf0 : fu ≠ 0 := fun e => by
        subst e
        have h2 := hk.out
        rw [show acc.size = 20 by omega] at h2
        have : 1 * 10 ^ 20 ≤ k * 10 ^ 20 := Nat.mul_le_mul_right _ hz
        omega
      obtain ⟨f', rfl⟩ : ∃ f', fu = f' + 1 := ⟨fu - 1, by omega⟩
      have hcv := (BytesOwn.one wr (UInt8.ofNat (48 + k % 10))).string
      rw [dig_val _ (by omega), show ((k % 10 : Nat) : Int) = (k : Int) % 10 by omega] at hcv
      have hsz1 : (digB (k % 10)).size = 1 := rfl
      obtain ⟨dg, hdg⟩ : ∃ dg, digB (k % 10) = dg := ⟨_, rfl⟩
      have hcv2 : (convert 22 9 (.slice (some ⟨wr.heap.size, 0, none⟩) 1 1)).run Tryz.prog (wr.alloc (.cells #[.int .u8 (48 + (k : Int) % 10)] 5)) = .ok (.string dg) (wr.alloc (.cells #[.int .u8 (48 + (k : Int) % 10)] 5)) := by rw [← hdg]; exact hcv
      rw [hdg] at hsz1
      have hb1 : dg.size + acc.size ≤ 9223372036854775807 := by omega
      clear hcv
      have HM2 : Hid (M = mgo f' (k / 10) (dg ++ acc)) := Lib.hid (by rw [HM.out, mgo_step (by omega), hdg])
      have HK2 : Hid (k / 10 * 10 ^ (dg ++ acc).size ≤ n) := Lib.hid (by
        rw [ByteArray.size_append, hsz1, Nat.add_comm 1, Nat.pow_succ, Nat.mul_comm (10 ^ acc.size), ← Nat.mul_assoc]
        exact Nat.le_trans (Nat.mul_le_mul_right _ (Nat.div_mul_le_self k 10)) hk.out)
      clear hk HM hdg
      go_wp2_with fail
      exact ⟨⟨k / 10, f', dg ++ acc, by first | rfl | go_num, rfl, by rw [ByteArray.size_append]; omega, by omega, HK2, HM2, hx.trans (Ext.alloc _ _)⟩, by simp only [intOf]; omega⟩
    · obtain rfl : k = 0 := by omega
      have HA : Hid (mtext n = ByteArray.mk #[109] ++ acc) := Lib.hid (by rw [hMT.out, HM.out, mgo_zero])
      have hb1 : ¬ 9223372036854775807 < (ByteArray.mk #[109]).size + acc.size := by show ¬ _ < 1 + acc.size; omega
      have hb2 : ¬ 9223372036854775807 < 1 + acc.size := by omega
      clear hk HM
      go_wp2_with fail
      go_ret
      exact Grows.mk (by rw [HA.out]; rfl) hx

theorem mk_next (n : Int) (j : Nat) (h0 : 0 ≤ n) (h1 : n + j ≤ 1000000) : Value.int .i64 (wrap64 (n + (j : Int) + 1)) = .int .i64 (n + ((j + 1 : Nat) : Int)) := by
  have hw : wrap64 (n + (j : Int) + 1) = n + (j : Int) + 1 := by unfold wrap64; omega
  rw [hw]; congr 1; omega
def markS (n : Int) (j : Nat) : Value := .string (mtext (n + j).toNat)
theorem markStrS_x {v : Value} {n : Int} {k : Nat} {xs : List Value} {base : Nat} {w : World} (h : w.ownsRow base 9 1 v k xs) (hn : 1 ≤ n) (hk : n + k ≤ 1000000) :
    Calls Tryz.prog 60 #[v, .int .i64 n] w (fun e w' => e = .returned (.int .i64 (n + k)) ∧ Tnd (fun b => v.ownBlock = some b) w w' ∧ Marked 9 1 base w' v k (markS n)) := by
  obtain ⟨a, c, rfl⟩ := own_any h
  go_enter Tryz.func60, Tryz.ntmps60
  go_wp2_with fail
  go_loopw [1, 5] (fun m i wr => ∃ (j : Nat) (L : List Value), j ≤ k ∧ i = .int .i64 j ∧ m = .int .i64 (n + j) ∧ wr.ownsRow base 9 1 (.slice a k c) k L ∧ MarkTo (markS n) L j ∧ Tnd (fun b => (Value.slice a k c).ownBlock = some b) w wr) (fun _ i _ => k - (intOf i).toNat)
  case atStart => exact ⟨0, _, by omega, rfl, by simp, h, fun j hj => by omega, Tnd.refl _ _⟩
  case round =>
    obtain ⟨j, L, hj, rfl, rfl, hown, hm, hc⟩ := hrel
    have hL := hown.1
    by_cases hlt : j < k
    · obtain ⟨p, hp⟩ := Int.eq_ofNat_of_zero_le (show 0 ≤ n + (j : Int) by omega)
      have HMT := Lib.hid (fun w' => markText_c p w' (by omega) (by omega))
      have HP := Lib.hid hp
      have hmk : Hid (markS n j = .string (mtext p)) := Lib.hid (by unfold markS; rw [hp]; rfl)
      obtain ⟨g, rfl, hg⟩ := own_some hown (by omega)
      obtain ⟨u, hu⟩ : ∃ u, L[j]? = some u := ⟨_, List.getElem?_eq_getElem (by omega)⟩
      rw [hp]
      clear hp
      go_wp2_with fail
      refine (HMT.out wr).mono ?_
      rintro e w2 ⟨rfl, he2⟩
      have hown2 := own_ext hown he2
      have gc := own_cell hown2 hu
      have fz := hown2.frozenAt j
      have hks : (j : Int) < (k : Int) := by omega
      go_wp2_with fail
      obtain ⟨o1, o2⟩ := hown2.stored j (markS n j)
      rw [hmk.out] at o1 o2
      exact ⟨⟨j + 1, _, by omega, by go_num, by rw [← HP.out]; exact mk_next n j (by omega) (by omega), o1, by rw [← hmk.out]; exact hm.set (by omega), (hc.trans (Tnd.ext he2)).trans (Tnd.grown o2 fun b hb => hb)⟩, by simp [intOf]; omega⟩
    · obtain rfl : j = k := by omega
      go_wp2_with fail
      go_ret
      refine ⟨rfl, hc, ?_⟩
      unfold Marked
      rw [← hL, ← MarkTo.all (by rw [hL, Nat.mul_one]; exact hm)]
      exact hown
theorem heldStrS_c (v : Value) (n : Int) (k : Nat) (base : Nat) (w : World) (h : Marked 9 1 base w v k (markS n)) (hn : 1 ≤ n) (hk : n + k ≤ 1000000) :
    Calls Tryz.prog 61 #[v, .int .i64 n] w (Grows (.int .i64 (n + k)) w) := by
  obtain ⟨a, c, rfl⟩ := own_any h
  have HH := Lib.hid h
  go_enter Tryz.func61, Tryz.ntmps61
  go_wp2_with fail
  go_loopw [1, 5] (fun m i wr => ∃ j : Nat, j ≤ k ∧ i = .int .i64 j ∧ m = .int .i64 (n + j) ∧ Ext w wr) (fun _ i _ => k - (intOf i).toNat)
  case atStart => exact ⟨0, by omega, rfl, by simp, Ext.refl _⟩
  case round =>
    obtain ⟨j, hj, rfl, rfl, hx⟩ := hrel
    by_cases hlt : j < k
    · obtain ⟨p, hp⟩ := Int.eq_ofNat_of_zero_le (show 0 ≤ n + (j : Int) by omega)
      have HMT := Lib.hid (fun w' => markText_c p w' (by omega) (by omega))
      have HP := Lib.hid hp
      obtain ⟨g, rfl, hg⟩ := own_some HH.out (by omega)
      have gc : wr.cell? ⟨g, j, none⟩ = some (.string (mtext p)) := hx.cell (own_cell HH.out (u := .string (mtext p)) (by rw [mark_at _ (by omega)]; unfold markS; rw [hp]; rfl))
      obtain ⟨tx, htx⟩ : ∃ tx, mtext p = tx := ⟨_, rfl⟩
      rw [htx] at gc HMT
      have hks : (j : Int) < (k : Int) := by omega
      have D0 := fun d os => cell_regrown gc d os
      have hne : (tx != tx) = false := by simp
      rw [hp]
      clear hp gc htx
      go_wp2_with fail
      refine wp_region_quiet_below (by kernel_rfl) (by kernel_rfl) ?_
      repeat (go_big_quiet_step ((go_at_call 115; exact Grows.quiet (HMT.out _))))
      refine wpQuiet_nil ?_
      intro _ hw'
      obtain ⟨⟨dq, osq⟩, hw''⟩ := hw'
      subst hw''
      have hq3 : Ext wr (Go.Sort.grow (redrawn wr dq) osq) := below_regrown wr dq osq
      generalize Go.Sort.grow (redrawn wr dq) osq = wq at hq3 ⊢
      go_wp2_with fail
      exact ⟨⟨j + 1, by omega, by go_num, by rw [← HP.out]; exact mk_next n j (by omega) (by omega), hx.trans hq3⟩, by simp [intOf]; omega⟩
    · obtain rfl : j = k := by omega
      go_wp2_with fail
      go_ret
      exact Grows.mk rfl hx
end Go.Proofs.YtanekmfifmkbmaaGreatDoor
