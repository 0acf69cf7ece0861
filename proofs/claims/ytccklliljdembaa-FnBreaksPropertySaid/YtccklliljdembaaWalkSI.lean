/- Merged: WalkSI, WalkSJ, WalkSK, WalkSL. -/
import Derived.Test.YtccklliljdembaaWalkSE

namespace Go.Proofs.Ytccklliljdembaa
set_option linter.unusedSimpArgs false
set_option linter.unusedVariables false
open Go.RowKit

set_option maxHeartbeats 1600000
set_option maxRecDepth 100000

theorem BytesOwn.one (w : World) (b : UInt8) : BytesOwn 5 w.heap.size (w.alloc (.cells #[byteVal b] 5)) (.slice (some ⟨w.heap.size, 0, none⟩) 1 1) [b] :=
  ⟨by simp, .inr ⟨w.heap.size, 1, #[byteVal b], rfl, Nat.le_refl _, heap_alloc_new w _, Nat.le_refl _, by unfold maxLen; omega, by simp, by simp⟩⟩

theorem l1Text_c (l : Nat) (w : World) (hl : l < 6) : Calls Try.prog 34 #[.int .i64 l] w (Grows (.string (wtext [(l : Int)])) w) := by
  have hb := BytesOwn.one w (lb (l : Int))
  have hcv := hb.string
  rw [lb_val l hl, show ((97 + l : Nat) : Int) = 97 + (l : Int) by omega] at hcv
  go_enter Try.func34, Try.ntmps34
  go_wp2_with fail
  go_ret
  exact Grows.mk rfl (Ext.alloc _ _)

theorem wtext_push (u : List Int) (l : Int) : wtext u ++ wtext [l] = wtext (u ++ [l]) := by
  apply ByteArray.ext
  rw [ByteArray.data_append]
  simp [wtext]

end Go.Proofs.Ytccklliljdembaa

namespace Go.Proofs.Ytccklliljdembaa
set_option linter.unusedSimpArgs false
set_option linter.unusedVariables false
open Go.RowKit

set_option maxHeartbeats 1600000
set_option maxRecDepth 100000

theorem leads_congr {N N' : Nat → Int → List Nat} (h : ∀ node l r, r ∈ N node l ↔ r ∈ N' node l) (s : Nat) (v : List Int) (g : Nat) : Leads N s v g ↔ Leads N' s v g := by
  induction v generalizing s with
  | nil => exact Iff.rfl
  | cons l v ih =>
    show (∃ b, b ∈ N s l ∧ Leads N b v g) ↔ (∃ b, b ∈ N' s l ∧ Leads N' b v g)
    constructor
    · rintro ⟨b, h1, h2⟩; exact ⟨b, (h s l b).1 h1, (ih b).1 h2⟩
    · rintro ⟨b, h1, h2⟩; exact ⟨b, (h s l b).2 h1, (ih b).2 h2⟩
theorem wins_congr {N N' : Nat → Int → List Nat} {L : List Int} {S : List Nat} {G G' : Nat → Bool} (h : ∀ node l r, r ∈ N node l ↔ r ∈ N' node l) (hG : ∀ g, G g = G' g) (v : List Int) : Wins N L S G v ↔ Wins N' L S G' v := by
  unfold Wins Gets
  constructor
  · rintro ⟨n, ⟨h1, s, hs, h2⟩, h3⟩; exact ⟨n, ⟨h1, s, hs, (leads_congr h s v n).1 h2⟩, by rw [← hG]; exact h3⟩
  · rintro ⟨n, ⟨h1, s, hs, h2⟩, h3⟩; exact ⟨n, ⟨h1, s, hs, (leads_congr h s v n).2 h2⟩, by rw [hG]; exact h3⟩

theorem ok_one (parts : List Sys) (p : Auto) (al : Int) (node : Nat) : okAt ⟨parts, [p], al⟩ node 0 = accepts p (node % p.next.length) := by
  unfold okAt
  have e1 : sizesOf ⟨parts, [p], al⟩ = partSizes parts ++ [p.next.length] := by simp [sizesOf, partSizes]
  simp only [List.getElem?_cons_zero]
  rw [e1, decode_snoc, List.getD_eq_getElem?_getD, List.getElem?_append_right (by rw [decode_len]; simp [partSizes])]
  simp [decode_len, partSizes]
theorem ok_two (parts : List Sys) (a p : Auto) (al : Int) (node : Nat) : okAt ⟨parts, [a, p], al⟩ node 0 = accepts a (node / p.next.length % a.next.length) ∧ okAt ⟨parts, [a, p], al⟩ node 1 = accepts p (node % p.next.length) := by
  have e1 : sizesOf ⟨parts, [a, p], al⟩ = (partSizes parts ++ [a.next.length]) ++ [p.next.length] := by simp [sizesOf, partSizes]
  have hl : (decode (partSizes parts) (node / p.next.length / a.next.length)).length = parts.length := by rw [decode_len]; simp [partSizes]
  constructor
  · unfold okAt
    simp only [List.getElem?_cons_zero]
    rw [e1, decode_snoc, decode_snoc, List.getD_eq_getElem?_getD, List.getElem?_append_left (by simp [hl]), List.getElem?_append_right (by rw [hl]; simp)]
    simp [hl]
  · unfold okAt
    simp only [List.getElem?_cons_succ, List.getElem?_cons_zero]
    rw [e1, decode_snoc, decode_snoc, List.getD_eq_getElem?_getD, List.getElem?_append_right (by simp [hl])]
    simp [hl]
theorem pv_net {parts : List Sys} {p : Auto} {r : Option (List Int)} (hp : areParts parts = true) (ha : autoValid p = true) (al : Int) (hal : al = (orTo parts parts.length : Nat)) (h : FirstIs (Wins (netN ⟨parts, [p], al⟩) (letters al) [0] (fun node => !okAt ⟨parts, [p], al⟩ node 0)) r) : PV parts p r := by
  unfold PV
  rw [if_pos (by simp [hp, ha])]
  refine h.congr fun v => ?_
  unfold BrokenW
  have e : allLetters parts trivAuto = al := by unfold allLetters; rw [hal]; simp [trivAuto]
  rw [e]
  refine wins_congr (fun node l r => (brokenN_one parts (prod_4096 hp).2.2.2 p node l al r).symm) (fun g => ?_) v
  show (!okAt ⟨parts, [p], al⟩ g 0) = _
  rw [ok_one]
  unfold brokenG
  have : accepts trivAuto (g / p.next.length % trivAuto.next.length) = true := by
    have : g / p.next.length % trivAuto.next.length = 0 := by simp [trivAuto, Nat.mod_one]
    rw [this]; rfl
  rw [this, Bool.true_and]
theorem uw_net {s : Sys} {a p : Auto} {r : Option (List Int)} (hs : sysValid s = true) (al : Int) (hal : al = (s.alphabet.toNat ||| a.alphabet.toNat : Nat)) (h : FirstIs (Wins (netN ⟨[s], [a, p], al⟩) (letters al) [0] (fun node => okAt ⟨[s], [a, p], al⟩ node 0 && !okAt ⟨[s], [a, p], al⟩ node 1)) r) : FirstIs (BrokenW [s] a p) r := by
  refine h.congr fun v => ?_
  unfold BrokenW
  have e : allLetters [s] a = al := by unfold allLetters orTo; rw [hal]; simp
  rw [e]
  refine wins_congr (fun node l r => (brokenN_two [s] (prod_4096 (one_parts hs)).2.2.2 a p node l al r).symm) (fun g => ?_) v
  show (okAt ⟨[s], [a, p], al⟩ g 0 && !okAt ⟨[s], [a, p], al⟩ g 1) = _
  rw [(ok_two _ _ _ _ _).1, (ok_two _ _ _ _ _).2]
  rfl
theorem vu_net {s : Sys} {a p : Auto} {r : Option (List Int)} (hs : sysValid s = true) (hva : autoValid a = true) (hp : autoValid p = true) (al : Int) (hal : al = (s.alphabet.toNat ||| a.alphabet.toNat : Nat)) (h : FirstIs (Wins (netN ⟨[s], [a, p], al⟩) (letters al) [0] (fun node => okAt ⟨[s], [a, p], al⟩ node 0 && !okAt ⟨[s], [a, p], al⟩ node 1)) r) : VU s a p r := by
  unfold VU
  rw [if_pos (by simp [hs, hva, hp])]
  exact uw_net hs al hal h
theorem AutosV.one {w : World} {a : Auto} {vn va : Value} (h1 : IntssV w vn a.next) (h2 : BoolsV w va a.accept) :
    AutosV (w.alloc (.cells #[.int .i64 a.alphabet, vn, va] 26)) (.slice (some ⟨w.heap.size, 0, none⟩) 1 1) [a] := by
  refine ⟨_, 1, rfl, Nat.le_refl _, by decide, fun _ => ⟨w.heap.size, 0, rfl, by simp, fun i x hi => ?_⟩⟩
  obtain rfl : i = 0 := by have := (List.getElem?_eq_some_iff.1 hi).1; simp at this; exact this
  simp at hi
  subst hi
  have hb := Blk.new w #[.int .i64 a.alphabet, vn, va] 26
  exact ⟨vn, va, hb.cell 0 rfl, hb.cell 1 rfl, hb.cell 2 rfl, h1.mono (Ext.alloc _ _), h2.mono (Ext.alloc _ _)⟩
theorem AutosV.two {w : World} {a p : Auto} {vn va vn' va' : Value} (h1 : IntssV w vn a.next) (h2 : BoolsV w va a.accept) (h3 : IntssV w vn' p.next) (h4 : BoolsV w va' p.accept) :
    AutosV (w.alloc (.cells #[.int .i64 a.alphabet, vn, va, .int .i64 p.alphabet, vn', va'] 26)) (.slice (some ⟨w.heap.size, 0, none⟩) 2 2) [a, p] := by
  have hb := Blk.new w #[.int .i64 a.alphabet, vn, va, .int .i64 p.alphabet, vn', va'] 26
  refine ⟨_, 2, rfl, Nat.le_refl _, by decide, fun _ => ⟨w.heap.size, 0, rfl, by simp, fun i x hi => ?_⟩⟩
  match i, hi with
  | 0, hi =>
    simp at hi; subst hi
    exact ⟨vn, va, hb.cell 0 rfl, hb.cell 1 rfl, hb.cell 2 rfl, h1.mono (Ext.alloc _ _), h2.mono (Ext.alloc _ _)⟩
  | 1, hi =>
    simp at hi; subst hi
    exact ⟨vn', va', hb.cell 3 rfl, hb.cell 4 rfl, hb.cell 5 rfl, h3.mono (Ext.alloc _ _), h4.mono (Ext.alloc _ _)⟩
  | i + 2, hi => simp at hi
theorem AutomatonValid_sb {v : Value} {x : Auto} {w : World} {b : Bool} (hb : autoValid x = b) (hv : AutoV w v x) :
    Calls Try.prog 17 #[v] w (Grows (.bool b) w) := hb ▸ AutomatonValid_s v x w hv
theorem make_zeros (w : World) (n : Nat) (hn : n ≤ 1048576) : ∃ w', (Instr.makeSlice 43 (.int .i64 (n : Int)) (.int .i64 (n : Int))).run Try.prog w = .ok (.slice (some ⟨w.heap.size, 0, none⟩) n n) w' ∧ Ext w w' ∧
    IntsOwn 3 w.heap.size w' (.slice (some ⟨w.heap.size, 0, none⟩) n n) (List.replicate n 0) := by
  obtain ⟨i, hi, hz, hsize, hby⟩ := info_parts infoInt
  obtain ⟨w', hr, h1, h2⟩ := run_make_full (P := Try.prog) w w.heap.size 43 3 i _ 1 Try.underlying43 hi hz hsize .i64 .i64 n (by rw [hby]; omega) (by unfold maxLen; omega) (Nat.le_refl _)
  refine ⟨w', hr, (Below.refl _ _).grown h2 (Nat.le_refl _) fun k hk => (by cases hk), ?_⟩
  unfold IntsOwn
  rw [List.length_replicate, List.map_replicate]
  simpa [toList_madeCells_one, Value.cells] using h1

end Go.Proofs.Ytccklliljdembaa

namespace Go.Proofs.Ytccklliljdembaa
set_option linter.unusedSimpArgs false
set_option linter.unusedVariables false
open Go.RowKit

set_option maxHeartbeats 1600000
set_option maxRecDepth 100000

end Go.Proofs.Ytccklliljdembaa

namespace Go.Proofs.Ytccklliljdembaa
set_option linter.unusedSimpArgs false
set_option linter.unusedVariables false
open Go.RowKit

set_option maxHeartbeats 1600000
set_option maxRecDepth 100000

theorem IntsV.three (w : World) : IntsV (w.alloc (.cells #[.int .i64 0, .int .i64 0, .int .i64 0] 3)) (.slice (some ⟨w.heap.size, 0, none⟩) 3 3) [0, 0, 0] := by
  have hb := Blk.new w #[.int .i64 0, .int .i64 0, .int .i64 0] 3
  refine ⟨_, 3, rfl, Nat.le_refl _, by decide, fun _ => ⟨w.heap.size, 0, rfl, by simp, fun i x hi => ?_⟩⟩
  match i, hi with
  | 0, hi => simp at hi; subst hi; exact hb.cell 0 rfl
  | 1, hi => simp at hi; subst hi; exact hb.cell 1 rfl
  | 2, hi => simp at hi; subst hi; exact hb.cell 2 rfl
  | i + 3, hi => simp at hi

end Go.Proofs.Ytccklliljdembaa
