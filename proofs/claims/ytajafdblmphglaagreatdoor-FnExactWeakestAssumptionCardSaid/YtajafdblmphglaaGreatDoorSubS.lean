/- Merged: WalkO, SubS. -/
import Derived.Test.YtajafdblmphglaaGreatDoorPlainC
import Derived.Test.YtajafdblmphglaaGreatDoorPool
import Derived.Test.YtajafdblmphglaaGreatDoorWalkR
import Derived.Test.YtajafdblmphglaaGreatDoorWalkSA
import Derived.Test.YtajafdblmphglaaGreatDoorWalkSE

namespace Go.Proofs.YtajafdblmphglaaGreatDoor
set_option linter.unusedSimpArgs false
set_option linter.unusedVariables false
open Go.RowKit
set_option maxHeartbeats 1600000
set_option maxRecDepth 100000

def stepTo (s : Sys) (set : Nat) (l : Int) (k : Nat) : Nat := (s.edges.take k).foldl (addTo l set) 0
theorem stepTo_succ {s : Sys} {set : Nat} {l : Int} {k : Nat} {e : Edge} (h : s.edges[k]? = some e) : stepTo s set l (k + 1) = addTo l set (stepTo s set l k) e := by
  unfold stepTo; rw [List.take_add_one, h, List.foldl_append]; rfl
theorem stepTo_full (s : Sys) (set : Nat) (l : Int) : stepTo s set l s.edges.length = stepM s set l := by unfold stepTo stepM; rw [List.take_length]
theorem stepTo_lt {s : Sys} (hs : sysValid s = true) (set : Nat) (l : Int) (k : Nat) : stepTo s set l k < 65536 := lt_of_bits fun q h => by
  unfold stepTo at h
  rw [foldl_addTo] at h
  rcases h with h | ⟨e, he, -, -, rfl⟩
  · simp at h
  · exact (edges_in hs (List.mem_of_mem_take he)).2.1
theorem bit_nat (n : Nat) {x : Int} (h : 0 ≤ x) : bit (n : Int) x = n.testBit x.toNat := by rw [bit_nonneg h, Int.toNat_natCast]

theorem l2Step_c (v : Value) (s : Sys) (set : Nat) (l : Int) (w : World) (hv : SysV w v s) (hs : sysValid s = true) (hel : s.edges.length ≤ 1048576) (hset : set < 65536) :
    Calls Tryz.prog 206 #[v, .int .i64 set, .int .i64 l] w (Grows (.int .i64 (stepM s set l : Nat)) w) := by
  obtain ⟨ve, rfl, h1⟩ := hv
  obtain ⟨ae, ce, rfl, -, hn⟩ := h1.open
  have he := Ext.alloc w (.cells #[.int .i64 s.alphabet, .int .i64 s.states, .slice ae s.edges.length ce] 25)
  have hB := Blk.new w #[.int .i64 s.alphabet, .int .i64 s.states, .slice ae s.edges.length ce] 25
  go_enter Tryz.func206, Tryz.ntmps206
  go_wp2_with fail
  generalize w.alloc (.cells #[.int .i64 s.alphabet, .int .i64 s.states, .slice ae s.edges.length ce] 25) = wo at he hB ⊢
  have b2 := hB.cell 2 rfl
  go_loop [7, 8, 25, 26, 27, 28, 29, 30, 31, 32] (fun o i _ _ _ _ _ _ _ _ => ∃ (k m : Nat), k ≤ s.edges.length ∧ i = .int .i64 k ∧ o = .int .i64 m ∧ m < 65536 ∧ Hid (stepTo s set l k = m)) (fun _ i _ _ _ _ _ _ _ _ => s.edges.length - (intOf i).toNat)
  case atStart => exact ⟨0, 0, by omega, rfl, rfl, by omega, Lib.hid rfl⟩
  case round =>
    obtain ⟨k, m, hk, rfl, rfl, hm, HM⟩ := hrel
    by_cases hlt : k < s.edges.length
    · obtain ⟨x, hx⟩ : ∃ x, s.edges[k]? = some x := ⟨_, List.getElem?_eq_getElem hlt⟩
      obtain ⟨b, off, rfl, -, hc⟩ := hn k x hx
      obtain ⟨q1, q2, q3⟩ := (hc k x hx).mono he
      obtain ⟨i1, i2, i3, i4, i5, i6, -⟩ := edges_in hs (List.mem_of_getElem? hx)
      obtain ⟨d, hd⟩ := Int.eq_ofNat_of_zero_le i4
      have HS := Lib.hid (stepTo_succ (set := set) (l := l) hx)
      have hnext := Lib.hid (stepTo_lt hs set l (k + 1))
      have hbs := bit_nat set i3
      rw [hd] at q3
      have hd16 : d ≤ 16 := by omega
      have HD : Hid (x.dst.toNat = d) := Lib.hid (by omega)
      clear hc hn hx hd
      by_cases h1 : x.letter = l
      · cases h2 : set.testBit x.src.toNat with
        | true =>
          rw [h2] at hbs
          have hp16 : 2 ^ d ≤ 65536 := by rw [show (65536 : Nat) = 2 ^ 16 from rfl]; exact Nat.pow_le_pow_right (by omega) hd16
          have hor := i64_or_nat m (2 ^ d) (by omega) (by omega)
          have HN : Hid (stepTo s set l (k + 1) = m ||| 2 ^ d) := Lib.hid (by rw [HS.out]; unfold addTo; rw [if_pos ⟨h1, h2⟩, HM.out, HD.out])
          have hm2 := hnext.out
          rw [HN.out] at hm2
          have HOR := Lib.hid hor
          clear hor h2 hp16
          go_wp2_with (first | (go_at_call 124; refine (l1Has_c _ _ _ (by omega) (by omega) (by omega) (by omega)).mono ?_; rintro e w' ⟨rfl, rfl⟩; rw [hbs]) | (go_at_call 61; refine (l1Bit_c d _ hd16).mono ?_; rintro e w' ⟨rfl, rfl⟩))
          exact ⟨⟨k + 1, m ||| 2 ^ d, by omega, by go_num, congrArg _ HOR.out, hm2, HN⟩, by simp [intOf]; omega⟩
        | false =>
          rw [h2] at hbs
          have HN : Hid (stepTo s set l (k + 1) = m) := Lib.hid (by rw [HS.out]; unfold addTo; rw [if_neg (fun h => by rw [h2] at h; cases h.2), HM.out])
          clear h2
          go_wp2_with (go_at_call 124; refine (l1Has_c _ _ _ (by omega) (by omega) (by omega) (by omega)).mono ?_; rintro e w' ⟨rfl, rfl⟩; rw [hbs])
          exact ⟨⟨k + 1, m, by omega, by go_num, rfl, hm, HN⟩, by simp [intOf]; omega⟩
      · have HN : Hid (stepTo s set l (k + 1) = m) := Lib.hid (by rw [HS.out]; unfold addTo; rw [if_neg (fun h => h1 h.1), HM.out])
        go_wp2_with fail
        exact ⟨⟨k + 1, m, by omega, by go_num, rfl, hm, HN⟩, by simp [intOf]; omega⟩
    · obtain rfl : k = s.edges.length := by omega
      have hf := HM.out
      rw [stepTo_full] at hf
      have HF := Lib.hid hf
      clear hf
      go_wp2_with fail
      go_ret
      rw [HF.out]
      exact Grows.mk rfl he

theorem l5Index_c (v : Value) (l : List Int) (x : Int) (w : World) (hv : IntsV w v l) (hl : l.length ≤ 4294967296) (hx : x ∈ l) :
    Calls Tryz.prog 146 #[v, .int .i64 x] w (Same (.int .i64 (l.idxOf x : Nat)) w) := by
  obtain ⟨a, c, rfl, -, h2⟩ := hv.open
  obtain ⟨n, hn⟩ : ∃ n, Hid (l.idxOf x = n) := ⟨_, rfl⟩
  have hlt := List.idxOf_lt_length_of_mem hx
  have hat : l[l.idxOf x]? = some x := idx_at hx
  have hno : ∀ k y, k < n → l[k]? = some y → y ≠ x := fun k y hk hy e => by
    subst e
    rw [← hn.out] at hk
    exact absurd hy (by
      rw [List.getElem?_eq_getElem (by omega)]
      intro h
      have := List.not_of_lt_findIdx (p := (· == y)) (xs := l) (i := k) hk
      simp only [Option.some.injEq] at h
      simp [h] at this)
  rw [hn.out] at hlt hat ⊢
  have HNO := Lib.hid hno
  have HAT := Lib.hid hat
  clear hno hat hx
  go_enter Tryz.func146, Tryz.ntmps146
  go_wp2_with fail
  go_loop [5] (fun i => ∃ k : Nat, k ≤ n ∧ i = .int .i64 k) (fun i => n - (intOf i).toNat)
  case atStart => exact ⟨0, by omega, rfl⟩
  case round =>
    obtain ⟨k, hk, rfl⟩ := hrel
    obtain ⟨y, hy⟩ : ∃ y, l[k]? = some y := ⟨_, List.getElem?_eq_getElem (by omega)⟩
    obtain ⟨b, off, rfl, -, hc⟩ := h2 k y hy
    have g1 : w.cell? ⟨b, off + k, none⟩ = some (.int .i64 y) := by have := hc k y hy; rw [Nat.mul_one] at this; exact this
    have hkl : k < l.length := by omega
    have hk2 : (k : Int) < (l.length : Int) := by omega
    by_cases hkn : k < n
    · have hne := HNO.out k y hkn hy
      clear hc hy h2
      go_wp2_with fail
      exact ⟨⟨k + 1, by omega, by go_num⟩, by simp [intOf]; omega⟩
    · obtain rfl : k = n := by omega
      have e := HAT.out
      rw [hy] at e
      obtain rfl := Option.some.inj e
      clear hc hy h2 e
      go_wp2_with fail
      go_ret
      exact Same.mk rfl

/-- The way of l2Reach: a set on the way, and whether a round has found something. -/
structure OnWay (s : Sys) (H : Int) (f0 f : Nat) : Prop where
  above : SubB f0 f
  below : SubB f (reachH s H f0)
  lt : f < 65536
def ClosedTo (s : Sys) (H : Int) (f k : Nat) : Prop := ∀ e ∈ s.edges.take k, bit H e.letter = true → f.testBit e.src.toNat = true → f.testBit e.dst.toNat = true
theorem ClosedTo.succ {s : Sys} {H : Int} {f k : Nat} {x : Edge} (h : ClosedTo s H f k) (hx : s.edges[k]? = some x) (hc : bit H x.letter = true → f.testBit x.src.toNat = true → f.testBit x.dst.toNat = true) : ClosedTo s H f (k + 1) := by
  intro e he
  rw [List.take_add_one, hx] at he
  rcases List.mem_append.1 he with he | he
  · exact h e he
  · simp at he; subst he; exact hc
theorem OnWay.add {s : Sys} {H : Int} {f0 f : Nat} {x : Edge} (hs : sysValid s = true) (hf0 : f0 < 65536) (h : OnWay s H f0 f) (hx : x ∈ s.edges) (h1 : bit H x.letter = true) (h2 : f.testBit x.src.toNat = true) : OnWay s H f0 (f ||| 2 ^ x.dst.toNat) := by
  have hin := edges_in hs hx
  refine ⟨fun q hq => by rw [Nat.testBit_or, h.above q hq]; rfl, fun q hq => ?_, lt_of_bits fun q hq => ?_⟩
  · rw [Nat.testBit_or, Bool.or_eq_true, Nat.testBit_two_pow, decide_eq_true_eq] at hq
    rcases hq with hq | rfl
    · exact h.below q hq
    · exact (reachH_is hs H fun q h => bits_of_lt hf0 h).closed x hx h1 (h.below _ h2)
  · rw [Nat.testBit_or, Bool.or_eq_true, Nat.testBit_two_pow, decide_eq_true_eq] at hq
    rcases hq with hq | rfl
    · exact bits_of_lt h.lt hq
    · exact hin.2.1
def flagOf : Value → Nat
  | .bool true => 1
  | _ => 0

end Go.Proofs.YtajafdblmphglaaGreatDoor

namespace Go.Proofs.YtajafdblmphglaaGreatDoor
set_option linter.unusedSimpArgs false
set_option linter.unusedVariables false
open Go.RowKit
set_option maxHeartbeats 6000000
set_option maxRecDepth 100000

def hidS (s : Sys) (a : Int) : Int := s.alphabet - bits .and .i64 s.alphabet a
theorem hidS_facts {s : Sys} (hs : sysValid s = true) {a : Int} (ha : 0 ≤ a) (ha2 : a ≤ 63) : 0 ≤ hidS s a ∧ hidS s a ≤ 63 ∧ IntKind.i64.wrap (s.alphabet - bits .and .i64 s.alphabet a) = hidS s a := by
  obtain ⟨h1, h2⟩ := sys_alpha hs
  obtain ⟨m, hm⟩ := Int.eq_ofNat_of_zero_le h1
  obtain ⟨n, hn⟩ := Int.eq_ofNat_of_zero_le ha
  have h3 : bits .and .i64 s.alphabet a = ((m &&& n : Nat) : Int) := by rw [hm, hn]; exact i64_and_nat m n (by omega) (by omega)
  have h4 : m &&& n ≤ m := Nat.and_le_left
  unfold hidS
  rw [h3, hm]
  exact ⟨by omega, by omega, IntWalk.i64_in _ (by omega)⟩
theorem idxOf_ints (nodes : List Nat) (x : Nat) : (ints nodes).idxOf (x : Int) = nodes.idxOf x := by
  induction nodes with
  | nil => rfl
  | cons y l ih =>
    show ((y : Int) :: ints l).idxOf (x : Int) = _
    rw [List.idxOf_cons, List.idxOf_cons, ih]
    by_cases h : y = x
    · subst h; simp
    · rw [show ((y : Int) == (x : Int)) = false by simp; omega, show (y == x) = false by simpa using h]
theorem own_at {w : World} {base : Nat} {e : TypeId} {sz n : Nat} {v : Value} {xs : List Value} (h : w.ownsRow base e sz v n xs) {j : Nat} {u : Value} (hu : xs[j]? = some u) : ∃ g cap, v = .slice (some ⟨g, 0, none⟩) n cap ∧ w.cell? ⟨g, j, none⟩ = some u := by
  rcases own_shape h with ⟨rfl, rfl⟩ | ⟨g, cap, rfl, -⟩
  · have := h.1
    rw [Nat.zero_mul] at this
    rw [List.eq_nil_of_length_eq_zero this] at hu; simp at hu
  · exact ⟨g, cap, rfl, own_cell h hu⟩
theorem own_ints {w : World} {base : Nat} {e : TypeId} {n : Nat} {v : Value} {l : List Int} (h : w.ownsRow base e 1 v n (l.map (Value.int .i64))) (hn : l.length = n) : IntsV w v l := by
  subst hn; exact IntsV_of_own h
theorem auto_store {base : Nat} {w : World} {v : Value} {x : Auto} (h : AutoOwn base w v x) {g : Nat} {cs : Array Value} {T : TypeId} (hG : Blk w g cs T) (h1 : T ≠ 81) (h2 : T ≠ 3) (h3 : T ≠ 4) (j : Nat) (u : Value) : AutoOwn base (w.setCell ⟨g, j, none⟩ u) v x :=
  let ⟨vn, va, e, a, b⟩ := h
  ⟨vn, va, e, intss_store a hG h1 h2 j u, own_store b hG h3 j u⟩

end Go.Proofs.YtajafdblmphglaaGreatDoor
