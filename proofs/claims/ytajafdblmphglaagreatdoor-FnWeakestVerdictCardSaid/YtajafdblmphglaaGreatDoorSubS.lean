/- Merged: WalkO, SubS. -/
import Derived.Test.YtajafdblmphglaaGreatDoorPlainC
import Derived.Test.YtajafdblmphglaaGreatDoorPool
import Derived.Test.YtajafdblmphglaaGreatDoorWalkR
import Derived.Test.YtajafdblmphglaaGreatDoorWalkSA
import Derived.Test.YtajafdblmphglaaGreatDoorWalkSE

namespace Go.Proofs.YtajafdblmphglaaGreatDoor
set_option linter.unusedSimpArgs false
set_option linter.unusedVariables false
open Go.RowKit
set_option maxHeartbeats 1600000
set_option maxRecDepth 100000

/-- The way of l2Reach: a set on the way, and whether a round has found something. -/
structure OnWay (s : Sys) (H : Int) (f0 f : Nat) : Prop where
  above : SubB f0 f
  below : SubB f (reachH s H f0)
  lt : f < 65536
def ClosedTo (s : Sys) (H : Int) (f k : Nat) : Prop := ∀ e ∈ s.edges.take k, bit H e.letter = true → f.testBit e.src.toNat = true → f.testBit e.dst.toNat = true
theorem ClosedTo.succ {s : Sys} {H : Int} {f k : Nat} {x : Edge} (h : ClosedTo s H f k) (hx : s.edges[k]? = some x) (hc : bit H x.letter = true → f.testBit x.src.toNat = true → f.testBit x.dst.toNat = true) : ClosedTo s H f (k + 1) := by
  intro e he
  rw [List.take_add_one, hx] at he
  rcases List.mem_append.1 he with he | he
  · exact h e he
  · simp at he; subst he; exact hc
theorem OnWay.add {s : Sys} {H : Int} {f0 f : Nat} {x : Edge} (hs : sysValid s = true) (hf0 : f0 < 65536) (h : OnWay s H f0 f) (hx : x ∈ s.edges) (h1 : bit H x.letter = true) (h2 : f.testBit x.src.toNat = true) : OnWay s H f0 (f ||| 2 ^ x.dst.toNat) := by
  have hin := edges_in hs hx
  refine ⟨fun q hq => by rw [Nat.testBit_or, h.above q hq]; rfl, fun q hq => ?_, lt_of_bits fun q hq => ?_⟩
  · rw [Nat.testBit_or, Bool.or_eq_true, Nat.testBit_two_pow, decide_eq_true_eq] at hq
    rcases hq with hq | rfl
    · exact h.below q hq
    · exact (reachH_is hs H fun q h => bits_of_lt hf0 h).closed x hx h1 (h.below _ h2)
  · rw [Nat.testBit_or, Bool.or_eq_true, Nat.testBit_two_pow, decide_eq_true_eq] at hq
    rcases hq with hq | rfl
    · exact bits_of_lt h.lt hq
    · exact hin.2.1
end Go.Proofs.YtajafdblmphglaaGreatDoor

namespace Go.Proofs.YtajafdblmphglaaGreatDoor
set_option linter.unusedSimpArgs false
set_option linter.unusedVariables false
open Go.RowKit
set_option maxHeartbeats 6000000
set_option maxRecDepth 100000

theorem own_at {w : World} {base : Nat} {e : TypeId} {sz n : Nat} {v : Value} {xs : List Value} (h : w.ownsRow base e sz v n xs) {j : Nat} {u : Value} (hu : xs[j]? = some u) : ∃ g cap, v = .slice (some ⟨g, 0, none⟩) n cap ∧ w.cell? ⟨g, j, none⟩ = some u := by
  rcases own_shape h with ⟨rfl, rfl⟩ | ⟨g, cap, rfl, -⟩
  · have := h.1
    rw [Nat.zero_mul] at this
    rw [List.eq_nil_of_length_eq_zero this] at hu; simp at hu
  · exact ⟨g, cap, rfl, own_cell h hu⟩
theorem own_ints {w : World} {base : Nat} {e : TypeId} {n : Nat} {v : Value} {l : List Int} (h : w.ownsRow base e 1 v n (l.map (Value.int .i64))) (hn : l.length = n) : IntsV w v l := by
  subst hn; exact IntsV_of_own h
theorem auto_store {base : Nat} {w : World} {v : Value} {x : Auto} (h : AutoOwn base w v x) {g : Nat} {cs : Array Value} {T : TypeId} (hG : Blk w g cs T) (h1 : T ≠ 81) (h2 : T ≠ 3) (h3 : T ≠ 4) (j : Nat) (u : Value) : AutoOwn base (w.setCell ⟨g, j, none⟩ u) v x :=
  let ⟨vn, va, e, a, b⟩ := h
  ⟨vn, va, e, intss_store a hG h1 h2 j u, own_store b hG h3 j u⟩

end Go.Proofs.YtajafdblmphglaaGreatDoor
