/- Merged: WalkSA, WalkSB, WalkSC, WalkSD. -/
import Derived.Test.YtajafdblmphglaaGreatDoorWalkFB
import Derived.BigRegion

namespace Go.Proofs.YtajafdblmphglaaGreatDoor
set_option linter.unusedSimpArgs false
set_option linter.unusedVariables false
open Go.RowKit

set_option maxHeartbeats 1600000
set_option maxRecDepth 100000

def AutoAt (w : World) (b o : Nat) (x : Auto) : Prop := ∃ vn va, w.cell? ⟨b, o, none⟩ = some (.int .i64 x.alphabet) ∧ w.cell? ⟨b, o + 1, none⟩ = some vn ∧ w.cell? ⟨b, o + 2, none⟩ = some va ∧ IntssV w vn x.next ∧ BoolsV w va x.accept
abbrev AutosV := SlV AutoAt 3
theorem AutoAt.mono {w w' : World} (h : Ext w w') {b o : Nat} {x : Auto} (k : AutoAt w b o x) : AutoAt w' b o x := let ⟨vn, va, h1, h2, h3, h4, h5⟩ := k; ⟨vn, va, h.cell h1, h.cell h2, h.cell h3, h4.mono h, h5.mono h⟩
theorem AutosV.mono {w w' : World} (h : Ext w w') {v : Value} {l : List Auto} (k : AutosV w v l) : AutosV w' v l := SlV.mono k (fun _ _ _ _ => AutoAt.mono h) h.size

/-- A net, as it lies: its members, where it starts, its letters, which goal, which state. -/
def NetV (w : World) (v : Value) (n : Net) (st : List Int) (kind q : Int) : Prop :=
  ∃ vp va vs, v = .agg #[vp, va, vs, .int .i64 n.letters, .int .i64 kind, .int .i64 q] ∧ SyssV w vp n.parts ∧ AutosV w va n.autos ∧ IntsV w vs st
theorem NetV.mono {w w' : World} (h : Ext w w') {v : Value} {n : Net} {st : List Int} {kind q : Int} (k : NetV w v n st kind q) : NetV w' v n st kind q := let ⟨vp, va, vs, e, h1, h2, h3⟩ := k; ⟨vp, va, vs, e, h1.mono h, h2.mono h, h3.mono h⟩
structure NetOk (n : Net) : Prop where
  parts : ∀ s ∈ n.parts, sysValid s = true
  autos : ∀ a ∈ n.autos, AutoFit a
  np : n.parts.length ≤ 3
  na : n.autos.length ≤ 2
  al : 0 ≤ n.letters ∧ n.letters ≤ 63
  el : ∀ s ∈ n.parts, s.edges.length ≤ 1048576
  tot : (sizesOf n).prod ≤ 268435456
theorem sizes_len (n : Net) : (sizesOf n).length = n.parts.length + n.autos.length := by simp [sizesOf]
end Go.Proofs.YtajafdblmphglaaGreatDoor

namespace Go.Proofs.YtajafdblmphglaaGreatDoor
set_option linter.unusedSimpArgs false
set_option linter.unusedVariables false
open Go.RowKit

set_option maxHeartbeats 1600000
set_option maxRecDepth 100000

end Go.Proofs.YtajafdblmphglaaGreatDoor

namespace Go.Proofs.YtajafdblmphglaaGreatDoor
set_option linter.unusedSimpArgs false
set_option linter.unusedVariables false
open Go.RowKit

set_option maxHeartbeats 1600000
set_option maxRecDepth 100000

/-- The numbers that the first k members make. -/
def nx (n : Net) (node : Nat) (l : Int) (k : Nat) : List Nat := combos ((pairsOf n (decode (sizesOf n) node) l).take k) [0]
theorem prod_le_pow (l : List Nat) (h : ∀ x ∈ l, x ≤ 16) : l.prod ≤ 16 ^ l.length := by
  induction l with
  | nil => simp
  | cons a l ih =>
    have h1 := ih fun x hx => h x (by simp [hx])
    have h2 := h a (by simp)
    rw [List.prod_cons, List.length_cons, Nat.pow_succ, Nat.mul_comm (16 ^ l.length)]
    exact Nat.mul_le_mul h2 h1
/-- Of valid parts and automata. -/
theorem NetOk.of {n : Net} (h1 : ∀ s ∈ n.parts, sysValid s = true) (h2 : ∀ a ∈ n.autos, autoValid a = true) (h3 : n.parts.length ≤ 3) (h4 : n.autos.length ≤ 2) (h5 : 0 ≤ n.letters ∧ n.letters ≤ 63) (h6 : ∀ s ∈ n.parts, s.edges.length ≤ 1048576) : NetOk n := by
  refine ⟨h1, fun a ha => AutoFit.of (h2 a ha), h3, h4, h5, h6, ?_⟩
  have e1 := prod_le_pow (sizesOf n) fun x hx => by
    unfold sizesOf at hx
    rcases List.mem_append.1 hx with hx | hx
    · obtain ⟨y, hy, rfl⟩ := List.mem_map.1 hx
      have := valid_alpha (h1 y hy); omega
    · obtain ⟨y, hy, rfl⟩ := List.mem_map.1 hx
      have := autoValid_facts (h2 y hy); omega
  have e2 : (sizesOf n).length ≤ 5 := by rw [sizes_len]; omega
  have e3 : 16 ^ (sizesOf n).length ≤ 16 ^ 5 := Nat.pow_le_pow_right (by omega) e2
  omega

end Go.Proofs.YtajafdblmphglaaGreatDoor

namespace Go.Proofs.YtajafdblmphglaaGreatDoor
set_option linter.unusedSimpArgs false
set_option linter.unusedVariables false
open Go.RowKit

set_option maxHeartbeats 1600000
set_option maxRecDepth 100000

end Go.Proofs.YtajafdblmphglaaGreatDoor
