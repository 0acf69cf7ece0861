/- Part of this seat's proofs, cut to what its law needs. -/

import Derived.Test.YtanekmfifmkbmaaGreatDoorWalkE
import Derived.Test.YtanekmfifmkbmaaGreatDoorRegion
import Derived.Test.YtanekmfifmkbmaaGreatDoorWalkH
import Derived.Test.YtanekmfifmkbmaaGreatDoorPlain2

namespace Go.Proofs.YtanekmfifmkbmaaGreatDoor
set_option linter.unusedSimpArgs false
set_option linter.unusedVariables false
open Go.RowKit

set_option maxHeartbeats 800000
set_option maxRecDepth 20000

section
variable {P : Program} {ops : Array Oper} {rest : List Oper} {o : Oper} {a : Act} {Q : Exit → Act → World → Prop}
theorem appN {wr : World} {s x : Operand} {t e : TypeId} {base size bytes n m c : Nat} {ad : Addr} {z v : Value} {xs news : List Value} (hgd : o.guard = none)
    (ho : o.op = .call { callee := .builtin .append, args := #[s, x], argTypes := #[t, t] })
    (ht : P.underlying t = some (.slice e)) (hinfo : (P.info? e).map (fun i => (i.zero, i.size, i.bytes)) = some (some z, size, bytes)) (hzs : z.cells.size = size) (hsz : 0 < size)
    (hown : wr.ownsRow base e size v n xs) (hs : a.eval s = v) (hx : a.eval x = .slice (some ad) m c) (hl : news.length = m * size) (hnews : ∀ j u, news[j]? = some u → wr.cell? (ad.add j) = some u) (h1 : ∀ u ∈ news, u.oneCell' = true)
    (hn : n + m ≤ 4294967296) (hb : bytes ≤ 1024) (hbase : base ≤ wr.heap.size)
    (h : ∀ v' w', w'.ownsRow base e size v' (n + m) (xs ++ news) → wr.grownBy w' v.ownBlock → Below base wr w' → wpList P ops Q rest (a.put o.dst v') w') :
    wpList P ops Q (o :: rest) a wr := by
  obtain ⟨i, hi, hz, hsize, hby⟩ := info_parts hinfo
  refine wpList_append_own _ hgd s x t ho base e i z size bytes ht hi hz hsize hby hzs hsz v n xs hs hown ad m c news hx hl hnews h1 (by unfold maxLen; omega) ?_ hbase ?_
  · have := Nat.mul_le_mul hn hb; omega
  · intro v' w' h1 h2 _
    exact h v' w' h1 h2 ((Below.refl _ _).grown h2 hbase fun k hk => (World.ownsRow.lt hown k hk).1)
end

theorem nil_in {P : Program} (w : World) (d : Nat) (t e : TypeId) (a : Option Addr) (l c : Nat) (h : P.underlying t = some (.slice e)) : (Op.equalIn (d + 1) t (.slice a l c) (.slice none 0 0)).run P w = .ok a.isNone w := by
  cases a <;> simp [Op.equalIn, run_underlying h]
theorem nil_eq {P : Program} (w : World) (t e : TypeId) (a : Option Addr) (l c : Nat) (h : P.underlying t = some (.slice e)) : (Op.equal t (.slice a l c) (.slice none 0 0)).run P w = .ok a.isNone w := nil_in w 9999 t e a l c h
theorem nil_eql {P : Program} (w : World) (t e : TypeId) (a : Option Addr) (l c : Nat) (h : P.underlying t = some (.slice e)) : (binOp .eql t (.slice a l c) (.slice none 0 0)).run P w = .ok (.bool a.isNone) w := by
  simp [binOp, nil_eq w t e a l c h]
theorem own_lit (e : TypeId) (size : Nat) (w : World) : (w.alloc (.cells #[] e)).ownsRow w.heap.size e size (.slice (some ⟨w.heap.size, 0, none⟩) 0 0) 0 [] :=
  World.ownsRow_made w #[] 0 (Nat.le_refl _) (by unfold maxLen; omega) (by simp)

theorem add_none (b off j : Nat) : (⟨b, off, none⟩ : Addr).add j = ⟨b, off + j, none⟩ := by unfold Addr.add; split <;> simp_all
theorem SlV.nil_of_none {α : Type} {E : World → Nat → Nat → α → Prop} {sz : Nat} {w : World} {n c : Nat} {xs : List α} (h : SlV E sz w (.slice none n c) xs) : xs = [] := by
  obtain ⟨a, c', he, -, -, h3⟩ := h
  cases he
  cases xs with
  | nil => rfl
  | cons x xs => obtain ⟨b, off, he, _⟩ := h3 (by simp); cases he

theorem Ext.trans' {w w1 w2 : World} (h : Ext w w1) (k : Below w.heap.size w1 w2) : Ext w w2 := Below.trans h k

end Go.Proofs.YtanekmfifmkbmaaGreatDoor

namespace Go.Proofs.YtanekmfifmkbmaaGreatDoor
set_option linter.unusedSimpArgs false
set_option linter.unusedVariables false
open Go.RowKit

set_option maxHeartbeats 800000

theorem own_any' {w : World} {base : Nat} {e : TypeId} {size n : Nat} {v : Value} {xs : List Value} (h : w.ownsRow base e size v n xs) : ∃ a c, v = .slice a n c := by
  rcases own_shape h with ⟨rfl, rfl⟩ | ⟨g, cap, rfl, _⟩
  · exact ⟨_, _, rfl⟩
  · exact ⟨_, _, rfl⟩
theorem own_store {w : World} {base : Nat} {e T : TypeId} {size n g : Nat} {v : Value} {xs : List Value} {cs : Array Value} (h : w.ownsRow base e size v n xs) (hG : Blk w g cs T) (hne : T ≠ e) (j : Nat) (u : Value) : (w.setCell ⟨g, j, none⟩ u).ownsRow base e size v n xs := by
  refine ⟨h.1, ?_⟩
  rcases h.2 with h1 | ⟨g1, cap, cur, rfl, hb, hw, r⟩
  · exact .inl h1
  · refine .inr ⟨g1, cap, cur, rfl, hb, ?_, r⟩
    rw [Below.heap_setCell w ⟨g, j, none⟩ u g1 (fun he => by subst he; rw [show w.heap[g1]? = _ from hG] at hw; cases hw; exact hne rfl)]
    exact hw
theorem Blk.grown {w w' : World} {base' b : Nat} {T e' : TypeId} {size' n' : Nat} {u : Value} {us : List Value} {cs : Array Value} (h : Blk w b cs T) (hu : w.ownsRow base' e' size' u n' us) (hg : w.grownBy w' u.ownBlock) (hne : T ≠ e') : Blk w' b cs T := by
  refine (hg.block b h.lt fun he => ?_).trans h
  rcases hu.2 with ⟨rfl, _⟩ | ⟨g1, cap, cur, rfl, _, hw, _⟩
  · simp [Value.ownBlock] at he
  · simp [Value.ownBlock] at he
    subst he
    rw [show w.heap[b]? = _ from h] at hw
    cases hw
    exact hne rfl

end Go.Proofs.YtanekmfifmkbmaaGreatDoor

namespace Go.Proofs.YtanekmfifmkbmaaGreatDoor
set_option linter.unusedSimpArgs false
set_option linter.unusedVariables false
open Go.RowKit

set_option maxHeartbeats 1000000

end Go.Proofs.YtanekmfifmkbmaaGreatDoor

namespace Go.Proofs.YtanekmfifmkbmaaGreatDoor
set_option linter.unusedSimpArgs false
set_option linter.unusedVariables false
open Go.RowKit

set_option maxHeartbeats 1000000

theorem l1Bit_c (n : Nat) (w : World) (hn : n ≤ 16) : Calls Tryz.prog 177 #[.int .i64 n] w (Same (.int .i64 ((2 ^ n : Nat) : Int)) w) := by
  have hc : n = 0 ∨ n = 1 ∨ n = 2 ∨ n = 3 ∨ n = 4 ∨ n = 5 ∨ n = 6 ∨ n = 7 ∨ n = 8 ∨ n = 9 ∨ n = 10 ∨ n = 11 ∨ n = 12 ∨ n = 13 ∨ n = 14 ∨ n = 15 ∨ n = 16 := by omega
  go_enter Tryz.func177, Tryz.ntmps177
  go_wp2_with fail
  go_ret
  refine Same.mk ?_
  show Value.int .i64 (wrap64 (2 ^ n)) = _
  rcases hc with rfl | rfl | rfl | rfl | rfl | rfl | rfl | rfl | rfl | rfl | rfl | rfl | rfl | rfl | rfl | rfl | rfl <;> (refine congrArg _ ?_; unfold wrap64; decide)

end Go.Proofs.YtanekmfifmkbmaaGreatDoor
