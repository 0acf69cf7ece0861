/- Part of this seat's proofs, cut to what its law needs. -/

import Derived.Test.YtanekmfifmkbmaaGreatDoorWalkE
import Derived.Test.YtanekmfifmkbmaaGreatDoorRegion
import Derived.Test.YtanekmfifmkbmaaGreatDoorWalkH
import Derived.Test.YtanekmfifmkbmaaGreatDoorPlain2

namespace Go.Proofs.YtanekmfifmkbmaaGreatDoor
set_option linter.unusedSimpArgs false
set_option linter.unusedVariables false
open Go.RowKit

set_option maxHeartbeats 800000
set_option maxRecDepth 20000

section
variable {P : Program} {ops : Array Oper} {rest : List Oper} {o : Oper} {a : Act} {Q : Exit → Act → World → Prop}
theorem appN {wr : World} {s x : Operand} {t e : TypeId} {base size bytes n m c : Nat} {ad : Addr} {z v : Value} {xs news : List Value} (hgd : o.guard = none)
    (ho : o.op = .call { callee := .builtin .append, args := #[s, x], argTypes := #[t, t] })
    (ht : P.underlying t = some (.slice e)) (hinfo : (P.info? e).map (fun i => (i.zero, i.size, i.bytes)) = some (some z, size, bytes)) (hzs : z.cells.size = size) (hsz : 0 < size)
    (hown : wr.ownsRow base e size v n xs) (hs : a.eval s = v) (hx : a.eval x = .slice (some ad) m c) (hl : news.length = m * size) (hnews : ∀ j u, news[j]? = some u → wr.cell? (ad.add j) = some u) (h1 : ∀ u ∈ news, u.oneCell' = true)
    (hn : n + m ≤ 4294967296) (hb : bytes ≤ 1024) (hbase : base ≤ wr.heap.size)
    (h : ∀ v' w', w'.ownsRow base e size v' (n + m) (xs ++ news) → wr.grownBy w' v.ownBlock → Below base wr w' → wpList P ops Q rest (a.put o.dst v') w') :
    wpList P ops Q (o :: rest) a wr := by
  obtain ⟨i, hi, hz, hsize, hby⟩ := info_parts hinfo
  refine wpList_append_own _ hgd s x t ho base e i z size bytes ht hi hz hsize hby hzs hsz v n xs hs hown ad m c news hx hl hnews h1 (by unfold maxLen; omega) ?_ hbase ?_
  · have := Nat.mul_le_mul hn hb; omega
  · intro v' w' h1 h2 _
    exact h v' w' h1 h2 ((Below.refl _ _).grown h2 hbase fun k hk => (World.ownsRow.lt hown k hk).1)
end

theorem add_none (b off j : Nat) : (⟨b, off, none⟩ : Addr).add j = ⟨b, off + j, none⟩ := by unfold Addr.add; split <;> simp_all
theorem BoolsV.cells {w : World} {ad : Addr} {c : Nat} {l : List Bool} (h : BoolsV w (.slice (some ad) l.length c) l) : ∀ j u, (l.map Value.bool)[j]? = some u → w.cell? (ad.add j) = some u := fun j u hu => by
  obtain ⟨a, c', he, -, h2⟩ := h.open
  cases he
  rw [List.getElem?_map] at hu
  obtain ⟨x, hx, rfl⟩ := Option.map_eq_some_iff.1 hu
  obtain ⟨b, off, he, -, hc⟩ := h2 j x hx
  cases he
  have := hc j x hx
  rw [Nat.mul_one] at this
  rw [add_none]
  exact this
theorem IntsV.cells {w : World} {ad : Addr} {c : Nat} {l : List Int} (h : IntsV w (.slice (some ad) l.length c) l) : ∀ j u, (l.map (Value.int .i64))[j]? = some u → w.cell? (ad.add j) = some u := fun j u hu => by
  obtain ⟨a, c', he, -, h2⟩ := h.open
  cases he
  rw [List.getElem?_map] at hu
  obtain ⟨x, hx, rfl⟩ := Option.map_eq_some_iff.1 hu
  obtain ⟨b, off, he, -, hc⟩ := h2 j x hx
  cases he
  have := hc j x hx
  rw [Nat.mul_one] at this
  rw [add_none]
  exact this
theorem SlV.nil_of_none {α : Type} {E : World → Nat → Nat → α → Prop} {sz : Nat} {w : World} {n c : Nat} {xs : List α} (h : SlV E sz w (.slice none n c) xs) : xs = [] := by
  obtain ⟨a, c', he, -, -, h3⟩ := h
  cases he
  cases xs with
  | nil => rfl
  | cons x xs => obtain ⟨b, off, he, _⟩ := h3 (by simp); cases he

end Go.Proofs.YtanekmfifmkbmaaGreatDoor

namespace Go.Proofs.YtanekmfifmkbmaaGreatDoor
set_option linter.unusedSimpArgs false
set_option linter.unusedVariables false
open Go.RowKit

set_option maxHeartbeats 800000

theorem own_apart' {w : World} {base base' : Nat} {e e' : TypeId} {size size' n n' : Nat} {v v' : Value} {xs xs' : List Value} (h : w.ownsRow base e size v n xs) (h' : w.ownsRow base' e' size' v' n' xs') (hne : e ≠ e') : ∀ g, v.ownBlock = some g → v'.ownBlock ≠ some g := by
  intro g hg hg'
  rcases h.2 with ⟨rfl, _⟩ | ⟨g1, cap, cur, rfl, hb, hw, r⟩
  · simp [Value.ownBlock] at hg
  · rcases h'.2 with ⟨rfl, _⟩ | ⟨g2, cap', cur', rfl, hb', hw', r'⟩
    · simp [Value.ownBlock] at hg'
    · simp [Value.ownBlock] at hg hg'
      subst hg; subst hg'
      rw [hw] at hw'
      cases hw'
      exact hne rfl
theorem own_any' {w : World} {base : Nat} {e : TypeId} {size n : Nat} {v : Value} {xs : List Value} (h : w.ownsRow base e size v n xs) : ∃ a c, v = .slice a n c := by
  rcases own_shape h with ⟨rfl, rfl⟩ | ⟨g, cap, rfl, _⟩
  · exact ⟨_, _, rfl⟩
  · exact ⟨_, _, rfl⟩
theorem own_store {w : World} {base : Nat} {e T : TypeId} {size n g : Nat} {v : Value} {xs : List Value} {cs : Array Value} (h : w.ownsRow base e size v n xs) (hG : Blk w g cs T) (hne : T ≠ e) (j : Nat) (u : Value) : (w.setCell ⟨g, j, none⟩ u).ownsRow base e size v n xs := by
  refine ⟨h.1, ?_⟩
  rcases h.2 with h1 | ⟨g1, cap, cur, rfl, hb, hw, r⟩
  · exact .inl h1
  · refine .inr ⟨g1, cap, cur, rfl, hb, ?_, r⟩
    rw [Below.heap_setCell w ⟨g, j, none⟩ u g1 (fun he => by subst he; rw [show w.heap[g1]? = _ from hG] at hw; cases hw; exact hne rfl)]
    exact hw
theorem RowsAre.setOther {w : World} {e T : TypeId} {base g : Nat} {vs : List Value} {ll : List (List Int)} {cs : Array Value} (h : RowsAre e base w vs ll) (hG : Blk w g cs T) (hne : T ≠ e) (j : Nat) (u : Value) : RowsAre e base (w.setCell ⟨g, j, none⟩ u) vs ll :=
  ⟨h.len, fun i x l hx hl => own_store (h.row i x l hx hl) hG hne j u, h.apart⟩
theorem own_grown {w w' : World} {base base' : Nat} {e e' : TypeId} {size size' n n' : Nat} {v u : Value} {xs us : List Value} (h : w.ownsRow base e size v n xs) (hu : w.ownsRow base' e' size' u n' us) (hg : w.grownBy w' u.ownBlock) (hne : e ≠ e') : w'.ownsRow base e size v n xs := by
  refine World.ownsRow.kept h hg ?_
  cases hb : v.ownBlock with
  | none => exact .inl rfl
  | some q => exact .inr fun he => own_apart' h hu hne q hb he.symm
theorem Blk.grown {w w' : World} {base' b : Nat} {T e' : TypeId} {size' n' : Nat} {u : Value} {us : List Value} {cs : Array Value} (h : Blk w b cs T) (hu : w.ownsRow base' e' size' u n' us) (hg : w.grownBy w' u.ownBlock) (hne : T ≠ e') : Blk w' b cs T := by
  refine (hg.block b h.lt fun he => ?_).trans h
  rcases hu.2 with ⟨rfl, _⟩ | ⟨g1, cap, cur, rfl, _, hw, _⟩
  · simp [Value.ownBlock] at he
  · simp [Value.ownBlock] at he
    subst he
    rw [show w.heap[b]? = _ from h] at hw
    cases hw
    exact hne rfl

end Go.Proofs.YtanekmfifmkbmaaGreatDoor

namespace Go.Proofs.YtanekmfifmkbmaaGreatDoor
set_option linter.unusedSimpArgs false
set_option linter.unusedVariables false
open Go.RowKit

set_option maxHeartbeats 1000000

theorem intss_store {w : World} {base : Nat} {e2 e1 T : TypeId} {g : Nat} {v : Value} {ll : List (List Int)} {cs : Array Value} (h : IntssOwn e2 e1 base w v ll) (hG : Blk w g cs T) (hne : T ≠ e2) (hne1 : T ≠ e1) (j : Nat) (u : Value) : IntssOwn e2 e1 base (w.setCell ⟨g, j, none⟩ u) v ll :=
  let ⟨vs, h1, h2, h3⟩ := h; ⟨vs, own_store h1 hG hne j u, h2.setOther hG hne1 j u, h3⟩

end Go.Proofs.YtanekmfifmkbmaaGreatDoor

namespace Go.Proofs.YtanekmfifmkbmaaGreatDoor
set_option linter.unusedSimpArgs false
set_option linter.unusedVariables false
open Go.RowKit

set_option maxHeartbeats 1000000

theorem l1Bit_c (n : Nat) (w : World) (hn : n ≤ 16) : Calls Tryz.prog 177 #[.int .i64 n] w (Same (.int .i64 ((2 ^ n : Nat) : Int)) w) := by
  have hc : n = 0 ∨ n = 1 ∨ n = 2 ∨ n = 3 ∨ n = 4 ∨ n = 5 ∨ n = 6 ∨ n = 7 ∨ n = 8 ∨ n = 9 ∨ n = 10 ∨ n = 11 ∨ n = 12 ∨ n = 13 ∨ n = 14 ∨ n = 15 ∨ n = 16 := by omega
  go_enter Tryz.func177, Tryz.ntmps177
  go_wp2_with fail
  go_ret
  refine Same.mk ?_
  show Value.int .i64 (wrap64 (2 ^ n)) = _
  rcases hc with rfl | rfl | rfl | rfl | rfl | rfl | rfl | rfl | rfl | rfl | rfl | rfl | rfl | rfl | rfl | rfl | rfl <;> (refine congrArg _ ?_; unfold wrap64; decide)

end Go.Proofs.YtanekmfifmkbmaaGreatDoor
