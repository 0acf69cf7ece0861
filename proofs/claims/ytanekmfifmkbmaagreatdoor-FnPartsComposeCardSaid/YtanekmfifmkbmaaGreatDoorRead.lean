/- Part of this seat's proofs, cut to what its law needs. -/

import Derived.Test.YtanekmfifmkbmaaGreatDoorBase
import Derived.Test.YtanekmfifmkbmaaGreatDoorWalkE
import Derived.ProofKit
import Derived.OpenShut
import Derived.ShutString
import Derived.ChangeOld
import Derived.Below
import Derived.Deep.Slices

namespace Go.Proofs.YtanekmfifmkbmaaGreatDoor
set_option linter.unusedSimpArgs false
set_option linter.unusedVariables false
open Go.RowKit

theorem SlV.inj {α : Type} {E : World → Nat → Nat → α → Prop} {sz : Nat} {w : World} {v : Value} {xs ys : List α} (hE : ∀ b o x y, E w b o x → E w b o y → x = y) (h : SlV E sz w v xs) (k : SlV E sz w v ys) : xs = ys := by
  obtain ⟨a, c, rfl, _, _, h3⟩ := h
  obtain ⟨a', c', he, _, _, k3⟩ := k
  simp only [Value.slice.injEq] at he
  obtain ⟨rfl, hl, rfl⟩ := he
  apply List.ext_getElem?
  intro i
  by_cases hi : i < xs.length
  · obtain ⟨b, off, rfl, _, hx⟩ := h3 (by omega)
    obtain ⟨b', off', hb, _, hy⟩ := k3 (by omega)
    cases hb
    obtain ⟨x, hx'⟩ : ∃ x, xs[i]? = some x := ⟨_, List.getElem?_eq_getElem hi⟩
    obtain ⟨y, hy'⟩ : ∃ y, ys[i]? = some y := ⟨_, List.getElem?_eq_getElem (show i < ys.length by omega)⟩
    rw [hx', hy', hE _ _ _ _ (hx i x hx') (hy i y hy')]
  · rw [List.getElem?_eq_none (by omega), List.getElem?_eq_none (by omega)]
theorem IntAt.inj {w : World} (b o : Nat) (x y : Int) (h : IntAt w b o x) (k : IntAt w b o y) : x = y := by
  unfold IntAt at *; rw [h] at k; simpa using k
theorem BoolAt.inj {w : World} (b o : Nat) (x y : Bool) (h : BoolAt w b o x) (k : BoolAt w b o y) : x = y := by
  unfold BoolAt at *; rw [h] at k; simpa using k
theorem IntsV.inj {w : World} {v : Value} {l m : List Int} (h : IntsV w v l) (k : IntsV w v m) : l = m := SlV.inj IntAt.inj h k
theorem BoolsV.inj {w : World} {v : Value} {l m : List Bool} (h : BoolsV w v l) (k : BoolsV w v m) : l = m := SlV.inj BoolAt.inj h k
theorem IntssV.inj {w : World} {v : Value} {l m : List (List Int)} (h : IntssV w v l) (k : IntssV w v m) : l = m :=
  SlV.inj (fun b o x y ⟨v, hc, hv⟩ ⟨u, kc, ku⟩ => by rw [hc] at kc; cases kc; exact IntsV.inj hv ku) h k
theorem AutoV.inj {w : World} {v : Value} {s t : Auto} (h : AutoV w v s) (k : AutoV w v t) : s = t := by
  obtain ⟨vn, va, rfl, h1, h2⟩ := h
  obtain ⟨un, ua, he, k1, k2⟩ := k
  simp at he
  obtain ⟨ha, rfl, rfl⟩ := he
  cases s; cases t
  simp only at *
  rw [ha, h1.inj k1, h2.inj k2]
end Go.Proofs.YtanekmfifmkbmaaGreatDoor

namespace Go.Proofs.YtanekmfifmkbmaaGreatDoor
set_option linter.unusedSimpArgs false
set_option linter.unusedVariables false
open Go.ChangeShapes Go.WideShapes Go.ChangeAt Go.RowKit

section
variable {H : Type} {enc : TypeId × Value → H} {P : Program} {W : World} {spare : Nat → Bool} {held : Bool}

theorem cells_at {a : Addr} {n : Nat} {cs : List Value} (h : W.cells? 0 a n = some cs) : cs.length = n ∧ ∀ i v, cs[i]? = some v → W.cell? (a.add i) = some v := by
  unfold World.cells? at h
  rw [if_pos (Nat.zero_le _)] at h
  refine ⟨by simpa using (mapM_some_length h), fun i v hv => ?_⟩
  have hi : i < n := by
    have h1 := (List.getElem?_eq_some_iff.1 hv).1
    have h2 := mapM_some_length h
    simp at h2
    omega
  have := mapM_some_get h i i (by simp [hi])
  rw [hv] at this
  exact this

theorem add_none {b off : Nat} (i : Nat) : (⟨b, off, none⟩ : Addr).add i = ⟨b, off + i, none⟩ := by unfold Addr.add; split <;> simp_all

theorem read_slice {α : Type} {E : World → Nat → Nat → α → Prop} {t e : TypeId} {sz fuel : Nat} {cs : List Value} {x : DataW H × List MemPlace} (ht : P.underlying t = some (.slice e)) (hsz : P.cellsOf e = sz) (h0 : 0 < sz)
    (hE : ∀ n b o cs' y, W.cells? 0 ⟨b, o, none⟩ sz = some cs' → DataW.trod enc P W 0 spare held n e cs' = some y → ∃ z, E W b o z)
    (h : DataW.trod enc P W 0 spare held fuel t cs = some x) : ∃ v xs, cs = [v] ∧ SlV E sz W v xs := by
  rcases Go.Deep.open_slice ht h with ⟨rfl, _⟩ | ⟨a, len, cap, m, n, D, Pl, rfl, _, hl, hm, hmm, _, hel⟩
  · exact ⟨_, [], rfl, none, 0, rfl, Nat.le_refl _, by omega, fun h => by simp at h⟩
  · have hlm : len ≤ m := by rw [hmm]; split <;> omega
    by_cases hz : len = 0
    · subst hz
      exact ⟨_, [], rfl, some a, cap, rfl, Nat.zero_le _, hm, fun h => by simp at h⟩
    · have hsp : a.spot = none := by
        obtain ⟨cs', h1, _⟩ := hel 0 (by omega)
        rw [hsz] at h1
        obtain ⟨h2, h3⟩ := cells_at h1
        obtain ⟨v, hv⟩ : ∃ v, cs'[0]? = some v := ⟨_, List.getElem?_eq_getElem (show 0 < cs'.length by omega)⟩
        have h4 := h3 0 v hv
        have h5 : (a.add (0 * sz)).add 0 = a := by simp [Addr.add]
        rw [h5] at h4
        cases hs : a.spot with
        | none => rfl
        | some s =>
          exfalso
          unfold World.cell? at h4
          split at h4
          · simp [hs] at h4
          · cases h4
      obtain ⟨b, off, sp⟩ := a
      simp only at hsp
      subst hsp
      have key : ∀ k, k ≤ len → ∃ xs : List α, xs.length = k ∧ ∀ i z, xs[i]? = some z → E W b (off + i * sz) z := by
        intro k
        induction k with
        | zero => exact fun _ => ⟨[], rfl, fun i z h => by simp at h⟩
        | succ k ih =>
          intro hk
          obtain ⟨xs, hxl, hx⟩ := ih (by omega)
          obtain ⟨cs', h1, h2⟩ := hel k (by omega)
          rw [hsz, add_none] at h1
          obtain ⟨z, hz⟩ := hE _ _ _ _ _ h1 h2
          refine ⟨xs ++ [z], by simp [hxl], fun i y hy => ?_⟩
          by_cases hi : i < k
          · rw [List.getElem?_append_left (by omega)] at hy; exact hx i y hy
          · have hik : i = k := by
              have := (List.getElem?_eq_some_iff.1 hy).1
              simp at this; omega
            subst hik
            rw [← hxl, List.getElem?_concat_length] at hy
            cases hy
            exact hz
      obtain ⟨xs, hxl, hx⟩ := key len (Nat.le_refl _)
      have hb : b < W.heap.size := by
        obtain ⟨z, hz⟩ : ∃ z, xs[0]? = some z := ⟨_, List.getElem?_eq_getElem (show 0 < xs.length by omega)⟩
        obtain ⟨cs', h1, _⟩ := hel 0 (by omega)
        rw [hsz] at h1
        obtain ⟨h2, h3⟩ := cells_at h1
        obtain ⟨v, hv⟩ : ∃ v, cs'[0]? = some v := ⟨_, List.getElem?_eq_getElem (show 0 < cs'.length by omega)⟩
        have h4 := h3 0 v hv
        have h5 := World.block_lt_of_cell? _ _ h4
        rw [Nat.zero_mul, add_none, add_none] at h5
        exact h5
      exact ⟨_, xs, rfl, _, cap, by rw [hxl], by omega, hm, fun _ => ⟨b, off, rfl, hb, hx⟩⟩

end

section
variable {H : Type} {enc : TypeId × Value → H} {W : World} {spare : Nat → Bool} {held : Bool} {fuel : Nat} {cs : List Value} {x : DataW H × List MemPlace}
end

end Go.Proofs.YtanekmfifmkbmaaGreatDoor
