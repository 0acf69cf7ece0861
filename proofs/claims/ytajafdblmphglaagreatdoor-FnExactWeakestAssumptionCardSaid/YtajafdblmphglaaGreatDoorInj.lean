/- What lies in memory reads in one way. -/
import Derived.Test.YtajafdblmphglaaGreatDoorBase
namespace Go.Proofs.YtajafdblmphglaaGreatDoor
set_option linter.unusedSimpArgs false
set_option linter.unusedVariables false
open Go.RowKit

theorem SlV.inj {α : Type} {E : World → Nat → Nat → α → Prop} {sz : Nat} {w : World} {v : Value} {xs ys : List α} (hE : ∀ b o x y, E w b o x → E w b o y → x = y) (h : SlV E sz w v xs) (k : SlV E sz w v ys) : xs = ys := by
  obtain ⟨a, c, rfl, _, _, h3⟩ := h
  obtain ⟨a', c', he, _, _, k3⟩ := k
  simp only [Value.slice.injEq] at he
  obtain ⟨rfl, hl, rfl⟩ := he
  apply List.ext_getElem?
  intro i
  by_cases hi : i < xs.length
  · obtain ⟨b, off, rfl, _, hx⟩ := h3 (by omega)
    obtain ⟨b', off', hb, _, hy⟩ := k3 (by omega)
    cases hb
    obtain ⟨x, hx'⟩ : ∃ x, xs[i]? = some x := ⟨_, List.getElem?_eq_getElem hi⟩
    obtain ⟨y, hy'⟩ : ∃ y, ys[i]? = some y := ⟨_, List.getElem?_eq_getElem (show i < ys.length by omega)⟩
    rw [hx', hy', hE _ _ _ _ (hx i x hx') (hy i y hy')]
  · rw [List.getElem?_eq_none (by omega), List.getElem?_eq_none (by omega)]
theorem IntAt.inj {w : World} (b o : Nat) (x y : Int) (h : IntAt w b o x) (k : IntAt w b o y) : x = y := by
  unfold IntAt at *; rw [h] at k; simpa using k
theorem BoolAt.inj {w : World} (b o : Nat) (x y : Bool) (h : BoolAt w b o x) (k : BoolAt w b o y) : x = y := by
  unfold BoolAt at *; rw [h] at k; simpa using k
theorem IntsV.inj {w : World} {v : Value} {l m : List Int} (h : IntsV w v l) (k : IntsV w v m) : l = m := SlV.inj IntAt.inj h k
theorem BoolsV.inj {w : World} {v : Value} {l m : List Bool} (h : BoolsV w v l) (k : BoolsV w v m) : l = m := SlV.inj BoolAt.inj h k
theorem IntssV.inj {w : World} {v : Value} {l m : List (List Int)} (h : IntssV w v l) (k : IntssV w v m) : l = m :=
  SlV.inj (fun b o x y ⟨v, hc, hv⟩ ⟨u, kc, ku⟩ => by rw [hc] at kc; cases kc; exact IntsV.inj hv ku) h k
theorem EdgesV.inj {w : World} {v : Value} {l m : List Edge} (h : EdgesV w v l) (k : EdgesV w v m) : l = m :=
  SlV.inj (fun b o x y ⟨h1, h2, h3⟩ ⟨k1, k2, k3⟩ => by
    rw [h1] at k1; rw [h2] at k2; rw [h3] at k3
    simp at k1 k2 k3
    cases x; cases y; simp_all) h k
theorem SysV.inj {w : World} {v : Value} {s t : Sys} (h : SysV w v s) (k : SysV w v t) : s = t := by
  obtain ⟨ve, rfl, h1⟩ := h
  obtain ⟨ue, he, k1⟩ := k
  simp at he
  obtain ⟨ha, hs, rfl⟩ := he
  cases s; cases t
  simp only at *
  rw [ha, hs, h1.inj k1]
theorem AutoV.inj {w : World} {v : Value} {s t : Auto} (h : AutoV w v s) (k : AutoV w v t) : s = t := by
  obtain ⟨vn, va, rfl, h1, h2⟩ := h
  obtain ⟨un, ua, he, k1, k2⟩ := k
  simp at he
  obtain ⟨ha, rfl, rfl⟩ := he
  cases s; cases t
  simp only at *
  rw [ha, h1.inj k1, h2.inj k2]
theorem TaskV.inj {w : World} {v : Value} {s t : Task} (h : TaskV w v s) (k : TaskV w v t) : s = t := by
  obtain ⟨ve, vn, va, rfl, h1, h2, h3⟩ := h
  obtain ⟨ue, un, ua, he, k1, k2, k3⟩ := k
  simp at he
  obtain ⟨ha, hb, rfl, hc, rfl, rfl, hd⟩ := he
  obtain ⟨⟨_, _, _⟩, ⟨_, _, _⟩, _⟩ := s
  obtain ⟨⟨_, _, _⟩, ⟨_, _, _⟩, _⟩ := t
  simp only at *
  rw [ha, hb, hc, hd, h1.inj k1, h2.inj k2, h3.inj k3]
theorem TeacherV.inj {w : World} {v : Value} {s t : Teacher} (h : TeacherV w v s) (k : TeacherV w v t) : s = t := by
  obtain ⟨vn, va, ve, vn2, va2, rfl, h1, h2, h3, h4, h5⟩ := h
  obtain ⟨un, ua, ue, un2, ua2, he, k1, k2, k3, k4, k5⟩ := k
  simp at he
  obtain ⟨e1, e2, rfl, rfl, e3, e4, rfl, e5, rfl, rfl, e6⟩ := he
  obtain ⟨_, ⟨_, _, _⟩, ⟨⟨_, _, _⟩, ⟨_, _, _⟩, _⟩⟩ := s
  obtain ⟨_, ⟨_, _, _⟩, ⟨⟨_, _, _⟩, ⟨_, _, _⟩, _⟩⟩ := t
  simp only at *
  rw [e1, e2, e3, e4, e5, e6, h1.inj k1, h2.inj k2, h3.inj k3, h4.inj k4, h5.inj k5]

end Go.Proofs.YtajafdblmphglaaGreatDoor
