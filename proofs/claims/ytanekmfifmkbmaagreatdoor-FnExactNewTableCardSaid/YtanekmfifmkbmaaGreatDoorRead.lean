/- Part of this seat's proofs, cut to what its law needs. -/

import Derived.Test.YtanekmfifmkbmaaGreatDoorBase
import Derived.Test.YtanekmfifmkbmaaGreatDoorWalkE
import Derived.ProofKit
import Derived.OpenShut
import Derived.ShutString
import Derived.ChangeOld
import Derived.Below
import Derived.Deep.Slices

namespace Go.Proofs.YtanekmfifmkbmaaGreatDoor
set_option linter.unusedSimpArgs false
set_option linter.unusedVariables false
open Go.RowKit

end Go.Proofs.YtanekmfifmkbmaaGreatDoor

namespace Go.Proofs.YtanekmfifmkbmaaGreatDoor
set_option linter.unusedSimpArgs false
set_option linter.unusedVariables false
open Go.ChangeShapes Go.WideShapes Go.ChangeAt Go.RowKit

section
variable {H : Type} {enc : TypeId × Value → H} {P : Program} {W : World} {spare : Nat → Bool} {held : Bool}

theorem cells_at {a : Addr} {n : Nat} {cs : List Value} (h : W.cells? 0 a n = some cs) : cs.length = n ∧ ∀ i v, cs[i]? = some v → W.cell? (a.add i) = some v := by
  unfold World.cells? at h
  rw [if_pos (Nat.zero_le _)] at h
  refine ⟨by simpa using (mapM_some_length h), fun i v hv => ?_⟩
  have hi : i < n := by
    have h1 := (List.getElem?_eq_some_iff.1 hv).1
    have h2 := mapM_some_length h
    simp at h2
    omega
  have := mapM_some_get h i i (by simp [hi])
  rw [hv] at this
  exact this

theorem add_none {b off : Nat} (i : Nat) : (⟨b, off, none⟩ : Addr).add i = ⟨b, off + i, none⟩ := by unfold Addr.add; split <;> simp_all

theorem read_slice {α : Type} {E : World → Nat → Nat → α → Prop} {t e : TypeId} {sz fuel : Nat} {cs : List Value} {x : DataW H × List MemPlace} (ht : P.underlying t = some (.slice e)) (hsz : P.cellsOf e = sz) (h0 : 0 < sz)
    (hE : ∀ n b o cs' y, W.cells? 0 ⟨b, o, none⟩ sz = some cs' → DataW.trod enc P W 0 spare held n e cs' = some y → ∃ z, E W b o z)
    (h : DataW.trod enc P W 0 spare held fuel t cs = some x) : ∃ v xs, cs = [v] ∧ SlV E sz W v xs := by
  rcases Go.Deep.open_slice ht h with ⟨rfl, _⟩ | ⟨a, len, cap, m, n, D, Pl, rfl, _, hl, hm, hmm, _, hel⟩
  · exact ⟨_, [], rfl, none, 0, rfl, Nat.le_refl _, by omega, fun h => by simp at h⟩
  · have hlm : len ≤ m := by rw [hmm]; split <;> omega
    by_cases hz : len = 0
    · subst hz
      exact ⟨_, [], rfl, some a, cap, rfl, Nat.zero_le _, hm, fun h => by simp at h⟩
    · have hsp : a.spot = none := by
        obtain ⟨cs', h1, _⟩ := hel 0 (by omega)
        rw [hsz] at h1
        obtain ⟨h2, h3⟩ := cells_at h1
        obtain ⟨v, hv⟩ : ∃ v, cs'[0]? = some v := ⟨_, List.getElem?_eq_getElem (show 0 < cs'.length by omega)⟩
        have h4 := h3 0 v hv
        have h5 : (a.add (0 * sz)).add 0 = a := by simp [Addr.add]
        rw [h5] at h4
        cases hs : a.spot with
        | none => rfl
        | some s =>
          exfalso
          unfold World.cell? at h4
          split at h4
          · simp [hs] at h4
          · cases h4
      obtain ⟨b, off, sp⟩ := a
      simp only at hsp
      subst hsp
      have key : ∀ k, k ≤ len → ∃ xs : List α, xs.length = k ∧ ∀ i z, xs[i]? = some z → E W b (off + i * sz) z := by
        intro k
        induction k with
        | zero => exact fun _ => ⟨[], rfl, fun i z h => by simp at h⟩
        | succ k ih =>
          intro hk
          obtain ⟨xs, hxl, hx⟩ := ih (by omega)
          obtain ⟨cs', h1, h2⟩ := hel k (by omega)
          rw [hsz, add_none] at h1
          obtain ⟨z, hz⟩ := hE _ _ _ _ _ h1 h2
          refine ⟨xs ++ [z], by simp [hxl], fun i y hy => ?_⟩
          by_cases hi : i < k
          · rw [List.getElem?_append_left (by omega)] at hy; exact hx i y hy
          · have hik : i = k := by
              have := (List.getElem?_eq_some_iff.1 hy).1
              simp at this; omega
            subst hik
            rw [← hxl, List.getElem?_concat_length] at hy
            cases hy
            exact hz
      obtain ⟨xs, hxl, hx⟩ := key len (Nat.le_refl _)
      have hb : b < W.heap.size := by
        obtain ⟨z, hz⟩ : ∃ z, xs[0]? = some z := ⟨_, List.getElem?_eq_getElem (show 0 < xs.length by omega)⟩
        obtain ⟨cs', h1, _⟩ := hel 0 (by omega)
        rw [hsz] at h1
        obtain ⟨h2, h3⟩ := cells_at h1
        obtain ⟨v, hv⟩ : ∃ v, cs'[0]? = some v := ⟨_, List.getElem?_eq_getElem (show 0 < cs'.length by omega)⟩
        have h4 := h3 0 v hv
        have h5 := World.block_lt_of_cell? _ _ h4
        rw [Nat.zero_mul, add_none, add_none] at h5
        exact h5
      exact ⟨_, xs, rfl, _, cap, by rw [hxl], by omega, hm, fun _ => ⟨b, off, rfl, hb, hx⟩⟩

theorem read_int {t : TypeId} {fuel : Nat} {cs : List Value} {x : DataW H × List MemPlace} (ht : P.underlying t = some (.int .i64)) (h : DataW.trod enc P W 0 spare held fuel t cs = some x) : ∃ n, cs = [.int .i64 n] := by
  cases fuel with
  | zero => simp [DataW.trod] at h
  | succ n =>
    unfold DataW.trod at h
    rw [ht] at h
    split at h <;> simp_all
theorem read_bool {t : TypeId} {fuel : Nat} {cs : List Value} {x : DataW H × List MemPlace} (ht : P.underlying t = some .bool) (h : DataW.trod enc P W 0 spare held fuel t cs = some x) : ∃ n, cs = [.bool n] := by
  cases fuel with
  | zero => simp [DataW.trod] at h
  | succ n =>
    unfold DataW.trod at h
    rw [ht] at h
    split at h <;> simp_all

theorem read_field {fs : Array Field} {t : TypeId} {fuel : Nat} {cs : List Value} {x : DataW H × List MemPlace} (ht : P.underlying t = some (.struct fs)) (h : DataW.trod enc P W 0 spare held fuel t cs = some x) :
    cs.length = P.cellsOf t ∧ ∃ n, ∀ (i : Nat) (f : Field), fs[i]? = some f → ∃ y, DataW.trod enc P W 0 spare held n f.type ((cs.drop f.offset).take (P.cellsOf f.type)) = some y := by
  obtain ⟨xs, n, _, _, hl, hxl, hx⟩ := DataW.trod_struct ht h
  refine ⟨hl, n, fun i f hf => ?_⟩
  rw [hx i f hf]
  exact ⟨_, List.getElem?_eq_getElem (by rw [hxl]; exact (Array.getElem?_eq_some_iff.1 hf).1)⟩
end

section
variable {H : Type} {enc : TypeId × Value → H} {W : World} {spare : Nat → Bool} {held : Bool} {fuel : Nat} {cs : List Value} {x : DataW H × List MemPlace}
theorem cel1 : Tryz.prog.cellsOf 3 = 1 := by kernel_rfl
theorem cel2 : Tryz.prog.cellsOf 4 = 1 := by kernel_rfl
theorem cel3 : Tryz.prog.cellsOf 80 = 1 := by kernel_rfl
theorem cel4 : Tryz.prog.cellsOf 28 = 1 := by kernel_rfl
theorem cel5 : Tryz.prog.cellsOf 29 = 1 := by kernel_rfl
theorem cel6 : Tryz.prog.cellsOf 42 = 3 := by kernel_rfl
theorem cel7 : Tryz.prog.cellsOf 237 = 3 := by kernel_rfl
theorem cel8 : Tryz.prog.cellsOf 45 = 3 := by kernel_rfl
theorem cel9 : Tryz.prog.cellsOf 43 = 1 := by kernel_rfl
theorem cel10 : Tryz.prog.cellsOf 47 = 7 := by kernel_rfl
theorem cel11 : Tryz.prog.cellsOf 49 = 11 := by kernel_rfl

theorem read_ints (h : DataW.trod enc Tryz.prog W 0 spare held fuel 80 cs = some x) : ∃ v l, cs = [v] ∧ IntsV W v l :=
  read_slice Tryz.underlying80 cel1 (by decide) (fun n b o cs' y h1 h2 => by
    obtain ⟨k, rfl⟩ := read_int Tryz.underlying3 h2
    have := (cells_at h1).2 0 _ rfl
    rw [add_none] at this
    exact ⟨k, this⟩) h
theorem read_bools (h : DataW.trod enc Tryz.prog W 0 spare held fuel 29 cs = some x) : ∃ v l, cs = [v] ∧ BoolsV W v l :=
  read_slice Tryz.underlying29 cel2 (by decide) (fun n b o cs' y h1 h2 => by
    obtain ⟨k, rfl⟩ := read_bool Tryz.underlying4 h2
    have := (cells_at h1).2 0 _ rfl
    rw [add_none] at this
    exact ⟨k, this⟩) h
theorem read_intss (h : DataW.trod enc Tryz.prog W 0 spare held fuel 28 cs = some x) : ∃ v l, cs = [v] ∧ IntssV W v l :=
  read_slice Tryz.underlying28 cel3 (by decide) (fun n b o cs' y h1 h2 => by
    obtain ⟨v, l, rfl, hv⟩ := read_ints h2
    have := (cells_at h1).2 0 _ rfl
    rw [add_none] at this
    exact ⟨l, v, this, hv⟩) h

theorem len3 {cs : List Value} (h : cs.length = 3) : ∃ a b c, cs = [a, b, c] := by
  match cs, h with
  | [a, b, c], _ => exact ⟨a, b, c, rfl⟩
theorem read_edge (h : DataW.trod enc Tryz.prog W 0 spare held fuel 237 cs = some x) : ∃ a b c, cs = [.int .i64 a, .int .i64 b, .int .i64 c] := by
  obtain ⟨hl, n, hf⟩ := read_field Tryz.underlying237 h
  obtain ⟨v0, v1, v2, rfl⟩ := len3 (hl.trans cel7)
  obtain ⟨y0, h0⟩ := hf 0 _ rfl
  obtain ⟨y1, h1⟩ := hf 1 _ rfl
  obtain ⟨y2, h2⟩ := hf 2 _ rfl
  simp only [cel1, List.getElem_toArray, List.getElem_cons_zero, List.getElem_cons_succ, List.drop_zero, List.drop_succ_cons, List.take_succ_cons, List.take_zero] at h0 h1 h2
  obtain ⟨a, ha⟩ := read_int Tryz.underlying3 h0
  obtain ⟨b, hb⟩ := read_int Tryz.underlying3 h1
  obtain ⟨c, hc⟩ := read_int Tryz.underlying3 h2
  simp only [List.cons.injEq, and_true] at ha hb hc
  exact ⟨a, b, c, by rw [ha, hb, hc]⟩
theorem read_edges (h : DataW.trod enc Tryz.prog W 0 spare held fuel 43 cs = some x) : ∃ v l, cs = [v] ∧ EdgesV W v l :=
  read_slice Tryz.underlying43 cel7 (by decide) (fun n b o cs' y h1 h2 => by
    obtain ⟨a, l, d, rfl⟩ := read_edge h2
    have g := (cells_at h1).2
    have g0 := g 0 _ rfl
    have g1 := g 1 _ rfl
    have g2 := g 2 _ rfl
    rw [add_none] at g0 g1 g2
    exact ⟨⟨a, l, d⟩, g0, g1, g2⟩) h
theorem read_auto (h : DataW.trod enc Tryz.prog W 0 spare held fuel 42 cs = some x) : ∃ a, AutoV W (.agg cs.toArray) a := by
  obtain ⟨hl, n, hf⟩ := read_field Tryz.underlying42 h
  obtain ⟨v0, v1, v2, rfl⟩ := len3 (hl.trans cel6)
  obtain ⟨y0, h0⟩ := hf 0 _ rfl
  obtain ⟨y1, h1⟩ := hf 1 _ rfl
  obtain ⟨y2, h2⟩ := hf 2 _ rfl
  simp only [cel1, cel4, cel5, List.getElem_toArray, List.getElem_cons_zero, List.getElem_cons_succ, List.drop_zero, List.drop_succ_cons, List.take_succ_cons, List.take_zero] at h0 h1 h2
  obtain ⟨a, ha⟩ := read_int Tryz.underlying3 h0
  obtain ⟨vn, l, hn, hn'⟩ := read_intss h1
  obtain ⟨va, m, hm, hm'⟩ := read_bools h2
  simp only [List.cons.injEq, and_true] at ha hn hm
  subst ha hn hm
  exact ⟨⟨a, l, m⟩, v1, v2, rfl, hn', hm'⟩
theorem read_sys (h : DataW.trod enc Tryz.prog W 0 spare held fuel 45 cs = some x) : ∃ s, SysV W (.agg cs.toArray) s := by
  obtain ⟨hl, n, hf⟩ := read_field Tryz.underlying45 h
  obtain ⟨v0, v1, v2, rfl⟩ := len3 (hl.trans cel8)
  obtain ⟨y0, h0⟩ := hf 0 _ rfl
  obtain ⟨y1, h1⟩ := hf 1 _ rfl
  obtain ⟨y2, h2⟩ := hf 2 _ rfl
  simp only [cel1, cel9, List.getElem_toArray, List.getElem_cons_zero, List.getElem_cons_succ, List.drop_zero, List.drop_succ_cons, List.take_succ_cons, List.take_zero] at h0 h1 h2
  obtain ⟨a, ha⟩ := read_int Tryz.underlying3 h0
  obtain ⟨b, hb⟩ := read_int Tryz.underlying3 h1
  obtain ⟨ve, l, hn, hn'⟩ := read_edges h2
  simp only [List.cons.injEq, and_true] at ha hb hn
  subst ha hb hn
  exact ⟨⟨a, b, l⟩, v2, rfl, hn'⟩
theorem len7 {cs : List Value} (h : cs.length = 7) : ∃ a b c d e f g, cs = [a, b, c, d, e, f, g] := by
  match cs, h with
  | [a, b, c, d, e, f, g], _ => exact ⟨a, b, c, d, e, f, g, rfl⟩
theorem read_task (h : DataW.trod enc Tryz.prog W 0 spare held fuel 47 cs = some x) : ∃ t, TaskV W (.agg cs.toArray) t := by
  obtain ⟨hl, n, hf⟩ := read_field Tryz.underlying47 h
  obtain ⟨v0, v1, v2, v3, v4, v5, v6, rfl⟩ := len7 (hl.trans cel10)
  obtain ⟨y0, h0⟩ := hf 0 _ rfl
  obtain ⟨y1, h1⟩ := hf 1 _ rfl
  obtain ⟨y2, h2⟩ := hf 2 _ rfl
  simp only [cel1, cel6, cel8, List.getElem_toArray, List.getElem_cons_zero, List.getElem_cons_succ, List.drop_zero, List.drop_succ_cons, List.take_succ_cons, List.take_zero] at h0 h1 h2
  obtain ⟨S, ve, hS, hS'⟩ := read_sys h0
  obtain ⟨A, vn, va, hA, hA', hA2⟩ := read_auto h1
  obtain ⟨k, hk⟩ := read_int Tryz.underlying3 h2
  simp at hS hA hk
  obtain ⟨rfl, rfl, rfl⟩ := hS
  obtain ⟨rfl, rfl, rfl⟩ := hA
  subst hk
  exact ⟨⟨S, A, k⟩, _, _, _, rfl, hS', hA', hA2⟩
theorem len11 {cs : List Value} (h : cs.length = 11) : ∃ a b c d e f g h i j k, cs = [a, b, c, d, e, f, g, h, i, j, k] := by
  match cs, h with
  | [a, b, c, d, e, f, g, h, i, j, k], _ => exact ⟨a, b, c, d, e, f, g, h, i, j, k, rfl⟩
theorem read_teacher (h : DataW.trod enc Tryz.prog W 0 spare held fuel 49 cs = some x) : ∃ t, TeacherV W (.agg cs.toArray) t := by
  obtain ⟨hl, n, hf⟩ := read_field Tryz.underlying49 h
  obtain ⟨v0, v1, v2, v3, v4, v5, v6, v7, v8, v9, v10, rfl⟩ := len11 (hl.trans cel11)
  obtain ⟨y0, h0⟩ := hf 0 _ rfl
  obtain ⟨y1, h1⟩ := hf 1 _ rfl
  obtain ⟨y2, h2⟩ := hf 2 _ rfl
  simp only [cel2, cel6, cel10, List.getElem_toArray, List.getElem_cons_zero, List.getElem_cons_succ, List.drop_zero, List.drop_succ_cons, List.take_succ_cons, List.take_zero] at h0 h1 h2
  obtain ⟨k, hk⟩ := read_bool Tryz.underlying4 h0
  obtain ⟨A, vn, va, hA, hA', hA2⟩ := read_auto h1
  obtain ⟨T, ve, vn2, va2, hT, hT1, hT2, hT3⟩ := read_task h2
  simp at hk hA hT
  obtain ⟨rfl, rfl, rfl⟩ := hA
  obtain ⟨rfl, rfl, rfl, rfl, rfl, rfl, rfl⟩ := hT
  subst hk
  exact ⟨⟨k, A, T⟩, _, _, _, _, _, rfl, hA', hA2, hT1, hT2, hT3⟩
end

end Go.Proofs.YtanekmfifmkbmaaGreatDoor
