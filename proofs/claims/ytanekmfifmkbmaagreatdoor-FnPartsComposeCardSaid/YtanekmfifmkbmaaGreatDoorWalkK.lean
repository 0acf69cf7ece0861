/- Part of this seat's proofs, cut to what its law needs. -/

import Derived.Test.YtanekmfifmkbmaaGreatDoorWalkA
import Derived.Test.YtanekmfifmkbmaaGreatDoorPlain2
import Derived.Test.YtanekmfifmkbmaaGreatDoorWalkH
import Derived.Laws.IdiomStrings

namespace Go.Proofs.YtanekmfifmkbmaaGreatDoor
set_option linter.unusedSimpArgs false
set_option linter.unusedVariables false
open Go.RowKit

set_option maxHeartbeats 400000

theorem l1At_c (s : ByteArray) (i : Nat) (w : World) (h : i < s.size) (hs : s.size ≤ 4611686018427387904) :
    Calls Tryz.prog 174 #[.string s, .int .i64 i] w (Same (.int .i64 (chAt s i)) w) := by
  have h1 := chAt_get s i h
  have h2 := chAt_lo s i
  have h3 := chAt_hi s i
  go_enter Tryz.func174, Tryz.ntmps174
  go_wp2_with fail
  go_ret
  exact Same.mk (by rfl)

end Go.Proofs.YtanekmfifmkbmaaGreatDoor

namespace Go.Proofs.YtanekmfifmkbmaaGreatDoor
set_option linter.unusedSimpArgs false
set_option linter.unusedVariables false
open Go.RowKit

set_option maxHeartbeats 800000


def TabAt (w : World) (b o : Nat) (f : Nat → Int) : Prop := ∀ l, l < 6 → w.cell? ⟨b, o + l, none⟩ = some (.int .i64 (f l))
abbrev TabV := SlV TabAt 6
theorem TabAt.mono {w w' : World} (h : Ext w w') {b o : Nat} {x : Nat → Int} (k : TabAt w b o x) : TabAt w' b o x := fun l hl => h.cell (k l hl)
theorem TabV.mono {w w' : World} (h : Ext w w') {v : Value} {l : List (Nat → Int)} (k : TabV w v l) : TabV w' v l := SlV.mono k (fun _ _ _ _ => TabAt.mono h) h.size
def tabRow (x : Auto) (q l : Nat) : Int := (step x q l : Nat)
def table (x : Auto) : List (Nat → Int) := (List.range x.next.length).map (tabRow x)
theorem table_len (x : Auto) : (table x).length = x.next.length := by simp [table]
theorem table_at (x : Auto) (q : Nat) (h : q < x.next.length) : (table x)[q]? = some (tabRow x q) := by simp [table, h]
theorem infoTab : (Tryz.prog.info? 135).map (fun i => (i.zero, i.size, i.bytes)) = some (some (.agg #[.int .i64 0, .int .i64 0, .int .i64 0, .int .i64 0, .int .i64 0, .int .i64 0]), 6, 48) := by kernel_rfl

structure TabInv (e e1 : TypeId) (w wr : World) (g n : Nat) (vl : Value) (ls : List Int) (cells : List Value) : Prop where
  own : wr.ownsRow w.heap.size e 6 (.slice (some ⟨g, 0, none⟩) n n) n cells
  lets : IntsOwn e1 (g + 1) wr vl ls
  ext : Ext w wr
theorem TabInv.mono {e e1 : TypeId} {w wr wr' : World} {g n : Nat} {vl : Value} {ls : List Int} {cells : List Value} (h : TabInv e e1 w wr g n vl ls cells) (he : Ext wr wr') : TabInv e e1 w wr' g n vl ls cells :=
  ⟨own_ext h.own he, h.lets.ext he, h.ext.trans he⟩
theorem TabInv.store {e e1 : TypeId} {w wr : World} {g n : Nat} {vl : Value} {ls : List Int} {cells : List Value} (h : TabInv e e1 w wr g n vl ls cells) (hg : w.heap.size ≤ g) (j : Nat) (u : Value) :
    TabInv e e1 w (wr.setCell ⟨g, j, none⟩ u) g n vl ls (cells.set j u) := by
  obtain ⟨o1, o2⟩ := h.own.stored j u
  refine ⟨o1, World.ownsRow.kept h.lets o2 ?_, h.ext.setCell (p := ⟨g, j, none⟩) hg _⟩
  cases hb : vl.ownBlock with
  | none => exact .inl rfl
  | some k => have := (World.ownsRow.lt h.lets k hb).1; exact .inr (fun he => by cases he; omega)
theorem TabInv.cell {e e1 : TypeId} {w wr : World} {g n : Nat} {vl : Value} {ls : List Int} {cells : List Value} (h : TabInv e e1 w wr g n vl ls cells) {j : Nat} (hj : j < n * 6) : ∃ u, cells[j]? = some u ∧ wr.cell? ⟨g, j, none⟩ = some u := by
  have hl := h.own.1
  obtain ⟨u, hu⟩ : ∃ u, cells[j]? = some u := ⟨_, List.getElem?_eq_getElem (by omega)⟩
  exact ⟨u, hu, own_cell h.own hu⟩
theorem TabInv.len {e e1 : TypeId} {w wr : World} {g n : Nat} {vl : Value} {ls : List Int} {cells : List Value} (h : TabInv e e1 w wr g n vl ls cells) : cells.length = n * 6 := h.own.1

def rowTo (x : Auto) (k m l : Nat) : Int := if bit x.alphabet l = true ∧ place x.alphabet l < m then (step x k l : Nat) else k
def RowsTo (cells : List Value) (k : Nat) (f : Nat → Nat → Int) : Prop := ∀ q l, q < k → l < 6 → cells[q * 6 + l]? = some (.int .i64 (f q l))
def RowTo (cells : List Value) (k m : Nat) (f : Nat → Int) : Prop := ∀ l, l < m → cells[k * 6 + l]? = some (.int .i64 (f l))
theorem RowsTo.set {cells : List Value} {k j : Nat} {f : Nat → Nat → Int} {u : Value} (h : RowsTo cells k f) : RowsTo (cells.set (k * 6 + j) u) k f := fun q l hq hl => by
  rw [List.getElem?_set_ne (by omega)]; exact h q l hq hl
theorem RowTo.push {cells : List Value} {k m : Nat} {y : Int} (h : RowTo cells k m (fun _ => y)) (hl : k * 6 + m < cells.length) : RowTo (cells.set (k * 6 + m) (.int .i64 y)) k (m + 1) (fun _ => y) := fun l hl' => by
  by_cases he : l = m
  · subst he; rw [List.getElem?_set_self hl]
  · rw [List.getElem?_set_ne (by omega)]; exact h l (by omega)
theorem RowTo.put {cells : List Value} {k j : Nat} {f g : Nat → Int} {y : Int} (h : RowTo cells k 6 f) (hl : k * 6 + j < cells.length) (hj : j < 6) (hy : g j = y) (hg : ∀ l, l < 6 → l ≠ j → g l = f l) : RowTo (cells.set (k * 6 + j) (.int .i64 y)) k 6 g := fun l hl' => by
  by_cases he : l = j
  · subst he; rw [List.getElem?_set_self hl, hy]
  · rw [List.getElem?_set_ne (by omega), hg l hl' he]; exact h l hl'
theorem RowsTo.push {cells : List Value} {k : Nat} {f : Nat → Nat → Int} (h : RowsTo cells k f) (h2 : RowTo cells k 6 (f k)) : RowsTo cells (k + 1) f := fun q l hq hl => by
  by_cases he : q = k
  · subst he; exact h2 l hl
  · exact h q l (by omega) hl
theorem RowTo.eq {cells : List Value} {k m : Nat} {f g : Nat → Int} (h : RowTo cells k m f) (hg : ∀ l, l < m → f l = g l) : RowTo cells k m g := fun l hl => by rw [← hg l hl]; exact h l hl

theorem rowTo_zero (x : Auto) (k l : Nat) : rowTo x k 0 l = k := by simp [rowTo]
theorem rowTo_full {x : Auto} (h : AutoFit x) (k l : Nat) (hl : l < 6) : rowTo x k (letters x.alphabet).length l = tabRow x k l := by
  have ha := h.a0
  have ha2 := h.a63
  unfold rowTo tabRow
  by_cases hb : bit x.alphabet l = true
  · rw [if_pos ⟨hb, place_lt _ _ ha ha2 hb⟩]
  · rw [if_neg (fun h => hb h.1)]; simp [step, hb]
theorem rowTo_succ {x : Auto} (h : AutoFit x) {k m j : Nat} (hm : (letters x.alphabet)[m]? = some (j : Int)) :
    rowTo x k (m + 1) j = (step x k j : Nat) ∧ ∀ l, l < 6 → l ≠ j → rowTo x k (m + 1) l = rowTo x k m l := by
  have ha := h.a0
  have ha2 := h.a63
  obtain ⟨hb, h0, h6, hm6⟩ := letters_mem _ _ _ ha2 hm
  have hp := ((letters_place _ _ m ha ha2 h0 h6 hm6).1 hm).2
  refine ⟨by unfold rowTo; rw [if_pos ⟨hb, by omega⟩], fun l hl hne => ?_⟩
  unfold rowTo
  by_cases hc : bit x.alphabet l = true ∧ place x.alphabet l < m
  · rw [if_pos hc, if_pos ⟨hc.1, by omega⟩]
  · rw [if_neg hc, if_neg]
    intro hd
    have he : place x.alphabet l = m := by
      rcases Nat.lt_or_ge (place x.alphabet l) m with h | h
      · exact absurd ⟨hd.1, h⟩ hc
      · omega
    have := (letters_place x.alphabet l m ha ha2 (by omega) (by omega) hm6).2 ⟨hd.1, he⟩
    rw [hm] at this
    simp at this
    omega

end Go.Proofs.YtanekmfifmkbmaaGreatDoor

namespace Go.Proofs.YtanekmfifmkbmaaGreatDoor
set_option linter.unusedSimpArgs false
set_option linter.unusedVariables false
open Go.RowKit

set_option maxHeartbeats 800000

theorem l1Place_c (a l : Int) (w : World) (ha : 0 ≤ a) (ha2 : a ≤ 63) (hl : 0 ≤ l) (hl2 : l < 6) :
    Calls Tryz.prog 188 #[.int .i64 a, .int .i64 l] w (Same (.int .i64 (place a l : Nat)) w) := by
  obtain ⟨n, rfl⟩ := Int.eq_ofNat_of_zero_le hl
  go_enter Tryz.func188, Tryz.ntmps188
  go_wp2_with fail
  go_loop [5, 6] (fun p i => ∃ k : Nat, k ≤ n ∧ i = .int .i64 k ∧ p = .int .i64 ((lettersTo a k).length : Nat)) (fun _ i => n - (intOf i).toNat)
  case atStart => exact ⟨0, by omega, rfl, rfl⟩
  case round =>
    obtain ⟨k, hk, rfl, rfl⟩ := hrel
    by_cases hlt : k < n
    · have HS := Lib.hid (lettersTo_succ a k)
      have hlen := lettersTo_len a k
      by_cases hb : bit a k = true
      · go_wp2_with (go_at_call 85; refine (l1Has_c _ _ _ (by omega) (by omega) (by omega) (by omega)).mono ?_; rintro e w' ⟨rfl, rfl⟩)
        exact ⟨⟨k + 1, by omega, by go_num, by rw [HS.out, if_pos hb]; simp⟩, by simp [intOf]; omega⟩
      · have hb : bit a k = false := by simpa using hb
        go_wp2_with (go_at_call 85; refine (l1Has_c _ _ _ (by omega) (by omega) (by omega) (by omega)).mono ?_; rintro e w' ⟨rfl, rfl⟩)
        exact ⟨⟨k + 1, by omega, by go_num, by rw [HS.out, hb]; simp⟩, by simp [intOf]; omega⟩
    · obtain rfl : k = n := by omega
      go_wp2_with fail
      go_ret
      exact Same.mk (by unfold place; rfl)

theorem l3Go_f (v : Value) (x : Auto) (q : Nat) (l : Int) (w : World) (hv : AutoV w v x) (hx : AutoFit x) (hq : q < x.next.length) (hl : 0 ≤ l) (hl2 : l < 6) :
    Calls Tryz.prog 149 #[v, .int .i64 q, .int .i64 l] w (Grows (.int .i64 (step x q l : Nat)) w) := by
  obtain ⟨vn, va, rfl, h2, -⟩ := hv
  have ha := hx.a0
  have ha2 := hx.a63
  have hn0 := hx.n1
  have hn := hx.n2
  obtain ⟨an, cn, rfl, hn1, hn2⟩ := h2.open
  clear h2
  obtain ⟨wo, hwo⟩ : ∃ wo, wo = w.alloc (.cells #[.int .i64 x.alphabet, .slice an x.next.length cn, va] 31) := ⟨_, rfl⟩
  have he : Ext w wo := by rw [hwo]; exact Ext.alloc _ _
  have hB : Blk wo w.heap.size #[.int .i64 x.alphabet, .slice an x.next.length cn, va] 31 := by rw [hwo]; exact Blk.new _ _ _
  by_cases hb : bit x.alphabet l = true
  · obtain ⟨row, y, hr, hy, rfl, hlt⟩ := hx.step_facts hq hb
    have hpl := (List.getElem?_eq_some_iff.1 hy).1
    obtain ⟨b, off, rfl, -, hc⟩ := hn2 q row hr
    obtain ⟨vr, g1, hvr⟩ := (hc q row hr).mono he
    rw [Nat.mul_one] at g1
    obtain ⟨ar, cr, rfl, hr1, hr2⟩ := hvr.open
    obtain ⟨b2, off2, rfl, -, hc2⟩ := hr2 _ _ hy
    have g2 := hc2 _ _ hy
    rw [Nat.mul_one] at g2
    unfold IntAt at g2
    have D0 := fun d os => cell_regrown (hB.cell 0 rfl) d os
    have D1 := fun d os => cell_regrown (hB.cell 1 rfl) d os
    have D2 := fun d os => cell_regrown g1 d os
    have D3 := fun d os => cell_regrown g2 d os
    clear hc hc2 hr2 hvr hn2 hr hy g1 g2
    go_enter Tryz.func149, Tryz.ntmps149
    go_wp2_with (go_at_call 85; refine (l1Has_c _ _ _ (by omega) (by omega) (by omega) (by omega)).mono ?_; rintro e w' ⟨rfl, rfl⟩)
    rw [← hwo]
    clear hwo hB
    refine wp_region_quiet_below (by kernel_rfl) (by kernel_rfl) ?_
    repeat (go_big_quiet_step ((go_at_call 188; exact Same.quiet (l1Place_c _ _ _ (by omega) (by omega) (by omega) (by omega)))))
    refine wpQuiet_nil ?_
    intro _ hw'
    obtain ⟨⟨dq, osq⟩, hw''⟩ := hw'
    subst hw''
    have hq2 : Ext wo (Go.Sort.grow (redrawn wo dq) osq) := below_regrown wo dq osq
    generalize Go.Sort.grow (redrawn wo dq) osq = wq at hq2 ⊢
    go_wp2_with fail
    go_ret
    exact Grows.mk rfl (he.trans hq2)
  · have hb : bit x.alphabet l = false := by simpa using hb
    go_enter Tryz.func149, Tryz.ntmps149
    go_wp2_with (go_at_call 85; refine (l1Has_c _ _ _ (by omega) (by omega) (by omega) (by omega)).mono ?_; rintro e w' ⟨rfl, rfl⟩)
    go_ret
    rw [← hwo]
    exact Grows.mk (by simp [step, hb]) he
end Go.Proofs.YtanekmfifmkbmaaGreatDoor

namespace Go.Proofs.YtanekmfifmkbmaaGreatDoor
set_option linter.unusedSimpArgs false
set_option linter.unusedVariables false
open Go.RowKit

set_option maxHeartbeats 800000

theorem AutoFit.accepts_at {x : Auto} (hx : AutoFit x) {q : Nat} (hq : q < x.next.length) : x.accept[q]? = some (accepts x q) := by
  have h := hx.acc
  unfold accepts
  rw [List.getElem?_eq_getElem (by omega)]; rfl

theorem accepts_at {x : Auto} (hx : autoValid x = true) {q : Nat} (hq : q < x.next.length) : x.accept[q]? = some (accepts x q) := (AutoFit.of hx).accepts_at hq

end Go.Proofs.YtanekmfifmkbmaaGreatDoor

namespace Go.Proofs.YtanekmfifmkbmaaGreatDoor
set_option linter.unusedSimpArgs false
set_option linter.unusedVariables false
open Go.RowKit

set_option maxHeartbeats 800000

theorem infoByte : (Tryz.prog.info? 5).map (fun i => (i.zero, i.size, i.bytes)) = some (some (.int .u8 0), 1, 1) := by kernel_rfl

def byteVal (b : UInt8) : Value := .int .u8 (b.toNat : Int)
def BytesOwn (e : TypeId) (base : Nat) (w : World) (v : Value) (l : List UInt8) : Prop := w.ownsRow base e 1 v l.length (l.map byteVal)
theorem BytesOwn.nil (e : TypeId) (base : Nat) (w : World) : BytesOwn e base w (.slice none 0 0) [] := World.ownsRow_nil _ _ _ _
theorem BytesOwn.own {e : TypeId} {base : Nat} {w : World} {v : Value} {l : List UInt8} (h : BytesOwn e base w v l) : w.ownsRow base e 1 v l.length (l.map byteVal) := h
theorem BytesOwn.push {e : TypeId} {base : Nat} {w : World} {v : Value} {l l' : List UInt8} {x : UInt8} {u : Value} (h : w.ownsRow base e 1 v (l.length + 1) (l.map byteVal ++ [u])) (hu : u = byteVal x) (hl : l' = l ++ [x]) : BytesOwn e base w v l' := by
  subst hl; subst hu; unfold BytesOwn; simpa using h
theorem BytesOwn.shape {e : TypeId} {base : Nat} {w : World} {v : Value} {l : List UInt8} (h : BytesOwn e base w v l) : (v = .slice none 0 0 ∧ l = []) ∨ ∃ g c, v = .slice (some ⟨g, 0, none⟩) l.length c ∧ ∀ j (hj : j < l.length), w.cell? ⟨g, j, none⟩ = some (.int .u8 (l[j].toNat : Int)) := by
  rcases own_shape h with ⟨rfl, h0⟩ | ⟨g, cap, rfl, _⟩
  · exact .inl ⟨rfl, List.length_eq_zero_iff.1 h0⟩
  · exact .inr ⟨g, cap, rfl, fun j hj => own_cell h (by simp [hj, byteVal])⟩
theorem BytesOwn.string {e : TypeId} {base : Nat} {w : World} {v : Value} {l : List UInt8} (h : BytesOwn e base w v l) :
    (convert 22 9 v).run Tryz.prog w = .ok (.string ⟨l.toArray⟩) w := by
  rcases h.shape with ⟨rfl, rfl⟩ | ⟨g, c, rfl, hc⟩
  · rw [run_convert_bytes_string w _ _ 5 none 0 0 Tryz.underlying22 Tryz.underlying5 Tryz.underlying9]; rfl
  · refine run_convert_bytes_back w _ _ 5 ⟨g, 0, none⟩ c l Tryz.underlying22 Tryz.underlying5 Tryz.underlying9 fun j hj => ?_
    rw [Addr.add_lit, Nat.zero_add]
    exact hc j hj

theorem AutomatonValid_b {v : Value} {x : Auto} {w : World} {b : Bool} (hb : autoValid x = b) (hv : AutoV w v x) :
    Calls Tryz.prog 46 #[v] w (Grows (.bool b) w) := hb ▸ AutomatonValid_c v x w hv
end Go.Proofs.YtanekmfifmkbmaaGreatDoor
