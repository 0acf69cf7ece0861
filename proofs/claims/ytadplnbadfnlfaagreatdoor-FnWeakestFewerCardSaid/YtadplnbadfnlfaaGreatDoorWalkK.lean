/- Part of this seat's proofs, cut to what its law needs. -/

import Derived.Test.YtadplnbadfnlfaaGreatDoorWalkA
import Derived.Test.YtadplnbadfnlfaaGreatDoorPlain2
import Derived.Test.YtadplnbadfnlfaaGreatDoorWalkH
import Derived.Laws.IdiomStrings

namespace Go.Proofs.YtadplnbadfnlfaaGreatDoor
set_option linter.unusedSimpArgs false
set_option linter.unusedVariables false
open Go.RowKit

set_option maxHeartbeats 400000

theorem l1At_c (s : ByteArray) (i : Nat) (w : World) (h : i < s.size) (hs : s.size ≤ 4611686018427387904) :
    Calls Tryz.prog 284 #[.string s, .int .i64 i] w (Same (.int .i64 (chAt s i)) w) := by
  have h1 := chAt_get s i h
  have h2 := chAt_lo s i
  have h3 := chAt_hi s i
  go_enter Tryz.func284, Tryz.ntmps284
  go_wp2_with fail
  go_ret
  exact Same.mk (by rfl)

end Go.Proofs.YtadplnbadfnlfaaGreatDoor

namespace Go.Proofs.YtadplnbadfnlfaaGreatDoor
set_option linter.unusedSimpArgs false
set_option linter.unusedVariables false
open Go.RowKit

set_option maxHeartbeats 800000


def TabAt (w : World) (b o : Nat) (f : Nat → Int) : Prop := ∀ l, l < 6 → w.cell? ⟨b, o + l, none⟩ = some (.int .i64 (f l))
abbrev TabV := SlV TabAt 6
theorem TabAt.mono {w w' : World} (h : Ext w w') {b o : Nat} {x : Nat → Int} (k : TabAt w b o x) : TabAt w' b o x := fun l hl => h.cell (k l hl)
theorem TabV.mono {w w' : World} (h : Ext w w') {v : Value} {l : List (Nat → Int)} (k : TabV w v l) : TabV w' v l := SlV.mono k (fun _ _ _ _ => TabAt.mono h) h.size
def tabRow (x : Auto) (q l : Nat) : Int := (step x q l : Nat)
def table (x : Auto) : List (Nat → Int) := (List.range x.next.length).map (tabRow x)
theorem table_len (x : Auto) : (table x).length = x.next.length := by simp [table]
theorem table_at (x : Auto) (q : Nat) (h : q < x.next.length) : (table x)[q]? = some (tabRow x q) := by simp [table, h]
theorem infoTab : (Tryz.prog.info? 176).map (fun i => (i.zero, i.size, i.bytes)) = some (some (.agg #[.int .i64 0, .int .i64 0, .int .i64 0, .int .i64 0, .int .i64 0, .int .i64 0]), 6, 48) := by kernel_rfl

structure TabInv (e e1 : TypeId) (w wr : World) (g n : Nat) (vl : Value) (ls : List Int) (cells : List Value) : Prop where
  own : wr.ownsRow w.heap.size e 6 (.slice (some ⟨g, 0, none⟩) n n) n cells
  lets : IntsOwn e1 (g + 1) wr vl ls
  ext : Ext w wr
theorem TabInv.mono {e e1 : TypeId} {w wr wr' : World} {g n : Nat} {vl : Value} {ls : List Int} {cells : List Value} (h : TabInv e e1 w wr g n vl ls cells) (he : Ext wr wr') : TabInv e e1 w wr' g n vl ls cells :=
  ⟨own_ext h.own he, h.lets.ext he, h.ext.trans he⟩
theorem TabInv.store {e e1 : TypeId} {w wr : World} {g n : Nat} {vl : Value} {ls : List Int} {cells : List Value} (h : TabInv e e1 w wr g n vl ls cells) (hg : w.heap.size ≤ g) (j : Nat) (u : Value) :
    TabInv e e1 w (wr.setCell ⟨g, j, none⟩ u) g n vl ls (cells.set j u) := by
  obtain ⟨o1, o2⟩ := h.own.stored j u
  refine ⟨o1, World.ownsRow.kept h.lets o2 ?_, h.ext.setCell (p := ⟨g, j, none⟩) hg _⟩
  cases hb : vl.ownBlock with
  | none => exact .inl rfl
  | some k => have := (World.ownsRow.lt h.lets k hb).1; exact .inr (fun he => by cases he; omega)
theorem TabInv.cell {e e1 : TypeId} {w wr : World} {g n : Nat} {vl : Value} {ls : List Int} {cells : List Value} (h : TabInv e e1 w wr g n vl ls cells) {j : Nat} (hj : j < n * 6) : ∃ u, cells[j]? = some u ∧ wr.cell? ⟨g, j, none⟩ = some u := by
  have hl := h.own.1
  obtain ⟨u, hu⟩ : ∃ u, cells[j]? = some u := ⟨_, List.getElem?_eq_getElem (by omega)⟩
  exact ⟨u, hu, own_cell h.own hu⟩
theorem TabInv.len {e e1 : TypeId} {w wr : World} {g n : Nat} {vl : Value} {ls : List Int} {cells : List Value} (h : TabInv e e1 w wr g n vl ls cells) : cells.length = n * 6 := h.own.1

def rowTo (x : Auto) (k m l : Nat) : Int := if bit x.alphabet l = true ∧ place x.alphabet l < m then (step x k l : Nat) else k
def RowsTo (cells : List Value) (k : Nat) (f : Nat → Nat → Int) : Prop := ∀ q l, q < k → l < 6 → cells[q * 6 + l]? = some (.int .i64 (f q l))
def RowTo (cells : List Value) (k m : Nat) (f : Nat → Int) : Prop := ∀ l, l < m → cells[k * 6 + l]? = some (.int .i64 (f l))
theorem RowsTo.set {cells : List Value} {k j : Nat} {f : Nat → Nat → Int} {u : Value} (h : RowsTo cells k f) : RowsTo (cells.set (k * 6 + j) u) k f := fun q l hq hl => by
  rw [List.getElem?_set_ne (by omega)]; exact h q l hq hl
theorem RowTo.push {cells : List Value} {k m : Nat} {y : Int} (h : RowTo cells k m (fun _ => y)) (hl : k * 6 + m < cells.length) : RowTo (cells.set (k * 6 + m) (.int .i64 y)) k (m + 1) (fun _ => y) := fun l hl' => by
  by_cases he : l = m
  · subst he; rw [List.getElem?_set_self hl]
  · rw [List.getElem?_set_ne (by omega)]; exact h l (by omega)
theorem RowTo.put {cells : List Value} {k j : Nat} {f g : Nat → Int} {y : Int} (h : RowTo cells k 6 f) (hl : k * 6 + j < cells.length) (hj : j < 6) (hy : g j = y) (hg : ∀ l, l < 6 → l ≠ j → g l = f l) : RowTo (cells.set (k * 6 + j) (.int .i64 y)) k 6 g := fun l hl' => by
  by_cases he : l = j
  · subst he; rw [List.getElem?_set_self hl, hy]
  · rw [List.getElem?_set_ne (by omega), hg l hl' he]; exact h l hl'
theorem RowsTo.push {cells : List Value} {k : Nat} {f : Nat → Nat → Int} (h : RowsTo cells k f) (h2 : RowTo cells k 6 (f k)) : RowsTo cells (k + 1) f := fun q l hq hl => by
  by_cases he : q = k
  · subst he; exact h2 l hl
  · exact h q l (by omega) hl
theorem RowTo.eq {cells : List Value} {k m : Nat} {f g : Nat → Int} (h : RowTo cells k m f) (hg : ∀ l, l < m → f l = g l) : RowTo cells k m g := fun l hl => by rw [← hg l hl]; exact h l hl

theorem rowTo_zero (x : Auto) (k l : Nat) : rowTo x k 0 l = k := by simp [rowTo]
theorem rowTo_full {x : Auto} (h : AutoFit x) (k l : Nat) (hl : l < 6) : rowTo x k (letters x.alphabet).length l = tabRow x k l := by
  have ha := h.a0
  have ha2 := h.a63
  unfold rowTo tabRow
  by_cases hb : bit x.alphabet l = true
  · rw [if_pos ⟨hb, place_lt _ _ ha ha2 hb⟩]
  · rw [if_neg (fun h => hb h.1)]; simp [step, hb]
theorem rowTo_succ {x : Auto} (h : AutoFit x) {k m j : Nat} (hm : (letters x.alphabet)[m]? = some (j : Int)) :
    rowTo x k (m + 1) j = (step x k j : Nat) ∧ ∀ l, l < 6 → l ≠ j → rowTo x k (m + 1) l = rowTo x k m l := by
  have ha := h.a0
  have ha2 := h.a63
  obtain ⟨hb, h0, h6, hm6⟩ := letters_mem _ _ _ ha2 hm
  have hp := ((letters_place _ _ m ha ha2 h0 h6 hm6).1 hm).2
  refine ⟨by unfold rowTo; rw [if_pos ⟨hb, by omega⟩], fun l hl hne => ?_⟩
  unfold rowTo
  by_cases hc : bit x.alphabet l = true ∧ place x.alphabet l < m
  · rw [if_pos hc, if_pos ⟨hc.1, by omega⟩]
  · rw [if_neg hc, if_neg]
    intro hd
    have he : place x.alphabet l = m := by
      rcases Nat.lt_or_ge (place x.alphabet l) m with h | h
      · exact absurd ⟨hd.1, h⟩ hc
      · omega
    have := (letters_place x.alphabet l m ha ha2 (by omega) (by omega) hm6).2 ⟨hd.1, he⟩
    rw [hm] at this
    simp at this
    omega

theorem tableOf_c (v : Value) (x : Auto) (w : World) (hv : AutoV w v x) (hx : autoValid x = true) :
    Calls Tryz.prog 152 #[v] w (Gives (fun v w' => TabV w' v (table x)) w) := by
  obtain ⟨vn, va, rfl, h2, -⟩ := hv
  have HX := Lib.hid hx
  obtain ⟨ha, ha2, hn0, hn, -⟩ := autoValid_facts hx
  clear hx
  obtain ⟨an, cn, rfl, hn1, hn2⟩ := h2.open
  clear h2
  have hls := lettersTo_len x.alphabet 6
  go_enter Tryz.func152, Tryz.ntmps152
  go_wp2_with (at_make; refine make1 rfl rfl Tryz.underlying146 infoTab rfl rfl rfl rfl (by omega) (by decide) (Nat.le_refl _) ?_; intro w1 hown hext hlt; have c0 : w1.cell? ⟨w.heap.size, 0, none⟩ = some (.int .i64 x.alphabet) := hext.new 0 rfl; have c1 : w1.cell? ⟨w.heap.size, 1, none⟩ = some (.slice an x.next.length cn) := hext.new 1 rfl)
  refine (lettersOf_o _ _ ha ha2).mono ?_
  rintro e w2 ⟨vl, rfl, he2, hl⟩
  obtain ⟨al, cl, rfl⟩ := hl.shape
  simp only [World.size_alloc] at hown hlt
  have I0 : TabInv 176 3 w w2 (w.heap.size + 1) x.next.length (.slice al (letters x.alphabet).length cl) (letters x.alphabet) _ := ⟨own_base (own_ext hown he2) (by omega), hl.low (by omega), hext.peel.trans he2⟩
  have d1 := he2.cell c1
  clear c0 c1 hown hlt hl
  have hls : (letters x.alphabet).length ≤ 6 := hls
  go_wp2_with fail
  go_loopw [20] (fun i wr => ∃ (k : Nat) (cells : List Value), k ≤ x.next.length ∧ i = .int .i64 k ∧ TabInv 176 3 w wr (w.heap.size + 1) x.next.length (.slice al (letters x.alphabet).length cl) (letters x.alphabet) cells ∧ RowsTo cells k (tabRow x)) (fun i _ => x.next.length - (intOf i).toNat)
  case atStart => exact ⟨0, _, by omega, rfl, I0, fun q l hq => by omega⟩
  case round =>
    obtain ⟨k, cells, hk, rfl, I, hR⟩ := hrel
    by_cases hlt : k < x.next.length
    · obtain ⟨row, hr, hrl, -⟩ := autoValid_row HX.out hlt
      obtain ⟨b, off, rfl, -, hc⟩ := hn2 k row hr
      obtain ⟨vr, g1, hvr⟩ := hc k row hr
      rw [Nat.mul_one] at g1
      replace g1 := I.ext.cell g1
      obtain ⟨ar, cr, rfl, -, hrr⟩ := hvr.open
      have HR := Lib.hid hr
      have HRR := Lib.hid hrr
      clear hc hn2 hr hvr hrr hrl
      go_wp2_with fail
      go_loopw [25] (fun j wr => ∃ (m : Nat) (cells : List Value), m ≤ 6 ∧ j = .int .i64 m ∧ TabInv 176 3 w wr (w.heap.size + 1) x.next.length (.slice al (letters x.alphabet).length cl) (letters x.alphabet) cells ∧ RowsTo cells k (tabRow x) ∧ RowTo cells k m (fun _ => (k : Int))) (fun j _ => 6 - (intOf j).toNat)
      case atStart => exact ⟨0, _, by omega, rfl, I, hR, fun l hl => by omega⟩
      case round =>
        clear I hR
        obtain ⟨m, cells, hm, rfl, I, hR, hR2⟩ := hrel
        by_cases hm6 : m < 6
        · obtain ⟨u, -, gc⟩ := I.cell (j := k * 6 + m) (by omega)
          have fz := I.own.frozenAt (k * 6 + m)
          have hcl := I.len
          go_wp2_with fail
          exact ⟨⟨m + 1, _, by omega, by go_num, I.store (by omega) _ _, hR.set, hR2.push (by omega)⟩, by simp [intOf]; omega⟩
        · obtain rfl : m = 6 := by omega
          rw [show ((6 : Nat) : Int) = 6 from rfl]
          go_wp2_with fail
          go_loopw [37] (fun j wr => ∃ (m : Nat) (cells : List Value), m ≤ (letters x.alphabet).length ∧ j = .int .i64 m ∧ TabInv 176 3 w wr (w.heap.size + 1) x.next.length (.slice al (letters x.alphabet).length cl) (letters x.alphabet) cells ∧ RowsTo cells k (tabRow x) ∧ RowTo cells k 6 (rowTo x k m)) (fun j _ => (letters x.alphabet).length - (intOf j).toNat)
          case atStart => exact ⟨0, _, by omega, rfl, I, hR, hR2.eq fun l _ => (rowTo_zero x k l).symm⟩
          case round =>
            clear I hR hR2
            obtain ⟨m, cells, hm, rfl, I, hR, hR2⟩ := hrel
            by_cases hml : m < (letters x.alphabet).length
            · obtain ⟨y, hy⟩ : ∃ y, (letters x.alphabet)[m]? = some y := ⟨_, List.getElem?_eq_getElem hml⟩
              obtain ⟨hb, h0, h6, hm6⟩ := letters_mem _ _ _ ha2 hy
              obtain ⟨j, rfl⟩ := Int.eq_ofNat_of_zero_le h0
              have hp := ((letters_place _ _ m ha ha2 h0 h6 hm6).1 hy).2
              obtain ⟨row', z, hr', hz, rfl, -⟩ := step_facts HX.out hlt hb
              rw [HR.out] at hr'
              cases hr'
              rw [hp] at hz
              obtain ⟨b2, off2, rfl, -, hc2⟩ := HRR.out m _ hz
              have g2 := I.ext.cell (hc2 m _ hz)
              rw [Nat.mul_one] at g2
              obtain ⟨al', cl', heq, -, hll⟩ := I.lets.ints.open
              cases heq
              obtain ⟨b3, off3, rfl, -, hc3⟩ := hll m _ hy
              have g3 := hc3 m _ hy
              rw [Nat.mul_one] at g3
              unfold IntAt at g3
              have hcl := I.len
              have HQ := Lib.hid (rowTo_succ (AutoFit.of HX.out) (k := k) hy)
              have hj6 : j < 6 := by omega
              have hj6i : (j : Int) < 6 := by omega
              have hzl := (List.getElem?_eq_some_iff.1 hz).1
              clear hc2 hc3 hll hy hz hb hp HRR h0 h6
              go_wp2_with fail
              have D2 := fun d os => cell_regrown g2 d os
              obtain ⟨Kc, HKc⟩ : ∃ Kc : FuncId → Array Value → World → Value → World → Prop, Hid (Kc = fun _ _ _ _ _ => False) := ⟨_, rfl⟩
              refine wp_region_ext (Kc := Kc) 9 (by kernel_rfl) (by kernel_rfl) ?_
              simp only [List.take_succ_cons, List.take_zero]
              repeat (refine WalkE.pure rfl (fun K hK => ?_); simp only [PureDo]; go_simp; refine hK _ ?_; clear hK K)
              refine WalkE.nil (fun wn hwn hmn => ?_)
              simp only [List.drop_succ_cons, List.drop_zero, List.drop_nil]
              clear hmn HKc D2 g2 g3
              have I2 := I.mono ((Ext.drew _).trans hwn)
              obtain ⟨u, -, gc⟩ := I2.cell (j := k * 6 + j) (by omega)
              have fz := I2.own.frozenAt (k * 6 + j)
              go_wp2_with fail
              exact ⟨⟨m + 1, _, by omega, by go_num, I2.store (by omega) _ _, hR.set, hR2.put (by omega) (by omega) HQ.out.1 HQ.out.2⟩, by simp [intOf]; omega⟩
            · obtain rfl : m = (letters x.alphabet).length := by omega
              go_wp2_with fail
              exact ⟨⟨k + 1, _, by omega, by go_num, I, hR.push (hR2.eq fun l hl => rowTo_full (AutoFit.of HX.out) k l hl)⟩, by simp [intOf]; omega⟩
    · obtain rfl : k = x.next.length := by omega
      go_wp2_with fail
      go_ret
      refine Gives.mk rfl I.ext ?_
      have hI := I.own
      rw [← table_len x] at hI ⊢
      refine SlV_of_own hI fun g cap hv i f hf l hl => ?_
      cases hv
      have hi := (List.getElem?_eq_some_iff.1 hf).1
      rw [table_len] at hi
      rw [table_at x i hi] at hf
      cases hf
      exact own_cell hI (hR i l hi hl)
end Go.Proofs.YtadplnbadfnlfaaGreatDoor

namespace Go.Proofs.YtadplnbadfnlfaaGreatDoor
set_option linter.unusedSimpArgs false
set_option linter.unusedVariables false
open Go.RowKit

set_option maxHeartbeats 800000

end Go.Proofs.YtadplnbadfnlfaaGreatDoor

namespace Go.Proofs.YtadplnbadfnlfaaGreatDoor
set_option linter.unusedSimpArgs false
set_option linter.unusedVariables false
open Go.RowKit

set_option maxHeartbeats 800000

theorem AutoFit.accepts_at {x : Auto} (hx : AutoFit x) {q : Nat} (hq : q < x.next.length) : x.accept[q]? = some (accepts x q) := by
  have h := hx.acc
  unfold accepts
  rw [List.getElem?_eq_getElem (by omega)]; rfl

theorem accepts_at {x : Auto} (hx : autoValid x = true) {q : Nat} (hq : q < x.next.length) : x.accept[q]? = some (accepts x q) := (AutoFit.of hx).accepts_at hq

end Go.Proofs.YtadplnbadfnlfaaGreatDoor

namespace Go.Proofs.YtadplnbadfnlfaaGreatDoor
set_option linter.unusedSimpArgs false
set_option linter.unusedVariables false
open Go.RowKit

set_option maxHeartbeats 800000

theorem infoByte : (Tryz.prog.info? 5).map (fun i => (i.zero, i.size, i.bytes)) = some (some (.int .u8 0), 1, 1) := by kernel_rfl

def byteVal (b : UInt8) : Value := .int .u8 (b.toNat : Int)
def BytesOwn (e : TypeId) (base : Nat) (w : World) (v : Value) (l : List UInt8) : Prop := w.ownsRow base e 1 v l.length (l.map byteVal)
theorem BytesOwn.nil (e : TypeId) (base : Nat) (w : World) : BytesOwn e base w (.slice none 0 0) [] := World.ownsRow_nil _ _ _ _
theorem BytesOwn.own {e : TypeId} {base : Nat} {w : World} {v : Value} {l : List UInt8} (h : BytesOwn e base w v l) : w.ownsRow base e 1 v l.length (l.map byteVal) := h
theorem BytesOwn.push {e : TypeId} {base : Nat} {w : World} {v : Value} {l l' : List UInt8} {x : UInt8} {u : Value} (h : w.ownsRow base e 1 v (l.length + 1) (l.map byteVal ++ [u])) (hu : u = byteVal x) (hl : l' = l ++ [x]) : BytesOwn e base w v l' := by
  subst hl; subst hu; unfold BytesOwn; simpa using h
theorem BytesOwn.shape {e : TypeId} {base : Nat} {w : World} {v : Value} {l : List UInt8} (h : BytesOwn e base w v l) : (v = .slice none 0 0 ∧ l = []) ∨ ∃ g c, v = .slice (some ⟨g, 0, none⟩) l.length c ∧ ∀ j (hj : j < l.length), w.cell? ⟨g, j, none⟩ = some (.int .u8 (l[j].toNat : Int)) := by
  rcases own_shape h with ⟨rfl, h0⟩ | ⟨g, cap, rfl, _⟩
  · exact .inl ⟨rfl, List.length_eq_zero_iff.1 h0⟩
  · exact .inr ⟨g, cap, rfl, fun j hj => own_cell h (by simp [hj, byteVal])⟩
theorem BytesOwn.string {e : TypeId} {base : Nat} {w : World} {v : Value} {l : List UInt8} (h : BytesOwn e base w v l) :
    (convert 22 9 v).run Tryz.prog w = .ok (.string ⟨l.toArray⟩) w := by
  rcases h.shape with ⟨rfl, rfl⟩ | ⟨g, c, rfl, hc⟩
  · rw [run_convert_bytes_string w _ _ 5 none 0 0 Tryz.underlying22 Tryz.underlying5 Tryz.underlying9]; rfl
  · refine run_convert_bytes_back w _ _ 5 ⟨g, 0, none⟩ c l Tryz.underlying22 Tryz.underlying5 Tryz.underlying9 fun j hj => ?_
    rw [Addr.add_lit, Nat.zero_add]
    exact hc j hj

theorem AutomatonValid_b {v : Value} {x : Auto} {w : World} {b : Bool} (hb : autoValid x = b) (hv : AutoV w v x) :
    Calls Tryz.prog 44 #[v] w (Grows (.bool b) w) := hb ▸ AutomatonValid_c v x w hv
end Go.Proofs.YtadplnbadfnlfaaGreatDoor
