/- Part of this seat's proofs, cut to what its law needs. -/

import Derived.Test.YtadplnbadfnlfaaDoorPlain9
namespace Go.Proofs.YtadplnbadfnlfaaDoor
open Go Go.RowKit
set_option linter.unusedSimpArgs false
set_option linter.unusedVariables false
set_option maxHeartbeats 1000000

structure Table where
  rows : List ByteArray
  cols : List ByteArray

instance ba_dec : DecidableEq ByteArray := fun a b => if h : a.data = b.data then isTrue (ByteArray.ext h) else isFalse fun e => h (by rw [e])
instance ba_lawful : LawfulBEq ByteArray where
  eq_of_beq {a b} h := by
    cases a with | mk x => cases b with | mk y =>
      have h' : (x == y) = true := h
      rw [eq_of_beq h']
  rfl {a} := by
    cases a with | mk x =>
      show (x == x) = true
      simp
theorem chars_append (a b : ByteArray) : chars (a ++ b) = chars a ++ chars b := by
  unfold chars
  rw [ByteArray.data_append]
  simp
theorem wordIn_append {a b : ByteArray} {n : Int} (ha : wordIn a n = true) (hb : wordIn b n = true) (hs : a.size + b.size ≤ 50000) : wordIn (a ++ b) n = true := by
  simp only [wordIn, Bool.and_eq_true, decide_eq_true_eq, List.all_eq_true, ByteArray.size_append, chars_append] at ha hb ⊢
  refine ⟨⟨ha.1.1, hs⟩, fun x hx => ?_⟩
  rcases List.mem_append.1 hx with hx | hx
  · exact ha.2 x hx
  · exact hb.2 x hx
theorem wordIn_empty {n : Int} (hn : isAlpha n = true) : wordIn ByteArray.empty n = true := by
  simp only [wordIn, hn, Bool.true_and, Bool.and_eq_true, decide_eq_true_eq, List.all_eq_true]
  exact ⟨by decide, fun x hx => by cases hx⟩

def mark (b : Bool) : UInt8 := if b then 43 else 45
def marksL (f : ByteArray → Bool) (cols : List ByteArray) (w : ByteArray) : List UInt8 := cols.map fun c => mark (f (w ++ c))
def rowB (f : ByteArray → Bool) (cols : List ByteArray) (w : ByteArray) : ByteArray := ⟨(marksL f cols w).toArray⟩
theorem rowB_size (f : ByteArray → Bool) (cols : List ByteArray) (w : ByteArray) : (rowB f cols w).size = cols.length := by
  simp [rowB, marksL, ByteArray.size]

def RowsOk (al : Int) (rows : List ByteArray) : Prop := ∀ i r, 1 ≤ i → rows[i]? = some r → r.size ≠ 0 ∧ wordIn r al = true ∧ r.extract 0 (r.size - 1) ∈ rows.take i
def ColsOk (al : Int) (cols : List ByteArray) : Prop := ∀ i c, 1 ≤ i → cols[i]? = some c → c.size ≤ 4000 ∧ wordIn c al = true ∧ c ∉ cols.take i
structure Shape (al : Int) (t : Table) : Prop where
  alpha : 0 ≤ al
  r1 : 1 ≤ t.rows.length
  r12 : t.rows.length ≤ 12
  c1 : 1 ≤ t.cols.length
  c20 : t.cols.length ≤ 20
  r0 : t.rows[0]? = some ByteArray.empty
  c0 : t.cols[0]? = some ByteArray.empty
  rows : RowsOk al t.rows
  cols : ColsOk al t.cols
def ValidT (f : ByteArray → Bool) (al : Int) (t : Table) : Prop := Shape al t ∧ (t.rows.map (rowB f t.cols)).Nodup
open Classical in
noncomputable def shapeB (al : Int) (t : Table) : Bool := decide (Shape al t)
open Classical in
noncomputable def validT (f : ByteArray → Bool) (al : Int) (t : Table) : Bool := decide (ValidT f al t)
theorem shapeB_iff {al : Int} {t : Table} : shapeB al t = true ↔ Shape al t := @decide_eq_true_iff _ (_)
theorem validT_iff {f : ByteArray → Bool} {al : Int} {t : Table} : validT f al t = true ↔ ValidT f al t := @decide_eq_true_iff _ (_)
theorem shapeB_not {al : Int} {t : Table} (h : ¬ Shape al t) : shapeB al t = false := Bool.eq_false_iff.2 fun e => h (shapeB_iff.1 e)
theorem validT_shape {f : ByteArray → Bool} {al : Int} {t : Table} (h : shapeB al t = false) : validT f al t = false := Bool.eq_false_iff.2 fun e => by
  rw [shapeB_iff.2 (validT_iff.1 e).1] at h; cases h

theorem Shape.size {al : Int} {t : Table} (h : Shape al t) : ∀ (n i : Nat) (r : ByteArray), i < n → t.rows[i]? = some r → r.size ≤ i := by
  intro n
  induction n with
  | zero => intro i r hi; omega
  | succ n ih =>
    intro i r hi hr
    by_cases h0 : i = 0
    · subst h0
      rw [h.r0] at hr; cases hr
      exact Nat.le_refl _
    · obtain ⟨h1, -, h3⟩ := h.rows i r (by omega) hr
      obtain ⟨j, hj⟩ := List.getElem?_of_mem h3
      have hji : j < i := by
        have := (List.getElem?_eq_some_iff.1 hj).1
        rw [List.length_take] at this; omega
      have hj' : t.rows[j]? = some (r.extract 0 (r.size - 1)) := by rw [← hj, List.getElem?_take_of_lt hji]
      have := ih j _ (by omega) hj'
      rw [ByteArray.size_extract] at this
      omega
theorem Shape.row_size {al : Int} {t : Table} (h : Shape al t) {r : ByteArray} (hr : r ∈ t.rows) : r.size ≤ 11 := by
  obtain ⟨i, hi⟩ := List.getElem?_of_mem hr
  have h1 := h.size (i + 1) i r (by omega) hi
  have h2 := (List.getElem?_eq_some_iff.1 hi).1
  have := h.r12
  omega
theorem Shape.row_in {al : Int} {t : Table} (h : Shape al t) (ha : isAlpha al = true) {r : ByteArray} (hr : r ∈ t.rows) : wordIn r al = true := by
  obtain ⟨i, hi⟩ := List.getElem?_of_mem hr
  by_cases h0 : i = 0
  · subst h0
    rw [h.r0] at hi; cases hi
    exact wordIn_empty ha
  · exact (h.rows i r (by omega) hi).2.1
theorem Shape.col {al : Int} {t : Table} (h : Shape al t) (ha : isAlpha al = true) {c : ByteArray} (hc : c ∈ t.cols) : c.size ≤ 4000 ∧ wordIn c al = true := by
  obtain ⟨i, hi⟩ := List.getElem?_of_mem hc
  by_cases h0 : i = 0
  · subst h0
    rw [h.c0] at hi; cases hi
    exact ⟨by decide, wordIn_empty ha⟩
  · exact ⟨(h.cols i c (by omega) hi).1, (h.cols i c (by omega) hi).2.1⟩

structure Asks (al : Int) (cols : List ByteArray) : Prop where
  alpha : isAlpha al = true
  len : cols.length ≤ 20
  col : ∀ c ∈ cols, c.size ≤ 4000 ∧ wordIn c al = true
theorem Shape.asks {al : Int} {t : Table} (h : Shape al t) (ha : isAlpha al = true) : Asks al t.cols := ⟨ha, h.c20, fun _ hc => h.col ha hc⟩
theorem Asks.word {al : Int} {cols : List ByteArray} (h : Asks al cols) {w c : ByteArray} (hw : wordIn w al = true) (hs : w.size ≤ 4000) (hc : c ∈ cols) : wordIn (w ++ c) al = true :=
  wordIn_append hw (h.col c hc).2 (by have := (h.col c hc).1; omega)

end Go.Proofs.YtadplnbadfnlfaaDoor
