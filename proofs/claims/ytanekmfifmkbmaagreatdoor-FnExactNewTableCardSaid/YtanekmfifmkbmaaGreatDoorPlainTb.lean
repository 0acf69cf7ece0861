/- Part of this seat's proofs, cut to what its law needs. -/

import Derived.Test.YtanekmfifmkbmaaGreatDoorPlain9
namespace Go.Proofs.YtanekmfifmkbmaaGreatDoor
open Go Go.RowKit
set_option linter.unusedSimpArgs false
set_option linter.unusedVariables false
set_option maxHeartbeats 1000000

structure Table where
  rows : List ByteArray
  cols : List ByteArray

instance ba_dec : DecidableEq ByteArray := fun a b => if h : a.data = b.data then isTrue (ByteArray.ext h) else isFalse fun e => h (by rw [e])
instance ba_lawful : LawfulBEq ByteArray where
  eq_of_beq {a b} h := by
    cases a with | mk x => cases b with | mk y =>
      have h' : (x == y) = true := h
      rw [eq_of_beq h']
  rfl {a} := by
    cases a with | mk x =>
      show (x == x) = true
      simp
theorem chars_append (a b : ByteArray) : chars (a ++ b) = chars a ++ chars b := by
  unfold chars
  rw [ByteArray.data_append]
  simp
theorem wordIn_append {a b : ByteArray} {n : Int} (ha : wordIn a n = true) (hb : wordIn b n = true) (hs : a.size + b.size ≤ 50000) : wordIn (a ++ b) n = true := by
  simp only [wordIn, Bool.and_eq_true, decide_eq_true_eq, List.all_eq_true, ByteArray.size_append, chars_append] at ha hb ⊢
  refine ⟨⟨ha.1.1, hs⟩, fun x hx => ?_⟩
  rcases List.mem_append.1 hx with hx | hx
  · exact ha.2 x hx
  · exact hb.2 x hx
theorem wordIn_empty {n : Int} (hn : isAlpha n = true) : wordIn ByteArray.empty n = true := by
  simp only [wordIn, hn, Bool.true_and, Bool.and_eq_true, decide_eq_true_eq, List.all_eq_true]
  exact ⟨by decide, fun x hx => by cases hx⟩

def mark (b : Bool) : UInt8 := if b then 43 else 45
def marksL (f : ByteArray → Bool) (cols : List ByteArray) (w : ByteArray) : List UInt8 := cols.map fun c => mark (f (w ++ c))
def rowB (f : ByteArray → Bool) (cols : List ByteArray) (w : ByteArray) : ByteArray := ⟨(marksL f cols w).toArray⟩
theorem rowB_size (f : ByteArray → Bool) (cols : List ByteArray) (w : ByteArray) : (rowB f cols w).size = cols.length := by
  simp [rowB, marksL, ByteArray.size]

def RowsOk (al : Int) (rows : List ByteArray) : Prop := ∀ i r, 1 ≤ i → rows[i]? = some r → r.size ≠ 0 ∧ wordIn r al = true ∧ r.extract 0 (r.size - 1) ∈ rows.take i
def ColsOk (al : Int) (cols : List ByteArray) : Prop := ∀ i c, 1 ≤ i → cols[i]? = some c → c.size ≤ 4000 ∧ wordIn c al = true ∧ c ∉ cols.take i
structure Shape (al : Int) (t : Table) : Prop where
  alpha : 0 ≤ al
  r1 : 1 ≤ t.rows.length
  r12 : t.rows.length ≤ 12
  c1 : 1 ≤ t.cols.length
  c20 : t.cols.length ≤ 20
  r0 : t.rows[0]? = some ByteArray.empty
  c0 : t.cols[0]? = some ByteArray.empty
  rows : RowsOk al t.rows
  cols : ColsOk al t.cols
def ValidT (f : ByteArray → Bool) (al : Int) (t : Table) : Prop := Shape al t ∧ (t.rows.map (rowB f t.cols)).Nodup
open Classical in
noncomputable def shapeB (al : Int) (t : Table) : Bool := decide (Shape al t)
open Classical in
noncomputable def validT (f : ByteArray → Bool) (al : Int) (t : Table) : Bool := decide (ValidT f al t)
theorem shapeB_iff {al : Int} {t : Table} : shapeB al t = true ↔ Shape al t := @decide_eq_true_iff _ (_)
theorem validT_iff {f : ByteArray → Bool} {al : Int} {t : Table} : validT f al t = true ↔ ValidT f al t := @decide_eq_true_iff _ (_)
theorem shapeB_not {al : Int} {t : Table} (h : ¬ Shape al t) : shapeB al t = false := Bool.eq_false_iff.2 fun e => h (shapeB_iff.1 e)
theorem validT_shape {f : ByteArray → Bool} {al : Int} {t : Table} (h : shapeB al t = false) : validT f al t = false := Bool.eq_false_iff.2 fun e => by
  rw [shapeB_iff.2 (validT_iff.1 e).1] at h; cases h

theorem Shape.size {al : Int} {t : Table} (h : Shape al t) : ∀ (n i : Nat) (r : ByteArray), i < n → t.rows[i]? = some r → r.size ≤ i := by
  intro n
  induction n with
  | zero => intro i r hi; omega
  | succ n ih =>
    intro i r hi hr
    by_cases h0 : i = 0
    · subst h0
      rw [h.r0] at hr; cases hr
      exact Nat.le_refl _
    · obtain ⟨h1, -, h3⟩ := h.rows i r (by omega) hr
      obtain ⟨j, hj⟩ := List.getElem?_of_mem h3
      have hji : j < i := by
        have := (List.getElem?_eq_some_iff.1 hj).1
        rw [List.length_take] at this; omega
      have hj' : t.rows[j]? = some (r.extract 0 (r.size - 1)) := by rw [← hj, List.getElem?_take_of_lt hji]
      have := ih j _ (by omega) hj'
      rw [ByteArray.size_extract] at this
      omega
theorem Shape.row_size {al : Int} {t : Table} (h : Shape al t) {r : ByteArray} (hr : r ∈ t.rows) : r.size ≤ 11 := by
  obtain ⟨i, hi⟩ := List.getElem?_of_mem hr
  have h1 := h.size (i + 1) i r (by omega) hi
  have h2 := (List.getElem?_eq_some_iff.1 hi).1
  have := h.r12
  omega
theorem Shape.row_in {al : Int} {t : Table} (h : Shape al t) (ha : isAlpha al = true) {r : ByteArray} (hr : r ∈ t.rows) : wordIn r al = true := by
  obtain ⟨i, hi⟩ := List.getElem?_of_mem hr
  by_cases h0 : i = 0
  · subst h0
    rw [h.r0] at hi; cases hi
    exact wordIn_empty ha
  · exact (h.rows i r (by omega) hi).2.1
theorem Shape.col {al : Int} {t : Table} (h : Shape al t) (ha : isAlpha al = true) {c : ByteArray} (hc : c ∈ t.cols) : c.size ≤ 4000 ∧ wordIn c al = true := by
  obtain ⟨i, hi⟩ := List.getElem?_of_mem hc
  by_cases h0 : i = 0
  · subst h0
    rw [h.c0] at hi; cases hi
    exact ⟨by decide, wordIn_empty ha⟩
  · exact ⟨(h.cols i c (by omega) hi).1, (h.cols i c (by omega) hi).2.1⟩

structure Asks (al : Int) (cols : List ByteArray) : Prop where
  alpha : isAlpha al = true
  len : cols.length ≤ 20
  col : ∀ c ∈ cols, c.size ≤ 4000 ∧ wordIn c al = true
theorem Shape.asks {al : Int} {t : Table} (h : Shape al t) (ha : isAlpha al = true) : Asks al t.cols := ⟨ha, h.c20, fun _ hc => h.col ha hc⟩
theorem Asks.word {al : Int} {cols : List ByteArray} (h : Asks al cols) {w c : ByteArray} (hw : wordIn w al = true) (hs : w.size ≤ 4000) (hc : c ∈ cols) : wordIn (w ++ c) al = true :=
  wordIn_append hw (h.col c hc).2 (by have := (h.col c hc).1; omega)

def behind (al : Int) (rows : List ByteArray) : List ByteArray := rows.flatMap fun r => (letters al).map fun l => r ++ wtext [l]
def isOpen (f : ByteArray → Bool) (t : Table) (w : ByteArray) : Bool := !(decide (rowB f t.cols w ∈ t.rows.map (rowB f t.cols)))
def openW (f : ByteArray → Bool) (al : Int) (t : Table) : Option ByteArray := (behind al t.rows).find? (isOpen f t)
def behindTo (al : Int) (rows : List ByteArray) (i k : Nat) : List ByteArray := behind al (rows.take i) ++ (match rows[i]? with | some r => ((letters al).take k).map fun l => r ++ wtext [l] | none => [])
theorem behindTo_zero (al : Int) (rows : List ByteArray) : behindTo al rows 0 0 = [] := by
  unfold behindTo behind
  cases rows[0]? <;> simp
theorem behindTo_succ {al : Int} {rows : List ByteArray} {i k : Nat} {r : ByteArray} {l : Int} (hr : rows[i]? = some r) (hl : (letters al)[k]? = some l) : behindTo al rows i (k + 1) = behindTo al rows i k ++ [r ++ wtext [l]] := by
  unfold behindTo
  rw [hr]
  simp only [List.append_assoc]
  rw [List.take_add_one, hl, Option.toList_some, List.map_append]
  rfl
theorem behindTo_next {al : Int} {rows : List ByteArray} {i : Nat} {r : ByteArray} (hr : rows[i]? = some r) : behindTo al rows (i + 1) 0 = behindTo al rows i (letters al).length := by
  unfold behindTo behind
  rw [hr]
  simp only [List.take_length, List.take_zero, List.map_nil]
  rw [List.take_add_one, hr, Option.toList_some, List.flatMap_append]
  cases rows[i + 1]? <;> simp
theorem behindTo_full (al : Int) (rows : List ByteArray) : behindTo al rows rows.length 0 = behind al rows := by
  unfold behindTo
  rw [List.take_length, List.getElem?_eq_none (Nat.le_refl _)]
  simp
theorem behindTo_pre {al : Int} {rows : List ByteArray} {i k : Nat} {r : ByteArray} {l : Int} (hr : rows[i]? = some r) (hl : (letters al)[k]? = some l) : ∃ tl, behind al rows = behindTo al rows i k ++ (r ++ wtext [l]) :: tl := by
  have h1 : rows = rows.take i ++ r :: rows.drop (i + 1) := by
    obtain ⟨h, e⟩ := List.getElem?_eq_some_iff.1 hr
    rw [← e, List.getElem_cons_drop, List.take_append_drop]
  have h2 : letters al = (letters al).take k ++ l :: (letters al).drop (k + 1) := by
    obtain ⟨h, e⟩ := List.getElem?_eq_some_iff.1 hl
    rw [← e, List.getElem_cons_drop, List.take_append_drop]
  refine ⟨((letters al).drop (k + 1)).map (fun l => r ++ wtext [l]) ++ behind al (rows.drop (i + 1)), ?_⟩
  have h3 : behind al rows = behind al (rows.take i) ++ ((letters al).map (fun l => r ++ wtext [l]) ++ behind al (rows.drop (i + 1))) := by
    conv => lhs; rw [h1]
    unfold behind
    simp only [List.flatMap_append, List.flatMap_cons]
  unfold behindTo
  rw [hr, h3]
  conv => lhs; rw [h2]
  simp
theorem openW_found {f : ByteArray → Bool} {al : Int} {t : Table} {i k : Nat} {r : ByteArray} {l : Int} (hr : t.rows[i]? = some r) (hl : (letters al)[k]? = some l) (hno : ∀ w ∈ behindTo al t.rows i k, isOpen f t w = false) (hy : isOpen f t (r ++ wtext [l]) = true) : openW f al t = some (r ++ wtext [l]) := by
  obtain ⟨tl, h⟩ := behindTo_pre hr hl
  unfold openW
  rw [h, List.find?_append, List.find?_eq_none.2 fun w hw => by rw [hno w hw]; simp, Option.none_or, List.find?_cons, hy]
theorem openW_none {f : ByteArray → Bool} {al : Int} {t : Table} (hno : ∀ w ∈ behindTo al t.rows t.rows.length 0, isOpen f t w = false) : openW f al t = none := by
  unfold openW
  rw [behindTo_full] at hno
  exact List.find?_eq_none.2 fun w hw => by rw [hno w hw]; simp
theorem openW_mem {f : ByteArray → Bool} {al : Int} {t : Table} {w : ByteArray} (h : openW f al t = some w) : ∃ r ∈ t.rows, ∃ l ∈ letters al, w = r ++ wtext [l] := by
  have := List.mem_of_find?_eq_some h
  unfold behind at this
  obtain ⟨r, hr, h1⟩ := List.mem_flatMap.1 this
  obtain ⟨l, hl, rfl⟩ := List.mem_map.1 h1
  exact ⟨r, hr, l, hl, rfl⟩
theorem behind_in {al : Int} (ha : isAlpha al = true) {r : ByteArray} {l : Int} (hr : wordIn r al = true) (hs : r.size ≤ 4000) (hl : l ∈ letters al) : wordIn (r ++ wtext [l]) al = true ∧ (r ++ wtext [l]).size = r.size + 1 := by
  have h0 : 0 ≤ al ∧ al ≤ 63 := by simpa [isAlpha] using ha
  refine ⟨wordIn_append hr (wordIn_wtext h0.1 h0.2 (fun x hx => by simp only [List.mem_singleton] at hx; subst hx; exact (letters_iff _ h0.2).1 hl) (by simp)) (by rw [size_wtext]; simp only [List.length_singleton]; omega), by rw [ByteArray.size_append, size_wtext]; rfl⟩

def closeT (f : ByteArray → Bool) (al : Int) : Nat → Table → Option Table
  | 0, _ => none
  | n + 1, t => match openW f al t with
    | none => some t
    | some w => if t.rows.length = 12 then none else closeT f al n ⟨t.rows ++ [w], t.cols⟩
def closedT (f : ByteArray → Bool) (al : Int) (t : Table) : Option Table := closeT f al (13 - t.rows.length) t
theorem closedT_none {f : ByteArray → Bool} {al : Int} {t : Table} (h12 : t.rows.length ≤ 12) (h : openW f al t = none) : closedT f al t = some t := by
  unfold closedT
  obtain ⟨n, hn⟩ : ∃ n, 13 - t.rows.length = n + 1 := ⟨12 - t.rows.length, by omega⟩
  rw [hn]; unfold closeT; rw [h]
theorem closedT_full {f : ByteArray → Bool} {al : Int} {t : Table} {w : ByteArray} (h12 : t.rows.length = 12) (h : openW f al t = some w) : closedT f al t = none := by
  unfold closedT
  rw [h12]
  show closeT f al (0 + 1) t = none
  unfold closeT; rw [h]; simp [h12]
theorem closedT_push {f : ByteArray → Bool} {al : Int} {t : Table} {w : ByteArray} (h12 : t.rows.length < 12) (h : openW f al t = some w) : closedT f al t = closedT f al ⟨t.rows ++ [w], t.cols⟩ := by
  unfold closedT
  obtain ⟨n, hn⟩ : ∃ n, 13 - t.rows.length = n + 1 := ⟨12 - t.rows.length, by omega⟩
  have h1 : 13 - (t.rows ++ [w]).length = n := by simp; omega
  show closeT f al _ t = closeT f al (13 - (t.rows ++ [w]).length) _
  rw [h1, hn]
  conv => lhs; unfold closeT
  rw [h]
  simp only []
  rw [if_neg (by omega)]

structure Grown (al : Int) (t : Table) : Prop where
  asks : Asks al t.cols
  len : t.rows.length ≤ 12
  row : ∀ r ∈ t.rows, r.size ≤ t.rows.length + 10 ∧ wordIn r al = true
theorem Shape.grown {al : Int} {t : Table} (h : Shape al t) (ha : isAlpha al = true) : Grown al t := ⟨h.asks ha, h.r12, fun r hr => ⟨by have := h.row_size hr; have := h.r1; omega, h.row_in ha hr⟩⟩
theorem Grown.push {f : ByteArray → Bool} {al : Int} {t : Table} {w : ByteArray} (h : Grown al t) (h12 : t.rows.length < 12) (hw : openW f al t = some w) : Grown al ⟨t.rows ++ [w], t.cols⟩ := by
  obtain ⟨r, hr, l, hl, rfl⟩ := openW_mem hw
  have h1 := h.row r hr
  obtain ⟨h2, h3⟩ := behind_in h.asks.alpha h1.2 (by omega) hl
  refine ⟨h.asks, by simp; omega, fun x hx => ?_⟩
  have e : (t.rows ++ [r ++ wtext [l]]).length = t.rows.length + 1 := by simp
  show x.size ≤ (t.rows ++ [r ++ wtext [l]]).length + 10 ∧ _
  rw [e]
  rcases List.mem_append.1 hx with hx | hx
  · exact ⟨by have := (h.row x hx).1; omega, (h.row x hx).2⟩
  · simp only [List.mem_singleton] at hx
    subst hx
    exact ⟨by omega, h2⟩
theorem Grown.behind {al : Int} {t : Table} (h : Grown al t) {r : ByteArray} (hr : r ∈ t.rows) {l : Int} (hl : l ∈ letters al) : wordIn (r ++ wtext [l]) al = true ∧ (r ++ wtext [l]).size ≤ 23 := by
  have h1 := h.row r hr
  have h2 := h.len
  obtain ⟨h3, h4⟩ := behind_in h.asks.alpha h1.2 (by omega) hl
  exact ⟨h3, by omega⟩

def startT : Table := ⟨[ByteArray.empty], [ByteArray.empty]⟩
theorem startT_shape {al : Int} (ha : 0 ≤ al) : Shape al startT where
  alpha := ha
  r1 := by decide
  r12 := by decide
  c1 := by decide
  c20 := by decide
  r0 := rfl
  c0 := rfl
  rows := fun i r h1 h2 => by
    have := (List.getElem?_eq_some_iff.1 h2).1
    simp [startT] at this
    omega
  cols := fun i r h1 h2 => by
    have := (List.getElem?_eq_some_iff.1 h2).1
    simp [startT] at this
    omega
theorem startT_valid {f : ByteArray → Bool} {al : Int} (ha : 0 ≤ al) : validT f al startT = true := validT_iff.2 ⟨startT_shape ha, by simp [startT]⟩
end Go.Proofs.YtanekmfifmkbmaaGreatDoor
