/- Merged: WalkFP, WalkFB. -/
import Derived.Test.YtccklliljdembaaWalkY
import Derived.Test.YtccklliljdembaaWalkK
import Derived.Test.YtccklliljdembaaRegion
import Derived.BigRegion

namespace Go.Proofs.Ytccklliljdembaa
set_option linter.unusedSimpArgs false
set_option linter.unusedVariables false
open Go.RowKit

set_option maxHeartbeats 1600000
set_option maxRecDepth 100000

def rtext (r : Option (List Int)) : ByteArray := match r with | none => ⟨#[]⟩ | some u => wtext u
/-- The end of a search. -/
def FoundEnd (W : List Int → Prop) (w : World) (e : Ending) (w' : World) : Prop := ∃ r, FirstIs W r ∧ e = .returned (.tuple #[.string (rtext r), .bool r.isSome]) ∧ Ext w w'

/-- The function by which a search goes on: it appends what a letter leads to. -/
structure NextIs (w0 : World) (n NB : Nat) (L : List Int) (nf : Value) (N : Nat → Int → List Nat) : Prop where
  fn : ∃ f caps, nf = .func (.func f) #[] caps ∧ (∀ args w, (callFunc f args).run Try.prog w = .ok (.enter f args) w) ∧
    ∀ w' (k : Nat) l vo out b, Ext w0 w' → k < n → l ∈ L → IntsOwn 3 b w' vo out → w0.heap.size ≤ b → b ≤ w'.heap.size → out.length + NB ≤ 4294967296 → Calls Try.prog f (#[.int .i64 k, .int .i64 l, vo] ++ caps) w' (Appends b vo (out ++ ints (N k l)) w')
  len : ∀ k l, k < n → l ∈ L → (N k l).length ≤ NB
  lt : ∀ k l, k < n → l ∈ L → ∀ m ∈ N k l, m < n

/-- What a search knows. -/
structure Knows (n : Nat) (N : Nat → Int → List Nat) (L : List Int) (S : List Nat) (G : Nat → Bool) (st : List (List Int × List Nat)) (recs : List Rec) (sb : List Bool) (i k : Nat) : Prop where
  broad : Broad N L S G st i k
  recs : Recs recs st
  size : sb.length = n
  seen : ∀ m, m < n → (sb[m]? = some true ↔ ∃ x ∈ st, m ∈ x.2)
  lt : ∀ x ∈ st, ∀ m ∈ x.2, m < n
  count : st.length + unseen sb ≤ n
  len : ∀ x ∈ st, x.2.length ≤ n

def reachTo (N : Nat → Int → List Nat) (l : Int) (ns : List Nat) (m : Nat) : List Nat := (ns.take m).flatMap fun q => N q l
theorem reachTo_succ {N : Nat → Int → List Nat} {l : Int} {ns : List Nat} {m q : Nat} (h : ns[m]? = some q) : reachTo N l ns (m + 1) = reachTo N l ns m ++ N q l := by
  unfold reachTo; rw [List.take_add_one, h, List.flatMap_append]; simp
theorem reachTo_len {N : Nat → Int → List Nat} {l : Int} {ns : List Nat} {m NB : Nat} (h : ∀ q ∈ ns, (N q l).length ≤ NB) : (reachTo N l ns m).length ≤ ns.length * NB := by
  unfold reachTo
  have : ∀ xs : List Nat, (∀ q ∈ xs, (N q l).length ≤ NB) → (xs.flatMap fun q => N q l).length ≤ xs.length * NB := by
    intro xs
    induction xs with
    | nil => intro _; simp
    | cons x xs ih =>
      intro hx
      have h1 := ih fun q hq => hx q (by simp [hq])
      have h2 := hx x (by simp)
      simp only [List.flatMap_cons, List.length_append, List.length_cons, Nat.add_mul]; omega
  exact Nat.le_trans (this _ fun q hq => h q (List.mem_of_mem_take hq)) (Nat.mul_le_mul_right _ (by rw [List.length_take]; omega))

section
variable {n NB : Nat} {N : Nat → Int → List Nat} {L : List Int} {S : List Nat} {G : Nat → Bool} {st : List (List Int × List Nat)} {recs : List Rec} {sb : List Bool} {i k : Nat}
theorem Knows.fresh (h : Knows n N L S G st recs sb i k) {x : List Int × List Nat} {l : Int} (hx : st[i]? = some x) (hN : ∀ q ∈ x.2, ∀ m ∈ N q l, m < n) : Fresh N st x l (freshTo sb (reachTo N l x.2 x.2.length)).2 := by
  intro r
  have hmem : r ∈ reachTo N l x.2 x.2.length ↔ ∃ q ∈ x.2, r ∈ N q l := by unfold reachTo; rw [List.take_length, List.mem_flatMap]
  have hlt : ∀ m ∈ reachTo N l x.2 x.2.length, m < sb.length := by
    intro m hm
    unfold reachTo at hm; rw [List.take_length, List.mem_flatMap] at hm
    obtain ⟨q, hq, hm⟩ := hm
    rw [h.size]; exact hN q hq m hm
  rw [(freshTo_mem sb _ hlt).2 r, hmem]
  constructor
  · rintro ⟨h1, h2⟩
    refine ⟨h1, fun h3 => ?_⟩
    obtain ⟨q, hq, hr⟩ := h1
    rw [(h.seen r (hN q hq r hr)).2 h3] at h2; cases h2
  · rintro ⟨h1, h2⟩
    refine ⟨h1, ?_⟩
    obtain ⟨q, hq, hr⟩ := h1
    have hrn := hN q hq r hr
    have h3 : ¬ sb[r]? = some true := fun h4 => h2 ((h.seen r hrn).1 h4)
    have hl := h.size
    rw [List.getElem?_eq_getElem (by omega)] at h3 ⊢
    cases hb : sb[r] with
    | true => rw [hb] at h3; exact absurd rfl h3
    | false => rfl
theorem Knows.step (h : Knows n N L S G st recs sb i k) (hA : Asc L) (hL : ∀ l ∈ L, 0 ≤ l ∧ l < 6) {x : List Int × List Nat} {l : Int} (hx : st[i]? = some x) (hl : L[k]? = some l) (hN : ∀ q ∈ x.2, ∀ m ∈ N q l, m < n) (hno : (freshTo sb (reachTo N l x.2 x.2.length)).2.any G = false) :
    ∃ st', Knows n N L S G st' (if (freshTo sb (reachTo N l x.2 x.2.length)).2 = [] then recs else recs ++ [((i : Int), l, (freshTo sb (reachTo N l x.2 x.2.length)).2)]) (freshTo sb (reachTo N l x.2 x.2.length)).1 i (k + 1) ∧ (∀ (j : Nat) y, st[j]? = some y → st'[j]? = some y) := by
  have hf := h.fresh hx hN
  have hlt : ∀ m ∈ reachTo N l x.2 x.2.length, m < sb.length := by
    intro m hm
    unfold reachTo at hm; rw [List.take_length, List.mem_flatMap] at hm
    obtain ⟨q, hq, hm⟩ := hm
    rw [h.size]; exact hN q hq m hm
  obtain ⟨m1, m2⟩ := freshTo_mem sb _ hlt
  have hcnt := freshTo_count sb (reachTo N l x.2 x.2.length)
  have hfl := freshTo_len sb (reachTo N l x.2 x.2.length)
  generalize freshTo sb (reachTo N l x.2 x.2.length) = F at hf hno m1 m2 hcnt hfl ⊢
  obtain ⟨F1, F2⟩ := F
  simp only at hf hno m1 m2 hcnt hfl ⊢
  have hsz := h.size
  have hfn : ∀ m ∈ F2, m < n := fun m hm => by have := hlt m ((m2 m).1 hm).1; omega
  have hR : ∀ m, m < n → (m ∈ reachTo N l x.2 x.2.length → ∃ y ∈ st, m ∈ y.2) ∨ m ∈ F2 := by
    intro m hm
    by_cases h1 : m ∈ F2
    · exact .inr h1
    · refine .inl fun h2 => ?_
      have h3 : ¬ sb[m]? = some false := fun h3 => h1 ((m2 m).2 ⟨h2, h3⟩)
      refine (h.seen m hm).1 ?_
      rw [List.getElem?_eq_getElem (by omega)] at h3 ⊢
      cases hb : sb[m] with
      | true => rfl
      | false => rw [hb] at h3; exact absurd rfl h3
  by_cases he : F2 = []
  · subst he
    refine ⟨st, ⟨h.broad.skip hx hl hf, by simpa using h.recs, by omega, fun m hm => ?_, h.lt, by simp at hcnt; have := h.count; omega, h.len⟩, fun j y hy => hy⟩
    rw [m1 m (by omega), h.seen m hm]
    constructor
    · rintro (h1 | h1)
      · exact h1
      · rcases hR m hm with h2 | h2
        · exact h2 h1
        · cases h2
    · exact .inl
  · have hpos : 0 < F2.length := List.length_pos_iff.2 he
    have hall : ∀ m ∈ F2, G m = false := by
      intro m hm
      rw [List.any_eq_false] at hno
      simpa using hno m hm
    obtain ⟨hl0, hl6⟩ := hL l (List.mem_of_getElem? hl)
    refine ⟨st ++ [(x.1 ++ [l], F2)], ⟨h.broad.push hA hx hl hf hall, ?_, by omega, fun m hm => ?_, fun y hy m hm => ?_, by simp; have := h.count; omega, fun y hy => ?_⟩, fun j y hy => by rw [List.getElem?_append_left (List.getElem?_eq_some_iff.1 hy).1]; exact hy⟩
    · rw [if_neg he]
      exact h.recs.push rfl (.inr ⟨i, l.toNat, x, rfl, by simp only []; omega, by omega, hx, by simp only []; rw [Int.toNat_of_nonneg hl0]⟩)
    · rw [m1 m (by omega), h.seen m hm]
      simp only [List.mem_append, List.mem_singleton]
      constructor
      · rintro (⟨y, hy, h1⟩ | h1)
        · exact ⟨y, .inl hy, h1⟩
        · rcases hR m hm with h2 | h2
          · obtain ⟨y, hy, h3⟩ := h2 h1; exact ⟨y, .inl hy, h3⟩
          · exact ⟨_, .inr rfl, h2⟩
      · rintro ⟨y, hy | rfl, h1⟩
        · exact .inl ⟨y, hy, h1⟩
        · exact .inr ((m2 m).1 h1).1
    · rcases List.mem_append.1 hy with hy | hy
      · exact h.lt y hy m hm
      · simp at hy; subst hy; exact hfn m hm
    · rcases List.mem_append.1 hy with hy | hy
      · exact h.len y hy
      · simp at hy; subst hy
        have := unseen_le sb
        simp only []; omega
theorem Knows.next (h : Knows n N L S G st recs sb i L.length) : Knows n N L S G st recs sb (i + 1) 0 := ⟨h.broad.next, h.recs, h.size, h.seen, h.lt, h.count, h.len⟩
theorem Knows.start (hS : S ≠ []) (hlt : ∀ s ∈ S, s < n) (hno : (freshTo (List.replicate n false) S).2.any G = false) :
    (freshTo (List.replicate n false) S).2 ≠ [] ∧ Knows n N L S G [([], (freshTo (List.replicate n false) S).2)] [((-1 : Int), 0, (freshTo (List.replicate n false) S).2)] (freshTo (List.replicate n false) S).1 0 0 := by
  obtain ⟨m1, m2⟩ := freshTo_mem (List.replicate n false) S (by simpa using hlt)
  have hcnt := freshTo_count (List.replicate n false) S
  have hfl := freshTo_len (List.replicate n false) S
  have hun := unseen_le (List.replicate n false)
  generalize freshTo (List.replicate n false) S = F at hno m1 m2 hcnt hfl ⊢
  obtain ⟨F1, F2⟩ := F
  simp only [List.length_replicate] at hno m1 m2 hcnt hfl hun ⊢
  have hmem : ∀ m, m ∈ F2 ↔ m ∈ S := fun m => by
    rw [m2 m]
    constructor
    · exact fun h => h.1
    · intro h
      refine ⟨h, ?_⟩
      rw [List.getElem?_replicate, if_pos (hlt m h)]
  have hne : F2 ≠ [] := by
    obtain ⟨s, hs⟩ := List.exists_mem_of_ne_nil _ hS
    intro h
    have := (hmem s).2 hs
    rw [h] at this; cases this
  have hpos : 0 < F2.length := List.length_pos_iff.2 hne
  refine ⟨hne, ⟨Broad.zero hmem fun m hm => ?_, ?_, hfl, fun m hm => ?_, fun x hx m hm => ?_, by simp; omega, fun x hx => ?_⟩⟩
  · rw [List.any_eq_false] at hno; simpa using hno m hm
  · exact Recs.nil.push (r := ((-1 : Int), 0, F2)) (x := ([], F2)) rfl (.inl ⟨by simp, rfl⟩)
  · rw [m1 m hm, List.getElem?_replicate, if_pos hm]
    simp [hmem]
  · simp at hx; subst hx; exact hlt m ((hmem m).1 hm)
  · simp at hx; subst hx; simp only []; omega
end

end Go.Proofs.Ytccklliljdembaa

namespace Go.Proofs.Ytccklliljdembaa
set_option linter.unusedSimpArgs false
set_option linter.unusedVariables false
open Go.RowKit

set_option maxHeartbeats 1600000
set_option maxRecDepth 100000

theorem appends_ext {base : Nat} {vo : Value} {l : List Int} {w w1 : World} {e : Ending} {w' : World} (h : Appends base vo l w1 e w') (he : Ext w w1) : Appends base vo l w e w' := by
  obtain ⟨v, h1, h2, h3, h4⟩ := h
  exact ⟨v, h1, h2, (Tnd.ext he).trans h3, fun g hg => (h4 g hg).imp id fun h5 => Nat.le_trans he.size h5⟩

/-- The automaton, of which the table is that of a valid one, or of the trivial one. -/
structure TabOk (a : Auto) : Prop where
  n1 : 1 ≤ a.next.length
  n12 : a.next.length ≤ 12
  lt : ∀ q l, q < a.next.length → step a q l < a.next.length
theorem TabOk.valid {a : Auto} (h : autoValid a = true) : TabOk a := ⟨(autoValid_facts h).2.2.1, (autoValid_facts h).2.2.2.1, fun q l hq => step_lt h hq l⟩
theorem TabOk.triv : TabOk trivAuto := ⟨by decide, by decide, fun q l hq => by rw [triv_step]; exact hq⟩

/-- The first j nodes of those that came have been turned. -/
def turned (P : List Nat) (K M rest j : Nat) : List Nat := (P.take j).map (fun x => x * K * M + rest) ++ P.drop j
theorem turned_zero (P : List Nat) (K M rest : Nat) : turned P K M rest 0 = P := by simp [turned]
theorem turned_full (P : List Nat) (K M rest : Nat) : turned P K M rest P.length = P.map fun x => x * K * M + rest := by simp [turned]
theorem turned_len (P : List Nat) (K M rest j : Nat) (h : j ≤ P.length) : (turned P K M rest j).length = P.length := by simp [turned]; omega
theorem turned_at {P : List Nat} {K M rest j x : Nat} (h : P[j]? = some x) : (turned P K M rest j)[j]? = some x := by
  have hj := (List.getElem?_eq_some_iff.1 h).1
  unfold turned
  rw [List.getElem?_append_right (by simp; omega), List.getElem?_drop]
  simp only [List.length_map, List.length_take, Nat.min_eq_left (Nat.le_of_lt hj), Nat.sub_self, Nat.add_zero]
  exact h
theorem turned_set {P : List Nat} {K M rest j x : Nat} (h : P[j]? = some x) : (turned P K M rest j).set j (x * K * M + rest) = turned P K M rest (j + 1) := by
  have hj := (List.getElem?_eq_some_iff.1 h).1
  have hd : P.drop j = x :: P.drop (j + 1) := by
    rw [List.drop_eq_getElem_cons hj]
    rw [List.getElem?_eq_getElem hj] at h; cases h; rfl
  unfold turned
  rw [List.set_append_right _ _ (by simp; omega), hd, List.take_add_one, h]
  simp [Nat.min_eq_left (Nat.le_of_lt hj)]

def brokenG (a p : Auto) (node : Nat) : Bool := accepts a (node / p.next.length % a.next.length) && !accepts p (node % p.next.length)
def AccOk (a : Auto) : Prop := ∀ q, q < a.next.length → a.accept[q]? = some (accepts a q)
theorem AccOk.valid {a : Auto} (h : autoValid a = true) : AccOk a := fun q hq => accepts_at h hq
theorem AccOk.triv : AccOk trivAuto := fun q hq => by
  have : q = 0 := by simp [trivAuto] at hq; omega
  subst this; rfl
end Go.Proofs.Ytccklliljdembaa

namespace Go.Proofs.Ytccklliljdembaa
set_option linter.unusedSimpArgs false
set_option linter.unusedVariables false
open Go.RowKit

set_option maxHeartbeats 1600000
set_option maxRecDepth 100000

/-- A table in memory of its own. -/
def TabOwn (w : World) (v : Value) (x : Auto) : Prop := ∃ base cells, w.ownsRow base 49 6 v x.next.length cells ∧ RowsTo cells x.next.length (tabRow x)
theorem TabOwn.tab {w : World} {v : Value} {x : Auto} (h : TabOwn w v x) : TabV w v (table x) := by
  obtain ⟨base, cells, hI, hR⟩ := h
  rw [← table_len x] at hI
  refine SlV_of_own hI fun g cap hv i f hf l hl => ?_
  cases hv
  have hi := (List.getElem?_eq_some_iff.1 hf).1
  rw [table_len] at hi
  rw [table_at x i hi] at hf
  cases hf
  exact own_cell hI (hR i l hi hl)
theorem TabOwn.mono {w w' : World} {v : Value} {x : Auto} (h : TabOwn w v x) (he : Ext w w') : TabOwn w' v x := let ⟨b, cs, h1, h2⟩ := h; ⟨b, cs, own_ext h1 he, h2⟩
theorem TabOwn.store {w : World} {v : Value} {x : Auto} (h : TabOwn w v x) {g : Nat} {cs : Array Value} {T : TypeId} (hG : Blk w g cs T) (hne : T ≠ 49) (j : Nat) (u : Value) : TabOwn (w.setCell ⟨g, j, none⟩ u) v x := let ⟨b, ds, h1, h2⟩ := h; ⟨b, ds, own_store h1 hG hne j u, h2⟩

theorem tableOf_f (v : Value) (x : Auto) (w : World) (hv : AutoV w v x) (hx : AutoFit x) (hM : x.next.length ≤ 100000) :
    Calls Try.prog 23 #[v] w (Gives (fun v w' => TabOwn w' v x) w) := by
  obtain ⟨vn, va, rfl, h2, -⟩ := hv
  have HX := Lib.hid hx
  have ha := hx.a0
  have ha2 := hx.a63
  have hn0 := hx.n1
  have hn := hM
  clear hx
  obtain ⟨an, cn, rfl, hn1, hn2⟩ := h2.open
  clear h2
  have hls := lettersTo_len x.alphabet 6
  go_enter Try.func23, Try.ntmps23
  go_wp2_with (at_make; refine make1 rfl rfl Try.underlying46 infoTab rfl rfl rfl rfl (by omega) (by decide) (Nat.le_refl _) ?_; intro w1 hown hext hlt; have c0 : w1.cell? ⟨w.heap.size, 0, none⟩ = some (.int .i64 x.alphabet) := hext.new 0 rfl; have c1 : w1.cell? ⟨w.heap.size, 1, none⟩ = some (.slice an x.next.length cn) := hext.new 1 rfl)
  refine (lettersOf_o _ _ ha ha2).mono ?_
  rintro e w2 ⟨vl, rfl, he2, hl⟩
  obtain ⟨al, cl, rfl⟩ := hl.shape
  simp only [World.size_alloc] at hown hlt
  have I0 : TabInv 49 3 w w2 (w.heap.size + 1) x.next.length (.slice al (letters x.alphabet).length cl) (letters x.alphabet) _ := ⟨own_base (own_ext hown he2) (by omega), hl.low (by omega), hext.peel.trans he2⟩
  have d1 := he2.cell c1
  clear c0 c1 hown hlt hl
  have hls : (letters x.alphabet).length ≤ 6 := hls
  go_wp2_with fail
  go_loopw [20] (fun i wr => ∃ (k : Nat) (cells : List Value), k ≤ x.next.length ∧ i = .int .i64 k ∧ TabInv 49 3 w wr (w.heap.size + 1) x.next.length (.slice al (letters x.alphabet).length cl) (letters x.alphabet) cells ∧ RowsTo cells k (tabRow x)) (fun i _ => x.next.length - (intOf i).toNat)
  case atStart => exact ⟨0, _, by omega, rfl, I0, fun q l hq => by omega⟩
  case round =>
    obtain ⟨k, cells, hk, rfl, I, hR⟩ := hrel
    by_cases hlt : k < x.next.length
    · obtain ⟨row, hr, hrl, -⟩ := HX.out.row hlt
      obtain ⟨b, off, rfl, -, hc⟩ := hn2 k row hr
      obtain ⟨vr, g1, hvr⟩ := hc k row hr
      rw [Nat.mul_one] at g1
      replace g1 := I.ext.cell g1
      obtain ⟨ar, cr, rfl, -, hrr⟩ := hvr.open
      have HR := Lib.hid hr
      have HRR := Lib.hid hrr
      clear hc hn2 hr hvr hrr hrl
      go_wp2_with fail
      go_loopw [25] (fun j wr => ∃ (m : Nat) (cells : List Value), m ≤ 6 ∧ j = .int .i64 m ∧ TabInv 49 3 w wr (w.heap.size + 1) x.next.length (.slice al (letters x.alphabet).length cl) (letters x.alphabet) cells ∧ RowsTo cells k (tabRow x) ∧ RowTo cells k m (fun _ => (k : Int))) (fun j _ => 6 - (intOf j).toNat)
      case atStart => exact ⟨0, _, by omega, rfl, I, hR, fun l hl => by omega⟩
      case round =>
        clear I hR
        obtain ⟨m, cells, hm, rfl, I, hR, hR2⟩ := hrel
        by_cases hm6 : m < 6
        · obtain ⟨u, -, gc⟩ := I.cell (j := k * 6 + m) (by omega)
          have fz := I.own.frozenAt (k * 6 + m)
          have hcl := I.len
          go_wp2_with fail
          exact ⟨⟨m + 1, _, by omega, by go_num, I.store (by omega) _ _, hR.set, hR2.push (by omega)⟩, by simp [intOf]; omega⟩
        · obtain rfl : m = 6 := by omega
          rw [show ((6 : Nat) : Int) = 6 from rfl]
          go_wp2_with fail
          go_loopw [37] (fun j wr => ∃ (m : Nat) (cells : List Value), m ≤ (letters x.alphabet).length ∧ j = .int .i64 m ∧ TabInv 49 3 w wr (w.heap.size + 1) x.next.length (.slice al (letters x.alphabet).length cl) (letters x.alphabet) cells ∧ RowsTo cells k (tabRow x) ∧ RowTo cells k 6 (rowTo x k m)) (fun j _ => (letters x.alphabet).length - (intOf j).toNat)
          case atStart => exact ⟨0, _, by omega, rfl, I, hR, hR2.eq fun l _ => (rowTo_zero x k l).symm⟩
          case round =>
            clear I hR hR2
            obtain ⟨m, cells, hm, rfl, I, hR, hR2⟩ := hrel
            by_cases hml : m < (letters x.alphabet).length
            · obtain ⟨y, hy⟩ : ∃ y, (letters x.alphabet)[m]? = some y := ⟨_, List.getElem?_eq_getElem hml⟩
              obtain ⟨hb, h0, h6, hm6⟩ := letters_mem _ _ _ ha2 hy
              obtain ⟨j, rfl⟩ := Int.eq_ofNat_of_zero_le h0
              have hp := ((letters_place _ _ m ha ha2 h0 h6 hm6).1 hy).2
              obtain ⟨row', z, hr', hz, rfl, -⟩ := HX.out.step_facts hlt hb
              rw [HR.out] at hr'
              cases hr'
              rw [hp] at hz
              obtain ⟨b2, off2, rfl, -, hc2⟩ := HRR.out m _ hz
              have g2 := I.ext.cell (hc2 m _ hz)
              rw [Nat.mul_one] at g2
              obtain ⟨al', cl', heq, -, hll⟩ := I.lets.ints.open
              cases heq
              obtain ⟨b3, off3, rfl, -, hc3⟩ := hll m _ hy
              have g3 := hc3 m _ hy
              rw [Nat.mul_one] at g3
              unfold IntAt at g3
              have hcl := I.len
              have HQ := Lib.hid (rowTo_succ HX.out (k := k) hy)
              have hj6 : j < 6 := by omega
              have hj6i : (j : Int) < 6 := by omega
              have hzl := (List.getElem?_eq_some_iff.1 hz).1
              clear hc2 hc3 hll hy hz hb hp HRR h0 h6
              go_wp2_with fail
              have D2 := fun d os => cell_regrown g2 d os
              obtain ⟨Kc, HKc⟩ : ∃ Kc : FuncId → Array Value → World → Value → World → Prop, Hid (Kc = fun _ _ _ _ _ => False) := ⟨_, rfl⟩
              refine wp_region_ext (Kc := Kc) 9 (by kernel_rfl) (by kernel_rfl) ?_
              simp only [List.take_succ_cons, List.take_zero]
              repeat (refine WalkE.pure rfl (fun K hK => ?_); simp only [PureDo]; go_simp; refine hK _ ?_; clear hK K)
              refine WalkE.nil (fun wn hwn hmn => ?_)
              simp only [List.drop_succ_cons, List.drop_zero, List.drop_nil]
              clear hmn HKc D2 g2 g3
              have I2 := I.mono ((Ext.drew _).trans hwn)
              obtain ⟨u, -, gc⟩ := I2.cell (j := k * 6 + j) (by omega)
              have fz := I2.own.frozenAt (k * 6 + j)
              go_wp2_with fail
              exact ⟨⟨m + 1, _, by omega, by go_num, I2.store (by omega) _ _, hR.set, hR2.put (by omega) (by omega) HQ.out.1 HQ.out.2⟩, by simp [intOf]; omega⟩
            · obtain rfl : m = (letters x.alphabet).length := by omega
              go_wp2_with fail
              exact ⟨⟨k + 1, _, by omega, by go_num, I, hR.push (hR2.eq fun l hl => rowTo_full HX.out k l hl)⟩, by simp [intOf]; omega⟩
    · obtain rfl : k = x.next.length := by omega
      go_wp2_with fail
      go_ret
      refine Gives.mk rfl I.ext ?_
      exact ⟨_, _, I.own, hR⟩
theorem tableOf_o (v : Value) (x : Auto) (w : World) (hv : AutoV w v x) (hx : autoValid x = true) :
    Calls Try.prog 23 #[v] w (Gives (fun v w' => TabOwn w' v x) w) :=
  tableOf_f v x w hv (AutoFit.of hx) (by have := autoValid_facts hx; omega)
end Go.Proofs.Ytccklliljdembaa

namespace Go.Proofs.Ytccklliljdembaa
set_option linter.unusedSimpArgs false
set_option linter.unusedVariables false
open Go.RowKit

set_option maxHeartbeats 1600000
set_option maxRecDepth 100000

theorem partsGo_len (l : Int) (rs : List Sys) (node w : Nat) (R : List Nat) : (partsGo l rs node w R).length ≤ 16 ^ rs.length * R.length := by
  induction rs generalizing node w R with
  | nil => simp [partsGo]
  | cons s rs ih =>
    rw [partsGo]
    refine Nat.le_trans (ih _ _ _) ?_
    have h1 : ((sysBits s (node % s.states.toNat) l).flatMap fun q => R.map fun r => q * w + r).length ≤ 16 * R.length := by
      have h2 := moreTo_len (sysBits s (node % s.states.toNat) l) R w (sysBits s (node % s.states.toNat) l).length
      rw [moreTo_full] at h2
      exact Nat.le_trans h2 (Nat.mul_le_mul_right _ (sysBits_len _ _ _))
    have := Nat.mul_le_mul_left (16 ^ rs.length) h1
    rw [List.length_cons, Nat.pow_succ, Nat.mul_assoc]
    exact this
theorem partsNext_len {parts : List Sys} (h : parts.length ≤ 3) (node : Nat) (l : Int) : (partsNext parts node l).length ≤ 4096 := by
  have := partsGo_len l parts.reverse node 1 [0]
  unfold partsNext
  have h2 : 16 ^ parts.reverse.length ≤ 16 ^ 3 := Nat.pow_le_pow_right (by omega) (by simpa using h)
  simp only [List.length_singleton, Nat.mul_one] at this
  exact Nat.le_trans this h2
theorem partsNext_lt {parts : List Sys} (hv : ∀ s ∈ parts, sysValid s = true) (node : Nat) (l : Int) : ∀ x ∈ partsNext parts node l, x < (partSizes parts).prod := by
  intro x hx
  have h1 := (partsNext_mem parts hv node l x).1 hx
  have hlen : (decode (partSizes parts) node).length = parts.length := by rw [decode_len]; simp [partSizes]
  have h2 := combos_lt (partPairs parts (decode (partSizes parts) node) l) [0] 1 (by simp) (fun p hp c hc => by
    unfold partPairs at hp
    obtain ⟨⟨s, q⟩, hsq, rfl⟩ := List.mem_map.1 hp
    obtain ⟨i, hi, he⟩ := List.getElem_of_mem hsq
    rw [List.getElem_zip] at he
    simp only [Prod.mk.injEq] at he
    obtain ⟨h3, h4⟩ := he
    have hi' : i < parts.length := by simp at hi; omega
    have hs : sysValid s = true := hv s (h3 ▸ List.getElem_mem hi')
    have hal := valid_alpha hs
    refine ch_lt hs ?_ l c hc
    refine decode_lt (partSizes parts) node i s.states.toNat q ?_ (by omega) (by rw [← h4]; exact List.getElem?_eq_getElem (by omega))
    unfold partSizes
    rw [List.getElem?_map, List.getElem?_eq_getElem hi', h3]; rfl) x h1
  have e : ((partPairs parts (decode (partSizes parts) node) l).map (·.1)).prod = (partSizes parts).prod := by
    unfold partPairs partSizes
    rw [List.map_map]
    have : ((fun x : Nat × List Nat => x.1) ∘ fun p : Sys × Nat => (p.1.states.toNat, sysCh p.1 p.2 l)) = (fun s : Sys => s.states.toNat) ∘ Prod.fst := rfl
    rw [this, ← List.map_map, List.map_fst_zip (by rw [decode_len]; simp)]
  rw [e] at h2
  omega
theorem prod_4096 {parts : List Sys} (hp : areParts parts = true) : (partSizes parts).prod ≤ 4096 ∧ 1 ≤ (partSizes parts).prod ∧ parts.length ≤ 3 ∧ ∀ s ∈ parts, sysValid s = true := by
  simp only [areParts, Bool.and_eq_true, decide_eq_true_eq, List.all_eq_true] at hp
  obtain ⟨⟨p1, p2⟩, p3⟩ := hp
  refine ⟨Nat.le_trans (part_prod_le p3) (Nat.pow_le_pow_right (n := 16) (by omega) p2), ?_, p2, p3⟩
  have : ∀ l : List Sys, (∀ s ∈ l, sysValid s = true) → 1 ≤ (partSizes l).prod := by
    intro l
    induction l with
    | nil => intro _; simp [partSizes]
    | cons s l ih =>
      intro h
      have h1 := ih fun t ht => h t (by simp [ht])
      have h2 := valid_alpha (h s (by simp))
      unfold partSizes at h1 ⊢
      simp only [List.map_cons, List.prod_cons]
      exact Nat.mul_pos (by omega) h1
  exact this parts p3
theorem brokenN_len {parts : List Sys} (h : parts.length ≤ 3) (a p : Auto) (node : Nat) (l : Int) : (brokenN parts a p node l).length ≤ 4096 := by
  unfold brokenN; rw [List.length_map]; exact partsNext_len h _ _
theorem brokenN_lt {parts : List Sys} (hv : ∀ s ∈ parts, sysValid s = true) {a p : Auto} (ha : TabOk a) (hp : TabOk p) (node : Nat) (l : Int) : ∀ x ∈ brokenN parts a p node l, x < (partSizes parts).prod * a.next.length * p.next.length := by
  intro x hx
  unfold brokenN at hx
  obtain ⟨y, hy, rfl⟩ := List.mem_map.1 hx
  have h1 := partsNext_lt hv _ _ y hy
  have h2 := ha.lt (node / p.next.length % a.next.length) l (Nat.mod_lt _ ha.n1)
  have h3 := hp.lt (node % p.next.length) l (Nat.mod_lt _ hp.n1)
  generalize step a (node / p.next.length % a.next.length) l = su at h2 ⊢
  generalize step p (node % p.next.length) l = sp at h3 ⊢
  generalize (partSizes parts).prod = pr at h1 ⊢
  have h4 : (y + 1) * a.next.length ≤ pr * a.next.length := Nat.mul_le_mul_right _ h1
  rw [Nat.add_mul, Nat.one_mul] at h4
  have h5 : (y * a.next.length + su + 1) * p.next.length ≤ pr * a.next.length * p.next.length := Nat.mul_le_mul_right _ (by omega)
  rw [Nat.add_mul, Nat.add_mul, Nat.one_mul] at h5
  omega
theorem letters_asc (a : Int) : Asc (letters a) := by
  have : (letters a).Pairwise (· < ·) := by
    unfold letters lettersTo
    refine List.Pairwise.filter _ ?_
    rw [List.pairwise_map]
    refine List.Pairwise.imp ?_ (List.pairwise_lt_range (n := 6))
    intro x y h; simpa using h
  intro i j x y hij hx hy
  rw [List.pairwise_iff_getElem] at this
  obtain ⟨hi, rfl⟩ := List.getElem?_eq_some_iff.1 hx
  obtain ⟨hj, rfl⟩ := List.getElem?_eq_some_iff.1 hy
  exact this i j hi hj hij
theorem letters_lt6 {a : Int} (h : a ≤ 63) : ∀ l ∈ letters a, 0 ≤ l ∧ l < 6 := by
  intro l hl
  obtain ⟨m, hm, rfl⟩ := List.getElem_of_mem hl
  have := letters_mem a _ m h (List.getElem?_eq_getElem hm)
  exact ⟨this.2.1, this.2.2.1⟩

/-- The end of the search for a broken property. -/
def allLetters (parts : List Sys) (a : Auto) : Int := ((orTo parts parts.length ||| a.alphabet.toNat : Nat) : Int)
def BrokenW (parts : List Sys) (a p : Auto) : List Int → Prop := Wins (brokenN parts a p) (letters (allLetters parts a)) [0] (brokenG a p)

theorem IntsOwn.one (e : TypeId) (w : World) (x : Int) : IntsOwn e w.heap.size (w.alloc (.cells #[.int .i64 x] e)) (.slice (some ⟨w.heap.size, 0, none⟩) 1 1) [x] :=
  ⟨by simp, .inr ⟨w.heap.size, 1, #[.int .i64 x], rfl, Nat.le_refl _, heap_alloc_new w _, Nat.le_refl _, by unfold maxLen; omega, by simp, by simp⟩⟩

/-- The automaton behind a pointer; behind none the trivial one. -/
def PtrAuto (w : World) (v : Value) (a : Auto) : Prop := (v = .pointer none ∧ a = trivAuto) ∨ ∃ b, v = .pointer (some ⟨b, 0, none⟩) ∧ ∃ vn va, Blk w b #[.int .i64 a.alphabet, vn, va] 26 ∧ IntssV w vn a.next ∧ BoolsV w va a.accept

end Go.Proofs.Ytccklliljdembaa

namespace Go.Proofs.Ytccklliljdembaa
set_option linter.unusedSimpArgs false
set_option linter.unusedVariables false
open Go.RowKit

set_option maxHeartbeats 1600000
set_option maxRecDepth 100000

/-- The end of a check: some answer of which A holds. -/
def AnsEnd (A : Option (List Int) → Prop) (w : World) (e : Ending) (w' : World) : Prop := ∃ r, A r ∧ e = .returned (.tuple #[.string (rtext r), .bool r.isSome]) ∧ Ext w w'
def PV (parts : List Sys) (p : Auto) (r : Option (List Int)) : Prop := if (areParts parts && autoValid p) = true then FirstIs (BrokenW parts trivAuto p) r else r = none
def VU (s : Sys) (a p : Auto) (r : Option (List Int)) : Prop := if (sysValid s && autoValid a && autoValid p) = true then FirstIs (BrokenW [s] a p) r else r = none
theorem PV.unique {parts : List Sys} {p : Auto} {r r' : Option (List Int)} (h : PV parts p r) (h' : PV parts p r') : r = r' := by
  unfold PV at h h'
  split at h
  · rw [if_pos ‹_›] at h'; exact h.unique h'
  · rw [if_neg ‹_›] at h'; rw [h, h']
theorem VU.unique {s : Sys} {a p : Auto} {r r' : Option (List Int)} (h : VU s a p r) (h' : VU s a p r') : r = r' := by
  unfold VU at h h'
  split at h
  · rw [if_pos ‹_›] at h'; exact h.unique h'
  · rw [if_neg ‹_›] at h'; rw [h, h']
theorem trivAuto_valid : autoValid trivAuto = true := by decide
theorem one_parts {s : Sys} (h : sysValid s = true) : areParts [s] = true := by simp [areParts, h]

/-- A struct in a box. -/
theorem AutoV.boxed {w : World} {v : Value} {x : Auto} (h : AutoV w v x) : ∃ vn va, v = .agg #[.int .i64 x.alphabet, vn, va] ∧ IntssV w vn x.next ∧ BoolsV w va x.accept := h

end Go.Proofs.Ytccklliljdembaa
