/- Merged: WalkV, WalkX, WalkY. -/
import Derived.Test.YtccklliljdembaaWalkR
import Derived.Test.YtccklliljdembaaPlain7
import Derived.Laws.Bits64b
import Derived.Shelf.Spec.TrailingZeros
import Derived.Test.YtccklliljdembaaWalkH
import Derived.Test.YtccklliljdembaaWalkE
import Derived.Test.YtccklliljdembaaWalkK
import Derived.Test.YtccklliljdembaaRead
import Derived.Test.YtccklliljdembaaWalkP
import Derived.Deep.Upon
import Derived.Maps.AppendAt
import Derived.Deep.DeepCutAuto
import Derived.BigRegion
import Derived.RegionTactic
import Derived.ChangeAlike

namespace Go.Proofs.Ytccklliljdembaa
set_option linter.unusedSimpArgs false
set_option linter.unusedVariables false
open Go.RowKit

set_option maxHeartbeats 800000

/-- A list of numbers of the call's own. -/
def ints (l : List Nat) : List Int := List.map (fun (x : Nat) => (x : Int)) l
theorem ints_len (l : List Nat) : (ints l).length = l.length := by simp [ints]
theorem ints_append (a b : List Nat) : ints (a ++ b) = ints a ++ ints b := by simp [ints]
theorem ints_at {l : List Nat} {i x : Nat} (h : l[i]? = some x) : (ints l)[i]? = some (x : Int) := by simp [ints, h]

/-! ### The moves of a system -/
/-- Where the letter l leads from q, by the first edges. -/
def mv (es : List Edge) (q : Nat) (l : Int) : Nat := es.foldl (addTo l (2 ^ q)) 0
theorem mv_all (s : Sys) (q : Nat) (l : Int) : mv s.edges q l = stepM s (2 ^ q) l := rfl
theorem mv_snoc (es : List Edge) (e : Edge) (q : Nat) (l : Int) (hs : 0 ≤ e.src) : mv (es ++ [e]) q l = if e.letter = l ∧ e.src.toNat = q then mv es q l ||| 2 ^ e.dst.toNat else mv es q l := by
  unfold mv
  rw [List.foldl_append]
  show addTo l (2 ^ q) _ e = _
  unfold addTo
  rw [Nat.testBit_two_pow]
  by_cases h : q = e.src.toNat
  · subst h; simp
  · have : ¬ e.src.toNat = q := fun h' => h h'.symm
    simp [h, this]
theorem mv_lt {s : Sys} (h : sysValid s = true) (k q : Nat) (l : Int) : mv (s.edges.take k) q l < 65536 := lt_16 fun r hr => by
  unfold mv at hr
  rcases (foldl_addTo l (2 ^ q) r (s.edges.take k) 0).1 hr with h1 | ⟨e, he, _, _, h2⟩
  · simp at h1
  · have := (edges_in h (List.mem_of_mem_take he)).2.1
    omega

theorem wrap_pow (d : Nat) (h : d < 16) : wrap64 (2 ^ d) = ((2 ^ d : Nat) : Int) := by
  have : d = 0 ∨ d = 1 ∨ d = 2 ∨ d = 3 ∨ d = 4 ∨ d = 5 ∨ d = 6 ∨ d = 7 ∨ d = 8 ∨ d = 9 ∨ d = 10 ∨ d = 11 ∨ d = 12 ∨ d = 13 ∨ d = 14 ∨ d = 15 := by omega
  rcases this with rfl | rfl | rfl | rfl | rfl | rfl | rfl | rfl | rfl | rfl | rfl | rfl | rfl | rfl | rfl | rfl <;> (unfold wrap64; decide)
theorem pow_lt16 {d : Nat} (h : d < 16) : 2 ^ d < 65536 := by
  show 2 ^ d < 2 ^ 16
  exact Nat.pow_lt_pow_right (by decide) h
end Go.Proofs.Ytccklliljdembaa

namespace Go.Proofs.Ytccklliljdembaa
set_option linter.unusedSimpArgs false
set_option linter.unusedVariables false
open Go.RowKit

set_option maxHeartbeats 800000

def SysAt (w : World) (b o : Nat) (s : Sys) : Prop := ∃ ve, w.cell? ⟨b, o, none⟩ = some (.int .i64 s.alphabet) ∧ w.cell? ⟨b, o + 1, none⟩ = some (.int .i64 s.states) ∧ w.cell? ⟨b, o + 2, none⟩ = some ve ∧ EdgesV w ve s.edges
abbrev SyssV := SlV SysAt 3
theorem SysAt.mono {w w' : World} (h : Ext w w') {b o : Nat} {s : Sys} (k : SysAt w b o s) : SysAt w' b o s := let ⟨ve, h1, h2, h3, h4⟩ := k; ⟨ve, h.cell h1, h.cell h2, h.cell h3, h4.mono h⟩
theorem SyssV.mono {w w' : World} (h : Ext w w') {v : Value} {l : List Sys} (k : SyssV w v l) : SyssV w' v l := SlV.mono k (fun _ _ _ _ => SysAt.mono h) h.size
def szSyss (l : List Sys) : Nat := l.length + (l.map szSys).sum

/-! ### Parts -/
def areParts (l : List Sys) : Bool := decide (1 ≤ l.length) && decide (l.length ≤ 3) && l.all sysValid
def orTo (l : List Sys) (k : Nat) : Nat := (l.take k).foldl (fun n s => n ||| s.alphabet.toNat) 0
def partsAlphabet (l : List Sys) : Int := if areParts l then (orTo l l.length : Nat) else -1
theorem orTo_succ {l : List Sys} {k : Nat} {s : Sys} (h : l[k]? = some s) : orTo l (k + 1) = orTo l k ||| s.alphabet.toNat := by
  unfold orTo; rw [List.take_add_one, h, List.foldl_append]; rfl
theorem valid_alpha {s : Sys} (h : sysValid s = true) : 0 ≤ s.alphabet ∧ s.alphabet ≤ 63 ∧ 1 ≤ s.states ∧ s.states ≤ 16 := by
  simp only [sysValid, isAlpha, Bool.and_eq_true, decide_eq_true_eq] at h; omega
theorem orTo_lt {l : List Sys} (h : ∀ s ∈ l, sysValid s = true) (k : Nat) : orTo l k < 64 := by
  unfold orTo
  have : ∀ (m : List Sys) (n : Nat), n < 64 → (∀ s ∈ m, sysValid s = true) → m.foldl (fun n s => n ||| s.alphabet.toNat) n < 64 := by
    intro m
    induction m with
    | nil => intro n hn _; exact hn
    | cons s m ih =>
      intro n hn hm
      refine ih _ (Nat.or_lt_two_pow (n := 6) hn ?_) fun t ht => hm t (by simp [ht])
      have := valid_alpha (hm s (by simp))
      show s.alphabet.toNat < 64
      omega
  exact this _ 0 (by omega) fun s hs => h s (List.mem_of_mem_take hs)

end Go.Proofs.Ytccklliljdembaa

namespace Go.Proofs.Ytccklliljdembaa
set_option linter.unusedSimpArgs false
set_option linter.unusedVariables false
open Go.RowKit

set_option maxHeartbeats 1000000
set_option maxRecDepth 100000

section
variable {P : Program} {ops : Array Oper} {rest : List Oper} {o : Oper} {a : Act} {Q : Exit → Act → World → Prop}
/-- 'append(s, x...)': s is owned; x reads as a list of ints (nil too). -/
theorem appInts {wr : World} {s x : Operand} {t e : TypeId} {base bytes : Nat} {vx v : Value} {l m : List Int} (hgd : o.guard = none)
    (ho : o.op = .call { callee := .builtin .append, args := #[s, x], argTypes := #[t, t] })
    (ht : P.underlying t = some (.slice e)) (hinfo : (P.info? e).map (fun i => (i.zero, i.size, i.bytes)) = some (some (.int .i64 0), 1, bytes))
    (hown : IntsOwn e base wr v l) (hs : a.eval s = v) (hx : a.eval x = vx) (hvx : IntsV wr vx m) (hn : l.length + m.length ≤ 4294967296) (hb : bytes ≤ 1024) (hbase : base ≤ wr.heap.size)
    (h : ∀ v' w', IntsOwn e base w' v' (l ++ m) → wr.grownBy w' v.ownBlock → (v'.ownBlock = v.ownBlock ∨ v'.ownBlock = some wr.heap.size) → wpList P ops Q rest (a.put o.dst v') w') :
    wpList P ops Q (o :: rest) a wr := by
  obtain ⟨ao, c, rfl, hle, -⟩ := hvx.open
  cases ao with
  | some ad =>
    obtain ⟨i, hi, hz, hsize, hby⟩ := info_parts hinfo
    refine wpList_append_own_at _ hgd s x t ho base e i _ 1 bytes ht hi hz hsize hby rfl (by decide) v l.length _ hs hown.own ad m.length c (m.map (Value.int .i64)) hx (by simp) hvx.cells (by intro u hu; obtain ⟨b, _, rfl⟩ := List.mem_map.1 hu; rfl) (by unfold maxLen; omega) ?_ hbase ?_
    · have := Nat.mul_le_mul hn hb; omega
    · intro v' w' h1 h2 _ h4
      exact h v' w' (by unfold IntsOwn; rw [List.length_append, List.map_append]; exact h1) h2 h4
  | none =>
    have hnil := SlV.nil_of_none hvx
    subst hnil
    obtain ⟨i, hi, hz, hsize, hby⟩ := info_parts hinfo
    obtain ⟨ab, cc, rfl⟩ := hown.shape
    have hcap : l.length ≤ cc := by
      rcases own_shape hown with ⟨he, h0⟩ | ⟨g, cap, he, _, _, h1, _⟩
      · simp at he; omega
      · simp at he; omega
    have hr := run_append_nothing (P := P) wr t t o.type e i ht hi ab l.length cc hcap (.slice none 0 c) (Src.ofNil wr ht c)
    have hx' : a.eval x = .slice none 0 c := hx
    refine wpList_plain hgd fun K hK => ?_
    unfold Oper.wp execOp
    simp only [ho, resolve, invoke, builtin, Sem.run_bind, Sem.run_pure, Result.andThen_ok, List.map_toArray, List.map_cons, List.map_nil, hs, hx', hr]
    refine hK _ _ (h _ _ ?_ (World.grownBy.refl _ _) (.inl rfl))
    rw [List.append_nil]; exact hown
end

theorem part_prod_succ {l : List Sys} {k : Nat} {s : Sys} (h : l[k]? = some s) : ((l.take (k + 1)).map fun s => s.states.toNat).prod = ((l.take k).map fun s => s.states.toNat).prod * s.states.toNat := by
  rw [List.take_add_one, h, List.map_append, List.prod_append]; simp
theorem part_prod_le {l : List Sys} (h : ∀ s ∈ l, sysValid s = true) : (l.map fun s => s.states.toNat).prod ≤ 16 ^ l.length := by
  induction l with
  | nil => simp
  | cons s l ih =>
    have h1 := ih fun t ht => h t (by simp [ht])
    have h2 := valid_alpha (h s (by simp))
    simp only [List.map_cons, List.prod_cons, List.length_cons, Nat.pow_succ]
    rw [Nat.mul_comm (16 ^ l.length)]
    exact Nat.mul_le_mul (by omega) h1

theorem sysBits_lt {s : Sys} (h : sysValid s = true) {q : Nat} (hq : q < 16) (l : Int) : ∀ c ∈ sysBits s q l, c < 16 := by
  intro c hc
  unfold sysBits at hc
  by_cases hb : bit s.alphabet l = true
  · rw [if_pos hb] at hc; exact ((bitsOf_mem _ _).1 hc).1
  · rw [if_neg hb] at hc; simp at hc; omega
theorem sysBits_len (s : Sys) (q : Nat) (l : Int) : (sysBits s q l).length ≤ 16 := by
  unfold sysBits
  by_cases hb : bit s.alphabet l = true
  · rw [if_pos hb]; exact bitsOf_len _
  · rw [if_neg hb]; simp
/-- What is new by the first j choices. -/
def moreTo (ch R : List Nat) (ww j : Nat) : List Nat := (ch.take j).flatMap fun q => R.map fun r => q * ww + r
theorem moreTo_succ {ch R : List Nat} {ww j q : Nat} (h : ch[j]? = some q) : moreTo ch R ww (j + 1) = moreTo ch R ww j ++ R.map fun r => q * ww + r := by
  unfold moreTo; rw [List.take_add_one, h, List.flatMap_append]; simp
theorem moreTo_len (ch R : List Nat) (ww j : Nat) : (moreTo ch R ww j).length ≤ ch.length * R.length := by
  unfold moreTo
  rw [List.length_flatMap]
  simp only [List.length_map]
  have : ∀ m : List Nat, (m.map fun _ => R.length).sum = m.length * R.length := by
    intro m; induction m with
    | nil => simp
    | cons a m ih => simp [ih, Nat.add_mul]; omega
  rw [this]
  exact Nat.mul_le_mul_right _ (by rw [List.length_take]; omega)
theorem moreTo_full (ch R : List Nat) (ww : Nat) : moreTo ch R ww ch.length = ch.flatMap fun q => R.map fun r => q * ww + r := by unfold moreTo; rw [List.take_length]
theorem take_rev_succ {l : List Sys} {j : Nat} {x : Sys} (h : l[j]? = some x) : (l.take (j + 1)).reverse = x :: (l.take j).reverse := by
  rw [List.take_add_one, h, List.reverse_append]; rfl

/-- The end of a call that appends to a list of its caller's. -/
def Appends (base : Nat) (vo : Value) (l : List Int) (w : World) (e : Ending) (w' : World) : Prop := ∃ v, e = .returned v ∧ IntsOwn 3 base w' v l ∧ Tnd (SlB vo) w w' ∧ (∀ g, v.ownBlock = some g → vo.ownBlock = some g ∨ w.heap.size ≤ g)

end Go.Proofs.Ytccklliljdembaa

namespace Go.Proofs.Ytccklliljdembaa
set_option linter.unusedSimpArgs false
set_option linter.unusedVariables false
open Go.RowKit

set_option maxHeartbeats 1000000
set_option maxRecDepth 100000

/-- The first k and the last k have changed places. -/
structure RevTo (xs ys : List Value) (k : Nat) : Prop where
  len : ys.length = xs.length
  out : ∀ i, i < xs.length → (i < k ∨ xs.length ≤ i + k) → ys[i]? = xs[xs.length - 1 - i]?
  mid : ∀ i, k ≤ i → i + k < xs.length → ys[i]? = xs[i]?
theorem RevTo.zero (xs : List Value) : RevTo xs xs 0 := ⟨rfl, fun i h h' => by omega, fun i _ _ => rfl⟩
theorem RevTo.full {xs ys : List Value} {k : Nat} (h : RevTo xs ys k) (hk : xs.length ≤ 2 * k + 1) : ys = xs.reverse := by
  apply List.ext_getElem?
  intro i
  by_cases hi : i < xs.length
  · rw [List.getElem?_reverse hi]
    by_cases h1 : i < k ∨ xs.length ≤ i + k
    · exact h.out i hi h1
    · rw [h.mid i (by omega) (by omega)]
      congr 1; omega
  · rw [List.getElem?_eq_none (by rw [h.len]; omega), List.getElem?_eq_none (by simp; omega)]
theorem RevTo.swap {xs ys : List Value} {k : Nat} {a b : Value} (h : RevTo xs ys k) (hk : 2 * k + 1 < xs.length) (ha : ys[k]? = some a) (hb : ys[xs.length - 1 - k]? = some b) :
    RevTo xs ((ys.set k b).set (xs.length - 1 - k) a) (k + 1) := by
  have hl := h.len
  have h1 := h.mid k (Nat.le_refl _) (by omega)
  have h2 := h.mid (xs.length - 1 - k) (by omega) (by omega)
  refine ⟨by simp [hl], fun i hi hc => ?_, fun i h3 h4 => ?_⟩
  · by_cases e1 : i = xs.length - 1 - k
    · subst e1
      rw [List.getElem?_set_self (by simp; omega), show xs.length - 1 - (xs.length - 1 - k) = k by omega, ← h1, ha]
    · rw [List.getElem?_set_ne (fun e => e1 e.symm)]
      by_cases e2 : i = k
      · subst e2
        rw [List.getElem?_set_self (by omega), ← h2, hb]
      · rw [List.getElem?_set_ne (fun e => e2 e.symm)]
        exact h.out i hi (by omega)
  · rw [List.getElem?_set_ne (by omega), List.getElem?_set_ne (by omega)]
    exact h.mid i (by omega) (by omega)

/-! ### The steps of a search -/
def lb (l : Int) : UInt8 := UInt8.ofNat (97 + l.toNat)
def wtext (u : List Int) : ByteArray := ⟨(u.map lb).toArray⟩
theorem lb_val (l : Nat) (h : l < 6) : byteVal (lb (l : Int)) = .int .u8 ((97 + l : Nat) : Int) := by
  have : l = 0 ∨ l = 1 ∨ l = 2 ∨ l = 3 ∨ l = 4 ∨ l = 5 := by omega
  rcases this with rfl | rfl | rfl | rfl | rfl | rfl <;> rfl
/-- A step: the one before (negative: none), the letter, the nodes that are new. -/
abbrev Rec := Int × Int × List Nat
structure Recs (recs : List Rec) (st : List (List Int × List Nat)) : Prop where
  len : recs.length = st.length
  nodes : ∀ (j : Nat) r x, recs[j]? = some r → st[j]? = some x → r.2.2 = x.2
  word : ∀ (j : Nat) r x, recs[j]? = some r → st[j]? = some x → (r.1 < 0 ∧ x.1 = []) ∨ ∃ (p l : Nat) (y : List Int × List Nat), r.1 = (p : Int) ∧ r.2.1 = (l : Int) ∧ l < 6 ∧ p < j ∧ st[p]? = some y ∧ x.1 = y.1 ++ [(l : Int)]
theorem Recs.nil : Recs [] [] := ⟨rfl, fun j r x h => by simp at h, fun j r x h => by simp at h⟩
theorem Recs.push {recs : List Rec} {st : List (List Int × List Nat)} (h : Recs recs st) {r : Rec} {x : List Int × List Nat} (hn : r.2.2 = x.2)
    (hw : (r.1 < 0 ∧ x.1 = []) ∨ ∃ (p l : Nat) (y : List Int × List Nat), r.1 = (p : Int) ∧ r.2.1 = (l : Int) ∧ l < 6 ∧ st[p]? = some y ∧ x.1 = y.1 ++ [(l : Int)]) : Recs (recs ++ [r]) (st ++ [x]) := by
  have hl := h.len
  have key : ∀ (j : Nat) r' x', (recs ++ [r])[j]? = some r' → (st ++ [x])[j]? = some x' → (j < st.length ∧ recs[j]? = some r' ∧ st[j]? = some x') ∨ (j = st.length ∧ r' = r ∧ x' = x) := by
    intro j r' x' h1 h2
    by_cases hj : j < st.length
    · rw [List.getElem?_append_left (by omega)] at h1
      rw [List.getElem?_append_left hj] at h2
      exact .inl ⟨hj, h1, h2⟩
    · have : j = st.length := by have := (List.getElem?_eq_some_iff.1 h2).1; simp at this; omega
      subst this
      rw [← hl, List.getElem?_concat_length] at h1
      rw [List.getElem?_concat_length] at h2
      cases h1; cases h2
      exact .inr ⟨rfl, rfl, rfl⟩
  refine ⟨by simp [hl], fun j r' x' h1 h2 => ?_, fun j r' x' h1 h2 => ?_⟩
  · rcases key j r' x' h1 h2 with ⟨_, h3, h4⟩ | ⟨_, rfl, rfl⟩
    · exact h.nodes j r' x' h3 h4
    · exact hn
  · rcases key j r' x' h1 h2 with ⟨hj, h3, h4⟩ | ⟨hj, rfl, rfl⟩
    · refine (h.word j r' x' h3 h4).imp id ?_
      rintro ⟨p, l, y, a, b, c, d, e, f⟩
      exact ⟨p, l, y, a, b, c, d, by rw [List.getElem?_append_left (by omega)]; exact e, f⟩
    · refine hw.imp id ?_
      rintro ⟨p, l, y, a, b, c, e, f⟩
      have := (List.getElem?_eq_some_iff.1 e).1
      exact ⟨p, l, y, a, b, c, by omega, by rw [List.getElem?_append_left this]; exact e, f⟩
end Go.Proofs.Ytccklliljdembaa

namespace Go.Proofs.Ytccklliljdembaa
set_option linter.unusedSimpArgs false
set_option linter.unusedVariables false
open Go.RowKit

set_option maxHeartbeats 1000000
set_option maxRecDepth 100000

/-! ### What is new among some nodes -/
def freshSt (s : List Bool × List Nat) (n : Nat) : List Bool × List Nat := if s.1[n]? = some false then (s.1.set n true, s.2 ++ [n]) else s
def freshTo (sb : List Bool) (R : List Nat) : List Bool × List Nat := R.foldl freshSt (sb, [])
theorem freshTo_snoc (sb : List Bool) (R : List Nat) (n : Nat) : freshTo sb (R ++ [n]) = freshSt (freshTo sb R) n := by unfold freshTo; rw [List.foldl_append]; rfl
theorem freshTo_len (sb : List Bool) (R : List Nat) : (freshTo sb R).1.length = sb.length := by
  unfold freshTo
  have : ∀ (R : List Nat) (s : List Bool × List Nat), (R.foldl freshSt s).1.length = s.1.length := by
    intro R
    induction R with
    | nil => intro s; rfl
    | cons n R ih =>
      intro s
      rw [List.foldl_cons, ih]
      unfold freshSt; split <;> simp
  exact this R _
def unseen (sb : List Bool) : Nat := (sb.filter fun b => !b).length
theorem unseen_set {sb : List Bool} {n : Nat} (h : sb[n]? = some false) : unseen (sb.set n true) + 1 = unseen sb := by
  induction sb generalizing n with
  | nil => simp at h
  | cons b sb ih =>
    cases n with
    | zero =>
      have hb : b = false := by simpa using h
      subst hb
      rfl
    | succ n =>
      have := ih (n := n) (by simpa using h)
      cases b
      · show (((false :: sb.set n true).filter fun b => !b)).length + 1 = ((false :: sb).filter fun b => !b).length
        rw [List.filter_cons_of_pos rfl, List.filter_cons_of_pos rfl, List.length_cons, List.length_cons]
        exact congrArg (· + 1) this
      · show (((true :: sb.set n true).filter fun b => !b)).length + 1 = ((true :: sb).filter fun b => !b).length
        rw [List.filter_cons_of_neg (by simp), List.filter_cons_of_neg (by simp)]
        exact this
theorem unseen_le (sb : List Bool) : unseen sb ≤ sb.length := List.length_filter_le _ _
theorem freshTo_count (sb : List Bool) (R : List Nat) : unseen (freshTo sb R).1 + (freshTo sb R).2.length = unseen sb := by
  have : ∀ (R : List Nat) (s : List Bool × List Nat), unseen (R.foldl freshSt s).1 + (R.foldl freshSt s).2.length = unseen s.1 + s.2.length := by
    intro R
    induction R with
    | nil => intro s; rfl
    | cons n R ih =>
      intro s
      rw [List.foldl_cons, ih]
      unfold freshSt
      split
      · rename_i h
        have := unseen_set h
        simp; omega
      · rfl
  have := this R (sb, [])
  unfold freshTo
  simpa using this
theorem freshTo_mem (sb : List Bool) (R : List Nat) (hR : ∀ n ∈ R, n < sb.length) : (∀ n, n < sb.length → ((freshTo sb R).1[n]? = some true ↔ (sb[n]? = some true ∨ n ∈ R))) ∧ (∀ n, n ∈ (freshTo sb R).2 ↔ (n ∈ R ∧ sb[n]? = some false)) := by
  have bool : ∀ (l : List Bool) (n : Nat), n < l.length → (l[n]? = some false ↔ ¬ l[n]? = some true) := by
    intro l n h
    rw [List.getElem?_eq_getElem h]
    cases l[n] <;> simp
  induction h : R.length generalizing R with
  | zero =>
    obtain rfl := List.eq_nil_of_length_eq_zero h
    exact ⟨fun n _ => by simp [freshTo], fun n => by simp [freshTo]⟩
  | succ k ih =>
    obtain ⟨R', x, rfl⟩ : ∃ R' x, R = R' ++ [x] := ⟨R.dropLast, R.getLast (by intro e; simp [e] at h), (List.dropLast_concat_getLast _).symm⟩
    obtain ⟨h1, h2⟩ := ih R' (fun n hn => hR n (by simp [hn])) (by simpa using h)
    have hx : x < sb.length := hR x (by simp)
    have hl := freshTo_len sb R'
    rw [freshTo_snoc]
    unfold freshSt
    by_cases hc : (freshTo sb R').1[x]? = some false
    · rw [if_pos hc]
      have hn : ¬ (freshTo sb R').1[x]? = some true := (bool _ _ (by omega)).1 hc
      rw [h1 x hx] at hn
      refine ⟨fun n hnl => ?_, fun n => ?_⟩
      · by_cases e : x = n
        · subst e
          rw [List.getElem?_set_self (by omega)]; simp
        · rw [List.getElem?_set_ne e, h1 n hnl]
          simp only [List.mem_append, List.mem_singleton]
          constructor
          · rintro (h3 | h3)
            · exact .inl h3
            · exact .inr (.inl h3)
          · rintro (h3 | h3 | h3)
            · exact .inl h3
            · exact .inr h3
            · exact absurd h3.symm e
      · simp only [List.mem_append, List.mem_singleton, h2]
        constructor
        · rintro (⟨h3, h4⟩ | rfl)
          · exact ⟨.inl h3, h4⟩
          · exact ⟨.inr rfl, (bool _ _ hx).2 fun h5 => hn (.inl h5)⟩
        · rintro ⟨h3 | rfl, h4⟩
          · exact .inl ⟨h3, h4⟩
          · exact .inr rfl
    · rw [if_neg hc]
      have hn : (freshTo sb R').1[x]? = some true := by
        refine Classical.byContradiction fun h3 => hc ((bool _ _ (by omega)).2 h3)
      have hn' := (h1 x hx).1 hn
      refine ⟨fun n hnl => ?_, fun n => ?_⟩
      · rw [h1 n hnl]
        simp only [List.mem_append, List.mem_singleton]
        constructor
        · rintro (h3 | h3)
          · exact .inl h3
          · exact .inr (.inl h3)
        · rintro (h3 | h3 | rfl)
          · exact .inl h3
          · exact .inr h3
          · exact hn'
      · simp only [List.mem_append, List.mem_singleton, h2]
        constructor
        · rintro ⟨h3, h4⟩; exact ⟨.inl h3, h4⟩
        · rintro ⟨h3 | rfl, h4⟩
          · exact ⟨h3, h4⟩
          · rcases hn' with h5 | h5
            · rw [h5] at h4; cases h4
            · exact ⟨h5, h4⟩

/-! ### Where a search keeps what it has -/
/-- The goal that a search is given: it answers by G for nodes below n, in whatever world comes. -/
structure GoalIs (w0 : World) (n : Nat) (gf : Value) (G : Nat → Bool) : Prop where
  fn : ∃ f caps, gf = .func (.func f) #[] caps ∧ (∀ args w, (callFunc f args).run Try.prog w = .ok (.enter f args) w) ∧ ∀ w' k, Ext w0 w' → k < n → Calls Try.prog f (#[.int .i64 (k : Nat)] ++ caps) w' (Grows (.bool (G k)) w')

theorem Blk.low {w w' : World} {b lo : Nat} {cs : Array Value} {t : TypeId} (h : Blk w b cs t) (hb : Below lo w w') (hlt : b < lo) : Blk w' b cs t := (hb.block b hlt).trans h
theorem Tnd.low {S : Nat → Prop} {w w1 w2 : World} (h : Tnd S w w1) (hb : Below w.heap.size w1 w2) : Tnd S w w2 :=
  ⟨hb.os.trans h.os, hb.tape.trans h.tape, hb.output.trans h.output, Nat.le_trans h.size hb.size, fun b hlt hn => (hb.block b hlt).trans (h.block b hlt hn)⟩
theorem own_blk_ne {w : World} {base g b : Nat} {e T : TypeId} {size n m c : Nat} {xs : List Value} {cs : Array Value} (h : w.ownsRow base e size (.slice (some ⟨g, 0, none⟩) m c) n xs) (hB : Blk w b cs T) (hne : T ≠ e) : b ≠ g := by
  intro hbg
  subst hbg
  rcases h.2 with ⟨h1, _⟩ | ⟨g1, cap, cur, h1, hb, hw, r⟩
  · cases h1
  · simp only [Value.slice.injEq, Option.some.injEq, Addr.mk.injEq] at h1
    obtain ⟨⟨rfl, -, -⟩, -, -⟩ := h1
    rw [show w.heap[b]? = _ from hB] at hw
    cases hw
    exact hne rfl

end Go.Proofs.Ytccklliljdembaa
