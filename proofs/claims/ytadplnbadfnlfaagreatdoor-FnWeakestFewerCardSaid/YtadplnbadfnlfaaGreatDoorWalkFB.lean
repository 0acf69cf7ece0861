/- Part of this seat's proofs, cut to what its law needs. -/

import Derived.Test.YtadplnbadfnlfaaGreatDoorWalkY
import Derived.Test.YtadplnbadfnlfaaGreatDoorWalkK
import Derived.Test.YtadplnbadfnlfaaGreatDoorRegion
import Derived.BigRegion

namespace Go.Proofs.YtadplnbadfnlfaaGreatDoor
set_option linter.unusedSimpArgs false
set_option linter.unusedVariables false
open Go.RowKit

set_option maxHeartbeats 1600000
set_option maxRecDepth 100000

def rtext (r : Option (List Int)) : ByteArray := match r with | none => ⟨#[]⟩ | some u => wtext u
def FoundEnd (W : List Int → Prop) (w : World) (e : Ending) (w' : World) : Prop := ∃ r, FirstIs W r ∧ e = .returned (.tuple #[.string (rtext r), .bool r.isSome]) ∧ Ext w w'

structure NextIs (w0 : World) (n NB : Nat) (L : List Int) (nf : Value) (N : Nat → Int → List Nat) : Prop where
  fn : ∃ f caps, nf = .func (.func f) #[] caps ∧ (∀ args w, (callFunc f args).run Tryz.prog w = .ok (.enter f args) w) ∧
    ∀ w' (k : Nat) l vo out b, Ext w0 w' → k < n → l ∈ L → IntsOwn 3 b w' vo out → w0.heap.size ≤ b → b ≤ w'.heap.size → out.length + NB ≤ 4294967296 → Calls Tryz.prog f (#[.int .i64 k, .int .i64 l, vo] ++ caps) w' (Appends b vo (out ++ ints (N k l)) w')
  len : ∀ k l, k < n → l ∈ L → (N k l).length ≤ NB
  lt : ∀ k l, k < n → l ∈ L → ∀ m ∈ N k l, m < n

structure Knows (n : Nat) (N : Nat → Int → List Nat) (L : List Int) (S : List Nat) (G : Nat → Bool) (st : List (List Int × List Nat)) (recs : List Rec) (sb : List Bool) (i k : Nat) : Prop where
  broad : Broad N L S G st i k
  recs : Recs recs st
  size : sb.length = n
  seen : ∀ m, m < n → (sb[m]? = some true ↔ ∃ x ∈ st, m ∈ x.2)
  lt : ∀ x ∈ st, ∀ m ∈ x.2, m < n
  count : st.length + unseen sb ≤ n
  len : ∀ x ∈ st, x.2.length ≤ n

def reachTo (N : Nat → Int → List Nat) (l : Int) (ns : List Nat) (m : Nat) : List Nat := (ns.take m).flatMap fun q => N q l
theorem reachTo_succ {N : Nat → Int → List Nat} {l : Int} {ns : List Nat} {m q : Nat} (h : ns[m]? = some q) : reachTo N l ns (m + 1) = reachTo N l ns m ++ N q l := by
  unfold reachTo; rw [List.take_add_one, h, List.flatMap_append]; simp
theorem reachTo_len {N : Nat → Int → List Nat} {l : Int} {ns : List Nat} {m NB : Nat} (h : ∀ q ∈ ns, (N q l).length ≤ NB) : (reachTo N l ns m).length ≤ ns.length * NB := by
  unfold reachTo
  have : ∀ xs : List Nat, (∀ q ∈ xs, (N q l).length ≤ NB) → (xs.flatMap fun q => N q l).length ≤ xs.length * NB := by
    intro xs
    induction xs with
    | nil => intro _; simp
    | cons x xs ih =>
      intro hx
      have h1 := ih fun q hq => hx q (by simp [hq])
      have h2 := hx x (by simp)
      simp only [List.flatMap_cons, List.length_append, List.length_cons, Nat.add_mul]; omega
  exact Nat.le_trans (this _ fun q hq => h q (List.mem_of_mem_take hq)) (Nat.mul_le_mul_right _ (by rw [List.length_take]; omega))

section
variable {n NB : Nat} {N : Nat → Int → List Nat} {L : List Int} {S : List Nat} {G : Nat → Bool} {st : List (List Int × List Nat)} {recs : List Rec} {sb : List Bool} {i k : Nat}
theorem Knows.fresh (h : Knows n N L S G st recs sb i k) {x : List Int × List Nat} {l : Int} (hx : st[i]? = some x) (hN : ∀ q ∈ x.2, ∀ m ∈ N q l, m < n) : Fresh N st x l (freshTo sb (reachTo N l x.2 x.2.length)).2 := by
  intro r
  have hmem : r ∈ reachTo N l x.2 x.2.length ↔ ∃ q ∈ x.2, r ∈ N q l := by unfold reachTo; rw [List.take_length, List.mem_flatMap]
  have hlt : ∀ m ∈ reachTo N l x.2 x.2.length, m < sb.length := by
    intro m hm
    unfold reachTo at hm; rw [List.take_length, List.mem_flatMap] at hm
    obtain ⟨q, hq, hm⟩ := hm
    rw [h.size]; exact hN q hq m hm
  rw [(freshTo_mem sb _ hlt).2 r, hmem]
  constructor
  · rintro ⟨h1, h2⟩
    refine ⟨h1, fun h3 => ?_⟩
    obtain ⟨q, hq, hr⟩ := h1
    rw [(h.seen r (hN q hq r hr)).2 h3] at h2; cases h2
  · rintro ⟨h1, h2⟩
    refine ⟨h1, ?_⟩
    obtain ⟨q, hq, hr⟩ := h1
    have hrn := hN q hq r hr
    have h3 : ¬ sb[r]? = some true := fun h4 => h2 ((h.seen r hrn).1 h4)
    have hl := h.size
    rw [List.getElem?_eq_getElem (by omega)] at h3 ⊢
    cases hb : sb[r] with
    | true => rw [hb] at h3; exact absurd rfl h3
    | false => rfl
theorem Knows.step (h : Knows n N L S G st recs sb i k) (hA : Asc L) (hL : ∀ l ∈ L, 0 ≤ l ∧ l < 6) {x : List Int × List Nat} {l : Int} (hx : st[i]? = some x) (hl : L[k]? = some l) (hN : ∀ q ∈ x.2, ∀ m ∈ N q l, m < n) (hno : (freshTo sb (reachTo N l x.2 x.2.length)).2.any G = false) :
    ∃ st', Knows n N L S G st' (if (freshTo sb (reachTo N l x.2 x.2.length)).2 = [] then recs else recs ++ [((i : Int), l, (freshTo sb (reachTo N l x.2 x.2.length)).2)]) (freshTo sb (reachTo N l x.2 x.2.length)).1 i (k + 1) ∧ (∀ (j : Nat) y, st[j]? = some y → st'[j]? = some y) := by
  have hf := h.fresh hx hN
  have hlt : ∀ m ∈ reachTo N l x.2 x.2.length, m < sb.length := by
    intro m hm
    unfold reachTo at hm; rw [List.take_length, List.mem_flatMap] at hm
    obtain ⟨q, hq, hm⟩ := hm
    rw [h.size]; exact hN q hq m hm
  obtain ⟨m1, m2⟩ := freshTo_mem sb _ hlt
  have hcnt := freshTo_count sb (reachTo N l x.2 x.2.length)
  have hfl := freshTo_len sb (reachTo N l x.2 x.2.length)
  generalize freshTo sb (reachTo N l x.2 x.2.length) = F at hf hno m1 m2 hcnt hfl ⊢
  obtain ⟨F1, F2⟩ := F
  simp only at hf hno m1 m2 hcnt hfl ⊢
  have hsz := h.size
  have hfn : ∀ m ∈ F2, m < n := fun m hm => by have := hlt m ((m2 m).1 hm).1; omega
  have hR : ∀ m, m < n → (m ∈ reachTo N l x.2 x.2.length → ∃ y ∈ st, m ∈ y.2) ∨ m ∈ F2 := by
    intro m hm
    by_cases h1 : m ∈ F2
    · exact .inr h1
    · refine .inl fun h2 => ?_
      have h3 : ¬ sb[m]? = some false := fun h3 => h1 ((m2 m).2 ⟨h2, h3⟩)
      refine (h.seen m hm).1 ?_
      rw [List.getElem?_eq_getElem (by omega)] at h3 ⊢
      cases hb : sb[m] with
      | true => rfl
      | false => rw [hb] at h3; exact absurd rfl h3
  by_cases he : F2 = []
  · subst he
    refine ⟨st, ⟨h.broad.skip hx hl hf, by simpa using h.recs, by omega, fun m hm => ?_, h.lt, by simp at hcnt; have := h.count; omega, h.len⟩, fun j y hy => hy⟩
    rw [m1 m (by omega), h.seen m hm]
    constructor
    · rintro (h1 | h1)
      · exact h1
      · rcases hR m hm with h2 | h2
        · exact h2 h1
        · cases h2
    · exact .inl
  · have hpos : 0 < F2.length := List.length_pos_iff.2 he
    have hall : ∀ m ∈ F2, G m = false := by
      intro m hm
      rw [List.any_eq_false] at hno
      simpa using hno m hm
    obtain ⟨hl0, hl6⟩ := hL l (List.mem_of_getElem? hl)
    refine ⟨st ++ [(x.1 ++ [l], F2)], ⟨h.broad.push hA hx hl hf hall, ?_, by omega, fun m hm => ?_, fun y hy m hm => ?_, by simp; have := h.count; omega, fun y hy => ?_⟩, fun j y hy => by rw [List.getElem?_append_left (List.getElem?_eq_some_iff.1 hy).1]; exact hy⟩
    · rw [if_neg he]
      exact h.recs.push rfl (.inr ⟨i, l.toNat, x, rfl, by simp only []; omega, by omega, hx, by simp only []; rw [Int.toNat_of_nonneg hl0]⟩)
    · rw [m1 m (by omega), h.seen m hm]
      simp only [List.mem_append, List.mem_singleton]
      constructor
      · rintro (⟨y, hy, h1⟩ | h1)
        · exact ⟨y, .inl hy, h1⟩
        · rcases hR m hm with h2 | h2
          · obtain ⟨y, hy, h3⟩ := h2 h1; exact ⟨y, .inl hy, h3⟩
          · exact ⟨_, .inr rfl, h2⟩
      · rintro ⟨y, hy | rfl, h1⟩
        · exact .inl ⟨y, hy, h1⟩
        · exact .inr ((m2 m).1 h1).1
    · rcases List.mem_append.1 hy with hy | hy
      · exact h.lt y hy m hm
      · simp at hy; subst hy; exact hfn m hm
    · rcases List.mem_append.1 hy with hy | hy
      · exact h.len y hy
      · simp at hy; subst hy
        have := unseen_le sb
        simp only []; omega
theorem Knows.next (h : Knows n N L S G st recs sb i L.length) : Knows n N L S G st recs sb (i + 1) 0 := ⟨h.broad.next, h.recs, h.size, h.seen, h.lt, h.count, h.len⟩
theorem Knows.start (hS : S ≠ []) (hlt : ∀ s ∈ S, s < n) (hno : (freshTo (List.replicate n false) S).2.any G = false) :
    (freshTo (List.replicate n false) S).2 ≠ [] ∧ Knows n N L S G [([], (freshTo (List.replicate n false) S).2)] [((-1 : Int), 0, (freshTo (List.replicate n false) S).2)] (freshTo (List.replicate n false) S).1 0 0 := by
  obtain ⟨m1, m2⟩ := freshTo_mem (List.replicate n false) S (by simpa using hlt)
  have hcnt := freshTo_count (List.replicate n false) S
  have hfl := freshTo_len (List.replicate n false) S
  have hun := unseen_le (List.replicate n false)
  generalize freshTo (List.replicate n false) S = F at hno m1 m2 hcnt hfl ⊢
  obtain ⟨F1, F2⟩ := F
  simp only [List.length_replicate] at hno m1 m2 hcnt hfl hun ⊢
  have hmem : ∀ m, m ∈ F2 ↔ m ∈ S := fun m => by
    rw [m2 m]
    constructor
    · exact fun h => h.1
    · intro h
      refine ⟨h, ?_⟩
      rw [List.getElem?_replicate, if_pos (hlt m h)]
  have hne : F2 ≠ [] := by
    obtain ⟨s, hs⟩ := List.exists_mem_of_ne_nil _ hS
    intro h
    have := (hmem s).2 hs
    rw [h] at this; cases this
  have hpos : 0 < F2.length := List.length_pos_iff.2 hne
  refine ⟨hne, ⟨Broad.zero hmem fun m hm => ?_, ?_, hfl, fun m hm => ?_, fun x hx m hm => ?_, by simp; omega, fun x hx => ?_⟩⟩
  · rw [List.any_eq_false] at hno; simpa using hno m hm
  · exact Recs.nil.push (r := ((-1 : Int), 0, F2)) (x := ([], F2)) rfl (.inl ⟨by simp, rfl⟩)
  · rw [m1 m hm, List.getElem?_replicate, if_pos hm]
    simp [hmem]
  · simp at hx; subst hx; exact hlt m ((hmem m).1 hm)
  · simp at hx; subst hx; simp only []; omega
end

theorem firstPath_c (n NB : Nat) (vs vl nf gf : Value) (S : List Nat) (L : List Int) (N : Nat → Int → List Nat) (G : Nat → Bool) (w : World) (hS : IntsOwn 3 0 w vs (ints S)) (hS0 : S ≠ []) (hSn : ∀ s ∈ S, s < n) (hl : IntsV w vl L) (hA : Asc L) (hL : ∀ l ∈ L, 0 ≤ l ∧ l < 6)
    (hN : NextIs w n NB L nf N) (hG : GoalIs w n gf G) (hn : n ≤ 1073741824) (hnb : n * NB + NB ≤ 4294967296) :
    Calls Tryz.prog 155 #[.int .i64 n, vs, vl, nf, gf] w (FoundEnd (Wins N L S G) w) := by
  obtain ⟨al, cl, rfl, hll, hl2⟩ := hl.open
  obtain ⟨fn, capn, rfl, hentn, hcalln⟩ := hN.fn
  obtain ⟨fg, capg, rfl, hentg, hcallg⟩ := hG.fn
  clear hcallg
  have HEN := Lib.hid hentn
  have HEG := Lib.hid hentg
  clear hentg
  obtain ⟨vS', cS', rfl⟩ := hS.shape
  go_enter Tryz.func155, Tryz.ntmps155
  go_wp2_with (at_make; refine make1 rfl rfl Tryz.underlying29 infoBool rfl rfl rfl rfl (by omega) (by decide) (Nat.le_refl _) ?_; intro w1 hown hext hlt)
  rw [World.size_alloc] at hown hlt
  have hk0 : Seek w.heap.size w1.heap.size w.heap.size (w1.heap.size + 1) (w.heap.size + 1) (.func (.func fg) #[] capg) ((w1.alloc (.cells #[.slice (some ⟨w.heap.size + 1, 0, none⟩) n n] 29)).alloc (.cells #[.slice none 0 0] 259)) (List.replicate n false) (.slice none 0 0) [] [] := by
    have e1 : Ext w1 (w1.alloc (.cells #[.slice (some ⟨w.heap.size + 1, 0, none⟩) n n] 29)) := Ext.alloc _ _
    have e2 := e1.trans (Ext.alloc (w1.alloc (.cells #[.slice (some ⟨w.heap.size + 1, 0, none⟩) n n] 29)) (.cells #[.slice none 0 0] 259))
    refine ⟨?_, ((Blk.new w _ _).ext hext).ext e2, ?_, ?_, ⟨World.ownsRow_nil _ _ _ _, fun j r hr => by simp at hr⟩, ⟨by have := hext.size; simp at this; omega, by have := hext.size; simp at this; omega, Nat.le_refl _, by have := hext.size; simp at this ⊢; omega⟩, by omega, by omega⟩
    · rw [List.length_replicate]; exact (Blk.new w1 _ _).ext (Ext.alloc _ _)
    · have := Blk.new (w1.alloc (.cells #[.slice (some ⟨w.heap.size + 1, 0, none⟩) n n] 29)) #[.slice none 0 0] 259
      rwa [World.size_alloc] at this
    · have h2 := own_base (own_ext hown e2) (Nat.le_succ w.heap.size)
      rw [Nat.mul_one] at h2
      rw [List.length_replicate]
      simpa [toList_madeCells_one, Value.cells] using h2
  have hx0 : Ext w ((w1.alloc (.cells #[.slice (some ⟨w.heap.size + 1, 0, none⟩) n n] 29)).alloc (.cells #[.slice none 0 0] 259)) := (hext.peel.trans (Ext.alloc _ _)).trans (Ext.alloc _ _)
  generalize (w1.alloc (.cells #[.slice (some ⟨w.heap.size + 1, 0, none⟩) n n] 29)).alloc (.cells #[.slice none 0 0] 259) = wv at hk0 hx0 ⊢
  generalize w1.heap.size = sv at hk0 ⊢
  have hS2 := IntsOwn.ext hS hx0
  clear hown hext hlt
  refine (visit_c w.heap.size sv w.heap.size (sv + 1) (w.heap.size + 1) _ G (List.replicate n false) _ [] [] (-1) 0 _ S w wv hk0 (by rw [List.length_replicate]; exact hG) hx0 (Nat.le_refl _) hS2 (by rw [List.length_replicate]; exact hSn) (by rw [List.length_replicate]; omega) (by simp)).mono ?_
  rintro e w2 ⟨rfl, hb2, vS, cells, hk1⟩
  have hx2 : Ext w w2 := Below.trans hx0 hb2
  clear hk0 hb2 hS2 hx0
  by_cases hany : (freshTo (List.replicate n false) S).2.any G = true
  · rw [hany]
    go_wp2_with fail
    go_ret2
    obtain ⟨s, hs, hgs⟩ := List.any_eq_true.1 hany
    have hsS : s ∈ S := ((freshTo_mem (List.replicate n false) S (by simpa using hSn)).2 s).1 hs |>.1
    exact ⟨some [], first_start hsS hgs, rfl, hx2⟩
  · have hany' : (freshTo (List.replicate n false) S).2.any G = false := by simpa using hany
    obtain ⟨hne, hK0⟩ := Knows.start (N := N) (L := L) hS0 hSn hany'
    rw [hany']
    rw [if_neg hne, List.nil_append] at hk1
    have HN := Lib.hid hcalln
    clear hcalln
    go_wp2_with fail
    go_loopw [15] (fun i wr => ∃ (ii : Nat) (st : List (List Int × List Nat)) (recs : List Rec) (sb : List Bool) (vS : Value) (cells : List Value), ii ≤ recs.length ∧ i = .int .i64 ii ∧ Seek w.heap.size sv w.heap.size (sv + 1) (w.heap.size + 1) (.func (.func fg) #[] capg) wr sb vS recs cells ∧ Hid (Knows n N L S G st recs sb ii 0) ∧ Ext w wr) (fun i _ => n - (intOf i).toNat)
    case atStart => exact ⟨0, _, _, _, _, _, by simp, rfl, hk1, hK0, hx2⟩
    case round =>
      clear hk1 hK0 hx2 vS cells
      obtain ⟨ii, st, recs, sb, vS, cells, hii, rfl, hk, HK, hext⟩ := hrel
      obtain ⟨aS, cS, rfl⟩ := own_any' hk.steps.own
      have c0 := hk.pvb.cell 0 rfl
      have hrs : recs.length ≤ n := by rw [HK.out.recs.len]; have := HK.out.count; omega
      by_cases hlt : ii < recs.length
      · obtain ⟨x, hx⟩ : ∃ x, st[ii]? = some x := ⟨_, List.getElem?_eq_getElem (by rw [← HK.out.recs.len]; exact hlt)⟩
        have HX := Lib.hid hx
        clear hx
        have hlt' : (ii : Int) < recs.length := by omega
        go_wp2_with fail
        go_loopw [35] (fun i wr => ∃ (k : Nat) (st : List (List Int × List Nat)) (recs : List Rec) (sb : List Bool) (vS : Value) (cells : List Value), k ≤ L.length ∧ i = .int .i64 k ∧ Seek w.heap.size sv w.heap.size (sv + 1) (w.heap.size + 1) (.func (.func fg) #[] capg) wr sb vS recs cells ∧ Hid (Knows n N L S G st recs sb ii k) ∧ Hid (st[ii]? = some x) ∧ Ext w wr) (fun i _ => L.length - (intOf i).toNat)
        case atStart => exact ⟨0, st, recs, sb, _, cells, by omega, rfl, hk, HK, HX, hext⟩
        case round =>
          clear hk HK HX hext c0
          obtain ⟨k, st1, recs1, sb1, vS1, cells1, hkl, rfl, hk, HK, HX, hext⟩ := hrel
          have hrs1 : recs1.length ≤ n := by rw [HK.out.recs.len]; have := HK.out.count; omega
          have hir : ii < recs1.length := by rw [HK.out.recs.len]; exact (List.getElem?_eq_some_iff.1 HX.out).1
          have hir' : (ii : Int) < recs1.length := by omega
          by_cases hltk : k < L.length
          · obtain ⟨l, hlk⟩ : ∃ l, L[k]? = some l := ⟨_, List.getElem?_eq_getElem hltk⟩
            obtain ⟨bl, offl, rfl, -, hcl⟩ := hl2 k l hlk
            have gl : wr.cell? ⟨bl, offl + k, none⟩ = some (.int .i64 l) := by have := hcl k l hlk; rw [Nat.mul_one] at this; exact hext.cell this
            have hlL := List.mem_of_getElem? hlk
            have HLK := Lib.hid hlk
            obtain ⟨r, hr⟩ : ∃ r, recs1[ii]? = some r := ⟨_, List.getElem?_eq_getElem hir⟩
            obtain ⟨gS, capS, u, rfl, -, -, cu, hnodes⟩ := hk.steps.get hr
            have hrx := HK.out.recs.nodes ii r x hr HX.out
            rw [hrx] at hnodes
            obtain ⟨aN, cN, rfl⟩ := hnodes.shape
            have c0 := hk.pvb.cell 0 rfl
            have hxl : ∀ q ∈ x.2, q < n := HK.out.lt x (List.mem_of_getElem? HX.out)
            have hxn : x.2.length ≤ n := HK.out.len x (List.mem_of_getElem? HX.out)
            obtain ⟨ns, hns⟩ : ∃ ns, Hid (ns = x.2) := ⟨_, rfl⟩
            rw [← hns.out] at hnodes hxl hxn cu
            simp only [ints_len] at cu
            have hmulN : ns.length * NB + NB ≤ 4294967296 := by have := Nat.mul_le_mul_right NB hxn; omega
            have hxl' := Lib.hid hxl
            have hnl : ∀ q ∈ ns, (N q l).length ≤ NB := fun q hq => hN.len q l (hxl q hq) hlL
            have hrl := fun m => reachTo_len (m := m) hnl
            have hrl' := Lib.hid hrl
            clear hcl hlk hr hrx hxl hnl hrl
            go_wp2_with fail
            obtain ⟨aN', cN', heq, -, hnd⟩ := (IntsOwn.ints hnodes).open
            simp only [ints_len, Value.slice.injEq, true_and] at heq
            obtain ⟨rfl, rfl⟩ := heq
            go_loopw [18, 45] (fun v18 i wz => ∃ m : Nat, m ≤ ns.length ∧ i = .int .i64 m ∧ IntsOwn 3 wr.heap.size wz v18 (ints (reachTo N l ns m)) ∧ Ext wr wz) (fun _ i _ => ns.length - (intOf i).toNat)
            case atStart => exact ⟨0, by omega, rfl, by simpa [reachTo, ints] using IntsOwn.nil _ _ _, Ext.refl _⟩
            case round =>
              obtain ⟨m, hm, rfl, hown, hext3⟩ := hrel
              by_cases hltm : m < ns.length
              · obtain ⟨q, hq⟩ : ∃ q, ns[m]? = some q := ⟨_, List.getElem?_eq_getElem hltm⟩
                obtain ⟨bn, offn, rfl, -, hcn⟩ := hnd m _ (ints_at hq)
                have gn := hext3.cell (hcn m _ (ints_at hq))
                rw [Nat.mul_one] at gn
                have hqn := hxl'.out q (List.mem_of_getElem? hq)
                have HQ := Lib.hid (reachTo_succ (N := N) (l := l) hq)
                have hlen : (ints (reachTo N l ns m)).length + NB ≤ 4294967296 := by rw [ints_len]; have := hrl'.out m; omega
                have hszz := hext3.size
                clear hcn hq
                go_wp2_with (refine (HN.out _ q l _ _ _ (hext.trans hext3) hqn hlL hown hext.size hszz hlen).mono ?_; rintro e w5 ⟨v5, rfl, hown5, ht5, -⟩)
                refine ⟨⟨m + 1, by omega, by go_num, ?_, Below.trans hext3 (ht5.below hszz fun b hb => (World.ownsRow.lt hown b hb).1)⟩, by simp [intOf]; omega⟩
                rw [HQ.out, ints_append]
                exact hown5
              · obtain rfl : m = ns.length := by omega
                have hk2 := hk.ext hext3
                have hR : ∀ m ∈ reachTo N l ns ns.length, m < sb1.length := by
                  intro m hm
                  unfold reachTo at hm; rw [List.take_length, List.mem_flatMap] at hm
                  obtain ⟨q, hq, hm⟩ := hm
                  rw [HK.out.size]; exact hN.lt q l (hxl'.out q hq) hlL m hm
                have hG1 : GoalIs w sb1.length (.func (.func fg) #[] capg) G := by rw [HK.out.size]; exact hG
                have hsbn : sb1.length ≤ 2147483648 := by rw [HK.out.size]; omega
                have hrsb : recs1.length ≤ sb1.length := by rw [HK.out.size]; exact hrs1
                have HVC := Lib.hid (visit_c w.heap.size sv w.heap.size (sv + 1) (w.heap.size + 1) _ G sb1 _ recs1 _ ii l _ (reachTo N l ns ns.length) w _ hk2 hG1 (hext.trans hext3) (Nat.le_refl _) (hown.low (Nat.zero_le _)) hR hsbn hrsb)
                have hNq : ∀ q ∈ x.2, ∀ m ∈ N q l, m < n := fun q hq => by rw [← hns.out] at hq; exact hN.lt q l (hxl'.out q hq) hlL
                have HNQ := Lib.hid hNq
                clear hNq hR
                have hx6 := hext.trans hext3
                clear hext3 hnd hnodes hrl' cu c0 gl
                by_cases hany1 : (freshTo sb1 (reachTo N l ns ns.length)).2.any G = true
                · have HA1 := Lib.hid hany1
                  clear hany1
                  have hF2 : (freshTo sb1 (reachTo N l ns ns.length)).2 ≠ [] := fun h => by have := HA1.out; rw [h] at this; cases this
                  have HF2 := Lib.hid hF2
                  have hFr : Fresh N st1 x l (freshTo sb1 (reachTo N l ns ns.length)).2 := by rw [hns.out]; exact HK.out.fresh HX.out HNQ.out
                  have HFR := Lib.hid hFr
                  have HRC : Hid (Recs (recs1 ++ [((ii : Int), l, (freshTo sb1 (reachTo N l ns ns.length)).2)]) (st1 ++ [(x.1 ++ [l], (freshTo sb1 (reachTo N l ns ns.length)).2)])) :=
                    HK.out.recs.push rfl (.inr ⟨ii, l.toNat, x, rfl, by have := hL l hlL; simp only []; omega, by have := hL l hlL; omega, HX.out, by have := hL l hlL; simp only []; rw [Int.toNat_of_nonneg this.1]⟩)
                  clear hF2 hFr
                  go_wp2_with fail
                  refine (HVC.out).mono ?_
                  rintro e w5 ⟨rfl, hb5, vS5, cells5, hk5⟩
                  rw [if_neg HF2.out] at hk5
                  rw [HA1.out]
                  have d5 := hk5.pvb.cell 0 rfl
                  go_wp2_with fail
                  refine (pathWord_c _ _ _ (x.1 ++ [l], (freshTo sb1 (reachTo N l ns ns.length)).2) _ _ _ hk5.steps HRC.out ?_ (by simp) (by simp; omega)).mono ?_
                  · rw [HRC.out.len]; simp
                  rintro e w6 ⟨rfl, he6⟩
                  go_wp2_with fail
                  go_ret2
                  obtain ⟨y, hy, hgy⟩ := List.any_eq_true.1 HA1.out
                  exact ⟨some (x.1 ++ [l]), HK.out.broad.found hA HX.out HLK.out HFR.out hy hgy, rfl, Ext.trans (Below.trans hx6 hb5) he6⟩
                · have hany2 : (freshTo sb1 (reachTo N l ns ns.length)).2.any G = false := by simpa using hany1
                  have HA1 := Lib.hid hany2
                  clear hany1 hany2
                  go_wp2_with (first | (refine (HVC.out).mono ?_; rintro e w5 ⟨rfl, hb5, vS5, cells5, hk5⟩; rw [HA1.out]))
                  have e := hns.out
                  have hno := HA1.out
                  rw [e] at hno hk5
                  obtain ⟨st', hK', hkeep⟩ := HK.out.step hA hL HX.out HLK.out HNQ.out hno
                  exact ⟨⟨k + 1, st', _, _, vS5, cells5, by omega, by go_num, hk5, hK', hkeep ii x HX.out, Below.trans hx6 hb5⟩, by simp [intOf]; omega⟩
          · obtain rfl : k = L.length := by omega
            go_wp2_with fail
            exact ⟨⟨ii + 1, st1, recs1, sb1, vS1, cells1, by omega, by go_num, hk, HK.out.next, hext⟩, by simp [intOf]; omega⟩
      · obtain rfl : ii = recs.length := by omega
        go_wp2_with fail
        go_ret2
        have h1 := HK.out.broad
        rw [HK.out.recs.len] at h1
        exact ⟨none, h1.over, rfl, hext⟩
end Go.Proofs.YtadplnbadfnlfaaGreatDoor

namespace Go.Proofs.YtadplnbadfnlfaaGreatDoor
set_option linter.unusedSimpArgs false
set_option linter.unusedVariables false
open Go.RowKit

set_option maxHeartbeats 1600000
set_option maxRecDepth 100000

structure Ground (w : World) (bu bm bn br bp : Nat) (parts : List Sys) (a p : Auto) : Prop where
  u : ∃ vu, Blk w bu #[vu] 146 ∧ TabV w vu (table a)
  m : Blk w bm #[.int .i64 (p.next.length : Nat)] 3
  n : Blk w bn #[.int .i64 (a.next.length : Nat)] 3
  r : ∃ vr, Blk w br #[vr] 146 ∧ TabV w vr (table p)
  p : ∃ vs vm, Blk w bp #[vs, vm] 94 ∧ PartsV w (.agg #[vs, vm]) parts
structure TabOk (a : Auto) : Prop where
  n1 : 1 ≤ a.next.length
  n12 : a.next.length ≤ 12
  lt : ∀ q l, q < a.next.length → step a q l < a.next.length
theorem TabOk.valid {a : Auto} (h : autoValid a = true) : TabOk a := ⟨(autoValid_facts h).2.2.1, (autoValid_facts h).2.2.2.1, fun q l hq => step_lt h hq l⟩
def turned (P : List Nat) (K M rest j : Nat) : List Nat := (P.take j).map (fun x => x * K * M + rest) ++ P.drop j
structure Ground2 (w : World) (b4 ba bm bn b5 : Nat) (a p : Auto) : Prop where
  a4 : Blk w b4 #[.pointer (some ⟨ba, 0, none⟩)] 185
  aa : ∃ vn va, Blk w ba #[.int .i64 a.alphabet, vn, va] 31 ∧ IntssV w vn a.next ∧ BoolsV w va a.accept
  m : Blk w bm #[.int .i64 (p.next.length : Nat)] 3
  n : Blk w bn #[.int .i64 (a.next.length : Nat)] 3
  pp : ∃ vn va, Blk w b5 #[.int .i64 p.alphabet, vn, va] 31 ∧ IntssV w vn p.next ∧ BoolsV w va p.accept
end Go.Proofs.YtadplnbadfnlfaaGreatDoor

namespace Go.Proofs.YtadplnbadfnlfaaGreatDoor
set_option linter.unusedSimpArgs false
set_option linter.unusedVariables false
open Go.RowKit

set_option maxHeartbeats 1600000
set_option maxRecDepth 100000

def TabOwn (w : World) (v : Value) (x : Auto) : Prop := ∃ base cells, w.ownsRow base 176 6 v x.next.length cells ∧ RowsTo cells x.next.length (tabRow x)
theorem TabOwn.tab {w : World} {v : Value} {x : Auto} (h : TabOwn w v x) : TabV w v (table x) := by
  obtain ⟨base, cells, hI, hR⟩ := h
  rw [← table_len x] at hI
  refine SlV_of_own hI fun g cap hv i f hf l hl => ?_
  cases hv
  have hi := (List.getElem?_eq_some_iff.1 hf).1
  rw [table_len] at hi
  rw [table_at x i hi] at hf
  cases hf
  exact own_cell hI (hR i l hi hl)
theorem TabOwn.mono {w w' : World} {v : Value} {x : Auto} (h : TabOwn w v x) (he : Ext w w') : TabOwn w' v x := let ⟨b, cs, h1, h2⟩ := h; ⟨b, cs, own_ext h1 he, h2⟩
theorem TabOwn.store {w : World} {v : Value} {x : Auto} (h : TabOwn w v x) {g : Nat} {cs : Array Value} {T : TypeId} (hG : Blk w g cs T) (hne : T ≠ 176) (j : Nat) (u : Value) : TabOwn (w.setCell ⟨g, j, none⟩ u) v x := let ⟨b, ds, h1, h2⟩ := h; ⟨b, ds, own_store h1 hG hne j u, h2⟩

theorem tableOf_f (v : Value) (x : Auto) (w : World) (hv : AutoV w v x) (hx : AutoFit x) (hM : x.next.length ≤ 100000) :
    Calls Tryz.prog 152 #[v] w (Gives (fun v w' => TabOwn w' v x) w) := by
  obtain ⟨vn, va, rfl, h2, -⟩ := hv
  have HX := Lib.hid hx
  have ha := hx.a0
  have ha2 := hx.a63
  have hn0 := hx.n1
  have hn := hM
  clear hx
  obtain ⟨an, cn, rfl, hn1, hn2⟩ := h2.open
  clear h2
  have hls := lettersTo_len x.alphabet 6
  go_enter Tryz.func152, Tryz.ntmps152
  go_wp2_with (at_make; refine make1 rfl rfl Tryz.underlying146 infoTab rfl rfl rfl rfl (by omega) (by decide) (Nat.le_refl _) ?_; intro w1 hown hext hlt; have c0 : w1.cell? ⟨w.heap.size, 0, none⟩ = some (.int .i64 x.alphabet) := hext.new 0 rfl; have c1 : w1.cell? ⟨w.heap.size, 1, none⟩ = some (.slice an x.next.length cn) := hext.new 1 rfl)
  refine (lettersOf_o _ _ ha ha2).mono ?_
  rintro e w2 ⟨vl, rfl, he2, hl⟩
  obtain ⟨al, cl, rfl⟩ := hl.shape
  simp only [World.size_alloc] at hown hlt
  have I0 : TabInv 176 3 w w2 (w.heap.size + 1) x.next.length (.slice al (letters x.alphabet).length cl) (letters x.alphabet) _ := ⟨own_base (own_ext hown he2) (by omega), hl.low (by omega), hext.peel.trans he2⟩
  have d1 := he2.cell c1
  clear c0 c1 hown hlt hl
  have hls : (letters x.alphabet).length ≤ 6 := hls
  go_wp2_with fail
  go_loopw [20] (fun i wr => ∃ (k : Nat) (cells : List Value), k ≤ x.next.length ∧ i = .int .i64 k ∧ TabInv 176 3 w wr (w.heap.size + 1) x.next.length (.slice al (letters x.alphabet).length cl) (letters x.alphabet) cells ∧ RowsTo cells k (tabRow x)) (fun i _ => x.next.length - (intOf i).toNat)
  case atStart => exact ⟨0, _, by omega, rfl, I0, fun q l hq => by omega⟩
  case round =>
    obtain ⟨k, cells, hk, rfl, I, hR⟩ := hrel
    by_cases hlt : k < x.next.length
    · obtain ⟨row, hr, hrl, -⟩ := HX.out.row hlt
      obtain ⟨b, off, rfl, -, hc⟩ := hn2 k row hr
      obtain ⟨vr, g1, hvr⟩ := hc k row hr
      rw [Nat.mul_one] at g1
      replace g1 := I.ext.cell g1
      obtain ⟨ar, cr, rfl, -, hrr⟩ := hvr.open
      have HR := Lib.hid hr
      have HRR := Lib.hid hrr
      clear hc hn2 hr hvr hrr hrl
      go_wp2_with fail
      go_loopw [25] (fun j wr => ∃ (m : Nat) (cells : List Value), m ≤ 6 ∧ j = .int .i64 m ∧ TabInv 176 3 w wr (w.heap.size + 1) x.next.length (.slice al (letters x.alphabet).length cl) (letters x.alphabet) cells ∧ RowsTo cells k (tabRow x) ∧ RowTo cells k m (fun _ => (k : Int))) (fun j _ => 6 - (intOf j).toNat)
      case atStart => exact ⟨0, _, by omega, rfl, I, hR, fun l hl => by omega⟩
      case round =>
        clear I hR
        obtain ⟨m, cells, hm, rfl, I, hR, hR2⟩ := hrel
        by_cases hm6 : m < 6
        · obtain ⟨u, -, gc⟩ := I.cell (j := k * 6 + m) (by omega)
          have fz := I.own.frozenAt (k * 6 + m)
          have hcl := I.len
          go_wp2_with fail
          exact ⟨⟨m + 1, _, by omega, by go_num, I.store (by omega) _ _, hR.set, hR2.push (by omega)⟩, by simp [intOf]; omega⟩
        · obtain rfl : m = 6 := by omega
          rw [show ((6 : Nat) : Int) = 6 from rfl]
          go_wp2_with fail
          go_loopw [37] (fun j wr => ∃ (m : Nat) (cells : List Value), m ≤ (letters x.alphabet).length ∧ j = .int .i64 m ∧ TabInv 176 3 w wr (w.heap.size + 1) x.next.length (.slice al (letters x.alphabet).length cl) (letters x.alphabet) cells ∧ RowsTo cells k (tabRow x) ∧ RowTo cells k 6 (rowTo x k m)) (fun j _ => (letters x.alphabet).length - (intOf j).toNat)
          case atStart => exact ⟨0, _, by omega, rfl, I, hR, hR2.eq fun l _ => (rowTo_zero x k l).symm⟩
          case round =>
            clear I hR hR2
            obtain ⟨m, cells, hm, rfl, I, hR, hR2⟩ := hrel
            by_cases hml : m < (letters x.alphabet).length
            · obtain ⟨y, hy⟩ : ∃ y, (letters x.alphabet)[m]? = some y := ⟨_, List.getElem?_eq_getElem hml⟩
              obtain ⟨hb, h0, h6, hm6⟩ := letters_mem _ _ _ ha2 hy
              obtain ⟨j, rfl⟩ := Int.eq_ofNat_of_zero_le h0
              have hp := ((letters_place _ _ m ha ha2 h0 h6 hm6).1 hy).2
              obtain ⟨row', z, hr', hz, rfl, -⟩ := HX.out.step_facts hlt hb
              rw [HR.out] at hr'
              cases hr'
              rw [hp] at hz
              obtain ⟨b2, off2, rfl, -, hc2⟩ := HRR.out m _ hz
              have g2 := I.ext.cell (hc2 m _ hz)
              rw [Nat.mul_one] at g2
              obtain ⟨al', cl', heq, -, hll⟩ := I.lets.ints.open
              cases heq
              obtain ⟨b3, off3, rfl, -, hc3⟩ := hll m _ hy
              have g3 := hc3 m _ hy
              rw [Nat.mul_one] at g3
              unfold IntAt at g3
              have hcl := I.len
              have HQ := Lib.hid (rowTo_succ HX.out (k := k) hy)
              have hj6 : j < 6 := by omega
              have hj6i : (j : Int) < 6 := by omega
              have hzl := (List.getElem?_eq_some_iff.1 hz).1
              clear hc2 hc3 hll hy hz hb hp HRR h0 h6
              go_wp2_with fail
              have D2 := fun d os => cell_regrown g2 d os
              obtain ⟨Kc, HKc⟩ : ∃ Kc : FuncId → Array Value → World → Value → World → Prop, Hid (Kc = fun _ _ _ _ _ => False) := ⟨_, rfl⟩
              refine wp_region_ext (Kc := Kc) 9 (by kernel_rfl) (by kernel_rfl) ?_
              simp only [List.take_succ_cons, List.take_zero]
              repeat (refine WalkE.pure rfl (fun K hK => ?_); simp only [PureDo]; go_simp; refine hK _ ?_; clear hK K)
              refine WalkE.nil (fun wn hwn hmn => ?_)
              simp only [List.drop_succ_cons, List.drop_zero, List.drop_nil]
              clear hmn HKc D2 g2 g3
              have I2 := I.mono ((Ext.drew _).trans hwn)
              obtain ⟨u, -, gc⟩ := I2.cell (j := k * 6 + j) (by omega)
              have fz := I2.own.frozenAt (k * 6 + j)
              go_wp2_with fail
              exact ⟨⟨m + 1, _, by omega, by go_num, I2.store (by omega) _ _, hR.set, hR2.put (by omega) (by omega) HQ.out.1 HQ.out.2⟩, by simp [intOf]; omega⟩
            · obtain rfl : m = (letters x.alphabet).length := by omega
              go_wp2_with fail
              exact ⟨⟨k + 1, _, by omega, by go_num, I, hR.push (hR2.eq fun l hl => rowTo_full HX.out k l hl)⟩, by simp [intOf]; omega⟩
    · obtain rfl : k = x.next.length := by omega
      go_wp2_with fail
      go_ret
      refine Gives.mk rfl I.ext ?_
      exact ⟨_, _, I.own, hR⟩
theorem tableOf_o (v : Value) (x : Auto) (w : World) (hv : AutoV w v x) (hx : autoValid x = true) :
    Calls Tryz.prog 152 #[v] w (Gives (fun v w' => TabOwn w' v x) w) :=
  tableOf_f v x w hv (AutoFit.of hx) (by have := autoValid_facts hx; omega)
end Go.Proofs.YtadplnbadfnlfaaGreatDoor

namespace Go.Proofs.YtadplnbadfnlfaaGreatDoor
set_option linter.unusedSimpArgs false
set_option linter.unusedVariables false
open Go.RowKit

set_option maxHeartbeats 1600000
set_option maxRecDepth 100000

theorem letters_asc (a : Int) : Asc (letters a) := by
  have : (letters a).Pairwise (· < ·) := by
    unfold letters lettersTo
    refine List.Pairwise.filter _ ?_
    rw [List.pairwise_map]
    refine List.Pairwise.imp ?_ (List.pairwise_lt_range (n := 6))
    intro x y h; simpa using h
  intro i j x y hij hx hy
  rw [List.pairwise_iff_getElem] at this
  obtain ⟨hi, rfl⟩ := List.getElem?_eq_some_iff.1 hx
  obtain ⟨hj, rfl⟩ := List.getElem?_eq_some_iff.1 hy
  exact this i j hi hj hij
theorem letters_lt6 {a : Int} (h : a ≤ 63) : ∀ l ∈ letters a, 0 ≤ l ∧ l < 6 := by
  intro l hl
  obtain ⟨m, hm, rfl⟩ := List.getElem_of_mem hl
  have := letters_mem a _ m h (List.getElem?_eq_getElem hm)
  exact ⟨this.2.1, this.2.2.1⟩

def allLetters (parts : List Sys) (a : Auto) : Int := ((orTo parts parts.length ||| a.alphabet.toNat : Nat) : Int)
theorem IntsOwn.one (e : TypeId) (w : World) (x : Int) : IntsOwn e w.heap.size (w.alloc (.cells #[.int .i64 x] e)) (.slice (some ⟨w.heap.size, 0, none⟩) 1 1) [x] :=
  ⟨by simp, .inr ⟨w.heap.size, 1, #[.int .i64 x], rfl, Nat.le_refl _, heap_alloc_new w _, Nat.le_refl _, by unfold maxLen; omega, by simp, by simp⟩⟩

end Go.Proofs.YtadplnbadfnlfaaGreatDoor

namespace Go.Proofs.YtadplnbadfnlfaaGreatDoor
set_option linter.unusedSimpArgs false
set_option linter.unusedVariables false
open Go.RowKit

set_option maxHeartbeats 1600000
set_option maxRecDepth 100000

def AnsEnd (A : Option (List Int) → Prop) (w : World) (e : Ending) (w' : World) : Prop := ∃ r, A r ∧ e = .returned (.tuple #[.string (rtext r), .bool r.isSome]) ∧ Ext w w'
theorem SystemValid_b {v : Value} {x : Sys} {w : World} {b : Bool} (hb : sysValid x = b) (hv : SysV w v x) :
    Calls Tryz.prog 43 #[v] w (Grows (.bool b) w) := hb ▸ SystemValid_c v x w hv

end Go.Proofs.YtadplnbadfnlfaaGreatDoor
