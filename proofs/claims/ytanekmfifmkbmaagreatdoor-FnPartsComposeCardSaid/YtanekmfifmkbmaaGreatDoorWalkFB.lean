/- Part of this seat's proofs, cut to what its law needs. -/

import Derived.Test.YtanekmfifmkbmaaGreatDoorWalkY
import Derived.Test.YtanekmfifmkbmaaGreatDoorWalkK
import Derived.Test.YtanekmfifmkbmaaGreatDoorRegion
import Derived.BigRegion

namespace Go.Proofs.YtanekmfifmkbmaaGreatDoor
set_option linter.unusedSimpArgs false
set_option linter.unusedVariables false
open Go.RowKit

set_option maxHeartbeats 1600000
set_option maxRecDepth 100000

def rtext (r : Option (List Int)) : ByteArray := match r with | none => ⟨#[]⟩ | some u => wtext u
def FoundEnd (W : List Int → Prop) (w : World) (e : Ending) (w' : World) : Prop := ∃ r, FirstIs W r ∧ e = .returned (.tuple #[.string (rtext r), .bool r.isSome]) ∧ Ext w w'

structure NextIs (w0 : World) (n NB : Nat) (L : List Int) (nf : Value) (N : Nat → Int → List Nat) : Prop where
  fn : ∃ f caps, nf = .func (.func f) #[] caps ∧ (∀ args w, (callFunc f args).run Tryz.prog w = .ok (.enter f args) w) ∧
    ∀ w' (k : Nat) l vo out b, Ext w0 w' → k < n → l ∈ L → IntsOwn 3 b w' vo out → w0.heap.size ≤ b → b ≤ w'.heap.size → out.length + NB ≤ 4294967296 → Calls Tryz.prog f (#[.int .i64 k, .int .i64 l, vo] ++ caps) w' (Appends b vo (out ++ ints (N k l)) w')
  len : ∀ k l, k < n → l ∈ L → (N k l).length ≤ NB
  lt : ∀ k l, k < n → l ∈ L → ∀ m ∈ N k l, m < n

structure Knows (n : Nat) (N : Nat → Int → List Nat) (L : List Int) (S : List Nat) (G : Nat → Bool) (st : List (List Int × List Nat)) (recs : List Rec) (sb : List Bool) (i k : Nat) : Prop where
  broad : Broad N L S G st i k
  recs : Recs recs st
  size : sb.length = n
  seen : ∀ m, m < n → (sb[m]? = some true ↔ ∃ x ∈ st, m ∈ x.2)
  lt : ∀ x ∈ st, ∀ m ∈ x.2, m < n
  count : st.length + unseen sb ≤ n
  len : ∀ x ∈ st, x.2.length ≤ n

def reachTo (N : Nat → Int → List Nat) (l : Int) (ns : List Nat) (m : Nat) : List Nat := (ns.take m).flatMap fun q => N q l
theorem reachTo_succ {N : Nat → Int → List Nat} {l : Int} {ns : List Nat} {m q : Nat} (h : ns[m]? = some q) : reachTo N l ns (m + 1) = reachTo N l ns m ++ N q l := by
  unfold reachTo; rw [List.take_add_one, h, List.flatMap_append]; simp
theorem reachTo_len {N : Nat → Int → List Nat} {l : Int} {ns : List Nat} {m NB : Nat} (h : ∀ q ∈ ns, (N q l).length ≤ NB) : (reachTo N l ns m).length ≤ ns.length * NB := by
  unfold reachTo
  have : ∀ xs : List Nat, (∀ q ∈ xs, (N q l).length ≤ NB) → (xs.flatMap fun q => N q l).length ≤ xs.length * NB := by
    intro xs
    induction xs with
    | nil => intro _; simp
    | cons x xs ih =>
      intro hx
      have h1 := ih fun q hq => hx q (by simp [hq])
      have h2 := hx x (by simp)
      simp only [List.flatMap_cons, List.length_append, List.length_cons, Nat.add_mul]; omega
  exact Nat.le_trans (this _ fun q hq => h q (List.mem_of_mem_take hq)) (Nat.mul_le_mul_right _ (by rw [List.length_take]; omega))

section
variable {n NB : Nat} {N : Nat → Int → List Nat} {L : List Int} {S : List Nat} {G : Nat → Bool} {st : List (List Int × List Nat)} {recs : List Rec} {sb : List Bool} {i k : Nat}
theorem Knows.fresh (h : Knows n N L S G st recs sb i k) {x : List Int × List Nat} {l : Int} (hx : st[i]? = some x) (hN : ∀ q ∈ x.2, ∀ m ∈ N q l, m < n) : Fresh N st x l (freshTo sb (reachTo N l x.2 x.2.length)).2 := by
  intro r
  have hmem : r ∈ reachTo N l x.2 x.2.length ↔ ∃ q ∈ x.2, r ∈ N q l := by unfold reachTo; rw [List.take_length, List.mem_flatMap]
  have hlt : ∀ m ∈ reachTo N l x.2 x.2.length, m < sb.length := by
    intro m hm
    unfold reachTo at hm; rw [List.take_length, List.mem_flatMap] at hm
    obtain ⟨q, hq, hm⟩ := hm
    rw [h.size]; exact hN q hq m hm
  rw [(freshTo_mem sb _ hlt).2 r, hmem]
  constructor
  · rintro ⟨h1, h2⟩
    refine ⟨h1, fun h3 => ?_⟩
    obtain ⟨q, hq, hr⟩ := h1
    rw [(h.seen r (hN q hq r hr)).2 h3] at h2; cases h2
  · rintro ⟨h1, h2⟩
    refine ⟨h1, ?_⟩
    obtain ⟨q, hq, hr⟩ := h1
    have hrn := hN q hq r hr
    have h3 : ¬ sb[r]? = some true := fun h4 => h2 ((h.seen r hrn).1 h4)
    have hl := h.size
    rw [List.getElem?_eq_getElem (by omega)] at h3 ⊢
    cases hb : sb[r] with
    | true => rw [hb] at h3; exact absurd rfl h3
    | false => rfl
theorem Knows.step (h : Knows n N L S G st recs sb i k) (hA : Asc L) (hL : ∀ l ∈ L, 0 ≤ l ∧ l < 6) {x : List Int × List Nat} {l : Int} (hx : st[i]? = some x) (hl : L[k]? = some l) (hN : ∀ q ∈ x.2, ∀ m ∈ N q l, m < n) (hno : (freshTo sb (reachTo N l x.2 x.2.length)).2.any G = false) :
    ∃ st', Knows n N L S G st' (if (freshTo sb (reachTo N l x.2 x.2.length)).2 = [] then recs else recs ++ [((i : Int), l, (freshTo sb (reachTo N l x.2 x.2.length)).2)]) (freshTo sb (reachTo N l x.2 x.2.length)).1 i (k + 1) ∧ (∀ (j : Nat) y, st[j]? = some y → st'[j]? = some y) := by
  have hf := h.fresh hx hN
  have hlt : ∀ m ∈ reachTo N l x.2 x.2.length, m < sb.length := by
    intro m hm
    unfold reachTo at hm; rw [List.take_length, List.mem_flatMap] at hm
    obtain ⟨q, hq, hm⟩ := hm
    rw [h.size]; exact hN q hq m hm
  obtain ⟨m1, m2⟩ := freshTo_mem sb _ hlt
  have hcnt := freshTo_count sb (reachTo N l x.2 x.2.length)
  have hfl := freshTo_len sb (reachTo N l x.2 x.2.length)
  generalize freshTo sb (reachTo N l x.2 x.2.length) = F at hf hno m1 m2 hcnt hfl ⊢
  obtain ⟨F1, F2⟩ := F
  simp only at hf hno m1 m2 hcnt hfl ⊢
  have hsz := h.size
  have hfn : ∀ m ∈ F2, m < n := fun m hm => by have := hlt m ((m2 m).1 hm).1; omega
  have hR : ∀ m, m < n → (m ∈ reachTo N l x.2 x.2.length → ∃ y ∈ st, m ∈ y.2) ∨ m ∈ F2 := by
    intro m hm
    by_cases h1 : m ∈ F2
    · exact .inr h1
    · refine .inl fun h2 => ?_
      have h3 : ¬ sb[m]? = some false := fun h3 => h1 ((m2 m).2 ⟨h2, h3⟩)
      refine (h.seen m hm).1 ?_
      rw [List.getElem?_eq_getElem (by omega)] at h3 ⊢
      cases hb : sb[m] with
      | true => rfl
      | false => rw [hb] at h3; exact absurd rfl h3
  by_cases he : F2 = []
  · subst he
    refine ⟨st, ⟨h.broad.skip hx hl hf, by simpa using h.recs, by omega, fun m hm => ?_, h.lt, by simp at hcnt; have := h.count; omega, h.len⟩, fun j y hy => hy⟩
    rw [m1 m (by omega), h.seen m hm]
    constructor
    · rintro (h1 | h1)
      · exact h1
      · rcases hR m hm with h2 | h2
        · exact h2 h1
        · cases h2
    · exact .inl
  · have hpos : 0 < F2.length := List.length_pos_iff.2 he
    have hall : ∀ m ∈ F2, G m = false := by
      intro m hm
      rw [List.any_eq_false] at hno
      simpa using hno m hm
    obtain ⟨hl0, hl6⟩ := hL l (List.mem_of_getElem? hl)
    refine ⟨st ++ [(x.1 ++ [l], F2)], ⟨h.broad.push hA hx hl hf hall, ?_, by omega, fun m hm => ?_, fun y hy m hm => ?_, by simp; have := h.count; omega, fun y hy => ?_⟩, fun j y hy => by rw [List.getElem?_append_left (List.getElem?_eq_some_iff.1 hy).1]; exact hy⟩
    · rw [if_neg he]
      exact h.recs.push rfl (.inr ⟨i, l.toNat, x, rfl, by simp only []; omega, by omega, hx, by simp only []; rw [Int.toNat_of_nonneg hl0]⟩)
    · rw [m1 m (by omega), h.seen m hm]
      simp only [List.mem_append, List.mem_singleton]
      constructor
      · rintro (⟨y, hy, h1⟩ | h1)
        · exact ⟨y, .inl hy, h1⟩
        · rcases hR m hm with h2 | h2
          · obtain ⟨y, hy, h3⟩ := h2 h1; exact ⟨y, .inl hy, h3⟩
          · exact ⟨_, .inr rfl, h2⟩
      · rintro ⟨y, hy | rfl, h1⟩
        · exact .inl ⟨y, hy, h1⟩
        · exact .inr ((m2 m).1 h1).1
    · rcases List.mem_append.1 hy with hy | hy
      · exact h.lt y hy m hm
      · simp at hy; subst hy; exact hfn m hm
    · rcases List.mem_append.1 hy with hy | hy
      · exact h.len y hy
      · simp at hy; subst hy
        have := unseen_le sb
        simp only []; omega
theorem Knows.next (h : Knows n N L S G st recs sb i L.length) : Knows n N L S G st recs sb (i + 1) 0 := ⟨h.broad.next, h.recs, h.size, h.seen, h.lt, h.count, h.len⟩
theorem Knows.start (hS : S ≠ []) (hlt : ∀ s ∈ S, s < n) (hno : (freshTo (List.replicate n false) S).2.any G = false) :
    (freshTo (List.replicate n false) S).2 ≠ [] ∧ Knows n N L S G [([], (freshTo (List.replicate n false) S).2)] [((-1 : Int), 0, (freshTo (List.replicate n false) S).2)] (freshTo (List.replicate n false) S).1 0 0 := by
  obtain ⟨m1, m2⟩ := freshTo_mem (List.replicate n false) S (by simpa using hlt)
  have hcnt := freshTo_count (List.replicate n false) S
  have hfl := freshTo_len (List.replicate n false) S
  have hun := unseen_le (List.replicate n false)
  generalize freshTo (List.replicate n false) S = F at hno m1 m2 hcnt hfl ⊢
  obtain ⟨F1, F2⟩ := F
  simp only [List.length_replicate] at hno m1 m2 hcnt hfl hun ⊢
  have hmem : ∀ m, m ∈ F2 ↔ m ∈ S := fun m => by
    rw [m2 m]
    constructor
    · exact fun h => h.1
    · intro h
      refine ⟨h, ?_⟩
      rw [List.getElem?_replicate, if_pos (hlt m h)]
  have hne : F2 ≠ [] := by
    obtain ⟨s, hs⟩ := List.exists_mem_of_ne_nil _ hS
    intro h
    have := (hmem s).2 hs
    rw [h] at this; cases this
  have hpos : 0 < F2.length := List.length_pos_iff.2 hne
  refine ⟨hne, ⟨Broad.zero hmem fun m hm => ?_, ?_, hfl, fun m hm => ?_, fun x hx m hm => ?_, by simp; omega, fun x hx => ?_⟩⟩
  · rw [List.any_eq_false] at hno; simpa using hno m hm
  · exact Recs.nil.push (r := ((-1 : Int), 0, F2)) (x := ([], F2)) rfl (.inl ⟨by simp, rfl⟩)
  · rw [m1 m hm, List.getElem?_replicate, if_pos hm]
    simp [hmem]
  · simp at hx; subst hx; exact hlt m ((hmem m).1 hm)
  · simp at hx; subst hx; simp only []; omega
end

theorem firstPath_c (n NB : Nat) (vs vl nf gf : Value) (S : List Nat) (L : List Int) (N : Nat → Int → List Nat) (G : Nat → Bool) (w : World) (hS : IntsOwn 3 0 w vs (ints S)) (hS0 : S ≠ []) (hSn : ∀ s ∈ S, s < n) (hl : IntsV w vl L) (hA : Asc L) (hL : ∀ l ∈ L, 0 ≤ l ∧ l < 6)
    (hN : NextIs w n NB L nf N) (hG : GoalIs w n gf G) (hn : n ≤ 1073741824) (hnb : n * NB + NB ≤ 4294967296) :
    Calls Tryz.prog 93 #[.int .i64 n, vs, vl, nf, gf] w (FoundEnd (Wins N L S G) w) := by
  obtain ⟨al, cl, rfl, hll, hl2⟩ := hl.open
  obtain ⟨fn, capn, rfl, hentn, hcalln⟩ := hN.fn
  obtain ⟨fg, capg, rfl, hentg, hcallg⟩ := hG.fn
  clear hcallg
  have HEN := Lib.hid hentn
  have HEG := Lib.hid hentg
  clear hentg
  obtain ⟨vS', cS', rfl⟩ := hS.shape
  go_enter Tryz.func93, Tryz.ntmps93
  go_wp2_with (at_make; refine make1 rfl rfl Tryz.underlying29 infoBool rfl rfl rfl rfl (by omega) (by decide) (Nat.le_refl _) ?_; intro w1 hown hext hlt)
  rw [World.size_alloc] at hown hlt
  have hk0 : Seek w.heap.size w1.heap.size w.heap.size (w1.heap.size + 1) (w.heap.size + 1) (.func (.func fg) #[] capg) ((w1.alloc (.cells #[.slice (some ⟨w.heap.size + 1, 0, none⟩) n n] 29)).alloc (.cells #[.slice none 0 0] 197)) (List.replicate n false) (.slice none 0 0) [] [] := by
    have e1 : Ext w1 (w1.alloc (.cells #[.slice (some ⟨w.heap.size + 1, 0, none⟩) n n] 29)) := Ext.alloc _ _
    have e2 := e1.trans (Ext.alloc (w1.alloc (.cells #[.slice (some ⟨w.heap.size + 1, 0, none⟩) n n] 29)) (.cells #[.slice none 0 0] 197))
    refine ⟨?_, ((Blk.new w _ _).ext hext).ext e2, ?_, ?_, ⟨World.ownsRow_nil _ _ _ _, fun j r hr => by simp at hr⟩, ⟨by have := hext.size; simp at this; omega, by have := hext.size; simp at this; omega, Nat.le_refl _, by have := hext.size; simp at this ⊢; omega⟩, by omega, by omega⟩
    · rw [List.length_replicate]; exact (Blk.new w1 _ _).ext (Ext.alloc _ _)
    · have := Blk.new (w1.alloc (.cells #[.slice (some ⟨w.heap.size + 1, 0, none⟩) n n] 29)) #[.slice none 0 0] 197
      rwa [World.size_alloc] at this
    · have h2 := own_base (own_ext hown e2) (Nat.le_succ w.heap.size)
      rw [Nat.mul_one] at h2
      rw [List.length_replicate]
      simpa [toList_madeCells_one, Value.cells] using h2
  have hx0 : Ext w ((w1.alloc (.cells #[.slice (some ⟨w.heap.size + 1, 0, none⟩) n n] 29)).alloc (.cells #[.slice none 0 0] 197)) := (hext.peel.trans (Ext.alloc _ _)).trans (Ext.alloc _ _)
  generalize (w1.alloc (.cells #[.slice (some ⟨w.heap.size + 1, 0, none⟩) n n] 29)).alloc (.cells #[.slice none 0 0] 197) = wv at hk0 hx0 ⊢
  generalize w1.heap.size = sv at hk0 ⊢
  have hS2 := IntsOwn.ext hS hx0
  clear hown hext hlt
  refine (visit_c w.heap.size sv w.heap.size (sv + 1) (w.heap.size + 1) _ G (List.replicate n false) _ [] [] (-1) 0 _ S w wv hk0 (by rw [List.length_replicate]; exact hG) hx0 (Nat.le_refl _) hS2 (by rw [List.length_replicate]; exact hSn) (by rw [List.length_replicate]; omega) (by simp)).mono ?_
  rintro e w2 ⟨rfl, hb2, vS, cells, hk1⟩
  have hx2 : Ext w w2 := Below.trans hx0 hb2
  clear hk0 hb2 hS2 hx0
  by_cases hany : (freshTo (List.replicate n false) S).2.any G = true
  · rw [hany]
    go_wp2_with fail
    go_ret2
    obtain ⟨s, hs, hgs⟩ := List.any_eq_true.1 hany
    have hsS : s ∈ S := ((freshTo_mem (List.replicate n false) S (by simpa using hSn)).2 s).1 hs |>.1
    exact ⟨some [], first_start hsS hgs, rfl, hx2⟩
  · have hany' : (freshTo (List.replicate n false) S).2.any G = false := by simpa using hany
    obtain ⟨hne, hK0⟩ := Knows.start (N := N) (L := L) hS0 hSn hany'
    rw [hany']
    rw [if_neg hne, List.nil_append] at hk1
    have HN := Lib.hid hcalln
    clear hcalln
    go_wp2_with fail
    go_loopw [15] (fun i wr => ∃ (ii : Nat) (st : List (List Int × List Nat)) (recs : List Rec) (sb : List Bool) (vS : Value) (cells : List Value), ii ≤ recs.length ∧ i = .int .i64 ii ∧ Seek w.heap.size sv w.heap.size (sv + 1) (w.heap.size + 1) (.func (.func fg) #[] capg) wr sb vS recs cells ∧ Hid (Knows n N L S G st recs sb ii 0) ∧ Ext w wr) (fun i _ => n - (intOf i).toNat)
    case atStart => exact ⟨0, _, _, _, _, _, by simp, rfl, hk1, hK0, hx2⟩
    case round =>
      clear hk1 hK0 hx2 vS cells
      obtain ⟨ii, st, recs, sb, vS, cells, hii, rfl, hk, HK, hext⟩ := hrel
      obtain ⟨aS, cS, rfl⟩ := own_any' hk.steps.own
      have c0 := hk.pvb.cell 0 rfl
      have hrs : recs.length ≤ n := by rw [HK.out.recs.len]; have := HK.out.count; omega
      by_cases hlt : ii < recs.length
      · obtain ⟨x, hx⟩ : ∃ x, st[ii]? = some x := ⟨_, List.getElem?_eq_getElem (by rw [← HK.out.recs.len]; exact hlt)⟩
        have HX := Lib.hid hx
        clear hx
        have hlt' : (ii : Int) < recs.length := by omega
        go_wp2_with fail
        go_loopw [35] (fun i wr => ∃ (k : Nat) (st : List (List Int × List Nat)) (recs : List Rec) (sb : List Bool) (vS : Value) (cells : List Value), k ≤ L.length ∧ i = .int .i64 k ∧ Seek w.heap.size sv w.heap.size (sv + 1) (w.heap.size + 1) (.func (.func fg) #[] capg) wr sb vS recs cells ∧ Hid (Knows n N L S G st recs sb ii k) ∧ Hid (st[ii]? = some x) ∧ Ext w wr) (fun i _ => L.length - (intOf i).toNat)
        case atStart => exact ⟨0, st, recs, sb, _, cells, by omega, rfl, hk, HK, HX, hext⟩
        case round =>
          clear hk HK HX hext c0
          obtain ⟨k, st1, recs1, sb1, vS1, cells1, hkl, rfl, hk, HK, HX, hext⟩ := hrel
          have hrs1 : recs1.length ≤ n := by rw [HK.out.recs.len]; have := HK.out.count; omega
          have hir : ii < recs1.length := by rw [HK.out.recs.len]; exact (List.getElem?_eq_some_iff.1 HX.out).1
          have hir' : (ii : Int) < recs1.length := by omega
          by_cases hltk : k < L.length
          · obtain ⟨l, hlk⟩ : ∃ l, L[k]? = some l := ⟨_, List.getElem?_eq_getElem hltk⟩
            obtain ⟨bl, offl, rfl, -, hcl⟩ := hl2 k l hlk
            have gl : wr.cell? ⟨bl, offl + k, none⟩ = some (.int .i64 l) := by have := hcl k l hlk; rw [Nat.mul_one] at this; exact hext.cell this
            have hlL := List.mem_of_getElem? hlk
            have HLK := Lib.hid hlk
            obtain ⟨r, hr⟩ : ∃ r, recs1[ii]? = some r := ⟨_, List.getElem?_eq_getElem hir⟩
            obtain ⟨gS, capS, u, rfl, -, -, cu, hnodes⟩ := hk.steps.get hr
            have hrx := HK.out.recs.nodes ii r x hr HX.out
            rw [hrx] at hnodes
            obtain ⟨aN, cN, rfl⟩ := hnodes.shape
            have c0 := hk.pvb.cell 0 rfl
            have hxl : ∀ q ∈ x.2, q < n := HK.out.lt x (List.mem_of_getElem? HX.out)
            have hxn : x.2.length ≤ n := HK.out.len x (List.mem_of_getElem? HX.out)
            obtain ⟨ns, hns⟩ : ∃ ns, Hid (ns = x.2) := ⟨_, rfl⟩
            rw [← hns.out] at hnodes hxl hxn cu
            simp only [ints_len] at cu
            have hmulN : ns.length * NB + NB ≤ 4294967296 := by have := Nat.mul_le_mul_right NB hxn; omega
            have hxl' := Lib.hid hxl
            have hnl : ∀ q ∈ ns, (N q l).length ≤ NB := fun q hq => hN.len q l (hxl q hq) hlL
            have hrl := fun m => reachTo_len (m := m) hnl
            have hrl' := Lib.hid hrl
            clear hcl hlk hr hrx hxl hnl hrl
            go_wp2_with fail
            obtain ⟨aN', cN', heq, -, hnd⟩ := (IntsOwn.ints hnodes).open
            simp only [ints_len, Value.slice.injEq, true_and] at heq
            obtain ⟨rfl, rfl⟩ := heq
            go_loopw [18, 45] (fun v18 i wz => ∃ m : Nat, m ≤ ns.length ∧ i = .int .i64 m ∧ IntsOwn 3 wr.heap.size wz v18 (ints (reachTo N l ns m)) ∧ Ext wr wz) (fun _ i _ => ns.length - (intOf i).toNat)
            case atStart => exact ⟨0, by omega, rfl, by simpa [reachTo, ints] using IntsOwn.nil _ _ _, Ext.refl _⟩
            case round =>
              obtain ⟨m, hm, rfl, hown, hext3⟩ := hrel
              by_cases hltm : m < ns.length
              · obtain ⟨q, hq⟩ : ∃ q, ns[m]? = some q := ⟨_, List.getElem?_eq_getElem hltm⟩
                obtain ⟨bn, offn, rfl, -, hcn⟩ := hnd m _ (ints_at hq)
                have gn := hext3.cell (hcn m _ (ints_at hq))
                rw [Nat.mul_one] at gn
                have hqn := hxl'.out q (List.mem_of_getElem? hq)
                have HQ := Lib.hid (reachTo_succ (N := N) (l := l) hq)
                have hlen : (ints (reachTo N l ns m)).length + NB ≤ 4294967296 := by rw [ints_len]; have := hrl'.out m; omega
                have hszz := hext3.size
                clear hcn hq
                go_wp2_with (refine (HN.out _ q l _ _ _ (hext.trans hext3) hqn hlL hown hext.size hszz hlen).mono ?_; rintro e w5 ⟨v5, rfl, hown5, ht5, -⟩)
                refine ⟨⟨m + 1, by omega, by go_num, ?_, Below.trans hext3 (ht5.below hszz fun b hb => (World.ownsRow.lt hown b hb).1)⟩, by simp [intOf]; omega⟩
                rw [HQ.out, ints_append]
                exact hown5
              · obtain rfl : m = ns.length := by omega
                have hk2 := hk.ext hext3
                have hR : ∀ m ∈ reachTo N l ns ns.length, m < sb1.length := by
                  intro m hm
                  unfold reachTo at hm; rw [List.take_length, List.mem_flatMap] at hm
                  obtain ⟨q, hq, hm⟩ := hm
                  rw [HK.out.size]; exact hN.lt q l (hxl'.out q hq) hlL m hm
                have hG1 : GoalIs w sb1.length (.func (.func fg) #[] capg) G := by rw [HK.out.size]; exact hG
                have hsbn : sb1.length ≤ 2147483648 := by rw [HK.out.size]; omega
                have hrsb : recs1.length ≤ sb1.length := by rw [HK.out.size]; exact hrs1
                have HVC := Lib.hid (visit_c w.heap.size sv w.heap.size (sv + 1) (w.heap.size + 1) _ G sb1 _ recs1 _ ii l _ (reachTo N l ns ns.length) w _ hk2 hG1 (hext.trans hext3) (Nat.le_refl _) (hown.low (Nat.zero_le _)) hR hsbn hrsb)
                have hNq : ∀ q ∈ x.2, ∀ m ∈ N q l, m < n := fun q hq => by rw [← hns.out] at hq; exact hN.lt q l (hxl'.out q hq) hlL
                have HNQ := Lib.hid hNq
                clear hNq hR
                have hx6 := hext.trans hext3
                clear hext3 hnd hnodes hrl' cu c0 gl
                by_cases hany1 : (freshTo sb1 (reachTo N l ns ns.length)).2.any G = true
                · have HA1 := Lib.hid hany1
                  clear hany1
                  have hF2 : (freshTo sb1 (reachTo N l ns ns.length)).2 ≠ [] := fun h => by have := HA1.out; rw [h] at this; cases this
                  have HF2 := Lib.hid hF2
                  have hFr : Fresh N st1 x l (freshTo sb1 (reachTo N l ns ns.length)).2 := by rw [hns.out]; exact HK.out.fresh HX.out HNQ.out
                  have HFR := Lib.hid hFr
                  have HRC : Hid (Recs (recs1 ++ [((ii : Int), l, (freshTo sb1 (reachTo N l ns ns.length)).2)]) (st1 ++ [(x.1 ++ [l], (freshTo sb1 (reachTo N l ns ns.length)).2)])) :=
                    HK.out.recs.push rfl (.inr ⟨ii, l.toNat, x, rfl, by have := hL l hlL; simp only []; omega, by have := hL l hlL; omega, HX.out, by have := hL l hlL; simp only []; rw [Int.toNat_of_nonneg this.1]⟩)
                  clear hF2 hFr
                  go_wp2_with fail
                  refine (HVC.out).mono ?_
                  rintro e w5 ⟨rfl, hb5, vS5, cells5, hk5⟩
                  rw [if_neg HF2.out] at hk5
                  rw [HA1.out]
                  have d5 := hk5.pvb.cell 0 rfl
                  go_wp2_with fail
                  refine (pathWord_c _ _ _ (x.1 ++ [l], (freshTo sb1 (reachTo N l ns ns.length)).2) _ _ _ hk5.steps HRC.out ?_ (by simp) (by simp; omega)).mono ?_
                  · rw [HRC.out.len]; simp
                  rintro e w6 ⟨rfl, he6⟩
                  go_wp2_with fail
                  go_ret2
                  obtain ⟨y, hy, hgy⟩ := List.any_eq_true.1 HA1.out
                  exact ⟨some (x.1 ++ [l]), HK.out.broad.found hA HX.out HLK.out HFR.out hy hgy, rfl, Ext.trans (Below.trans hx6 hb5) he6⟩
                · have hany2 : (freshTo sb1 (reachTo N l ns ns.length)).2.any G = false := by simpa using hany1
                  have HA1 := Lib.hid hany2
                  clear hany1 hany2
                  go_wp2_with (first | (refine (HVC.out).mono ?_; rintro e w5 ⟨rfl, hb5, vS5, cells5, hk5⟩; rw [HA1.out]))
                  have e := hns.out
                  have hno := HA1.out
                  rw [e] at hno hk5
                  obtain ⟨st', hK', hkeep⟩ := HK.out.step hA hL HX.out HLK.out HNQ.out hno
                  exact ⟨⟨k + 1, st', _, _, vS5, cells5, by omega, by go_num, hk5, hK', hkeep ii x HX.out, Below.trans hx6 hb5⟩, by simp [intOf]; omega⟩
          · obtain rfl : k = L.length := by omega
            go_wp2_with fail
            exact ⟨⟨ii + 1, st1, recs1, sb1, vS1, cells1, by omega, by go_num, hk, HK.out.next, hext⟩, by simp [intOf]; omega⟩
      · obtain rfl : ii = recs.length := by omega
        go_wp2_with fail
        go_ret2
        have h1 := HK.out.broad
        rw [HK.out.recs.len] at h1
        exact ⟨none, h1.over, rfl, hext⟩
end Go.Proofs.YtanekmfifmkbmaaGreatDoor

namespace Go.Proofs.YtanekmfifmkbmaaGreatDoor
set_option linter.unusedSimpArgs false
set_option linter.unusedVariables false
open Go.RowKit

set_option maxHeartbeats 1600000
set_option maxRecDepth 100000

structure Ground (w : World) (bu bm bn br bp : Nat) (parts : List Sys) (a p : Auto) : Prop where
  u : ∃ vu, Blk w bu #[vu] 147 ∧ TabV w vu (table a)
  m : Blk w bm #[.int .i64 (p.next.length : Nat)] 3
  n : Blk w bn #[.int .i64 (a.next.length : Nat)] 3
  r : ∃ vr, Blk w br #[vr] 147 ∧ TabV w vr (table p)
  p : ∃ vs vm, Blk w bp #[vs, vm] 78 ∧ PartsV w (.agg #[vs, vm]) parts
theorem Ground.ext {w w' : World} {bu bm bn br bp : Nat} {parts : List Sys} {a p : Auto} (h : Ground w bu bm bn br bp parts a p) (he : Ext w w') : Ground w' bu bm bn br bp parts a p := by
  obtain ⟨⟨vu, h1, h2⟩, h3, h4, ⟨vr, h5, h6⟩, ⟨vs, vm, h7, h8⟩⟩ := h
  exact ⟨⟨vu, h1.ext he, h2.mono he⟩, h3.ext he, h4.ext he, ⟨vr, h5.ext he, h6.mono he⟩, ⟨vs, vm, h7.ext he, h8.mono he⟩⟩

structure TabOk (a : Auto) : Prop where
  n1 : 1 ≤ a.next.length
  n12 : a.next.length ≤ 12
  lt : ∀ q l, q < a.next.length → step a q l < a.next.length
theorem TabOk.valid {a : Auto} (h : autoValid a = true) : TabOk a := ⟨(autoValid_facts h).2.2.1, (autoValid_facts h).2.2.2.1, fun q l hq => step_lt h hq l⟩
def turned (P : List Nat) (K M rest j : Nat) : List Nat := (P.take j).map (fun x => x * K * M + rest) ++ P.drop j
theorem turned_zero (P : List Nat) (K M rest : Nat) : turned P K M rest 0 = P := by simp [turned]
theorem turned_full (P : List Nat) (K M rest : Nat) : turned P K M rest P.length = P.map fun x => x * K * M + rest := by simp [turned]
theorem turned_len (P : List Nat) (K M rest j : Nat) (h : j ≤ P.length) : (turned P K M rest j).length = P.length := by simp [turned]; omega
theorem turned_at {P : List Nat} {K M rest j x : Nat} (h : P[j]? = some x) : (turned P K M rest j)[j]? = some x := by
  have hj := (List.getElem?_eq_some_iff.1 h).1
  unfold turned
  rw [List.getElem?_append_right (by simp; omega), List.getElem?_drop]
  simp only [List.length_map, List.length_take, Nat.min_eq_left (Nat.le_of_lt hj), Nat.sub_self, Nat.add_zero]
  exact h
theorem turned_set {P : List Nat} {K M rest j x : Nat} (h : P[j]? = some x) : (turned P K M rest j).set j (x * K * M + rest) = turned P K M rest (j + 1) := by
  have hj := (List.getElem?_eq_some_iff.1 h).1
  have hd : P.drop j = x :: P.drop (j + 1) := by
    rw [List.drop_eq_getElem_cons hj]
    rw [List.getElem?_eq_getElem hj] at h; cases h; rfl
  unfold turned
  rw [List.set_append_right _ _ (by simp; omega), hd, List.take_add_one, h]
  simp [Nat.min_eq_left (Nat.le_of_lt hj)]

theorem brokenNext_c (bu bm bn br bp : Nat) (parts : List Sys) (a p : Auto) (node lt : Nat) (vo : Value) (out : List Int) (base : Nat) (w0 w : World) (h0 : Ground w0 bu bm bn br bp parts a p) (hx0 : Ext w0 w) (hb0 : w0.heap.size ≤ base) (hp : areParts parts = true) (ha : TabOk a) (hq : TabOk p)
    (hn : node ≤ 1099511627776) (hl : lt < 6) (hT : Deb w) (ho : IntsOwn 3 base w vo out) (hout : out.length + 4096 ≤ 4294967296) (hbase : base ≤ w.heap.size) (hb : ∀ x ∈ partsNext parts (node / p.next.length / a.next.length) (lt : Nat), x < 4096) (hlen : (partsNext parts (node / p.next.length / a.next.length) (lt : Nat)).length ≤ 4096) :
    Calls Tryz.prog 91 #[.int .i64 node, .int .i64 lt, vo, .pointer (some ⟨bu, 0, none⟩), .pointer (some ⟨bm, 0, none⟩), .pointer (some ⟨bn, 0, none⟩), .pointer (some ⟨br, 0, none⟩), .pointer (some ⟨bp, 0, none⟩)] w
      (Appends base vo (out ++ ints (brokenN parts a p node (lt : Nat))) w) := by
  have hbm0 := Nat.lt_of_lt_of_le h0.m.lt hb0
  have hbn0 := Nat.lt_of_lt_of_le h0.n.lt hb0
  obtain ⟨⟨vu, hu1, hu2⟩, hm, hnn, ⟨vr, hr1, hr2⟩, ⟨vs, vm, hp1, hp2⟩⟩ := h0.ext hx0
  obtain ⟨au, cu, rfl, -, hu3⟩ := hu2.open
  obtain ⟨ar, cr, rfl, -, hr3⟩ := hr2.open
  simp only [table_len] at hu1 hr1
  obtain ⟨n1, n2, n3⟩ := ha
  obtain ⟨m1, m2, m3⟩ := hq
  obtain ⟨M, hMd⟩ : ∃ M, Hid (M = p.next.length) := ⟨_, rfl⟩
  obtain ⟨K, hKd⟩ : ∃ K, Hid (K = a.next.length) := ⟨_, rfl⟩
  obtain ⟨d, hd⟩ : ∃ d, Hid (d = node / M) := ⟨_, rfl⟩
  obtain ⟨qa, hqa⟩ : ∃ qa, Hid (qa = d % K) := ⟨_, rfl⟩
  obtain ⟨qp, hqp⟩ : ∃ qp, Hid (qp = node % M) := ⟨_, rfl⟩
  obtain ⟨d2, hd2⟩ : ∃ d2, Hid (d2 = d / K) := ⟨_, rfl⟩
  rw [← hMd.out] at hm m1 m2 m3 hr1 hb hlen
  rw [← hKd.out] at hnn n1 n2 n3 hu1 hb hlen
  rw [← hd.out, ← hd2.out] at hb hlen
  have hqaK : qa < K := by rw [hqa.out]; exact Nat.mod_lt _ n1
  have hqpM : qp < M := by rw [hqp.out]; exact Nat.mod_lt _ m1
  obtain ⟨su, hsu⟩ : ∃ su, Hid (su = step a qa (lt : Nat)) := ⟨_, rfl⟩
  obtain ⟨sp, hsp⟩ : ∃ sp, Hid (sp = step p qp (lt : Nat)) := ⟨_, rfl⟩
  have hsuK : su < 12 := by rw [hsu.out]; have := n3 qa (lt : Nat) hqaK; omega
  have hspM : sp < 12 := by rw [hsp.out]; have := m3 qp (lt : Nat) hqpM; omega
  obtain ⟨b1, o1, rfl, -, hc1⟩ := hu3 qa _ (table_at a qa (by rw [← hKd.out]; exact hqaK))
  obtain ⟨b2, o2, rfl, -, hc2⟩ := hr3 qp _ (table_at p qp (by rw [← hMd.out]; exact hqpM))
  have g1 := hc1 qa _ (table_at a qa (by rw [← hKd.out]; exact hqaK)) lt hl
  have g2 := hc2 qp _ (table_at p qp (by rw [← hMd.out]; exact hqpM)) lt hl
  simp only [tabRow] at g1 g2
  rw [← hsu.out] at g1
  rw [← hsp.out] at g2
  have hd40 : d ≤ 1099511627776 := by rw [hd.out]; exact Nat.le_trans (Nat.div_le_self _ _) hn
  have hd240 : d2 ≤ 1099511627776 := by rw [hd2.out]; exact Nat.le_trans (Nat.div_le_self _ _) hd40
  have e1 : Int.tdiv (node : Int) (M : Int) = (d : Int) := by rw [hd.out]; simp [Int.tdiv_eq_ediv_of_nonneg]
  have e2 : Int.tmod (d : Int) (K : Int) = (qa : Int) := by rw [hqa.out]; simp [Int.tmod_eq_emod_of_nonneg]
  have e3 : Int.tmod (node : Int) (M : Int) = (qp : Int) := by rw [hqp.out]; simp [Int.tmod_eq_emod_of_nonneg]
  have e4 : Int.tdiv (d : Int) (K : Int) = (d2 : Int) := by rw [hd2.out]; simp [Int.tdiv_eq_ediv_of_nonneg]
  have hsm : su * M ≤ 12 * 12 := Nat.mul_le_mul (by omega) m2
  obtain ⟨rest, hrest⟩ : ∃ rest, Hid (rest = su * M + sp) := ⟨_, rfl⟩
  have hrest2 : rest ≤ 156 := by rw [hrest.out]; omega
  have e5 : IntKind.i64.wrap ((su : Int) * (M : Int)) = (su : Int) * (M : Int) := by rw [show (su : Int) * (M : Int) = ((su * M : Nat) : Int) by simp, IntKind.wrap_i64]; omega
  have e6 : IntKind.i64.wrap ((su : Int) * (M : Int) + (sp : Int)) = (rest : Int) := by rw [hrest.out, show (su : Int) * (M : Int) = ((su * M : Nat) : Int) by simp, IntKind.wrap_i64]; omega
  have e7 : IntKind.i64.wrap (d : Int) = (d : Int) := by rw [IntKind.wrap_i64]; omega
  have e8 : IntKind.i64.wrap (d2 : Int) = (d2 : Int) := by rw [IntKind.wrap_i64]; omega
  have k0 : ¬ K = 0 := by omega
  have m0 : ¬ M = 0 := by omega
  have i1 : (qa : Int) < (K : Int) := by omega
  have i2 : (qp : Int) < (M : Int) := by omega
  have i3 : (lt : Int) < 6 := by omega
  obtain ⟨ao, co, rfl⟩ := ho.shape
  clear hu3 hr3 hc1 hc2 hu2 hr2 n3 m3
  have D1 := fun d os => cell_regrown (hu1.cell 0 rfl) d os
  have D2 := fun d os => cell_regrown (hm.cell 0 rfl) d os
  have D3 := fun d os => cell_regrown (hnn.cell 0 rfl) d os
  have D4 := fun d os => cell_regrown (hr1.cell 0 rfl) d os
  have D5 := fun d os => cell_regrown g1 d os
  have D6 := fun d os => cell_regrown g2 d os
  go_enter Tryz.func91, Tryz.ntmps91
  go_wp2_with fail
  obtain ⟨Kc, HKc⟩ : ∃ Kc : FuncId → Array Value → World → Value → World → Prop, Hid (Kc = fun (_ : FuncId) (_ : Array Value) (w0 : World) (v : Value) (w' : World) => Ext w0 w') := ⟨_, rfl⟩
  refine wp_region_ext (Kc := Kc) 22 (by kernel_rfl) (by kernel_rfl) ?_
  simp only [List.take_succ_cons, List.take_zero]
  repeat (refine WalkE.pure rfl (fun K hK => ?_); simp only [PureDo]; go_simp; refine hK _ ?_; clear hK K)
  refine WalkE.nil (fun wn hwn hmn => ?_)
  simp only [List.drop_succ_cons, List.drop_zero, List.drop_nil]
  clear hmn HKc
  have hx : Ext w wn := (Ext.drew _).trans hwn
  clear hwn D1 D4 D5 D6 e5 e6 e2 e3
  go_wp2_with fail
  have E2 := fun d os => cell_regrown ((hm.ext hx).cell 0 rfl) d os
  have E3 := fun d os => cell_regrown ((hnn.ext hx).cell 0 rfl) d os
  have E7 := fun d os => cell_regrown ((hp1.ext hx).cell 0 rfl) d os
  have E8 := fun d os => cell_regrown ((hp1.ext hx).cell 1 rfl) d os
  clear D2 D3
  obtain ⟨Kc, HKc⟩ : ∃ Kc : FuncId → Array Value → World → Value → World → Prop, Hid (Kc = fun (_ : FuncId) (_ : Array Value) (w0 : World) (v : Value) (w' : World) => Ext w0 w') := ⟨_, rfl⟩
  refine wp_region_ext (Kc := Kc) 8 (by kernel_rfl) (by kernel_rfl) ?_
  simp only [List.take_succ_cons, List.take_zero]
  repeat (refine WalkE.pure rfl (fun K hK => ?_); simp only [PureDo]; go_simp; refine hK _ ?_; clear hK K)
  refine WalkE.nil (fun wm hwm hmm => ?_)
  simp only [List.drop_succ_cons, List.drop_zero, List.drop_nil]
  clear hmm HKc
  have hx2 : Ext w wm := hx.trans ((Ext.drew _).trans hwm)
  clear hwm E2 E3 E7 E8 e1 e4 e7 e8 hx
  have hpv : PartsV wm (.agg #[vs, vm]) parts := PartsV.mono hx2 hp2
  have hTm := hT.ext hx2
  have hom := IntsOwn.ext ho hx2
  have hbm := Nat.le_trans hbase hx2.size
  have HNX := Lib.hid (next_c (.agg #[vs, vm]) parts d2 lt (.slice ao out.length co) out base wm hpv hp hd240 hl hTm hom hout hbm)
  clear hpv hTm hom
  obtain ⟨PN, hPN⟩ : ∃ PN, Hid (PN = partsNext parts d2 (lt : Nat)) := ⟨_, rfl⟩
  rw [← hPN.out] at hb hlen HNX
  have HB := Lib.hid hb
  clear hb
  go_wp2_with (refine (HNX.out).mono ?_; rintro e w5 ⟨v5, rfl, hown5, ht5, hloc5⟩; obtain ⟨a5, c5, rfl⟩ := hown5.shape)
  simp only [ints_len]
  have hw5 : Below base wm w5 := ht5.below hbm fun b hb => (World.ownsRow.lt ho b hb).1
  have hloc6 : ∀ g, (Value.slice a5 (out.length + PN.length) c5).ownBlock = some g → (Value.slice ao out.length co).ownBlock = some g ∨ wm.heap.size ≤ g := fun g hg => hloc5 g (by cases a5 <;> exact hg)
  go_loopw [14] (fun i wr => ∃ j : Nat, j ≤ PN.length ∧ i = .int .i64 ((out.length + j : Nat) : Int) ∧ IntsOwn 3 base wr (.slice a5 (out.length + PN.length) c5) (out ++ ints (turned PN K M rest j)) ∧ w5.grownBy wr (Value.slice a5 (out.length + PN.length) c5).ownBlock) (fun i _ => out.length + PN.length - (intOf i).toNat)
  case atStart => exact ⟨0, by omega, rfl, by rw [turned_zero]; simpa [ints_len] using hown5, World.grownBy.refl _ _⟩
  case round =>
    obtain ⟨j, hj, rfl, hown, hgr⟩ := hrel
    by_cases hlt : j < PN.length
    · obtain ⟨x, hxj⟩ : ∃ x, PN[j]? = some x := ⟨_, List.getElem?_eq_getElem hlt⟩
      have hx4 := HB.out x (List.mem_of_getElem? hxj)
      have hll : (out ++ ints (turned PN K M rest j)).length = out.length + PN.length := by rw [List.length_append, ints_len, turned_len _ _ _ _ _ hj]
      have hown' := hown.own
      rw [hll] at hown'
      obtain ⟨g, rfl, hbg⟩ := own_some hown' (by omega)
      have hat : ((out ++ ints (turned PN K M rest j)).map (Value.int .i64))[out.length + j]? = some (.int .i64 x) := by
        rw [List.getElem?_map, List.getElem?_append_right (by omega), Nat.add_sub_cancel_left, ints_at (turned_at hxj)]; rfl
      have gx := own_cell hown' hat
      have HTS := Lib.hid (turned_set (K := K) (M := M) (rest := rest) hxj)
      obtain ⟨ix, hix⟩ : ∃ ix, ix = out.length + j := ⟨_, rfl⟩
      rw [← hix] at gx ⊢
      have fx := hown'.frozenAt ix
      have hixl : ix < out.length + PN.length := by omega
      have hixl' : (ix : Int) < (out.length : Int) + (PN.length : Int) := by omega
      have hixl2 : (ix : Int) < ((out.length + PN.length : Nat) : Int) := by omega
      have HIX := Lib.hid hix
      have hm1 : x * K ≤ 4096 * 12 := Nat.mul_le_mul (by omega) n2
      have hm2 : x * K * M ≤ 4096 * 12 * 12 := Nat.mul_le_mul hm1 m2
      have w1 : IntKind.i64.wrap ((x : Int) * (K : Int)) = (x : Int) * (K : Int) := by rw [show (x : Int) * (K : Int) = ((x * K : Nat) : Int) by simp, IntKind.wrap_i64]; omega
      have w2 : IntKind.i64.wrap ((x : Int) * (K : Int) * (M : Int)) = (x : Int) * (K : Int) * (M : Int) := by rw [show (x : Int) * (K : Int) * (M : Int) = ((x * K * M : Nat) : Int) by simp, IntKind.wrap_i64]; omega
      have w3 : IntKind.i64.wrap ((x : Int) * (K : Int) * (M : Int) + (rest : Int)) = ((x * K * M + rest : Nat) : Int) := by rw [show (x : Int) * (K : Int) * (M : Int) + (rest : Int) = ((x * K * M + rest : Nat) : Int) by simp, IntKind.wrap_i64]; omega
      generalize hV : x * K * M + rest = xv at w3 HTS
      have hbk : ∀ {b : Nat} {cs : Array Value} {T : TypeId}, Blk w b cs T → b < base → Blk wr b cs T := fun {b cs T} hB hlt => by
        have h1 := (hB.ext hx2).low hw5 hlt
        exact (hgr.block b h1.lt (fun he => by simp [Value.ownBlock] at he; omega)).trans h1
      have gM := (hbk hm hbm0).cell 0 rfl
      have gK := (hbk hnn hbn0).cell 0 rfl
      have D1 := fun d os => cell_regrown gM d os
      have D2 := fun d os => cell_regrown gK d os
      have D3 := fun d os => cell_regrown gx d os
      clear gM gK hbk hat hix hll hxj
      go_wp2_with fail
      obtain ⟨Kc, HKc⟩ : ∃ Kc : FuncId → Array Value → World → Value → World → Prop, Hid (Kc = fun (_ : FuncId) (_ : Array Value) (w0 : World) (v : Value) (w' : World) => Ext w0 w') := ⟨_, rfl⟩
      refine wp_region_ext (Kc := Kc) 13 (by kernel_rfl) (by kernel_rfl) ?_
      simp only [List.take_succ_cons, List.take_zero]
      repeat (refine WalkE.pure rfl (fun K hK => ?_); simp only [PureDo]; go_simp; refine hK _ ?_; clear hK K)
      refine WalkE.nil (fun wz hwz hmz => ?_)
      simp only [List.drop_succ_cons, List.drop_zero, List.drop_nil]
      clear hmz HKc D1 D2 D3 w1 w2 w3
      have hx9 : Ext wr wz := (Ext.drew _).trans hwz
      have gz := hx9.cell gx
      have hownz := own_ext hown' hx9
      have fz := hownz.frozenAt ix
      clear hwz gx fx
      go_wp2_with fail
      obtain ⟨o1, p1⟩ := hownz.stored ix (.int .i64 xv)
      refine ⟨⟨j + 1, by omega, ?_, ?_, ?_⟩, by simp [intOf]; omega⟩
      · rw [HIX.out]; go_num
      · unfold IntsOwn
        have e : (out ++ ints (turned PN K M rest (j + 1))).map (Value.int .i64) = ((out ++ ints (turned PN K M rest j)).map (Value.int .i64)).set ix (.int .i64 xv) := by
          rw [← HTS.out, HIX.out, List.map_append, List.map_append, List.set_append_right _ _ (by simp), List.length_map, Nat.add_sub_cancel_left]
          simp [ints]
        rw [e, List.length_append, ints_len, turned_len _ _ _ _ _ (by omega)]
        exact o1
      · exact (hgr.trans (b := wr) (c := wz) ⟨hx9.os, hx9.tape, hx9.output, hx9.size, fun k hk _ => hx9.block k hk⟩).trans p1
    · obtain rfl : j = PN.length := by omega
      go_wp2_with fail
      go_ret
      refine ⟨_, rfl, ?_, ?_, fun g hg => ?_⟩
      · have e : brokenN parts a p node (lt : Nat) = turned PN K M rest PN.length := by
          unfold brokenN
          rw [turned_full, ← hMd.out, ← hKd.out, ← hd.out, ← hd2.out, ← hqa.out, ← hqp.out, ← hsu.out, ← hsp.out, ← hPN.out, ← hrest.out]
        rw [e]; exact hown
      · refine (Tnd.ext hx2).trans ⟨hgr.os.trans ht5.os, hgr.tape.trans ht5.tape, hgr.output.trans ht5.output, Nat.le_trans ht5.size hgr.size, fun b hb hnb => ?_⟩
        refine (hgr.block b (Nat.lt_of_lt_of_le hb ht5.size) fun he => ?_).trans (ht5.block b hb hnb)
        rcases hloc6 b he.symm with h1 | h1
        · exact hnb h1
        · omega
      · rcases hloc6 g hg with h1 | h1
        · exact .inl h1
        · exact .inr (Nat.le_trans hx2.size h1)

def brokenG (a p : Auto) (node : Nat) : Bool := accepts a (node / p.next.length % a.next.length) && !accepts p (node % p.next.length)
def AccOk (a : Auto) : Prop := ∀ q, q < a.next.length → a.accept[q]? = some (accepts a q)
theorem AccOk.valid {a : Auto} (h : autoValid a = true) : AccOk a := fun q hq => accepts_at h hq
structure Ground2 (w : World) (b4 ba bm bn b5 : Nat) (a p : Auto) : Prop where
  a4 : Blk w b4 #[.pointer (some ⟨ba, 0, none⟩)] 145
  aa : ∃ vn va, Blk w ba #[.int .i64 a.alphabet, vn, va] 31 ∧ IntssV w vn a.next ∧ BoolsV w va a.accept
  m : Blk w bm #[.int .i64 (p.next.length : Nat)] 3
  n : Blk w bn #[.int .i64 (a.next.length : Nat)] 3
  pp : ∃ vn va, Blk w b5 #[.int .i64 p.alphabet, vn, va] 31 ∧ IntssV w vn p.next ∧ BoolsV w va p.accept
theorem Ground2.ext {w w' : World} {b4 ba bm bn b5 : Nat} {a p : Auto} (h : Ground2 w b4 ba bm bn b5 a p) (he : Ext w w') : Ground2 w' b4 ba bm bn b5 a p := by
  obtain ⟨h1, ⟨vn, va, h2, h3, h4⟩, h5, h6, ⟨vn', va', h7, h8, h9⟩⟩ := h
  exact ⟨h1.ext he, ⟨vn, va, h2.ext he, h3.mono he, h4.mono he⟩, h5.ext he, h6.ext he, ⟨vn', va', h7.ext he, h8.mono he, h9.mono he⟩⟩

theorem brokenGoal_c (b4 ba bm bn b5 : Nat) (a p : Auto) (node : Nat) (w : World) (h : Ground2 w b4 ba bm bn b5 a p) (ha : TabOk a) (hq : TabOk p) (ca : AccOk a) (cp : AccOk p) (hn : node ≤ 1099511627776) :
    Calls Tryz.prog 92 #[.int .i64 node, .pointer (some ⟨b4, 0, none⟩), .pointer (some ⟨bm, 0, none⟩), .pointer (some ⟨bn, 0, none⟩), .pointer (some ⟨b5, 0, none⟩)] w (Grows (.bool (brokenG a p node)) w) := by
  obtain ⟨h4, ⟨vn, va, hA, -, hva⟩, hm, hnn, ⟨vn', va', hP, -, hvp⟩⟩ := h
  obtain ⟨au, cu, rfl, -, hu3⟩ := hva.open
  obtain ⟨ar, cr, rfl, -, hr3⟩ := hvp.open
  obtain ⟨n1, n2, -⟩ := ha
  obtain ⟨m1, m2, -⟩ := hq
  obtain ⟨M, hMd⟩ : ∃ M, Hid (M = p.next.length) := ⟨_, rfl⟩
  obtain ⟨K, hKd⟩ : ∃ K, Hid (K = a.next.length) := ⟨_, rfl⟩
  obtain ⟨d, hd⟩ : ∃ d, Hid (d = node / M) := ⟨_, rfl⟩
  obtain ⟨qa, hqa⟩ : ∃ qa, Hid (qa = d % K) := ⟨_, rfl⟩
  obtain ⟨qp, hqp⟩ : ∃ qp, Hid (qp = node % M) := ⟨_, rfl⟩
  rw [← hMd.out] at hm m1 m2
  rw [← hKd.out] at hnn n1 n2
  have hqaK : qa < K := by rw [hqa.out]; exact Nat.mod_lt _ n1
  have hqpM : qp < M := by rw [hqp.out]; exact Nat.mod_lt _ m1
  have ta := ca qa (by rw [← hKd.out]; exact hqaK)
  have tp := cp qp (by rw [← hMd.out]; exact hqpM)
  have la := (List.getElem?_eq_some_iff.1 ta).1
  have lp := (List.getElem?_eq_some_iff.1 tp).1
  obtain ⟨b1, o1, rfl, -, hc1⟩ := hu3 qa _ ta
  obtain ⟨b2, o2, rfl, -, hc2⟩ := hr3 qp _ tp
  have g1 : w.cell? ⟨b1, o1 + qa, none⟩ = some (.bool (accepts a qa)) := by have := hc1 qa _ ta; rw [Nat.mul_one] at this; exact this
  have g2 : w.cell? ⟨b2, o2 + qp, none⟩ = some (.bool (accepts p qp)) := by have := hc2 qp _ tp; rw [Nat.mul_one] at this; exact this
  have hd40 : d ≤ 1099511627776 := by rw [hd.out]; exact Nat.le_trans (Nat.div_le_self _ _) hn
  have e1 : Int.tdiv (node : Int) (M : Int) = (d : Int) := by rw [hd.out]; simp [Int.tdiv_eq_ediv_of_nonneg]
  have e2 : Int.tmod (d : Int) (K : Int) = (qa : Int) := by rw [hqa.out]; simp [Int.tmod_eq_emod_of_nonneg]
  have e3 : Int.tmod (node : Int) (M : Int) = (qp : Int) := by rw [hqp.out]; simp [Int.tmod_eq_emod_of_nonneg]
  have e7 : IntKind.i64.wrap (d : Int) = (d : Int) := by rw [IntKind.wrap_i64]; omega
  have k0 : ¬ K = 0 := by omega
  have m0 : ¬ M = 0 := by omega
  have i1 : (qa : Int) < (a.accept.length : Int) := by omega
  have i2 : (qp : Int) < (p.accept.length : Int) := by omega
  have hG : Hid (brokenG a p node = (accepts a qa && !accepts p qp)) := by
    show _ = _
    unfold brokenG
    rw [← hMd.out, ← hKd.out, ← hd.out, ← hqa.out, ← hqp.out]
  generalize accepts a qa = x1 at g1 hG
  generalize accepts p qp = x2 at g2 hG
  have D1 := h4.cell 0 rfl
  have D2 := hA.cell 2 rfl
  have D3 := hm.cell 0 rfl
  have D4 := hnn.cell 0 rfl
  have D5 := hP.cell 2 rfl
  clear hu3 hr3 hc1 hc2 ta tp hva hvp
  cases x1 with
  | true =>
    go_enter Tryz.func92, Tryz.ntmps92
    go_wp2_with fail
    go_quiet (fail)
    go_wp2_with fail
    go_ret
    exact Grows.mk (by rw [hG.out]; rfl) (Ext.drewN _ _)
  | false =>
    go_enter Tryz.func92, Tryz.ntmps92
    go_wp2_with fail
    go_quiet (fail)
    go_wp2_with fail
    go_ret
    exact Grows.mk (by rw [hG.out]; rfl) (Ext.drewN _ _)
end Go.Proofs.YtanekmfifmkbmaaGreatDoor

namespace Go.Proofs.YtanekmfifmkbmaaGreatDoor
set_option linter.unusedSimpArgs false
set_option linter.unusedVariables false
open Go.RowKit

set_option maxHeartbeats 1600000
set_option maxRecDepth 100000

def TabOwn (w : World) (v : Value) (x : Auto) : Prop := ∃ base cells, w.ownsRow base 135 6 v x.next.length cells ∧ RowsTo cells x.next.length (tabRow x)
theorem TabOwn.tab {w : World} {v : Value} {x : Auto} (h : TabOwn w v x) : TabV w v (table x) := by
  obtain ⟨base, cells, hI, hR⟩ := h
  rw [← table_len x] at hI
  refine SlV_of_own hI fun g cap hv i f hf l hl => ?_
  cases hv
  have hi := (List.getElem?_eq_some_iff.1 hf).1
  rw [table_len] at hi
  rw [table_at x i hi] at hf
  cases hf
  exact own_cell hI (hR i l hi hl)
theorem TabOwn.mono {w w' : World} {v : Value} {x : Auto} (h : TabOwn w v x) (he : Ext w w') : TabOwn w' v x := let ⟨b, cs, h1, h2⟩ := h; ⟨b, cs, own_ext h1 he, h2⟩
theorem TabOwn.store {w : World} {v : Value} {x : Auto} (h : TabOwn w v x) {g : Nat} {cs : Array Value} {T : TypeId} (hG : Blk w g cs T) (hne : T ≠ 135) (j : Nat) (u : Value) : TabOwn (w.setCell ⟨g, j, none⟩ u) v x := let ⟨b, ds, h1, h2⟩ := h; ⟨b, ds, own_store h1 hG hne j u, h2⟩

theorem tableOf_f (v : Value) (x : Auto) (w : World) (hv : AutoV w v x) (hx : AutoFit x) (hM : x.next.length ≤ 100000) :
    Calls Tryz.prog 90 #[v] w (Gives (fun v w' => TabOwn w' v x) w) := by
  obtain ⟨vn, va, rfl, h2, -⟩ := hv
  have HX := Lib.hid hx
  have ha := hx.a0
  have ha2 := hx.a63
  have hn0 := hx.n1
  have hn := hM
  clear hx
  obtain ⟨an, cn, rfl, hn1, hn2⟩ := h2.open
  clear h2
  have hls := lettersTo_len x.alphabet 6
  go_enter Tryz.func90, Tryz.ntmps90
  go_wp2_with (at_make; refine make1 rfl rfl Tryz.underlying147 infoTab rfl rfl rfl rfl (by omega) (by decide) (Nat.le_refl _) ?_; intro w1 hown hext hlt; have c0 : w1.cell? ⟨w.heap.size, 0, none⟩ = some (.int .i64 x.alphabet) := hext.new 0 rfl; have c1 : w1.cell? ⟨w.heap.size, 1, none⟩ = some (.slice an x.next.length cn) := hext.new 1 rfl)
  refine (lettersOf_o _ _ ha ha2).mono ?_
  rintro e w2 ⟨vl, rfl, he2, hl⟩
  obtain ⟨al, cl, rfl⟩ := hl.shape
  simp only [World.size_alloc] at hown hlt
  have I0 : TabInv 135 3 w w2 (w.heap.size + 1) x.next.length (.slice al (letters x.alphabet).length cl) (letters x.alphabet) _ := ⟨own_base (own_ext hown he2) (by omega), hl.low (by omega), hext.peel.trans he2⟩
  have d1 := he2.cell c1
  clear c0 c1 hown hlt hl
  have hls : (letters x.alphabet).length ≤ 6 := hls
  go_wp2_with fail
  go_loopw [20] (fun i wr => ∃ (k : Nat) (cells : List Value), k ≤ x.next.length ∧ i = .int .i64 k ∧ TabInv 135 3 w wr (w.heap.size + 1) x.next.length (.slice al (letters x.alphabet).length cl) (letters x.alphabet) cells ∧ RowsTo cells k (tabRow x)) (fun i _ => x.next.length - (intOf i).toNat)
  case atStart => exact ⟨0, _, by omega, rfl, I0, fun q l hq => by omega⟩
  case round =>
    obtain ⟨k, cells, hk, rfl, I, hR⟩ := hrel
    by_cases hlt : k < x.next.length
    · obtain ⟨row, hr, hrl, -⟩ := HX.out.row hlt
      obtain ⟨b, off, rfl, -, hc⟩ := hn2 k row hr
      obtain ⟨vr, g1, hvr⟩ := hc k row hr
      rw [Nat.mul_one] at g1
      replace g1 := I.ext.cell g1
      obtain ⟨ar, cr, rfl, -, hrr⟩ := hvr.open
      have HR := Lib.hid hr
      have HRR := Lib.hid hrr
      clear hc hn2 hr hvr hrr hrl
      go_wp2_with fail
      go_loopw [25] (fun j wr => ∃ (m : Nat) (cells : List Value), m ≤ 6 ∧ j = .int .i64 m ∧ TabInv 135 3 w wr (w.heap.size + 1) x.next.length (.slice al (letters x.alphabet).length cl) (letters x.alphabet) cells ∧ RowsTo cells k (tabRow x) ∧ RowTo cells k m (fun _ => (k : Int))) (fun j _ => 6 - (intOf j).toNat)
      case atStart => exact ⟨0, _, by omega, rfl, I, hR, fun l hl => by omega⟩
      case round =>
        clear I hR
        obtain ⟨m, cells, hm, rfl, I, hR, hR2⟩ := hrel
        by_cases hm6 : m < 6
        · obtain ⟨u, -, gc⟩ := I.cell (j := k * 6 + m) (by omega)
          have fz := I.own.frozenAt (k * 6 + m)
          have hcl := I.len
          go_wp2_with fail
          exact ⟨⟨m + 1, _, by omega, by go_num, I.store (by omega) _ _, hR.set, hR2.push (by omega)⟩, by simp [intOf]; omega⟩
        · obtain rfl : m = 6 := by omega
          rw [show ((6 : Nat) : Int) = 6 from rfl]
          go_wp2_with fail
          go_loopw [37] (fun j wr => ∃ (m : Nat) (cells : List Value), m ≤ (letters x.alphabet).length ∧ j = .int .i64 m ∧ TabInv 135 3 w wr (w.heap.size + 1) x.next.length (.slice al (letters x.alphabet).length cl) (letters x.alphabet) cells ∧ RowsTo cells k (tabRow x) ∧ RowTo cells k 6 (rowTo x k m)) (fun j _ => (letters x.alphabet).length - (intOf j).toNat)
          case atStart => exact ⟨0, _, by omega, rfl, I, hR, hR2.eq fun l _ => (rowTo_zero x k l).symm⟩
          case round =>
            clear I hR hR2
            obtain ⟨m, cells, hm, rfl, I, hR, hR2⟩ := hrel
            by_cases hml : m < (letters x.alphabet).length
            · obtain ⟨y, hy⟩ : ∃ y, (letters x.alphabet)[m]? = some y := ⟨_, List.getElem?_eq_getElem hml⟩
              obtain ⟨hb, h0, h6, hm6⟩ := letters_mem _ _ _ ha2 hy
              obtain ⟨j, rfl⟩ := Int.eq_ofNat_of_zero_le h0
              have hp := ((letters_place _ _ m ha ha2 h0 h6 hm6).1 hy).2
              obtain ⟨row', z, hr', hz, rfl, -⟩ := HX.out.step_facts hlt hb
              rw [HR.out] at hr'
              cases hr'
              rw [hp] at hz
              obtain ⟨b2, off2, rfl, -, hc2⟩ := HRR.out m _ hz
              have g2 := I.ext.cell (hc2 m _ hz)
              rw [Nat.mul_one] at g2
              obtain ⟨al', cl', heq, -, hll⟩ := I.lets.ints.open
              cases heq
              obtain ⟨b3, off3, rfl, -, hc3⟩ := hll m _ hy
              have g3 := hc3 m _ hy
              rw [Nat.mul_one] at g3
              unfold IntAt at g3
              have hcl := I.len
              have HQ := Lib.hid (rowTo_succ HX.out (k := k) hy)
              have hj6 : j < 6 := by omega
              have hj6i : (j : Int) < 6 := by omega
              have hzl := (List.getElem?_eq_some_iff.1 hz).1
              clear hc2 hc3 hll hy hz hb hp HRR h0 h6
              go_wp2_with fail
              have D2 := fun d os => cell_regrown g2 d os
              obtain ⟨Kc, HKc⟩ : ∃ Kc : FuncId → Array Value → World → Value → World → Prop, Hid (Kc = fun _ _ _ _ _ => False) := ⟨_, rfl⟩
              refine wp_region_ext (Kc := Kc) 9 (by kernel_rfl) (by kernel_rfl) ?_
              simp only [List.take_succ_cons, List.take_zero]
              repeat (refine WalkE.pure rfl (fun K hK => ?_); simp only [PureDo]; go_simp; refine hK _ ?_; clear hK K)
              refine WalkE.nil (fun wn hwn hmn => ?_)
              simp only [List.drop_succ_cons, List.drop_zero, List.drop_nil]
              clear hmn HKc D2 g2 g3
              have I2 := I.mono ((Ext.drew _).trans hwn)
              obtain ⟨u, -, gc⟩ := I2.cell (j := k * 6 + j) (by omega)
              have fz := I2.own.frozenAt (k * 6 + j)
              go_wp2_with fail
              exact ⟨⟨m + 1, _, by omega, by go_num, I2.store (by omega) _ _, hR.set, hR2.put (by omega) (by omega) HQ.out.1 HQ.out.2⟩, by simp [intOf]; omega⟩
            · obtain rfl : m = (letters x.alphabet).length := by omega
              go_wp2_with fail
              exact ⟨⟨k + 1, _, by omega, by go_num, I, hR.push (hR2.eq fun l hl => rowTo_full HX.out k l hl)⟩, by simp [intOf]; omega⟩
    · obtain rfl : k = x.next.length := by omega
      go_wp2_with fail
      go_ret
      refine Gives.mk rfl I.ext ?_
      exact ⟨_, _, I.own, hR⟩
theorem tableOf_o (v : Value) (x : Auto) (w : World) (hv : AutoV w v x) (hx : autoValid x = true) :
    Calls Tryz.prog 90 #[v] w (Gives (fun v w' => TabOwn w' v x) w) :=
  tableOf_f v x w hv (AutoFit.of hx) (by have := autoValid_facts hx; omega)
end Go.Proofs.YtanekmfifmkbmaaGreatDoor

namespace Go.Proofs.YtanekmfifmkbmaaGreatDoor
set_option linter.unusedSimpArgs false
set_option linter.unusedVariables false
open Go.RowKit

set_option maxHeartbeats 1600000
set_option maxRecDepth 100000

theorem partsGo_len (l : Int) (rs : List Sys) (node w : Nat) (R : List Nat) : (partsGo l rs node w R).length ≤ 16 ^ rs.length * R.length := by
  induction rs generalizing node w R with
  | nil => simp [partsGo]
  | cons s rs ih =>
    rw [partsGo]
    refine Nat.le_trans (ih _ _ _) ?_
    have h1 : ((sysBits s (node % s.states.toNat) l).flatMap fun q => R.map fun r => q * w + r).length ≤ 16 * R.length := by
      have h2 := moreTo_len (sysBits s (node % s.states.toNat) l) R w (sysBits s (node % s.states.toNat) l).length
      rw [moreTo_full] at h2
      exact Nat.le_trans h2 (Nat.mul_le_mul_right _ (sysBits_len _ _ _))
    have := Nat.mul_le_mul_left (16 ^ rs.length) h1
    rw [List.length_cons, Nat.pow_succ, Nat.mul_assoc]
    exact this
theorem partsNext_len {parts : List Sys} (h : parts.length ≤ 3) (node : Nat) (l : Int) : (partsNext parts node l).length ≤ 4096 := by
  have := partsGo_len l parts.reverse node 1 [0]
  unfold partsNext
  have h2 : 16 ^ parts.reverse.length ≤ 16 ^ 3 := Nat.pow_le_pow_right (by omega) (by simpa using h)
  simp only [List.length_singleton, Nat.mul_one] at this
  exact Nat.le_trans this h2
theorem partsNext_lt {parts : List Sys} (hv : ∀ s ∈ parts, sysValid s = true) (node : Nat) (l : Int) : ∀ x ∈ partsNext parts node l, x < (partSizes parts).prod := by
  intro x hx
  have h1 := (partsNext_mem parts hv node l x).1 hx
  have hlen : (decode (partSizes parts) node).length = parts.length := by rw [decode_len]; simp [partSizes]
  have h2 := combos_lt (partPairs parts (decode (partSizes parts) node) l) [0] 1 (by simp) (fun p hp c hc => by
    unfold partPairs at hp
    obtain ⟨⟨s, q⟩, hsq, rfl⟩ := List.mem_map.1 hp
    obtain ⟨i, hi, he⟩ := List.getElem_of_mem hsq
    rw [List.getElem_zip] at he
    simp only [Prod.mk.injEq] at he
    obtain ⟨h3, h4⟩ := he
    have hi' : i < parts.length := by simp at hi; omega
    have hs : sysValid s = true := hv s (h3 ▸ List.getElem_mem hi')
    have hal := valid_alpha hs
    refine ch_lt hs ?_ l c hc
    refine decode_lt (partSizes parts) node i s.states.toNat q ?_ (by omega) (by rw [← h4]; exact List.getElem?_eq_getElem (by omega))
    unfold partSizes
    rw [List.getElem?_map, List.getElem?_eq_getElem hi', h3]; rfl) x h1
  have e : ((partPairs parts (decode (partSizes parts) node) l).map (·.1)).prod = (partSizes parts).prod := by
    unfold partPairs partSizes
    rw [List.map_map]
    have : ((fun x : Nat × List Nat => x.1) ∘ fun p : Sys × Nat => (p.1.states.toNat, sysCh p.1 p.2 l)) = (fun s : Sys => s.states.toNat) ∘ Prod.fst := rfl
    rw [this, ← List.map_map, List.map_fst_zip (by rw [decode_len]; simp)]
  rw [e] at h2
  omega
theorem prod_4096 {parts : List Sys} (hp : areParts parts = true) : (partSizes parts).prod ≤ 4096 ∧ 1 ≤ (partSizes parts).prod ∧ parts.length ≤ 3 ∧ ∀ s ∈ parts, sysValid s = true := by
  simp only [areParts, Bool.and_eq_true, decide_eq_true_eq, List.all_eq_true] at hp
  obtain ⟨⟨p1, p2⟩, p3⟩ := hp
  refine ⟨Nat.le_trans (part_prod_le p3) (Nat.pow_le_pow_right (n := 16) (by omega) p2), ?_, p2, p3⟩
  have : ∀ l : List Sys, (∀ s ∈ l, sysValid s = true) → 1 ≤ (partSizes l).prod := by
    intro l
    induction l with
    | nil => intro _; simp [partSizes]
    | cons s l ih =>
      intro h
      have h1 := ih fun t ht => h t (by simp [ht])
      have h2 := valid_alpha (h s (by simp))
      unfold partSizes at h1 ⊢
      simp only [List.map_cons, List.prod_cons]
      exact Nat.mul_pos (by omega) h1
  exact this parts p3
theorem brokenN_len {parts : List Sys} (h : parts.length ≤ 3) (a p : Auto) (node : Nat) (l : Int) : (brokenN parts a p node l).length ≤ 4096 := by
  unfold brokenN; rw [List.length_map]; exact partsNext_len h _ _
theorem brokenN_lt {parts : List Sys} (hv : ∀ s ∈ parts, sysValid s = true) {a p : Auto} (ha : TabOk a) (hp : TabOk p) (node : Nat) (l : Int) : ∀ x ∈ brokenN parts a p node l, x < (partSizes parts).prod * a.next.length * p.next.length := by
  intro x hx
  unfold brokenN at hx
  obtain ⟨y, hy, rfl⟩ := List.mem_map.1 hx
  have h1 := partsNext_lt hv _ _ y hy
  have h2 := ha.lt (node / p.next.length % a.next.length) l (Nat.mod_lt _ ha.n1)
  have h3 := hp.lt (node % p.next.length) l (Nat.mod_lt _ hp.n1)
  generalize step a (node / p.next.length % a.next.length) l = su at h2 ⊢
  generalize step p (node % p.next.length) l = sp at h3 ⊢
  generalize (partSizes parts).prod = pr at h1 ⊢
  have h4 : (y + 1) * a.next.length ≤ pr * a.next.length := Nat.mul_le_mul_right _ h1
  rw [Nat.add_mul, Nat.one_mul] at h4
  have h5 : (y * a.next.length + su + 1) * p.next.length ≤ pr * a.next.length * p.next.length := Nat.mul_le_mul_right _ (by omega)
  rw [Nat.add_mul, Nat.add_mul, Nat.one_mul] at h5
  omega
theorem letters_asc (a : Int) : Asc (letters a) := by
  have : (letters a).Pairwise (· < ·) := by
    unfold letters lettersTo
    refine List.Pairwise.filter _ ?_
    rw [List.pairwise_map]
    refine List.Pairwise.imp ?_ (List.pairwise_lt_range (n := 6))
    intro x y h; simpa using h
  intro i j x y hij hx hy
  rw [List.pairwise_iff_getElem] at this
  obtain ⟨hi, rfl⟩ := List.getElem?_eq_some_iff.1 hx
  obtain ⟨hj, rfl⟩ := List.getElem?_eq_some_iff.1 hy
  exact this i j hi hj hij
theorem letters_lt6 {a : Int} (h : a ≤ 63) : ∀ l ∈ letters a, 0 ≤ l ∧ l < 6 := by
  intro l hl
  obtain ⟨m, hm, rfl⟩ := List.getElem_of_mem hl
  have := letters_mem a _ m h (List.getElem?_eq_getElem hm)
  exact ⟨this.2.1, this.2.2.1⟩

def allLetters (parts : List Sys) (a : Auto) : Int := ((orTo parts parts.length ||| a.alphabet.toNat : Nat) : Int)
def BrokenW (parts : List Sys) (a p : Auto) : List Int → Prop := Wins (brokenN parts a p) (letters (allLetters parts a)) [0] (brokenG a p)

theorem IntsOwn.one (e : TypeId) (w : World) (x : Int) : IntsOwn e w.heap.size (w.alloc (.cells #[.int .i64 x] e)) (.slice (some ⟨w.heap.size, 0, none⟩) 1 1) [x] :=
  ⟨by simp, .inr ⟨w.heap.size, 1, #[.int .i64 x], rfl, Nat.le_refl _, heap_alloc_new w _, Nat.le_refl _, by unfold maxLen; omega, by simp, by simp⟩⟩

theorem enter_next (args : Array Value) (w : World) : (callFunc 91 args).run Tryz.prog w = .ok (.enter 91 args) w := rfl
theorem enter_goal (args : Array Value) (w : World) : (callFunc 92 args).run Tryz.prog w = .ok (.enter 92 args) w := rfl

theorem nextIs_broken {w0 : World} {bu bm bn br bp : Nat} {parts : List Sys} {a p : Auto} (h0 : Ground w0 bu bm bn br bp parts a p) (hp : areParts parts = true) (ha : TabOk a) (hq : TabOk p) (hT : Deb w0) {al : Int} (hal : al ≤ 63) :
    NextIs w0 ((partSizes parts).prod * a.next.length * p.next.length) 4096 (letters al) (.func (.func 91) #[] #[.pointer (some ⟨bu, 0, none⟩), .pointer (some ⟨bm, 0, none⟩), .pointer (some ⟨bn, 0, none⟩), .pointer (some ⟨br, 0, none⟩), .pointer (some ⟨bp, 0, none⟩)]) (brokenN parts a p) := by
  obtain ⟨hpr, hpr1, hpl3, hpall⟩ := prod_4096 hp
  have hKM : (partSizes parts).prod * a.next.length ≤ 49152 := Nat.mul_le_mul hpr ha.n12
  have hKM2 : (partSizes parts).prod * a.next.length * p.next.length ≤ 589824 := Nat.mul_le_mul hKM hq.n12
  refine ⟨⟨_, _, rfl, enter_next, fun w' k l vo out b hx hk hl ho hb0 hb1 hout => ?_⟩, fun k l _ _ => brokenN_len hpl3 a p k l, fun k l _ _ => brokenN_lt hpall ha hq k l⟩
  obtain ⟨hl0, hl6⟩ := letters_lt6 hal l hl
  obtain ⟨lt, rfl⟩ := Int.eq_ofNat_of_zero_le hl0
  exact brokenNext_c bu bm bn br bp parts a p k lt vo out b w0 w' h0 hx hb0 hp ha hq (by omega) (by omega) (hT.ext hx) ho hout hb1 (fun x hx => Nat.lt_of_lt_of_le (partsNext_lt hpall _ _ x hx) hpr) (partsNext_len hpl3 _ _)

theorem goalIs_broken {w0 : World} {b4 ba bm bn b5 : Nat} {a p : Auto} (h : Ground2 w0 b4 ba bm bn b5 a p) (ha : autoValid a = true) (hq : autoValid p = true) {n : Nat} (hn : n ≤ 1099511627776) :
    GoalIs w0 n (.func (.func 92) #[] #[.pointer (some ⟨b4, 0, none⟩), .pointer (some ⟨bm, 0, none⟩), .pointer (some ⟨bn, 0, none⟩), .pointer (some ⟨b5, 0, none⟩)]) (brokenG a p) :=
  ⟨⟨_, _, rfl, enter_goal, fun w' k hx hk => brokenGoal_c b4 ba bm bn b5 a p k w' (h.ext hx) (TabOk.valid ha) (TabOk.valid hq) (AccOk.valid ha) (AccOk.valid hq) (by omega)⟩⟩

def PtrAuto (w : World) (v : Value) (a : Auto) : Prop := (v = .pointer none ∧ a = trivAuto) ∨ ∃ b, v = .pointer (some ⟨b, 0, none⟩) ∧ ∃ vn va, Blk w b #[.int .i64 a.alphabet, vn, va] 31 ∧ IntssV w vn a.next ∧ BoolsV w va a.accept

set_option maxHeartbeats 1600000 in
theorem firstBroken_c (v va vp : Value) (parts : List Sys) (a p : Auto) (w : World) (hv : SyssV w v parts) (hlp : parts.length ≤ 1048576) (hp : areParts parts = true) (hA : PtrAuto w va a) (ha : autoValid a = true) (hvp : AutoV w vp p) (hpp : autoValid p = true) (hT : Deb w) :
    Calls Tryz.prog 47 #[v, va, vp] w (FoundEnd (BrokenW parts a p) w) := by
  obtain ⟨vnp, vap, rfl, hP1, hP2⟩ := hvp
  obtain ⟨aP1, cP1, rfl, -, -⟩ := hP1.open
  obtain ⟨aP2, cP2, rfl, -, -⟩ := hP2.open
  obtain ⟨hpr, hpr1, hpl3, hpall⟩ := prod_4096 hp
  have hPall := Lib.hid hpall
  have HP := Lib.hid hp
  clear hpall hp
  obtain ⟨oa, rfl⟩ : ∃ oa, va = .pointer oa := by
    rcases hA with ⟨rfl, -⟩ | ⟨b, rfl, -⟩
    · exact ⟨_, rfl⟩
    · exact ⟨_, rfl⟩
  go_enter Tryz.func47, Tryz.ntmps47
  obtain ⟨wo, hwo⟩ : ∃ wo, wo = (w.alloc (.cells #[.pointer oa] 145)).alloc (.cells #[.int .i64 p.alphabet, .slice aP1 p.next.length cP1, .slice aP2 p.accept.length cP2] 31) := ⟨_, rfl⟩
  have he : Ext w wo := by rw [hwo]; exact (Ext.alloc _ _).trans (Ext.alloc _ _)
  have h4 : Blk wo w.heap.size #[.pointer oa] 145 := by rw [hwo]; exact (Blk.new _ _ _).ext (Ext.alloc _ _)
  have h5 : Blk wo (w.heap.size + 1) #[.int .i64 p.alphabet, .slice aP1 p.next.length cP1, .slice aP2 p.accept.length cP2] 31 := by rw [hwo]; have := Blk.new (w.alloc (.cells #[.pointer oa] 145)) #[.int .i64 p.alphabet, .slice aP1 p.next.length cP1, .slice aP2 p.accept.length cP2] 31; rwa [World.size_alloc] at this
  go_wp2_with fail
  rw [← hwo]
  clear hwo
  obtain ⟨as1, cs1, rfl, -, -⟩ := hv.open
  refine (newParts_o _ parts _ (hv.mono he) hlp hPall.out).mono ?_
  rintro e w1 ⟨vpt, rfl, he1, vm, ps, rfl, hpt2⟩
  obtain ⟨am1, cm1, rfl, -, -⟩ := hpt2.movess.open
  go_wp2_with fail
  obtain ⟨w2, hw2⟩ : ∃ w2, w2 = w1.alloc (.cells #[.slice as1 parts.length cs1, .slice am1 parts.length cm1] 78) := ⟨_, rfl⟩
  have he2 : Ext w1 w2 := by rw [hw2]; exact Ext.alloc _ _
  have h8 : Blk w2 w1.heap.size #[.slice as1 parts.length cs1, .slice am1 parts.length cm1] 78 := by rw [hw2]; exact Blk.new _ _ _
  rw [← hw2]
  clear hw2
  have hx2 := (he.trans he1).trans he2
  refine (PartsAlphabet_c _ parts _ (hv.mono hx2) hlp).mono ?_
  rintro e w3 ⟨rfl, he3⟩
  have hx3 := hx2.trans he3
  have l1 : w.heap.size + 2 ≤ w1.heap.size := Nat.le_trans (Nat.le_trans (Nat.succ_le_of_lt h5.lt) he1.size) (Nat.le_refl _)
  have k4 := h4.ext ((he1.trans he2).trans he3)
  have k5 := h5.ext ((he1.trans he2).trans he3)
  have k8 := h8.ext he3
  have kmv := hpt2.ext (he2.trans he3)
  have c4 := k4.cell 0 rfl
  have f4 := k4.fr 0
  have HAl : Hid (partsAlphabet parts = (orTo parts parts.length : Nat)) := by show _ = _; unfold partsAlphabet; rw [if_pos HP.out]
  rw [HAl.out]
  have hA3 : PtrAuto w3 (.pointer oa) a := by
    rcases hA with h | ⟨b, h1, vn, vb, h2, h3, h4⟩
    · exact .inl h
    · exact .inr ⟨b, h1, vn, vb, h2.ext hx3, h3.mono hx3, h4.mono hx3⟩
  clear hA
  have k8lt := k8.lt
  generalize w1.heap.size = b8 at h8 k8 l1 k8lt ⊢
  clear he he1 he2 he3 h4 h5 h8 hpt2
  go_upto_if 21 with fail
  go_cut [] (fun wc => Ext w wc ∧ w3.heap.size ≤ wc.heap.size ∧ Blk wc (w.heap.size + 1) #[.int .i64 p.alphabet, .slice aP1 p.next.length cP1, .slice aP2 p.accept.length cP2] 31 ∧ Blk wc b8 #[.slice as1 parts.length cs1, .slice am1 parts.length cm1] 78 ∧ PartsV wc (.agg #[.slice as1 parts.length cs1, .slice am1 parts.length cm1]) parts ∧ ∃ ba, Blk wc w.heap.size #[.pointer (some ⟨ba, 0, none⟩)] 145 ∧ ∃ vn va, Blk wc ba #[.int .i64 a.alphabet, vn, va] 31 ∧ IntssV wc vn a.next ∧ BoolsV wc va a.accept)
  case first =>
    rcases hA3 with ⟨h1, rfl⟩ | ⟨b, h1, vn, vb, hb1, hb2, hb3⟩
    · cases h1
      have lt4 := k4.lt
      have c4' : ∀ o1 o2 o3, (((w3.alloc o1).alloc o2).alloc o3).cell? ⟨w.heap.size, 0, none⟩ = some (.pointer none) := fun _ _ _ => (k4.ext (((Ext.alloc _ _).trans (Ext.alloc _ _)).trans (Ext.alloc _ _))).cell 0 rfl
      have f4' : ∀ o1 o2 o3, (((w3.alloc o1).alloc o2).alloc o3).frozen? ⟨w.heap.size, 0, none⟩ = false := fun _ _ _ => (k4.ext (((Ext.alloc _ _).trans (Ext.alloc _ _)).trans (Ext.alloc _ _))).fr 0
      clear c4 f4
      go_wp2_with fail
      go_meet
      case rel =>
        have hch : Ext w3 (((w3.alloc (.cells #[.slice none 0 0] 80)).alloc (.cells #[.bool true] 4)).alloc (.cells #[.int .i64 0, .slice (some ⟨w3.heap.size, 0, none⟩) 1 1, .slice (some ⟨w3.heap.size + 1, 0, none⟩) 1 1] 31)) := ((Ext.alloc _ _).trans (Ext.alloc _ _)).trans (Ext.alloc _ _)
        have z1 : Blk (((w3.alloc (.cells #[.slice none 0 0] 80)).alloc (.cells #[.bool true] 4)).alloc (.cells #[.int .i64 0, .slice (some ⟨w3.heap.size, 0, none⟩) 1 1, .slice (some ⟨w3.heap.size + 1, 0, none⟩) 1 1] 31)) w3.heap.size #[.slice none 0 0] 80 := (Ext.blk ((Ext.alloc _ _).trans (Ext.alloc _ _)))
        have z2 : Blk (((w3.alloc (.cells #[.slice none 0 0] 80)).alloc (.cells #[.bool true] 4)).alloc (.cells #[.int .i64 0, .slice (some ⟨w3.heap.size, 0, none⟩) 1 1, .slice (some ⟨w3.heap.size + 1, 0, none⟩) 1 1] 31)) (w3.heap.size + 1) #[.bool true] 4 := Ext.blk1 (Ext.alloc _ _)
        have z3 := Ext.blk2 (Ext.refl (((w3.alloc (.cells #[.slice none 0 0] 80)).alloc (.cells #[.bool true] 4)).alloc (.cells #[.int .i64 0, .slice (some ⟨w3.heap.size, 0, none⟩) 1 1, .slice (some ⟨w3.heap.size + 1, 0, none⟩) 1 1] 31)))
        have z4 := k4.ext hch
        generalize (((w3.alloc (.cells #[.slice none 0 0] 80)).alloc (.cells #[.bool true] 4)).alloc (.cells #[.int .i64 0, .slice (some ⟨w3.heap.size, 0, none⟩) 1 1, .slice (some ⟨w3.heap.size + 1, 0, none⟩) 1 1] 31)) = wz at hch z1 z2 z3 z4 ⊢
        have lz := z4.lt
        have lz3 := hch.size
        have lz1 := z1.lt
        have lz2 := z2.lt
        have hxz : Ext w (wz.setCell ⟨w.heap.size, 0, none⟩ (.pointer (some ⟨w3.heap.size + 1 + 1, 0, none⟩))) := (hx3.trans hch).setCell (p := ⟨w.heap.size, 0, none⟩) (Nat.le_refl _) _
        refine ⟨hxz, by simp; omega, (k5.ext hch).other (p := ⟨w.heap.size, 0, none⟩) (by simp) _, (k8.ext hch).other (p := ⟨w.heap.size, 0, none⟩) (by simp only []; omega) _, ⟨_, _, rfl, hv.mono hxz, ((kmv.ext hch).store z4 (by decide) (by decide) 0 _).movess⟩, w3.heap.size + 1 + 1, z4.set 0 _, _, _, z3.other (p := ⟨w.heap.size, 0, none⟩) (by simp only []; omega) _, ?_, ?_⟩
        · refine ⟨_, 1, rfl, by simp [trivAuto], by decide, fun _ => ⟨w3.heap.size, 0, rfl, by simp; omega, fun i x hi => ?_⟩⟩
          obtain rfl : i = 0 := by have := (List.getElem?_eq_some_iff.1 hi).1; simp [trivAuto] at this; exact this
          simp [trivAuto] at hi
          subst hi
          exact ⟨.slice none 0 0, (z1.other (p := ⟨w.heap.size, 0, none⟩) (by simp only []; omega) _).cell 0 rfl, none, 0, rfl, by simp, by decide, fun h => by simp at h⟩
        · refine ⟨_, 1, rfl, by simp [trivAuto], by decide, fun _ => ⟨w3.heap.size + 1, 0, rfl, by simp; omega, fun i x hi => ?_⟩⟩
          obtain rfl : i = 0 := by have := (List.getElem?_eq_some_iff.1 hi).1; simp [trivAuto] at this; exact this
          simp [trivAuto] at hi
          subst hi
          exact (z2.other (p := ⟨w.heap.size, 0, none⟩) (by simp only []; omega) _).cell 0 rfl
    · cases h1
      go_wp2_with fail
      go_meet
      case rel => exact ⟨hx3, Nat.le_refl _, k5, k8, ⟨_, _, rfl, hv.mono hx3, kmv.movess⟩, b, k4, vn, vb, hb1, hb2, hb3⟩
  case rest =>
    obtain ⟨hxc, hsz, j5, j8, jpt, ba, j4, vnA, vaA, jA, jA1, jA2⟩ := hcut
    obtain ⟨aA1, cA1, rfl, -, -⟩ := jA1.open
    obtain ⟨aA2, cA2, rfl, -, -⟩ := jA2.open
    have hxw : Ext w wc := hxc
    clear k4 k5 k8 kmv c4 f4 hA3
    have HTA := Lib.hid (show ∀ (w' : World), Ext wc w' → AutoV w' (.agg #[.int .i64 a.alphabet, .slice aA1 a.next.length cA1, .slice aA2 a.accept.length cA2]) a from fun w' hx => ⟨_, _, rfl, jA1.mono hx, jA2.mono hx⟩)
    have HTP := Lib.hid (show ∀ (w' : World), Ext wc w' → AutoV w' (.agg #[.int .i64 p.alphabet, .slice aP1 p.next.length cP1, .slice aP2 p.accept.length cP2]) p from fun w' hx => ⟨_, _, rfl, hP1.mono (hxc.trans hx), hP2.mono (hxc.trans hx)⟩)
    have D0 := fun d os => cell_regrown (j4.cell 0 rfl) d os
    have D1 := fun d os => cell_regrown (jA.cell 0 rfl) d os
    have D2 := fun d os => cell_regrown (jA.cell 1 rfl) d os
    have D3 := fun d os => cell_regrown (jA.cell 2 rfl) d os
    have D4 := fun d os => cell_regrown (j5.cell 0 rfl) d os
    have D5 := fun d os => cell_regrown (j5.cell 1 rfl) d os
    have D6 := fun d os => cell_regrown (j5.cell 2 rfl) d os
    go_upto_region 5 with fail
    obtain ⟨Kc, HKc⟩ : ∃ Kc : FuncId → Array Value → World → Value → World → Prop, Hid (Kc = fun (_ : FuncId) (args : Array Value) (w0 : World) (v : Value) (w' : World) => Ext w0 w' ∧ ∀ u x, args = #[u] → AutoV w0 u x → TabOwn w' v x) := ⟨_, rfl⟩
    refine wp_region_ext2 (Kc := Kc) 8 (fun i => i == 6 || i == 7) (by kernel_rfl) (by kernel_rfl) ?_
    simp only [List.take_succ_cons, List.take_zero]
    repeat (refine WalkE2.pure rfl rfl (fun K hK => ?_); simp only [PureDo]; go_simp; refine hK _ ?_; clear hK K)
    refine WalkE2.step (fun wd hwd hdd K hK => ?_)
    simp only [OpDo, OpSafe, OpOut]
    go_simp
    refine ⟨(tableOf_o _ a _ (HTA.out _ ((Ext.drew _).trans hwd)) ha).mono ?_, ?_⟩
    · rintro e w' ⟨v, rfl, he, hv⟩
      exact ⟨v, rfl, by rw [HKc.out]; exact ⟨he, fun u x hu hux => by simp only [Array.mk.injEq, List.cons.injEq, and_true] at hu; subst hu; rw [← (HTA.out _ ((Ext.drew _).trans hwd)).inj hux]; exact hv⟩⟩
    intro u1 w5 hk1
    rw [HKc.out] at hk1
    have ht1 := hk1.2 _ a rfl (HTA.out _ ((Ext.drew _).trans hwd))
    refine ⟨hk1.1, hK _ _ ?_⟩
    clear hK K hdd hk1
    repeat (refine WalkE2.pure rfl rfl (fun K hK => ?_); simp only [PureDo]; go_simp; refine hK _ ?_; clear hK K)
    refine WalkE2.step (fun we hwe hde K hK => ?_)
    simp only [OpDo, OpSafe, OpOut]
    go_simp
    refine ⟨(tableOf_o _ p _ (HTP.out _ ((Ext.drew _).trans hwe)) hpp).mono ?_, ?_⟩
    · rintro e w' ⟨v, rfl, he, hv⟩
      exact ⟨v, rfl, by rw [HKc.out]; exact ⟨he, fun u x hu hux => by simp only [Array.mk.injEq, List.cons.injEq, and_true] at hu; subst hu; rw [← (HTP.out _ ((Ext.drew _).trans hwe)).inj hux]; exact hv⟩⟩
    intro u2 w6 hk2
    rw [HKc.out] at hk2
    have ht2 := hk2.2 _ p rfl (HTP.out _ ((Ext.drew _).trans hwe))
    refine ⟨hk2.1, hK _ _ ?_⟩
    clear hK K hde hk2
    refine WalkE2.step (fun wf hwf hdf K hK => ?_)
    simp only [OpDo, OpSafe, OpOut]
    go_simp
    refine ⟨Ext.alloc _ _, hK _ _ ?_⟩
    clear hK K hdf
    refine WalkE2.step (fun wg hwg hdg K hK => ?_)
    simp only [OpDo, OpSafe, OpOut]
    go_simp
    refine ⟨Ext.alloc _ _, hK _ _ ?_⟩
    clear hK K hdg
    refine WalkE2.nil (fun wn hwn hmn htot => ?_)
    simp only [List.drop_succ_cons, List.drop_zero, List.drop_nil]
    have q1 := ht1.mono (hmn 3 (by omega))
    have q2 := ht2.mono (hmn 5 (by omega))
    have g1 := (Blk.new wf _ _).ext (hmn 6 (by omega))
    have g2 := (Blk.new wg _ _).ext (hmn 7 (by omega))
    have hne : wf.heap.size ≠ wg.heap.size := by
      rcases htot 6 7 (by omega) (by omega) (by omega) rfl rfl with h | h
      · have := h.size
        simp only [upd2, WW] at this
        simp at this
        omega
      · have := h.size
        simp only [upd2, WW] at this
        simp at this
        omega
    obtain ⟨aT1, cT1, rfl, -, -⟩ := q1.tab.open
    obtain ⟨aT2, cT2, rfl, -, -⟩ := q2.tab.open
    have s1 : wc.heap.size ≤ wf.heap.size := Nat.le_trans (Ext.drew _).size hwf.size
    have s2 : wc.heap.size ≤ wg.heap.size := Nat.le_trans (Ext.drew _).size hwg.size
    have hxn : Ext wc wn := (Ext.drew _).trans hwn
    clear htot hmn ht1 ht2 hwd hwe hwf hwg hwn HKc D0 D1 D2 D3 D4 D5 D6 HTA HTP
    generalize wf.heap.size = b10 at g1 hne s1 ⊢
    generalize wg.heap.size = b11 at g2 hne s2 ⊢
    have cg1 := g1.cell 0 rfl
    have cg2 := g2.cell 0 rfl
    have fg1 := g1.fr 0
    have fg2 := g2.fr 0
    go_upto_region 6 with fail
    obtain ⟨w7, hw7⟩ : ∃ w7, w7 = (wn.setCell ⟨b10, 0, none⟩ (.slice aT1 (table a).length cT1)).setCell ⟨b11, 0, none⟩ (.slice aT2 (table p).length cT2) := ⟨_, rfl⟩
    have y7 : Ext wc w7 := by rw [hw7]; exact (hxn.setCell (p := ⟨b10, 0, none⟩) (by simp only []; omega) _).setCell (p := ⟨b11, 0, none⟩) (by simp only []; omega) _
    have r1 : Blk w7 b10 #[.slice aT1 (table a).length cT1] 147 := by rw [hw7]; exact (g1.set 0 _).other (p := ⟨b11, 0, none⟩) hne _
    have r2 : Blk w7 b11 #[.slice aT2 (table p).length cT2] 147 := by rw [hw7]; exact (g2.other (p := ⟨b10, 0, none⟩) hne.symm _).set 0 _
    have t4 := j4.ext y7
    have t5 := j5.ext y7
    have t8 := j8.ext y7
    have tA := jA.ext y7
    have x1 : TabOwn w7 (.slice aT1 (table a).length cT1) a := by rw [hw7]; exact (q1.store g1 (by decide) 0 _).store (g2.other (p := ⟨b10, 0, none⟩) hne.symm _) (by decide) 0 _
    have x2 : TabOwn w7 (.slice aT2 (table p).length cT2) p := by rw [hw7]; exact (q2.store g1 (by decide) 0 _).store (g2.other (p := ⟨b10, 0, none⟩) hne.symm _) (by decide) 0 _
    rw [← hw7]
    have y7s := y7.size
    clear hw7 q1 q2 g1 g2 cg1 cg2 fg1 fg2 hxn s1 s2 hne
    clear wn
    go_cut [12, 13] (fun v12 v13 w8 => ∃ b12 b13, v12 = .pointer (some ⟨b12, 0, none⟩) ∧ v13 = .pointer (some ⟨b13, 0, none⟩) ∧ Ext w7 w8 ∧ Blk w8 b12 #[.int .i64 (a.next.length : Nat)] 3 ∧ Blk w8 b13 #[.int .i64 (p.next.length : Nat)] 3)
    case first =>
      have l10 := r1.lt
      have l11 := r2.lt
      have z0 : w7.cell? ⟨b10, 0, none⟩ = some _ := r1.cell 0 rfl
      have z1 : w7.cell? ⟨b11, 0, none⟩ = some _ := r2.cell 0 rfl
      go_region
      all_goals go_wp2_with fail
      all_goals go_meet
      case rel =>
        have hch : Ext w7 (((w7.alloc (.cells #[.int .i64 ((table a).length : Nat)] 3)).alloc (.cells #[.int .i64 ((table p).length : Nat)] 3)).drew) := ((Ext.alloc _ _).trans (Ext.alloc _ _)).trans (Ext.drew _)
        rw [table_len, table_len] at hch ⊢
        exact ⟨_, _, rfl, rfl, hch, Ext.blk ((Ext.alloc _ _).trans (Ext.drew _)), Ext.blk1 (Ext.drew _)⟩
      case rel =>
        have hch : Ext w7 (((w7.alloc (.cells #[.int .i64 ((table p).length : Nat)] 3)).alloc (.cells #[.int .i64 ((table a).length : Nat)] 3)).drew) := ((Ext.alloc _ _).trans (Ext.alloc _ _)).trans (Ext.drew _)
        rw [table_len, table_len] at hch ⊢
        exact ⟨_, _, rfl, rfl, hch, Ext.blk1 (Ext.drew _), Ext.blk ((Ext.alloc _ _).trans (Ext.drew _))⟩
    case rest =>
      obtain ⟨b12, b13, rfl, rfl, hx8, hB12, hB13⟩ := hcut
      go_upto_region 9 with fail
      have hxw8 : Ext w wc := (hxc.trans y7).trans hx8
      have hax := y7.trans hx8
      have m4 := t4.ext hx8
      have m5 := t5.ext hx8
      have m8 := t8.ext hx8
      have mA := tA.ext hx8
      have m10 := r1.ext hx8
      have m11 := r2.ext hx8
      have mx1 := x1.mono hx8
      have mx2 := x2.mono hx8
      have mpt := PartsV.mono hax jpt
      clear t4 t5 t8 tA r1 r2 x1 x2 j4 j5 j8 jA
      have HTa := Lib.hid (TabOk.valid ha)
      have HTp := Lib.hid (TabOk.valid hpp)
      have HG := Lib.hid (show Ground wc b10 b13 b12 b11 b8 parts a p from ⟨⟨_, m10, mx1.tab⟩, hB13, hB12, ⟨_, m11, mx2.tab⟩, ⟨_, _, m8, mpt⟩⟩)
      have HG2 := Lib.hid (show Ground2 wc w.heap.size ba b13 b12 (w.heap.size + 1) a p from ⟨m4, ⟨_, _, mA, jA1.mono hax, jA2.mono hax⟩, hB13, hB12, ⟨_, _, m5, hP1.mono hxw8, hP2.mono hxw8⟩⟩)
      have hK := HTa.out.n12
      have hM := HTp.out.n12
      have hK1 := HTa.out.n1
      have hM1 := HTp.out.n1
      have hKM : (partSizes parts).prod * a.next.length ≤ 49152 := Nat.mul_le_mul hpr hK
      have hKM2 : (partSizes parts).prod * a.next.length * p.next.length ≤ 589824 := Nat.mul_le_mul hKM hM
      have hKM3 : 1 ≤ (partSizes parts).prod * a.next.length * p.next.length := Nat.mul_pos (Nat.mul_pos hpr1 hK1) hM1
      have hal := autoValid_facts ha
      obtain ⟨na, hna⟩ := Int.eq_ofNat_of_zero_le hal.1
      have hna6 : na ≤ 63 := by have := hal.2.1; omega
      have ho64 := orTo_lt hPall.out parts.length
      have HAL := Lib.hid (show bits .or .i64 ((orTo parts parts.length : Nat) : Int) a.alphabet = allLetters parts a by rw [hna, i64_or_nat _ _ (by omega) (by omega)]; unfold allLetters; rw [hna, Int.toNat_natCast])
      have HA63 := Lib.hid (show 0 ≤ allLetters parts a ∧ allLetters parts a ≤ 63 by
        unfold allLetters
        rw [hna, Int.toNat_natCast]
        have : orTo parts parts.length ||| na < 2 ^ 6 := Nat.or_lt_two_pow (by omega) (by omega)
        omega)
      have e3 := HAL.out
      have e1 : IntKind.i64.wrap (((partSizes parts).prod : Int) * (a.next.length : Int)) = ((partSizes parts).prod : Int) * (a.next.length : Int) := by rw [show ((partSizes parts).prod : Int) * (a.next.length : Int) = (((partSizes parts).prod * a.next.length : Nat) : Int) by simp, IntKind.wrap_i64]; omega
      obtain ⟨NN, hNN⟩ : ∃ NN, Hid (NN = (partSizes parts).prod * a.next.length * p.next.length) := ⟨_, rfl⟩
      have e2 : IntKind.i64.wrap (((partSizes parts).prod : Int) * (a.next.length : Int) * (p.next.length : Int)) = (NN : Int) := by rw [hNN.out, show ((partSizes parts).prod : Int) * (a.next.length : Int) * (p.next.length : Int) = (((partSizes parts).prod * a.next.length * p.next.length : Nat) : Int) by simp, IntKind.wrap_i64]; omega
      rw [← hNN.out] at hKM2 hKM3
      have HPT := Lib.hid mpt
      have hTc := hT.ext hxw8
      have HNX := Lib.hid (fun (w' : World) (hx : Ext wc w') => nextIs_broken (HG.out.ext hx) HP.out HTa.out HTp.out (hTc.ext hx) HA63.out.2)
      rw [← hNN.out] at HNX
      have HGI := Lib.hid (fun (w' : World) (hx : Ext wc w') => goalIs_broken (HG2.out.ext hx) ha hpp (n := NN) (by omega))
      clear hal hna hna6 ho64 HTa HTp mpt mx1 mx2 m10 m11 jA1 jA2 jpt
      have D0 := fun d os => cell_regrown (m8.cell 0 rfl) d os
      have D1 := fun d os => cell_regrown (m8.cell 1 rfl) d os
      have D2 := fun d os => cell_regrown (hB12.cell 0 rfl) d os
      have D3 := fun d os => cell_regrown (hB13.cell 0 rfl) d os
      have D4 := fun d os => cell_regrown (m4.cell 0 rfl) d os
      have D5 := fun d os => cell_regrown (mA.cell 0 rfl) d os
      obtain ⟨Kc, HKc⟩ : ∃ Kc : FuncId → Array Value → World → Value → World → Prop, Hid (Kc = fun (f : FuncId) (_ : Array Value) (w0 : World) (v : Value) (w' : World) => Ext w0 w' ∧ (f = 94 → v = .int .i64 ((partSizes parts).prod : Nat)) ∧ (f = 33 → IntsV w' v (letters (allLetters parts a))) ∧ (f = 93 → ∃ r, FirstIs (BrokenW parts a p) r ∧ v = .tuple #[.string (rtext r), .bool r.isSome])) := ⟨_, rfl⟩
      refine wp_region_ext (Kc := Kc) 19 (by kernel_rfl) (by kernel_rfl) ?_
      simp only [List.take_succ_cons, List.take_zero]
      repeat (refine WalkE.pure rfl (fun K hK => ?_); simp only [PureDo]; go_simp; refine hK _ ?_; clear hK K)
      refine WalkE.step (fun K hK wd hwd hdd => ?_)
      simp only [OpDo, OpSafe, OpOut]
      go_simp
      refine ⟨(size_c _ parts _ (PartsV.mono ((Ext.drew _).trans hwd) HPT.out) HP.out).mono ?_, ?_⟩
      · rintro e w' ⟨rfl, he⟩
        exact ⟨_, rfl, by rw [HKc.out]; exact ⟨he, fun _ => rfl, fun h => absurd h (by decide), fun h => absurd h (by decide)⟩⟩
      intro u1 w5 hk1
      rw [HKc.out] at hk1
      obtain ⟨hk1, hk1', -⟩ := hk1
      obtain rfl := hk1' rfl
      refine ⟨hk1, hK _ _ ?_⟩
      clear hK K hdd hk1 hk1'
      repeat (refine WalkE.pure rfl (fun K hK => ?_); simp only [PureDo]; go_simp; refine hK _ ?_; clear hK K)
      refine WalkE.step (fun K hK we hwe hde => ?_)
      simp only [OpDo, OpSafe, OpOut]
      go_simp
      have hS := IntsOwn.one 3 we 0
      refine ⟨Ext.alloc _ _, hK _ _ ?_⟩
      clear hK K hde
      repeat (refine WalkE.pure rfl (fun K hK => ?_); simp only [PureDo]; go_simp; refine hK _ ?_; clear hK K)
      refine WalkE.step (fun K hK wf hwf hdf => ?_)
      simp only [OpDo, OpSafe, OpOut]
      go_simp
      refine ⟨(lettersOf_c _ _ HA63.out.1 HA63.out.2).mono ?_, ?_⟩
      · rintro e w' ⟨v, rfl, he, hv⟩
        exact ⟨v, rfl, by rw [HKc.out]; exact ⟨he, fun h => absurd h (by decide), fun _ => hv, fun h => absurd h (by decide)⟩⟩
      intro u2 w6 hk2
      rw [HKc.out] at hk2
      obtain ⟨hk2, -, hk2', -⟩ := hk2
      have hL := hk2' rfl
      refine ⟨hk2, hK _ _ ?_⟩
      clear hK K hdf hk2 hk2'
      repeat (refine WalkE.pure rfl (fun K hK => ?_); simp only [PureDo]; go_simp; refine hK _ ?_; clear hK K)
      refine WalkE.step (fun K hK wg hwg hdg => ?_)
      simp only [OpDo, OpSafe, OpOut]
      go_simp
      have j6 : Ext (we.alloc (.cells #[.int .i64 0] 3)) wg := hdg _ (Array.mem_of_getElem? (i := 1) rfl) rfl
      have j13 : Ext w6 wg := hdg _ (Array.mem_of_getElem? (i := 2) rfl) rfl
      have hxg : Ext wc wg := (Ext.drew _).trans hwg
      have hNX := HNX.out _ hxg
      have hGI := HGI.out _ hxg
      have hSg := (hS.low (Nat.zero_le _)).ext j6
      have hLg := hL.mono j13
      refine ⟨(firstPath_c NN 4096 _ _ _ _ [0] (letters (allLetters parts a)) (brokenN parts a p) (brokenG a p) wg hSg (by simp) (by intro s hs; simp at hs; omega) hLg (letters_asc _) (letters_lt6 HA63.out.2) hNX hGI (by omega) (by omega)).mono ?_, ?_⟩
      · rintro e w' ⟨r, hr, rfl, he⟩
        exact ⟨_, rfl, by rw [HKc.out]; exact ⟨he, fun h => absurd h (by decide), fun h => absurd h (by decide), fun _ => ⟨r, hr, rfl⟩⟩⟩
      intro u3 w9 hk3
      rw [HKc.out] at hk3
      obtain ⟨hk3, -, -, hk3'⟩ := hk3
      obtain ⟨r, hr, rfl⟩ := hk3' rfl
      refine ⟨hk3, hK _ _ ?_⟩
      clear hK K hdg hk3 hk3'
      repeat (refine WalkE.pure rfl (fun K hK => ?_); simp only [PureDo]; go_simp; refine hK _ ?_; clear hK K)
      refine WalkE.nil (fun wn hwn hmn => ?_)
      simp only [List.drop_succ_cons, List.drop_zero, List.drop_nil]
      go_wp2_with fail
      go_ret2
      exact ⟨r, hr, rfl, hxw8.trans ((Ext.drew _).trans hwn)⟩
end Go.Proofs.YtanekmfifmkbmaaGreatDoor

namespace Go.Proofs.YtanekmfifmkbmaaGreatDoor
set_option linter.unusedSimpArgs false
set_option linter.unusedVariables false
open Go.RowKit

set_option maxHeartbeats 1600000
set_option maxRecDepth 100000

def AnsEnd (A : Option (List Int) → Prop) (w : World) (e : Ending) (w' : World) : Prop := ∃ r, A r ∧ e = .returned (.tuple #[.string (rtext r), .bool r.isSome]) ∧ Ext w w'
def PV (parts : List Sys) (p : Auto) (r : Option (List Int)) : Prop := if (areParts parts && autoValid p) = true then FirstIs (BrokenW parts trivAuto p) r else r = none
theorem PV.unique {parts : List Sys} {p : Auto} {r r' : Option (List Int)} (h : PV parts p r) (h' : PV parts p r') : r = r' := by
  unfold PV at h h'
  split at h
  · rw [if_pos ‹_›] at h'; exact h.unique h'
  · rw [if_neg ‹_›] at h'; rw [h, h']
theorem trivAuto_valid : autoValid trivAuto = true := by decide
theorem one_parts {s : Sys} (h : sysValid s = true) : areParts [s] = true := by simp [areParts, h]

theorem PartsViolation_c (v vp : Value) (parts : List Sys) (p : Auto) (w : World) (hv : SyssV w v parts) (hl : parts.length ≤ 1048576) (hp : AutoV w vp p) (hT : Deb w) :
    Calls Tryz.prog 10 #[v, vp] w (AnsEnd (PV parts p) w) := by
  have HV := Lib.hid hp
  obtain ⟨vn, va, rfl, h2, h3⟩ := hp
  obtain ⟨an, cn, rfl, -, -⟩ := h2.open
  obtain ⟨aa, ca, rfl, -, -⟩ := h3.open
  clear h2 h3
  go_enter Tryz.func10, Tryz.ntmps10
  go_wp2_with fail
  have he : Ext w (w.alloc (.cells #[.int .i64 p.alphabet, .slice an p.next.length cn, .slice aa p.accept.length ca] 31)) := Ext.alloc _ _
  have hB := Blk.new w #[.int .i64 p.alphabet, .slice an p.next.length cn, .slice aa p.accept.length ca] 31
  generalize w.alloc (.cells #[.int .i64 p.alphabet, .slice an p.next.length cn, .slice aa p.accept.length ca] 31) = wo at he hB ⊢
  refine (areParts_c _ parts _ (hv.mono he) hl).mono ?_
  rintro e w1 ⟨rfl, he1⟩
  have c0 := (hB.ext he1).cell 0 rfl
  have c1 := (hB.ext he1).cell 1 rfl
  have c2 := (hB.ext he1).cell 2 rfl
  by_cases hP : areParts parts = true
  · rw [hP]
    have HP := Lib.hid hP
    clear hP
    by_cases hA : autoValid p = true
    · have HA := Lib.hid hA
      clear hA
      go_wp2_with fail
      refine (AutomatonValid_b HA.out (HV.out.mono (he.trans he1))).mono ?_
      rintro e w2 ⟨rfl, he2⟩
      have d0 := (hB.ext (he1.trans he2)).cell 0 rfl
      have d1 := (hB.ext (he1.trans he2)).cell 1 rfl
      have d2 := (hB.ext (he1.trans he2)).cell 2 rfl
      have hx := (he.trans he1).trans he2
      go_wp2_with fail
      refine (firstBroken_c _ (.pointer none) _ parts trivAuto p _ (hv.mono hx) hl HP.out (.inl ⟨rfl, rfl⟩) trivAuto_valid (HV.out.mono hx) HA.out (hT.ext hx)).mono ?_
      rintro e w3 ⟨r, hr, rfl, he3⟩
      go_wp2_with fail
      go_ret2
      exact ⟨r, by unfold PV; rw [HP.out, HA.out]; exact hr, rfl, hx.trans he3⟩
    · have hA' : autoValid p = false := by simpa using hA
      go_wp2_with fail
      refine (AutomatonValid_b hA' (HV.out.mono (he.trans he1))).mono ?_
      rintro e w2 ⟨rfl, he2⟩
      go_wp2_with fail
      go_ret2
      exact ⟨none, by unfold PV; rw [hA']; simp, rfl, (he.trans he1).trans he2⟩
  · have hP' : areParts parts = false := by simpa using hP
    rw [hP']
    go_wp2_with fail
    go_ret2
    exact ⟨none, by unfold PV; rw [hP']; simp, rfl, he.trans he1⟩

theorem SystemValid_b {v : Value} {x : Sys} {w : World} {b : Bool} (hb : sysValid x = b) (hv : SysV w v x) :
    Calls Tryz.prog 31 #[v] w (Grows (.bool b) w) := hb ▸ SystemValid_c v x w hv

theorem SyssV.one {w : World} {s : Sys} {ve : Value} (h : EdgesV w ve s.edges) :
    SyssV (w.alloc (.cells #[.int .i64 s.alphabet, .int .i64 s.states, ve] 25)) (.slice (some ⟨w.heap.size, 0, none⟩) 1 1) [s] := by
  refine ⟨_, 1, rfl, Nat.le_refl _, by decide, fun _ => ⟨w.heap.size, 0, rfl, by simp, fun i x hi => ?_⟩⟩
  obtain rfl : i = 0 := by have := (List.getElem?_eq_some_iff.1 hi).1; simp at this; exact this
  simp at hi
  subst hi
  have hb := Blk.new w #[.int .i64 s.alphabet, .int .i64 s.states, ve] 25
  exact ⟨ve, hb.cell 0 rfl, hb.cell 1 rfl, hb.cell 2 rfl, h.mono (Ext.alloc _ _)⟩

theorem FirstViolation_c (v vp : Value) (s : Sys) (p : Auto) (w : World) (hv : SysV w v s) (hp : AutoV w vp p) (hT : Deb w) :
    Calls Tryz.prog 11 #[v, vp] w (AnsEnd (PV [s] p) w) := by
  obtain ⟨ve, rfl, h1⟩ := hv
  obtain ⟨ae, ce, rfl, -, -⟩ := h1.open
  have HV := Lib.hid hp
  obtain ⟨vn, va, rfl, h2, h3⟩ := hp
  obtain ⟨an, cn, rfl, -, -⟩ := h2.open
  obtain ⟨aa, ca, rfl, -, -⟩ := h3.open
  clear h2 h3
  go_enter Tryz.func11, Tryz.ntmps11
  go_wp2_with fail
  have hS := h1.mono ((Ext.alloc w (.cells #[.int .i64 s.alphabet, .int .i64 s.states, .slice ae s.edges.length ce] 25)).trans (Ext.alloc _ (.cells #[.int .i64 p.alphabet, .slice an p.next.length cn, .slice aa p.accept.length ca] 31)))
  have he := ((Ext.alloc w (.cells #[.int .i64 s.alphabet, .int .i64 s.states, .slice ae s.edges.length ce] 25)).trans (Ext.alloc _ (.cells #[.int .i64 p.alphabet, .slice an p.next.length cn, .slice aa p.accept.length ca] 31))).trans (Ext.alloc _ (.cells #[.int .i64 s.alphabet, .int .i64 s.states, .slice ae s.edges.length ce] 25))
  have hone := SyssV.one hS
  simp only [World.size_alloc] at hone
  refine (PartsViolation_c _ _ [s] p _ hone (by simp) (HV.out.mono he) (hT.ext he)).mono ?_
  rintro e w1 ⟨r, hr, rfl, he1⟩
  go_wp2_with fail
  go_ret2
  exact ⟨r, hr, rfl, he.trans he1⟩

end Go.Proofs.YtanekmfifmkbmaaGreatDoor
