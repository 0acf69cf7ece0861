/- Merged: WalkFB, WalkFC, WalkFD. -/
import Derived.Test.YtloampfmlhmlhaaGreatDoorWalkFP
import Derived.Test.YtloampfmlhmlhaaGreatDoorWalkK
import Derived.Test.YtloampfmlhmlhaaGreatDoorRegion
import Derived.BigRegion

namespace Go.Proofs.YtloampfmlhmlhaaGreatDoor
set_option linter.unusedSimpArgs false
set_option linter.unusedVariables false
open Go.RowKit

set_option maxHeartbeats 1600000
set_option maxRecDepth 100000

/-- What the two functions of a search for a broken property lean on. -/
structure Ground (w : World) (bu bm bn br bp : Nat) (parts : List Sys) (a p : Auto) : Prop where
  u : ∃ vu, Blk w bu #[vu] 117 ∧ TabV w vu (table a)
  m : Blk w bm #[.int .i64 (p.next.length : Nat)] 3
  n : Blk w bn #[.int .i64 (a.next.length : Nat)] 3
  r : ∃ vr, Blk w br #[vr] 117 ∧ TabV w vr (table p)
  p : ∃ vs vm, Blk w bp #[vs, vm] 160 ∧ PartsV w (.agg #[vs, vm]) parts
theorem Ground.ext {w w' : World} {bu bm bn br bp : Nat} {parts : List Sys} {a p : Auto} (h : Ground w bu bm bn br bp parts a p) (he : Ext w w') : Ground w' bu bm bn br bp parts a p := by
  obtain ⟨⟨vu, h1, h2⟩, h3, h4, ⟨vr, h5, h6⟩, ⟨vs, vm, h7, h8⟩⟩ := h
  exact ⟨⟨vu, h1.ext he, h2.mono he⟩, h3.ext he, h4.ext he, ⟨vr, h5.ext he, h6.mono he⟩, ⟨vs, vm, h7.ext he, h8.mono he⟩⟩

/-- The automaton, of which the table is that of a valid one, or of the trivial one. -/
structure TabOk (a : Auto) : Prop where
  n1 : 1 ≤ a.next.length
  n12 : a.next.length ≤ 12
  lt : ∀ q l, q < a.next.length → step a q l < a.next.length
theorem TabOk.valid {a : Auto} (h : autoValid a = true) : TabOk a := ⟨(autoValid_facts h).2.2.1, (autoValid_facts h).2.2.2.1, fun q l hq => step_lt h hq l⟩
/-- The first j nodes of those that came have been turned. -/
def turned (P : List Nat) (K M rest j : Nat) : List Nat := (P.take j).map (fun x => x * K * M + rest) ++ P.drop j
def brokenG (a p : Auto) (node : Nat) : Bool := accepts a (node / p.next.length % a.next.length) && !accepts p (node % p.next.length)
def AccOk (a : Auto) : Prop := ∀ q, q < a.next.length → a.accept[q]? = some (accepts a q)
theorem AccOk.valid {a : Auto} (h : autoValid a = true) : AccOk a := fun q hq => accepts_at h hq
/-- What the test of a goal leans on. -/
structure Ground2 (w : World) (b4 ba bm bn b5 : Nat) (a p : Auto) : Prop where
  a4 : Blk w b4 #[.pointer (some ⟨ba, 0, none⟩)] 99
  aa : ∃ vn va, Blk w ba #[.int .i64 a.alphabet, vn, va] 26 ∧ IntssV w vn a.next ∧ BoolsV w va a.accept
  m : Blk w bm #[.int .i64 (p.next.length : Nat)] 3
  n : Blk w bn #[.int .i64 (a.next.length : Nat)] 3
  pp : ∃ vn va, Blk w b5 #[.int .i64 p.alphabet, vn, va] 26 ∧ IntssV w vn p.next ∧ BoolsV w va p.accept
theorem Ground2.ext {w w' : World} {b4 ba bm bn b5 : Nat} {a p : Auto} (h : Ground2 w b4 ba bm bn b5 a p) (he : Ext w w') : Ground2 w' b4 ba bm bn b5 a p := by
  obtain ⟨h1, ⟨vn, va, h2, h3, h4⟩, h5, h6, ⟨vn', va', h7, h8, h9⟩⟩ := h
  exact ⟨h1.ext he, ⟨vn, va, h2.ext he, h3.mono he, h4.mono he⟩, h5.ext he, h6.ext he, ⟨vn', va', h7.ext he, h8.mono he, h9.mono he⟩⟩

end Go.Proofs.YtloampfmlhmlhaaGreatDoor

namespace Go.Proofs.YtloampfmlhmlhaaGreatDoor
set_option linter.unusedSimpArgs false
set_option linter.unusedVariables false
open Go.RowKit

set_option maxHeartbeats 1600000
set_option maxRecDepth 100000

/-- A table in memory of its own. -/
def TabOwn (w : World) (v : Value) (x : Auto) : Prop := ∃ base cells, w.ownsRow base 119 6 v x.next.length cells ∧ RowsTo cells x.next.length (tabRow x)
theorem TabOwn.tab {w : World} {v : Value} {x : Auto} (h : TabOwn w v x) : TabV w v (table x) := by
  obtain ⟨base, cells, hI, hR⟩ := h
  rw [← table_len x] at hI
  refine SlV_of_own hI fun g cap hv i f hf l hl => ?_
  cases hv
  have hi := (List.getElem?_eq_some_iff.1 hf).1
  rw [table_len] at hi
  rw [table_at x i hi] at hf
  cases hf
  exact own_cell hI (hR i l hi hl)
theorem TabOwn.mono {w w' : World} {v : Value} {x : Auto} (h : TabOwn w v x) (he : Ext w w') : TabOwn w' v x := let ⟨b, cs, h1, h2⟩ := h; ⟨b, cs, own_ext h1 he, h2⟩
theorem TabOwn.store {w : World} {v : Value} {x : Auto} (h : TabOwn w v x) {g : Nat} {cs : Array Value} {T : TypeId} (hG : Blk w g cs T) (hne : T ≠ 119) (j : Nat) (u : Value) : TabOwn (w.setCell ⟨g, j, none⟩ u) v x := let ⟨b, ds, h1, h2⟩ := h; ⟨b, ds, own_store h1 hG hne j u, h2⟩

theorem tableOf_o (v : Value) (x : Auto) (w : World) (hv : AutoV w v x) (hx : autoValid x = true) :
    Calls Tryz.prog 75 #[v] w (Gives (fun v w' => TabOwn w' v x) w) := by
  obtain ⟨vn, va, rfl, h2, -⟩ := hv
  have HX := Lib.hid hx
  obtain ⟨ha, ha2, hn0, hn, -⟩ := autoValid_facts hx
  clear hx
  obtain ⟨an, cn, rfl, hn1, hn2⟩ := h2.open
  clear h2
  have hls := lettersTo_len x.alphabet 6
  go_enter Tryz.func75, Tryz.ntmps75
  go_wp2_with (at_make; refine make1 rfl rfl Tryz.underlying117 infoTab rfl rfl rfl rfl (by omega) (by decide) (Nat.le_refl _) ?_; intro w1 hown hext hlt; have c0 : w1.cell? ⟨w.heap.size, 0, none⟩ = some (.int .i64 x.alphabet) := hext.new 0 rfl; have c1 : w1.cell? ⟨w.heap.size, 1, none⟩ = some (.slice an x.next.length cn) := hext.new 1 rfl)
  refine (lettersOf_o _ _ ha ha2).mono ?_
  rintro e w2 ⟨vl, rfl, he2, hl⟩
  obtain ⟨al, cl, rfl⟩ := hl.shape
  simp only [World.size_alloc] at hown hlt
  have I0 : TabInv 119 3 w w2 (w.heap.size + 1) x.next.length (.slice al (letters x.alphabet).length cl) (letters x.alphabet) _ := ⟨own_base (own_ext hown he2) (by omega), hl.low (by omega), hext.peel.trans he2⟩
  have d1 := he2.cell c1
  clear c0 c1 hown hlt hl
  have hls : (letters x.alphabet).length ≤ 6 := hls
  go_wp2_with fail
  go_loopw [20] (fun i wr => ∃ (k : Nat) (cells : List Value), k ≤ x.next.length ∧ i = .int .i64 k ∧ TabInv 119 3 w wr (w.heap.size + 1) x.next.length (.slice al (letters x.alphabet).length cl) (letters x.alphabet) cells ∧ RowsTo cells k (tabRow x)) (fun i _ => x.next.length - (intOf i).toNat)
  case atStart => exact ⟨0, _, by omega, rfl, I0, fun q l hq => by omega⟩
  case round =>
    obtain ⟨k, cells, hk, rfl, I, hR⟩ := hrel
    by_cases hlt : k < x.next.length
    · obtain ⟨row, hr, hrl, -⟩ := autoValid_row HX.out hlt
      obtain ⟨b, off, rfl, -, hc⟩ := hn2 k row hr
      obtain ⟨vr, g1, hvr⟩ := hc k row hr
      rw [Nat.mul_one] at g1
      replace g1 := I.ext.cell g1
      obtain ⟨ar, cr, rfl, -, hrr⟩ := hvr.open
      have HR := Lib.hid hr
      have HRR := Lib.hid hrr
      clear hc hn2 hr hvr hrr hrl
      go_wp2_with fail
      go_loopw [25] (fun j wr => ∃ (m : Nat) (cells : List Value), m ≤ 6 ∧ j = .int .i64 m ∧ TabInv 119 3 w wr (w.heap.size + 1) x.next.length (.slice al (letters x.alphabet).length cl) (letters x.alphabet) cells ∧ RowsTo cells k (tabRow x) ∧ RowTo cells k m (fun _ => (k : Int))) (fun j _ => 6 - (intOf j).toNat)
      case atStart => exact ⟨0, _, by omega, rfl, I, hR, fun l hl => by omega⟩
      case round =>
        clear I hR
        obtain ⟨m, cells, hm, rfl, I, hR, hR2⟩ := hrel
        by_cases hm6 : m < 6
        · obtain ⟨u, -, gc⟩ := I.cell (j := k * 6 + m) (by omega)
          have fz := I.own.frozenAt (k * 6 + m)
          have hcl := I.len
          go_wp2_with fail
          exact ⟨⟨m + 1, _, by omega, by go_num, I.store (by omega) _ _, hR.set, hR2.push (by omega)⟩, by simp [intOf]; omega⟩
        · obtain rfl : m = 6 := by omega
          rw [show ((6 : Nat) : Int) = 6 from rfl]
          go_wp2_with fail
          go_loopw [37] (fun j wr => ∃ (m : Nat) (cells : List Value), m ≤ (letters x.alphabet).length ∧ j = .int .i64 m ∧ TabInv 119 3 w wr (w.heap.size + 1) x.next.length (.slice al (letters x.alphabet).length cl) (letters x.alphabet) cells ∧ RowsTo cells k (tabRow x) ∧ RowTo cells k 6 (rowTo x k m)) (fun j _ => (letters x.alphabet).length - (intOf j).toNat)
          case atStart => exact ⟨0, _, by omega, rfl, I, hR, hR2.eq fun l _ => (rowTo_zero x k l).symm⟩
          case round =>
            clear I hR hR2
            obtain ⟨m, cells, hm, rfl, I, hR, hR2⟩ := hrel
            by_cases hml : m < (letters x.alphabet).length
            · obtain ⟨y, hy⟩ : ∃ y, (letters x.alphabet)[m]? = some y := ⟨_, List.getElem?_eq_getElem hml⟩
              obtain ⟨hb, h0, h6, hm6⟩ := letters_mem _ _ _ ha2 hy
              obtain ⟨j, rfl⟩ := Int.eq_ofNat_of_zero_le h0
              have hp := ((letters_place _ _ m ha ha2 h0 h6 hm6).1 hy).2
              obtain ⟨row', z, hr', hz, rfl, -⟩ := step_facts HX.out hlt hb
              rw [HR.out] at hr'
              cases hr'
              rw [hp] at hz
              obtain ⟨b2, off2, rfl, -, hc2⟩ := HRR.out m _ hz
              have g2 := I.ext.cell (hc2 m _ hz)
              rw [Nat.mul_one] at g2
              obtain ⟨al', cl', heq, -, hll⟩ := I.lets.ints.open
              cases heq
              obtain ⟨b3, off3, rfl, -, hc3⟩ := hll m _ hy
              have g3 := hc3 m _ hy
              rw [Nat.mul_one] at g3
              unfold IntAt at g3
              have hcl := I.len
              have HQ := Lib.hid (rowTo_succ HX.out (k := k) hy)
              have hj6 : j < 6 := by omega
              have hj6i : (j : Int) < 6 := by omega
              have hzl := (List.getElem?_eq_some_iff.1 hz).1
              clear hc2 hc3 hll hy hz hb hp HRR h0 h6
              go_wp2_with fail
              have D2 := fun d os => cell_regrown g2 d os
              obtain ⟨Kc, HKc⟩ : ∃ Kc : FuncId → Array Value → World → Value → World → Prop, Hid (Kc = fun _ _ _ _ _ => False) := ⟨_, rfl⟩
              refine wp_region_ext (Kc := Kc) 9 (by kernel_rfl) (by kernel_rfl) ?_
              simp only [List.take_succ_cons, List.take_zero]
              repeat (refine WalkE.pure rfl (fun K hK => ?_); simp only [PureDo]; go_simp; refine hK _ ?_; clear hK K)
              refine WalkE.nil (fun wn hwn hmn => ?_)
              simp only [List.drop_succ_cons, List.drop_zero, List.drop_nil]
              clear hmn HKc D2 g2 g3
              have I2 := I.mono ((Ext.drew _).trans hwn)
              obtain ⟨u, -, gc⟩ := I2.cell (j := k * 6 + j) (by omega)
              have fz := I2.own.frozenAt (k * 6 + j)
              go_wp2_with fail
              exact ⟨⟨m + 1, _, by omega, by go_num, I2.store (by omega) _ _, hR.set, hR2.put (by omega) (by omega) HQ.out.1 HQ.out.2⟩, by simp [intOf]; omega⟩
            · obtain rfl : m = (letters x.alphabet).length := by omega
              go_wp2_with fail
              exact ⟨⟨k + 1, _, by omega, by go_num, I, hR.push (hR2.eq fun l hl => rowTo_full HX.out k l hl)⟩, by simp [intOf]; omega⟩
    · obtain rfl : k = x.next.length := by omega
      go_wp2_with fail
      go_ret
      refine Gives.mk rfl I.ext ?_
      exact ⟨_, _, I.own, hR⟩
end Go.Proofs.YtloampfmlhmlhaaGreatDoor

namespace Go.Proofs.YtloampfmlhmlhaaGreatDoor
set_option linter.unusedSimpArgs false
set_option linter.unusedVariables false
open Go.RowKit

set_option maxHeartbeats 1600000
set_option maxRecDepth 100000

theorem prod_4096 {parts : List Sys} (hp : areParts parts = true) : (partSizes parts).prod ≤ 4096 ∧ 1 ≤ (partSizes parts).prod ∧ parts.length ≤ 3 ∧ ∀ s ∈ parts, sysValid s = true := by
  simp only [areParts, Bool.and_eq_true, decide_eq_true_eq, List.all_eq_true] at hp
  obtain ⟨⟨p1, p2⟩, p3⟩ := hp
  refine ⟨Nat.le_trans (part_prod_le p3) (Nat.pow_le_pow_right (n := 16) (by omega) p2), ?_, p2, p3⟩
  have : ∀ l : List Sys, (∀ s ∈ l, sysValid s = true) → 1 ≤ (partSizes l).prod := by
    intro l
    induction l with
    | nil => intro _; simp [partSizes]
    | cons s l ih =>
      intro h
      have h1 := ih fun t ht => h t (by simp [ht])
      have h2 := valid_alpha (h s (by simp))
      unfold partSizes at h1 ⊢
      simp only [List.map_cons, List.prod_cons]
      exact Nat.mul_pos (by omega) h1
  exact this parts p3
theorem letters_asc (a : Int) : Asc (letters a) := by
  have : (letters a).Pairwise (· < ·) := by
    unfold letters lettersTo
    refine List.Pairwise.filter _ ?_
    rw [List.pairwise_map]
    refine List.Pairwise.imp ?_ (List.pairwise_lt_range (n := 6))
    intro x y h; simpa using h
  intro i j x y hij hx hy
  rw [List.pairwise_iff_getElem] at this
  obtain ⟨hi, rfl⟩ := List.getElem?_eq_some_iff.1 hx
  obtain ⟨hj, rfl⟩ := List.getElem?_eq_some_iff.1 hy
  exact this i j hi hj hij
theorem letters_lt6 {a : Int} (h : a ≤ 63) : ∀ l ∈ letters a, 0 ≤ l ∧ l < 6 := by
  intro l hl
  obtain ⟨m, hm, rfl⟩ := List.getElem_of_mem hl
  have := letters_mem a _ m h (List.getElem?_eq_getElem hm)
  exact ⟨this.2.1, this.2.2.1⟩

/-- The end of the search for a broken property. -/
def allLetters (parts : List Sys) (a : Auto) : Int := ((orTo parts parts.length ||| a.alphabet.toNat : Nat) : Int)
def BrokenW (parts : List Sys) (a p : Auto) : List Int → Prop := Wins (brokenN parts a p) (letters (allLetters parts a)) [0] (brokenG a p)

theorem IntsOwn.one (e : TypeId) (w : World) (x : Int) : IntsOwn e w.heap.size (w.alloc (.cells #[.int .i64 x] e)) (.slice (some ⟨w.heap.size, 0, none⟩) 1 1) [x] :=
  ⟨by simp, .inr ⟨w.heap.size, 1, #[.int .i64 x], rfl, Nat.le_refl _, heap_alloc_new w _, Nat.le_refl _, by unfold maxLen; omega, by simp, by simp⟩⟩

end Go.Proofs.YtloampfmlhmlhaaGreatDoor

namespace Go.Proofs.YtloampfmlhmlhaaGreatDoor
set_option linter.unusedSimpArgs false
set_option linter.unusedVariables false
open Go.RowKit

set_option maxHeartbeats 1600000
set_option maxRecDepth 100000

/-- The end of a check: some answer of which A holds. -/
def AnsEnd (A : Option (List Int) → Prop) (w : World) (e : Ending) (w' : World) : Prop := ∃ r, A r ∧ e = .returned (.tuple #[.string (rtext r), .bool r.isSome]) ∧ Ext w w'
def PV (parts : List Sys) (p : Auto) (r : Option (List Int)) : Prop := if (areParts parts && autoValid p) = true then FirstIs (BrokenW parts trivAuto p) r else r = none
def VU (s : Sys) (a p : Auto) (r : Option (List Int)) : Prop := if (sysValid s && autoValid a && autoValid p) = true then FirstIs (BrokenW [s] a p) r else r = none
theorem PV.unique {parts : List Sys} {p : Auto} {r r' : Option (List Int)} (h : PV parts p r) (h' : PV parts p r') : r = r' := by
  unfold PV at h h'
  split at h
  · rw [if_pos ‹_›] at h'; exact h.unique h'
  · rw [if_neg ‹_›] at h'; rw [h, h']
theorem VU.unique {s : Sys} {a p : Auto} {r r' : Option (List Int)} (h : VU s a p r) (h' : VU s a p r') : r = r' := by
  unfold VU at h h'
  split at h
  · rw [if_pos ‹_›] at h'; exact h.unique h'
  · rw [if_neg ‹_›] at h'; rw [h, h']
theorem one_parts {s : Sys} (h : sysValid s = true) : areParts [s] = true := by simp [areParts, h]

/-- A struct in a box. -/
theorem AutoV.boxed {w : World} {v : Value} {x : Auto} (h : AutoV w v x) : ∃ vn va, v = .agg #[.int .i64 x.alphabet, vn, va] ∧ IntssV w vn x.next ∧ BoolsV w va x.accept := h

/-- A list of one system, as it lies in memory of its own. -/
theorem SyssV.one {w : World} {s : Sys} {ve : Value} (h : EdgesV w ve s.edges) :
    SyssV (w.alloc (.cells #[.int .i64 s.alphabet, .int .i64 s.states, ve] 29)) (.slice (some ⟨w.heap.size, 0, none⟩) 1 1) [s] := by
  refine ⟨_, 1, rfl, Nat.le_refl _, by decide, fun _ => ⟨w.heap.size, 0, rfl, by simp, fun i x hi => ?_⟩⟩
  obtain rfl : i = 0 := by have := (List.getElem?_eq_some_iff.1 hi).1; simp at this; exact this
  simp at hi
  subst hi
  have hb := Blk.new w #[.int .i64 s.alphabet, .int .i64 s.states, ve] 29
  exact ⟨ve, hb.cell 0 rfl, hb.cell 1 rfl, hb.cell 2 rfl, h.mono (Ext.alloc _ _)⟩

end Go.Proofs.YtloampfmlhmlhaaGreatDoor
