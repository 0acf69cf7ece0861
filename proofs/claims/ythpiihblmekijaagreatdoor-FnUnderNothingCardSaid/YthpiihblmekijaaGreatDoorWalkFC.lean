/- Merged: WalkL2, WalkFC. -/
import Derived.Test.YthpiihblmekijaaGreatDoorWalkFB
import Derived.Test.YthpiihblmekijaaGreatDoorRegion
import Derived.BigRegion

namespace Go.Proofs.YthpiihblmekijaaGreatDoor
set_option linter.unusedSimpArgs false
set_option linter.unusedVariables false
open Go.RowKit

set_option maxHeartbeats 1600000
set_option maxRecDepth 100000

/-- A table in memory of its own. -/
def TabOwn (w : World) (v : Value) (x : Auto) : Prop := ∃ base cells, w.ownsRow base 99 6 v x.next.length cells ∧ RowsTo cells x.next.length (tabRow x)
theorem TabOwn.tab {w : World} {v : Value} {x : Auto} (h : TabOwn w v x) : TabV w v (table x) := by
  obtain ⟨base, cells, hI, hR⟩ := h
  rw [← table_len x] at hI
  refine SlV_of_own hI fun g cap hv i f hf l hl => ?_
  cases hv
  have hi := (List.getElem?_eq_some_iff.1 hf).1
  rw [table_len] at hi
  rw [table_at x i hi] at hf
  cases hf
  exact own_cell hI (hR i l hi hl)
theorem TabOwn.mono {w w' : World} {v : Value} {x : Auto} (h : TabOwn w v x) (he : Ext w w') : TabOwn w' v x := let ⟨b, cs, h1, h2⟩ := h; ⟨b, cs, own_ext h1 he, h2⟩
theorem TabOwn.store {w : World} {v : Value} {x : Auto} (h : TabOwn w v x) {g : Nat} {cs : Array Value} {T : TypeId} (hG : Blk w g cs T) (hne : T ≠ 99) (j : Nat) (u : Value) : TabOwn (w.setCell ⟨g, j, none⟩ u) v x := let ⟨b, ds, h1, h2⟩ := h; ⟨b, ds, own_store h1 hG hne j u, h2⟩

theorem tableOf_o (v : Value) (x : Auto) (w : World) (hv : AutoV w v x) (hx : autoValid x = true) :
    Calls Tryz.prog 66 #[v] w (Gives (fun v w' => TabOwn w' v x) w) := by
  obtain ⟨vn, va, rfl, h2, -⟩ := hv
  have HX := Lib.hid hx
  obtain ⟨ha, ha2, hn0, hn, -⟩ := autoValid_facts hx
  clear hx
  obtain ⟨an, cn, rfl, hn1, hn2⟩ := h2.open
  clear h2
  have hls := lettersTo_len x.alphabet 6
  go_enter Tryz.func66, Tryz.ntmps66
  go_wp2_with (at_make; refine make1 rfl rfl Tryz.underlying95 infoTab rfl rfl rfl rfl (by omega) (by decide) (Nat.le_refl _) ?_; intro w1 hown hext hlt; have c0 : w1.cell? ⟨w.heap.size, 0, none⟩ = some (.int .i64 x.alphabet) := hext.new 0 rfl; have c1 : w1.cell? ⟨w.heap.size, 1, none⟩ = some (.slice an x.next.length cn) := hext.new 1 rfl)
  refine (lettersOf_o _ _ ha ha2).mono ?_
  rintro e w2 ⟨vl, rfl, he2, hl⟩
  obtain ⟨al, cl, rfl⟩ := hl.shape
  simp only [World.size_alloc] at hown hlt
  have I0 : TabInv 99 3 w w2 (w.heap.size + 1) x.next.length (.slice al (letters x.alphabet).length cl) (letters x.alphabet) _ := ⟨own_base (own_ext hown he2) (by omega), hl.low (by omega), hext.peel.trans he2⟩
  have d1 := he2.cell c1
  clear c0 c1 hown hlt hl
  have hls : (letters x.alphabet).length ≤ 6 := hls
  go_wp2_with fail
  go_loopw [20] (fun i wr => ∃ (k : Nat) (cells : List Value), k ≤ x.next.length ∧ i = .int .i64 k ∧ TabInv 99 3 w wr (w.heap.size + 1) x.next.length (.slice al (letters x.alphabet).length cl) (letters x.alphabet) cells ∧ RowsTo cells k (tabRow x)) (fun i _ => x.next.length - (intOf i).toNat)
  case atStart => exact ⟨0, _, by omega, rfl, I0, fun q l hq => by omega⟩
  case round =>
    obtain ⟨k, cells, hk, rfl, I, hR⟩ := hrel
    by_cases hlt : k < x.next.length
    · obtain ⟨row, hr, hrl, -⟩ := autoValid_row HX.out hlt
      obtain ⟨b, off, rfl, -, hc⟩ := hn2 k row hr
      obtain ⟨vr, g1, hvr⟩ := hc k row hr
      rw [Nat.mul_one] at g1
      replace g1 := I.ext.cell g1
      obtain ⟨ar, cr, rfl, -, hrr⟩ := hvr.open
      have HR := Lib.hid hr
      have HRR := Lib.hid hrr
      clear hc hn2 hr hvr hrr hrl
      go_wp2_with fail
      go_loopw [25] (fun j wr => ∃ (m : Nat) (cells : List Value), m ≤ 6 ∧ j = .int .i64 m ∧ TabInv 99 3 w wr (w.heap.size + 1) x.next.length (.slice al (letters x.alphabet).length cl) (letters x.alphabet) cells ∧ RowsTo cells k (tabRow x) ∧ RowTo cells k m (fun _ => (k : Int))) (fun j _ => 6 - (intOf j).toNat)
      case atStart => exact ⟨0, _, by omega, rfl, I, hR, fun l hl => by omega⟩
      case round =>
        clear I hR
        obtain ⟨m, cells, hm, rfl, I, hR, hR2⟩ := hrel
        by_cases hm6 : m < 6
        · obtain ⟨u, -, gc⟩ := I.cell (j := k * 6 + m) (by omega)
          have fz := I.own.frozenAt (k * 6 + m)
          have hcl := I.len
          go_wp2_with fail
          exact ⟨⟨m + 1, _, by omega, by go_num, I.store (by omega) _ _, hR.set, hR2.push (by omega)⟩, by simp [intOf]; omega⟩
        · obtain rfl : m = 6 := by omega
          rw [show ((6 : Nat) : Int) = 6 from rfl]
          go_wp2_with fail
          go_loopw [37] (fun j wr => ∃ (m : Nat) (cells : List Value), m ≤ (letters x.alphabet).length ∧ j = .int .i64 m ∧ TabInv 99 3 w wr (w.heap.size + 1) x.next.length (.slice al (letters x.alphabet).length cl) (letters x.alphabet) cells ∧ RowsTo cells k (tabRow x) ∧ RowTo cells k 6 (rowTo x k m)) (fun j _ => (letters x.alphabet).length - (intOf j).toNat)
          case atStart => exact ⟨0, _, by omega, rfl, I, hR, hR2.eq fun l _ => (rowTo_zero x k l).symm⟩
          case round =>
            clear I hR hR2
            obtain ⟨m, cells, hm, rfl, I, hR, hR2⟩ := hrel
            by_cases hml : m < (letters x.alphabet).length
            · obtain ⟨y, hy⟩ : ∃ y, (letters x.alphabet)[m]? = some y := ⟨_, List.getElem?_eq_getElem hml⟩
              obtain ⟨hb, h0, h6, hm6⟩ := letters_mem _ _ _ ha2 hy
              obtain ⟨j, rfl⟩ := Int.eq_ofNat_of_zero_le h0
              have hp := ((letters_place _ _ m ha ha2 h0 h6 hm6).1 hy).2
              obtain ⟨row', z, hr', hz, rfl, -⟩ := step_facts HX.out hlt hb
              rw [HR.out] at hr'
              cases hr'
              rw [hp] at hz
              obtain ⟨b2, off2, rfl, -, hc2⟩ := HRR.out m _ hz
              have g2 := I.ext.cell (hc2 m _ hz)
              rw [Nat.mul_one] at g2
              obtain ⟨al', cl', heq, -, hll⟩ := I.lets.ints.open
              cases heq
              obtain ⟨b3, off3, rfl, -, hc3⟩ := hll m _ hy
              have g3 := hc3 m _ hy
              rw [Nat.mul_one] at g3
              unfold IntAt at g3
              have hcl := I.len
              have HQ := Lib.hid (rowTo_succ HX.out (k := k) hy)
              have hj6 : j < 6 := by omega
              have hj6i : (j : Int) < 6 := by omega
              have hzl := (List.getElem?_eq_some_iff.1 hz).1
              clear hc2 hc3 hll hy hz hb hp HRR h0 h6
              go_wp2_with fail
              have D2 := fun d os => cell_regrown g2 d os
              obtain ⟨Kc, HKc⟩ : ∃ Kc : FuncId → Array Value → World → Value → World → Prop, Hid (Kc = fun _ _ _ _ _ => False) := ⟨_, rfl⟩
              refine wp_region_ext (Kc := Kc) 9 (by kernel_rfl) (by kernel_rfl) ?_
              simp only [List.take_succ_cons, List.take_zero]
              repeat (refine WalkE.pure rfl (fun K hK => ?_); simp only [PureDo]; go_simp; refine hK _ ?_; clear hK K)
              refine WalkE.nil (fun wn hwn hmn => ?_)
              simp only [List.drop_succ_cons, List.drop_zero, List.drop_nil]
              clear hmn HKc D2 g2 g3
              have I2 := I.mono ((Ext.drew _).trans hwn)
              obtain ⟨u, -, gc⟩ := I2.cell (j := k * 6 + j) (by omega)
              have fz := I2.own.frozenAt (k * 6 + j)
              go_wp2_with fail
              exact ⟨⟨m + 1, _, by omega, by go_num, I2.store (by omega) _ _, hR.set, hR2.put (by omega) (by omega) HQ.out.1 HQ.out.2⟩, by simp [intOf]; omega⟩
            · obtain rfl : m = (letters x.alphabet).length := by omega
              go_wp2_with fail
              exact ⟨⟨k + 1, _, by omega, by go_num, I, hR.push (hR2.eq fun l hl => rowTo_full HX.out k l hl)⟩, by simp [intOf]; omega⟩
    · obtain rfl : k = x.next.length := by omega
      go_wp2_with fail
      go_ret
      refine Gives.mk rfl I.ext ?_
      exact ⟨_, _, I.own, hR⟩
end Go.Proofs.YthpiihblmekijaaGreatDoor

namespace Go.Proofs.YthpiihblmekijaaGreatDoor
set_option linter.unusedSimpArgs false
set_option linter.unusedVariables false
open Go.RowKit

set_option maxHeartbeats 1600000
set_option maxRecDepth 100000

theorem partsGo_len (l : Int) (rs : List Sys) (node w : Nat) (R : List Nat) : (partsGo l rs node w R).length ≤ 16 ^ rs.length * R.length := by
  induction rs generalizing node w R with
  | nil => simp [partsGo]
  | cons s rs ih =>
    rw [partsGo]
    refine Nat.le_trans (ih _ _ _) ?_
    have h1 : ((sysBits s (node % s.states.toNat) l).flatMap fun q => R.map fun r => q * w + r).length ≤ 16 * R.length := by
      have h2 := moreTo_len (sysBits s (node % s.states.toNat) l) R w (sysBits s (node % s.states.toNat) l).length
      rw [moreTo_full] at h2
      exact Nat.le_trans h2 (Nat.mul_le_mul_right _ (sysBits_len _ _ _))
    have := Nat.mul_le_mul_left (16 ^ rs.length) h1
    rw [List.length_cons, Nat.pow_succ, Nat.mul_assoc]
    exact this
theorem partsNext_len {parts : List Sys} (h : parts.length ≤ 3) (node : Nat) (l : Int) : (partsNext parts node l).length ≤ 4096 := by
  have := partsGo_len l parts.reverse node 1 [0]
  unfold partsNext
  have h2 : 16 ^ parts.reverse.length ≤ 16 ^ 3 := Nat.pow_le_pow_right (by omega) (by simpa using h)
  simp only [List.length_singleton, Nat.mul_one] at this
  exact Nat.le_trans this h2
theorem partsNext_lt {parts : List Sys} (hv : ∀ s ∈ parts, sysValid s = true) (node : Nat) (l : Int) : ∀ x ∈ partsNext parts node l, x < (partSizes parts).prod := by
  intro x hx
  have h1 := (partsNext_mem parts hv node l x).1 hx
  have hlen : (decode (partSizes parts) node).length = parts.length := by rw [decode_len]; simp [partSizes]
  have h2 := combos_lt (partPairs parts (decode (partSizes parts) node) l) [0] 1 (by simp) (fun p hp c hc => by
    unfold partPairs at hp
    obtain ⟨⟨s, q⟩, hsq, rfl⟩ := List.mem_map.1 hp
    obtain ⟨i, hi, he⟩ := List.getElem_of_mem hsq
    rw [List.getElem_zip] at he
    simp only [Prod.mk.injEq] at he
    obtain ⟨h3, h4⟩ := he
    have hi' : i < parts.length := by simp at hi; omega
    have hs : sysValid s = true := hv s (h3 ▸ List.getElem_mem hi')
    have hal := valid_alpha hs
    refine ch_lt hs ?_ l c hc
    refine decode_lt (partSizes parts) node i s.states.toNat q ?_ (by omega) (by rw [← h4]; exact List.getElem?_eq_getElem (by omega))
    unfold partSizes
    rw [List.getElem?_map, List.getElem?_eq_getElem hi', h3]; rfl) x h1
  have e : ((partPairs parts (decode (partSizes parts) node) l).map (·.1)).prod = (partSizes parts).prod := by
    unfold partPairs partSizes
    rw [List.map_map]
    have : ((fun x : Nat × List Nat => x.1) ∘ fun p : Sys × Nat => (p.1.states.toNat, sysCh p.1 p.2 l)) = (fun s : Sys => s.states.toNat) ∘ Prod.fst := rfl
    rw [this, ← List.map_map, List.map_fst_zip (by rw [decode_len]; simp)]
  rw [e] at h2
  omega
theorem prod_4096 {parts : List Sys} (hp : areParts parts = true) : (partSizes parts).prod ≤ 4096 ∧ 1 ≤ (partSizes parts).prod ∧ parts.length ≤ 3 ∧ ∀ s ∈ parts, sysValid s = true := by
  simp only [areParts, Bool.and_eq_true, decide_eq_true_eq, List.all_eq_true] at hp
  obtain ⟨⟨p1, p2⟩, p3⟩ := hp
  refine ⟨Nat.le_trans (part_prod_le p3) (Nat.pow_le_pow_right (n := 16) (by omega) p2), ?_, p2, p3⟩
  have : ∀ l : List Sys, (∀ s ∈ l, sysValid s = true) → 1 ≤ (partSizes l).prod := by
    intro l
    induction l with
    | nil => intro _; simp [partSizes]
    | cons s l ih =>
      intro h
      have h1 := ih fun t ht => h t (by simp [ht])
      have h2 := valid_alpha (h s (by simp))
      unfold partSizes at h1 ⊢
      simp only [List.map_cons, List.prod_cons]
      exact Nat.mul_pos (by omega) h1
  exact this parts p3
theorem brokenN_len {parts : List Sys} (h : parts.length ≤ 3) (a p : Auto) (node : Nat) (l : Int) : (brokenN parts a p node l).length ≤ 4096 := by
  unfold brokenN; rw [List.length_map]; exact partsNext_len h _ _
theorem brokenN_lt {parts : List Sys} (hv : ∀ s ∈ parts, sysValid s = true) {a p : Auto} (ha : TabOk a) (hp : TabOk p) (node : Nat) (l : Int) : ∀ x ∈ brokenN parts a p node l, x < (partSizes parts).prod * a.next.length * p.next.length := by
  intro x hx
  unfold brokenN at hx
  obtain ⟨y, hy, rfl⟩ := List.mem_map.1 hx
  have h1 := partsNext_lt hv _ _ y hy
  have h2 := ha.lt (node / p.next.length % a.next.length) l (Nat.mod_lt _ ha.n1)
  have h3 := hp.lt (node % p.next.length) l (Nat.mod_lt _ hp.n1)
  generalize step a (node / p.next.length % a.next.length) l = su at h2 ⊢
  generalize step p (node % p.next.length) l = sp at h3 ⊢
  generalize (partSizes parts).prod = pr at h1 ⊢
  have h4 : (y + 1) * a.next.length ≤ pr * a.next.length := Nat.mul_le_mul_right _ h1
  rw [Nat.add_mul, Nat.one_mul] at h4
  have h5 : (y * a.next.length + su + 1) * p.next.length ≤ pr * a.next.length * p.next.length := Nat.mul_le_mul_right _ (by omega)
  rw [Nat.add_mul, Nat.add_mul, Nat.one_mul] at h5
  omega
theorem letters_asc (a : Int) : Asc (letters a) := by
  have : (letters a).Pairwise (· < ·) := by
    unfold letters lettersTo
    refine List.Pairwise.filter _ ?_
    rw [List.pairwise_map]
    refine List.Pairwise.imp ?_ (List.pairwise_lt_range (n := 6))
    intro x y h; simpa using h
  intro i j x y hij hx hy
  rw [List.pairwise_iff_getElem] at this
  obtain ⟨hi, rfl⟩ := List.getElem?_eq_some_iff.1 hx
  obtain ⟨hj, rfl⟩ := List.getElem?_eq_some_iff.1 hy
  exact this i j hi hj hij
theorem letters_lt6 {a : Int} (h : a ≤ 63) : ∀ l ∈ letters a, 0 ≤ l ∧ l < 6 := by
  intro l hl
  obtain ⟨m, hm, rfl⟩ := List.getElem_of_mem hl
  have := letters_mem a _ m h (List.getElem?_eq_getElem hm)
  exact ⟨this.2.1, this.2.2.1⟩

/-- The end of the search for a broken property. -/
def allLetters (parts : List Sys) (a : Auto) : Int := ((orTo parts parts.length ||| a.alphabet.toNat : Nat) : Int)
def BrokenW (parts : List Sys) (a p : Auto) : List Int → Prop := Wins (brokenN parts a p) (letters (allLetters parts a)) [0] (brokenG a p)

theorem IntsOwn.one (e : TypeId) (w : World) (x : Int) : IntsOwn e w.heap.size (w.alloc (.cells #[.int .i64 x] e)) (.slice (some ⟨w.heap.size, 0, none⟩) 1 1) [x] :=
  ⟨by simp, .inr ⟨w.heap.size, 1, #[.int .i64 x], rfl, Nat.le_refl _, heap_alloc_new w _, Nat.le_refl _, by unfold maxLen; omega, by simp, by simp⟩⟩

theorem enter_next (args : Array Value) (w : World) : (callFunc 89 args).run Tryz.prog w = .ok (.enter 89 args) w := rfl
theorem enter_goal (args : Array Value) (w : World) : (callFunc 91 args).run Tryz.prog w = .ok (.enter 91 args) w := rfl

theorem nextIs_broken {w0 : World} {bu bm bn br bp : Nat} {parts : List Sys} {a p : Auto} (h0 : Ground w0 bu bm bn br bp parts a p) (hp : areParts parts = true) (ha : TabOk a) (hq : TabOk p) (hT : Deb w0) {al : Int} (hal : al ≤ 63) :
    NextIs w0 ((partSizes parts).prod * a.next.length * p.next.length) 4096 (letters al) (.func (.func 89) #[] #[.pointer (some ⟨bu, 0, none⟩), .pointer (some ⟨bm, 0, none⟩), .pointer (some ⟨bn, 0, none⟩), .pointer (some ⟨br, 0, none⟩), .pointer (some ⟨bp, 0, none⟩)]) (brokenN parts a p) := by
  obtain ⟨hpr, hpr1, hpl3, hpall⟩ := prod_4096 hp
  have hKM : (partSizes parts).prod * a.next.length ≤ 49152 := Nat.mul_le_mul hpr ha.n12
  have hKM2 : (partSizes parts).prod * a.next.length * p.next.length ≤ 589824 := Nat.mul_le_mul hKM hq.n12
  refine ⟨⟨_, _, rfl, enter_next, fun w' k l vo out b hx hk hl ho hb0 hb1 hout => ?_⟩, fun k l _ _ => brokenN_len hpl3 a p k l, fun k l _ _ => brokenN_lt hpall ha hq k l⟩
  obtain ⟨hl0, hl6⟩ := letters_lt6 hal l hl
  obtain ⟨lt, rfl⟩ := Int.eq_ofNat_of_zero_le hl0
  exact brokenNext_c bu bm bn br bp parts a p k lt vo out b w0 w' h0 hx hb0 hp ha hq (by omega) (by omega) (hT.ext hx) ho hout hb1 (fun x hx => Nat.lt_of_lt_of_le (partsNext_lt hpall _ _ x hx) hpr) (partsNext_len hpl3 _ _)

theorem goalIs_broken {w0 : World} {b4 ba bm bn b5 : Nat} {a p : Auto} (h : Ground2 w0 b4 ba bm bn b5 a p) (ha : autoValid a = true) (hq : autoValid p = true) {n : Nat} (hn : n ≤ 1099511627776) :
    GoalIs w0 n (.func (.func 91) #[] #[.pointer (some ⟨b4, 0, none⟩), .pointer (some ⟨bm, 0, none⟩), .pointer (some ⟨bn, 0, none⟩), .pointer (some ⟨b5, 0, none⟩)]) (brokenG a p) :=
  ⟨⟨_, _, rfl, enter_goal, fun w' k hx hk => brokenGoal_c b4 ba bm bn b5 a p k w' (h.ext hx) (TabOk.valid ha) (TabOk.valid hq) (AccOk.valid ha) (AccOk.valid hq) (by omega)⟩⟩

/-- The automaton behind a pointer; behind none the trivial one. -/
def PtrAuto (w : World) (v : Value) (a : Auto) : Prop := (v = .pointer none ∧ a = trivAuto) ∨ ∃ b, v = .pointer (some ⟨b, 0, none⟩) ∧ ∃ vn va, Blk w b #[.int .i64 a.alphabet, vn, va] 29 ∧ IntssV w vn a.next ∧ BoolsV w va a.accept

set_option maxHeartbeats 1600000 in
theorem firstBroken_c (v va vp : Value) (parts : List Sys) (a p : Auto) (w : World) (hv : SyssV w v parts) (hlp : parts.length ≤ 1048576) (hp : areParts parts = true) (hA : PtrAuto w va a) (ha : autoValid a = true) (hvp : AutoV w vp p) (hpp : autoValid p = true) (hT : Deb w) :
    Calls Tryz.prog 43 #[v, va, vp] w (FoundEnd (BrokenW parts a p) w) := by
  obtain ⟨vnp, vap, rfl, hP1, hP2⟩ := hvp
  obtain ⟨aP1, cP1, rfl, -, -⟩ := hP1.open
  obtain ⟨aP2, cP2, rfl, -, -⟩ := hP2.open
  obtain ⟨hpr, hpr1, hpl3, hpall⟩ := prod_4096 hp
  have hPall := Lib.hid hpall
  have HP := Lib.hid hp
  clear hpall hp
  obtain ⟨oa, rfl⟩ : ∃ oa, va = .pointer oa := by
    rcases hA with ⟨rfl, -⟩ | ⟨b, rfl, -⟩
    · exact ⟨_, rfl⟩
    · exact ⟨_, rfl⟩
  go_enter Tryz.func43, Tryz.ntmps43
  obtain ⟨wo, hwo⟩ : ∃ wo, wo = (w.alloc (.cells #[.pointer oa] 73)).alloc (.cells #[.int .i64 p.alphabet, .slice aP1 p.next.length cP1, .slice aP2 p.accept.length cP2] 29) := ⟨_, rfl⟩
  have he : Ext w wo := by rw [hwo]; exact (Ext.alloc _ _).trans (Ext.alloc _ _)
  have h4 : Blk wo w.heap.size #[.pointer oa] 73 := by rw [hwo]; exact (Blk.new _ _ _).ext (Ext.alloc _ _)
  have h5 : Blk wo (w.heap.size + 1) #[.int .i64 p.alphabet, .slice aP1 p.next.length cP1, .slice aP2 p.accept.length cP2] 29 := by rw [hwo]; have := Blk.new (w.alloc (.cells #[.pointer oa] 73)) #[.int .i64 p.alphabet, .slice aP1 p.next.length cP1, .slice aP2 p.accept.length cP2] 29; rwa [World.size_alloc] at this
  go_wp2_with fail
  rw [← hwo]
  clear hwo
  obtain ⟨as1, cs1, rfl, -, -⟩ := hv.open
  refine (newParts_o _ parts _ (hv.mono he) hlp hPall.out).mono ?_
  rintro e w1 ⟨vpt, rfl, he1, vm, ps, rfl, hpt2⟩
  obtain ⟨am1, cm1, rfl, -, -⟩ := hpt2.movess.open
  go_wp2_with fail
  obtain ⟨w2, hw2⟩ : ∃ w2, w2 = w1.alloc (.cells #[.slice as1 parts.length cs1, .slice am1 parts.length cm1] 119) := ⟨_, rfl⟩
  have he2 : Ext w1 w2 := by rw [hw2]; exact Ext.alloc _ _
  have h8 : Blk w2 w1.heap.size #[.slice as1 parts.length cs1, .slice am1 parts.length cm1] 119 := by rw [hw2]; exact Blk.new _ _ _
  rw [← hw2]
  clear hw2
  have hx2 := (he.trans he1).trans he2
  refine (PartsAlphabet_c _ parts _ (hv.mono hx2) hlp).mono ?_
  rintro e w3 ⟨rfl, he3⟩
  have hx3 := hx2.trans he3
  have l1 : w.heap.size + 2 ≤ w1.heap.size := Nat.le_trans (Nat.le_trans (Nat.succ_le_of_lt h5.lt) he1.size) (Nat.le_refl _)
  have k4 := h4.ext ((he1.trans he2).trans he3)
  have k5 := h5.ext ((he1.trans he2).trans he3)
  have k8 := h8.ext he3
  have kmv := hpt2.ext (he2.trans he3)
  have c4 := k4.cell 0 rfl
  have f4 := k4.fr 0
  have HAl : Hid (partsAlphabet parts = (orTo parts parts.length : Nat)) := by show _ = _; unfold partsAlphabet; rw [if_pos HP.out]
  rw [HAl.out]
  have hA3 : PtrAuto w3 (.pointer oa) a := by
    rcases hA with h | ⟨b, h1, vn, vb, h2, h3, h4⟩
    · exact .inl h
    · exact .inr ⟨b, h1, vn, vb, h2.ext hx3, h3.mono hx3, h4.mono hx3⟩
  clear hA
  have k8lt := k8.lt
  generalize w1.heap.size = b8 at h8 k8 l1 k8lt ⊢
  clear he he1 he2 he3 h4 h5 h8 hpt2
  go_upto_if 21 with fail
  go_cut [] (fun wc => Ext w wc ∧ w3.heap.size ≤ wc.heap.size ∧ Blk wc (w.heap.size + 1) #[.int .i64 p.alphabet, .slice aP1 p.next.length cP1, .slice aP2 p.accept.length cP2] 29 ∧ Blk wc b8 #[.slice as1 parts.length cs1, .slice am1 parts.length cm1] 119 ∧ PartsV wc (.agg #[.slice as1 parts.length cs1, .slice am1 parts.length cm1]) parts ∧ ∃ ba, Blk wc w.heap.size #[.pointer (some ⟨ba, 0, none⟩)] 73 ∧ ∃ vn va, Blk wc ba #[.int .i64 a.alphabet, vn, va] 29 ∧ IntssV wc vn a.next ∧ BoolsV wc va a.accept)
  case first =>
    rcases hA3 with ⟨h1, rfl⟩ | ⟨b, h1, vn, vb, hb1, hb2, hb3⟩
    · cases h1
      have lt4 := k4.lt
      have c4' : ∀ o1 o2 o3, (((w3.alloc o1).alloc o2).alloc o3).cell? ⟨w.heap.size, 0, none⟩ = some (.pointer none) := fun _ _ _ => (k4.ext (((Ext.alloc _ _).trans (Ext.alloc _ _)).trans (Ext.alloc _ _))).cell 0 rfl
      have f4' : ∀ o1 o2 o3, (((w3.alloc o1).alloc o2).alloc o3).frozen? ⟨w.heap.size, 0, none⟩ = false := fun _ _ _ => (k4.ext (((Ext.alloc _ _).trans (Ext.alloc _ _)).trans (Ext.alloc _ _))).fr 0
      clear c4 f4
      go_wp2_with fail
      go_meet
      case rel =>
        have hch : Ext w3 (((w3.alloc (.cells #[.slice none 0 0] 68)).alloc (.cells #[.bool true] 4)).alloc (.cells #[.int .i64 0, .slice (some ⟨w3.heap.size, 0, none⟩) 1 1, .slice (some ⟨w3.heap.size + 1, 0, none⟩) 1 1] 29)) := ((Ext.alloc _ _).trans (Ext.alloc _ _)).trans (Ext.alloc _ _)
        have z1 : Blk (((w3.alloc (.cells #[.slice none 0 0] 68)).alloc (.cells #[.bool true] 4)).alloc (.cells #[.int .i64 0, .slice (some ⟨w3.heap.size, 0, none⟩) 1 1, .slice (some ⟨w3.heap.size + 1, 0, none⟩) 1 1] 29)) w3.heap.size #[.slice none 0 0] 68 := (Ext.blk ((Ext.alloc _ _).trans (Ext.alloc _ _)))
        have z2 : Blk (((w3.alloc (.cells #[.slice none 0 0] 68)).alloc (.cells #[.bool true] 4)).alloc (.cells #[.int .i64 0, .slice (some ⟨w3.heap.size, 0, none⟩) 1 1, .slice (some ⟨w3.heap.size + 1, 0, none⟩) 1 1] 29)) (w3.heap.size + 1) #[.bool true] 4 := Ext.blk1 (Ext.alloc _ _)
        have z3 := Ext.blk2 (Ext.refl (((w3.alloc (.cells #[.slice none 0 0] 68)).alloc (.cells #[.bool true] 4)).alloc (.cells #[.int .i64 0, .slice (some ⟨w3.heap.size, 0, none⟩) 1 1, .slice (some ⟨w3.heap.size + 1, 0, none⟩) 1 1] 29)))
        have z4 := k4.ext hch
        generalize (((w3.alloc (.cells #[.slice none 0 0] 68)).alloc (.cells #[.bool true] 4)).alloc (.cells #[.int .i64 0, .slice (some ⟨w3.heap.size, 0, none⟩) 1 1, .slice (some ⟨w3.heap.size + 1, 0, none⟩) 1 1] 29)) = wz at hch z1 z2 z3 z4 ⊢
        have lz := z4.lt
        have lz3 := hch.size
        have lz1 := z1.lt
        have lz2 := z2.lt
        have hxz : Ext w (wz.setCell ⟨w.heap.size, 0, none⟩ (.pointer (some ⟨w3.heap.size + 1 + 1, 0, none⟩))) := (hx3.trans hch).setCell (p := ⟨w.heap.size, 0, none⟩) (Nat.le_refl _) _
        refine ⟨hxz, by simp; omega, (k5.ext hch).other (p := ⟨w.heap.size, 0, none⟩) (by simp) _, (k8.ext hch).other (p := ⟨w.heap.size, 0, none⟩) (by simp only []; omega) _, ⟨_, _, rfl, hv.mono hxz, ((kmv.ext hch).store z4 (by decide) (by decide) 0 _).movess⟩, w3.heap.size + 1 + 1, z4.set 0 _, _, _, z3.other (p := ⟨w.heap.size, 0, none⟩) (by simp only []; omega) _, ?_, ?_⟩
        · refine ⟨_, 1, rfl, by simp [trivAuto], by decide, fun _ => ⟨w3.heap.size, 0, rfl, by simp; omega, fun i x hi => ?_⟩⟩
          obtain rfl : i = 0 := by have := (List.getElem?_eq_some_iff.1 hi).1; simp [trivAuto] at this; exact this
          simp [trivAuto] at hi
          subst hi
          exact ⟨.slice none 0 0, (z1.other (p := ⟨w.heap.size, 0, none⟩) (by simp only []; omega) _).cell 0 rfl, none, 0, rfl, by simp, by decide, fun h => by simp at h⟩
        · refine ⟨_, 1, rfl, by simp [trivAuto], by decide, fun _ => ⟨w3.heap.size + 1, 0, rfl, by simp; omega, fun i x hi => ?_⟩⟩
          obtain rfl : i = 0 := by have := (List.getElem?_eq_some_iff.1 hi).1; simp [trivAuto] at this; exact this
          simp [trivAuto] at hi
          subst hi
          exact (z2.other (p := ⟨w.heap.size, 0, none⟩) (by simp only []; omega) _).cell 0 rfl
    · cases h1
      go_wp2_with fail
      go_meet
      case rel => exact ⟨hx3, Nat.le_refl _, k5, k8, ⟨_, _, rfl, hv.mono hx3, kmv.movess⟩, b, k4, vn, vb, hb1, hb2, hb3⟩
  case rest =>
    obtain ⟨hxc, hsz, j5, j8, jpt, ba, j4, vnA, vaA, jA, jA1, jA2⟩ := hcut
    obtain ⟨aA1, cA1, rfl, -, -⟩ := jA1.open
    obtain ⟨aA2, cA2, rfl, -, -⟩ := jA2.open
    have hxw : Ext w wc := hxc
    clear k4 k5 k8 kmv c4 f4 hA3
    have HTA := Lib.hid (show ∀ (w' : World), Ext wc w' → AutoV w' (.agg #[.int .i64 a.alphabet, .slice aA1 a.next.length cA1, .slice aA2 a.accept.length cA2]) a from fun w' hx => ⟨_, _, rfl, jA1.mono hx, jA2.mono hx⟩)
    have HTP := Lib.hid (show ∀ (w' : World), Ext wc w' → AutoV w' (.agg #[.int .i64 p.alphabet, .slice aP1 p.next.length cP1, .slice aP2 p.accept.length cP2]) p from fun w' hx => ⟨_, _, rfl, hP1.mono (hxc.trans hx), hP2.mono (hxc.trans hx)⟩)
    have D0 := fun d os => cell_regrown (j4.cell 0 rfl) d os
    have D1 := fun d os => cell_regrown (jA.cell 0 rfl) d os
    have D2 := fun d os => cell_regrown (jA.cell 1 rfl) d os
    have D3 := fun d os => cell_regrown (jA.cell 2 rfl) d os
    have D4 := fun d os => cell_regrown (j5.cell 0 rfl) d os
    have D5 := fun d os => cell_regrown (j5.cell 1 rfl) d os
    have D6 := fun d os => cell_regrown (j5.cell 2 rfl) d os
    go_upto_region 5 with fail
    obtain ⟨Kc, HKc⟩ : ∃ Kc : FuncId → Array Value → World → Value → World → Prop, Hid (Kc = fun (_ : FuncId) (args : Array Value) (w0 : World) (v : Value) (w' : World) => Ext w0 w' ∧ ∀ u x, args = #[u] → AutoV w0 u x → TabOwn w' v x) := ⟨_, rfl⟩
    refine wp_region_ext2 (Kc := Kc) 8 (fun i => i == 6 || i == 7) (by kernel_rfl) (by kernel_rfl) ?_
    simp only [List.take_succ_cons, List.take_zero]
    repeat (refine WalkE2.pure rfl rfl (fun K hK => ?_); simp only [PureDo]; go_simp; refine hK _ ?_; clear hK K)
    refine WalkE2.step (fun wd hwd hdd K hK => ?_)
    simp only [OpDo, OpSafe, OpOut]
    go_simp
    refine ⟨(tableOf_o _ a _ (HTA.out _ ((Ext.drew _).trans hwd)) ha).mono ?_, ?_⟩
    · rintro e w' ⟨v, rfl, he, hv⟩
      exact ⟨v, rfl, by rw [HKc.out]; exact ⟨he, fun u x hu hux => by simp only [Array.mk.injEq, List.cons.injEq, and_true] at hu; subst hu; rw [← (HTA.out _ ((Ext.drew _).trans hwd)).inj hux]; exact hv⟩⟩
    intro u1 w5 hk1
    rw [HKc.out] at hk1
    have ht1 := hk1.2 _ a rfl (HTA.out _ ((Ext.drew _).trans hwd))
    refine ⟨hk1.1, hK _ _ ?_⟩
    clear hK K hdd hk1
    repeat (refine WalkE2.pure rfl rfl (fun K hK => ?_); simp only [PureDo]; go_simp; refine hK _ ?_; clear hK K)
    refine WalkE2.step (fun we hwe hde K hK => ?_)
    simp only [OpDo, OpSafe, OpOut]
    go_simp
    refine ⟨(tableOf_o _ p _ (HTP.out _ ((Ext.drew _).trans hwe)) hpp).mono ?_, ?_⟩
    · rintro e w' ⟨v, rfl, he, hv⟩
      exact ⟨v, rfl, by rw [HKc.out]; exact ⟨he, fun u x hu hux => by simp only [Array.mk.injEq, List.cons.injEq, and_true] at hu; subst hu; rw [← (HTP.out _ ((Ext.drew _).trans hwe)).inj hux]; exact hv⟩⟩
    intro u2 w6 hk2
    rw [HKc.out] at hk2
    have ht2 := hk2.2 _ p rfl (HTP.out _ ((Ext.drew _).trans hwe))
    refine ⟨hk2.1, hK _ _ ?_⟩
    clear hK K hde hk2
    refine WalkE2.step (fun wf hwf hdf K hK => ?_)
    simp only [OpDo, OpSafe, OpOut]
    go_simp
    refine ⟨Ext.alloc _ _, hK _ _ ?_⟩
    clear hK K hdf
    refine WalkE2.step (fun wg hwg hdg K hK => ?_)
    simp only [OpDo, OpSafe, OpOut]
    go_simp
    refine ⟨Ext.alloc _ _, hK _ _ ?_⟩
    clear hK K hdg
    refine WalkE2.nil (fun wn hwn hmn htot => ?_)
    simp only [List.drop_succ_cons, List.drop_zero, List.drop_nil]
    have q1 := ht1.mono (hmn 3 (by omega))
    have q2 := ht2.mono (hmn 5 (by omega))
    have g1 := (Blk.new wf _ _).ext (hmn 6 (by omega))
    have g2 := (Blk.new wg _ _).ext (hmn 7 (by omega))
    have hne : wf.heap.size ≠ wg.heap.size := by
      rcases htot 6 7 (by omega) (by omega) (by omega) rfl rfl with h | h
      · have := h.size
        simp only [upd2, WW] at this
        simp at this
        omega
      · have := h.size
        simp only [upd2, WW] at this
        simp at this
        omega
    obtain ⟨aT1, cT1, rfl, -, -⟩ := q1.tab.open
    obtain ⟨aT2, cT2, rfl, -, -⟩ := q2.tab.open
    have s1 : wc.heap.size ≤ wf.heap.size := Nat.le_trans (Ext.drew _).size hwf.size
    have s2 : wc.heap.size ≤ wg.heap.size := Nat.le_trans (Ext.drew _).size hwg.size
    have hxn : Ext wc wn := (Ext.drew _).trans hwn
    clear htot hmn ht1 ht2 hwd hwe hwf hwg hwn HKc D0 D1 D2 D3 D4 D5 D6 HTA HTP
    generalize wf.heap.size = b10 at g1 hne s1 ⊢
    generalize wg.heap.size = b11 at g2 hne s2 ⊢
    have cg1 := g1.cell 0 rfl
    have cg2 := g2.cell 0 rfl
    have fg1 := g1.fr 0
    have fg2 := g2.fr 0
    go_upto_region 6 with fail
    obtain ⟨w7, hw7⟩ : ∃ w7, w7 = (wn.setCell ⟨b10, 0, none⟩ (.slice aT1 (table a).length cT1)).setCell ⟨b11, 0, none⟩ (.slice aT2 (table p).length cT2) := ⟨_, rfl⟩
    have y7 : Ext wc w7 := by rw [hw7]; exact (hxn.setCell (p := ⟨b10, 0, none⟩) (by simp only []; omega) _).setCell (p := ⟨b11, 0, none⟩) (by simp only []; omega) _
    have r1 : Blk w7 b10 #[.slice aT1 (table a).length cT1] 95 := by rw [hw7]; exact (g1.set 0 _).other (p := ⟨b11, 0, none⟩) hne _
    have r2 : Blk w7 b11 #[.slice aT2 (table p).length cT2] 95 := by rw [hw7]; exact (g2.other (p := ⟨b10, 0, none⟩) hne.symm _).set 0 _
    have t4 := j4.ext y7
    have t5 := j5.ext y7
    have t8 := j8.ext y7
    have tA := jA.ext y7
    have x1 : TabOwn w7 (.slice aT1 (table a).length cT1) a := by rw [hw7]; exact (q1.store g1 (by decide) 0 _).store (g2.other (p := ⟨b10, 0, none⟩) hne.symm _) (by decide) 0 _
    have x2 : TabOwn w7 (.slice aT2 (table p).length cT2) p := by rw [hw7]; exact (q2.store g1 (by decide) 0 _).store (g2.other (p := ⟨b10, 0, none⟩) hne.symm _) (by decide) 0 _
    rw [← hw7]
    have y7s := y7.size
    clear hw7 q1 q2 g1 g2 cg1 cg2 fg1 fg2 hxn s1 s2 hne
    clear wn
    go_cut [12, 13] (fun v12 v13 w8 => ∃ b12 b13, v12 = .pointer (some ⟨b12, 0, none⟩) ∧ v13 = .pointer (some ⟨b13, 0, none⟩) ∧ Ext w7 w8 ∧ Blk w8 b12 #[.int .i64 (a.next.length : Nat)] 3 ∧ Blk w8 b13 #[.int .i64 (p.next.length : Nat)] 3)
    case first =>
      have l10 := r1.lt
      have l11 := r2.lt
      have z0 : w7.cell? ⟨b10, 0, none⟩ = some _ := r1.cell 0 rfl
      have z1 : w7.cell? ⟨b11, 0, none⟩ = some _ := r2.cell 0 rfl
      go_region
      all_goals go_wp2_with fail
      all_goals go_meet
      case rel =>
        have hch : Ext w7 (((w7.alloc (.cells #[.int .i64 ((table a).length : Nat)] 3)).alloc (.cells #[.int .i64 ((table p).length : Nat)] 3)).drew) := ((Ext.alloc _ _).trans (Ext.alloc _ _)).trans (Ext.drew _)
        rw [table_len, table_len] at hch ⊢
        exact ⟨_, _, rfl, rfl, hch, Ext.blk ((Ext.alloc _ _).trans (Ext.drew _)), Ext.blk1 (Ext.drew _)⟩
      case rel =>
        have hch : Ext w7 (((w7.alloc (.cells #[.int .i64 ((table p).length : Nat)] 3)).alloc (.cells #[.int .i64 ((table a).length : Nat)] 3)).drew) := ((Ext.alloc _ _).trans (Ext.alloc _ _)).trans (Ext.drew _)
        rw [table_len, table_len] at hch ⊢
        exact ⟨_, _, rfl, rfl, hch, Ext.blk1 (Ext.drew _), Ext.blk ((Ext.alloc _ _).trans (Ext.drew _))⟩
    case rest =>
      obtain ⟨b12, b13, rfl, rfl, hx8, hB12, hB13⟩ := hcut
      go_upto_region 9 with fail
      have hxw8 : Ext w wc := (hxc.trans y7).trans hx8
      have hax := y7.trans hx8
      have m4 := t4.ext hx8
      have m5 := t5.ext hx8
      have m8 := t8.ext hx8
      have mA := tA.ext hx8
      have m10 := r1.ext hx8
      have m11 := r2.ext hx8
      have mx1 := x1.mono hx8
      have mx2 := x2.mono hx8
      have mpt := PartsV.mono hax jpt
      clear t4 t5 t8 tA r1 r2 x1 x2 j4 j5 j8 jA
      have HTa := Lib.hid (TabOk.valid ha)
      have HTp := Lib.hid (TabOk.valid hpp)
      have HG := Lib.hid (show Ground wc b10 b13 b12 b11 b8 parts a p from ⟨⟨_, m10, mx1.tab⟩, hB13, hB12, ⟨_, m11, mx2.tab⟩, ⟨_, _, m8, mpt⟩⟩)
      have HG2 := Lib.hid (show Ground2 wc w.heap.size ba b13 b12 (w.heap.size + 1) a p from ⟨m4, ⟨_, _, mA, jA1.mono hax, jA2.mono hax⟩, hB13, hB12, ⟨_, _, m5, hP1.mono hxw8, hP2.mono hxw8⟩⟩)
      have hK := HTa.out.n12
      have hM := HTp.out.n12
      have hK1 := HTa.out.n1
      have hM1 := HTp.out.n1
      have hKM : (partSizes parts).prod * a.next.length ≤ 49152 := Nat.mul_le_mul hpr hK
      have hKM2 : (partSizes parts).prod * a.next.length * p.next.length ≤ 589824 := Nat.mul_le_mul hKM hM
      have hKM3 : 1 ≤ (partSizes parts).prod * a.next.length * p.next.length := Nat.mul_pos (Nat.mul_pos hpr1 hK1) hM1
      have hal := autoValid_facts ha
      obtain ⟨na, hna⟩ := Int.eq_ofNat_of_zero_le hal.1
      have hna6 : na ≤ 63 := by have := hal.2.1; omega
      have ho64 := orTo_lt hPall.out parts.length
      have HAL := Lib.hid (show bits .or .i64 ((orTo parts parts.length : Nat) : Int) a.alphabet = allLetters parts a by rw [hna, i64_or_nat _ _ (by omega) (by omega)]; unfold allLetters; rw [hna, Int.toNat_natCast])
      have HA63 := Lib.hid (show 0 ≤ allLetters parts a ∧ allLetters parts a ≤ 63 by
        unfold allLetters
        rw [hna, Int.toNat_natCast]
        have : orTo parts parts.length ||| na < 2 ^ 6 := Nat.or_lt_two_pow (by omega) (by omega)
        omega)
      have e3 := HAL.out
      have e1 : IntKind.i64.wrap (((partSizes parts).prod : Int) * (a.next.length : Int)) = ((partSizes parts).prod : Int) * (a.next.length : Int) := by rw [show ((partSizes parts).prod : Int) * (a.next.length : Int) = (((partSizes parts).prod * a.next.length : Nat) : Int) by simp, IntKind.wrap_i64]; omega
      obtain ⟨NN, hNN⟩ : ∃ NN, Hid (NN = (partSizes parts).prod * a.next.length * p.next.length) := ⟨_, rfl⟩
      have e2 : IntKind.i64.wrap (((partSizes parts).prod : Int) * (a.next.length : Int) * (p.next.length : Int)) = (NN : Int) := by rw [hNN.out, show ((partSizes parts).prod : Int) * (a.next.length : Int) * (p.next.length : Int) = (((partSizes parts).prod * a.next.length * p.next.length : Nat) : Int) by simp, IntKind.wrap_i64]; omega
      rw [← hNN.out] at hKM2 hKM3
      have HPT := Lib.hid mpt
      have hTc := hT.ext hxw8
      have HNX := Lib.hid (fun (w' : World) (hx : Ext wc w') => nextIs_broken (HG.out.ext hx) HP.out HTa.out HTp.out (hTc.ext hx) HA63.out.2)
      rw [← hNN.out] at HNX
      have HGI := Lib.hid (fun (w' : World) (hx : Ext wc w') => goalIs_broken (HG2.out.ext hx) ha hpp (n := NN) (by omega))
      clear hal hna hna6 ho64 HTa HTp mpt mx1 mx2 m10 m11 jA1 jA2 jpt
      have D0 := fun d os => cell_regrown (m8.cell 0 rfl) d os
      have D1 := fun d os => cell_regrown (m8.cell 1 rfl) d os
      have D2 := fun d os => cell_regrown (hB12.cell 0 rfl) d os
      have D3 := fun d os => cell_regrown (hB13.cell 0 rfl) d os
      have D4 := fun d os => cell_regrown (m4.cell 0 rfl) d os
      have D5 := fun d os => cell_regrown (mA.cell 0 rfl) d os
      obtain ⟨Kc, HKc⟩ : ∃ Kc : FuncId → Array Value → World → Value → World → Prop, Hid (Kc = fun (f : FuncId) (_ : Array Value) (w0 : World) (v : Value) (w' : World) => Ext w0 w' ∧ (f = 93 → v = .int .i64 ((partSizes parts).prod : Nat)) ∧ (f = 47 → IntsV w' v (letters (allLetters parts a))) ∧ (f = 92 → ∃ r, FirstIs (BrokenW parts a p) r ∧ v = .tuple #[.string (rtext r), .bool r.isSome])) := ⟨_, rfl⟩
      refine wp_region_ext (Kc := Kc) 19 (by kernel_rfl) (by kernel_rfl) ?_
      simp only [List.take_succ_cons, List.take_zero]
      repeat (refine WalkE.pure rfl (fun K hK => ?_); simp only [PureDo]; go_simp; refine hK _ ?_; clear hK K)
      refine WalkE.step (fun K hK wd hwd hdd => ?_)
      simp only [OpDo, OpSafe, OpOut]
      go_simp
      refine ⟨(size_c _ parts _ (PartsV.mono ((Ext.drew _).trans hwd) HPT.out) HP.out).mono ?_, ?_⟩
      · rintro e w' ⟨rfl, he⟩
        exact ⟨_, rfl, by rw [HKc.out]; exact ⟨he, fun _ => rfl, fun h => absurd h (by decide), fun h => absurd h (by decide)⟩⟩
      intro u1 w5 hk1
      rw [HKc.out] at hk1
      obtain ⟨hk1, hk1', -⟩ := hk1
      obtain rfl := hk1' rfl
      refine ⟨hk1, hK _ _ ?_⟩
      clear hK K hdd hk1 hk1'
      repeat (refine WalkE.pure rfl (fun K hK => ?_); simp only [PureDo]; go_simp; refine hK _ ?_; clear hK K)
      refine WalkE.step (fun K hK we hwe hde => ?_)
      simp only [OpDo, OpSafe, OpOut]
      go_simp
      have hS := IntsOwn.one 3 we 0
      refine ⟨Ext.alloc _ _, hK _ _ ?_⟩
      clear hK K hde
      repeat (refine WalkE.pure rfl (fun K hK => ?_); simp only [PureDo]; go_simp; refine hK _ ?_; clear hK K)
      refine WalkE.step (fun K hK wf hwf hdf => ?_)
      simp only [OpDo, OpSafe, OpOut]
      go_simp
      refine ⟨(lettersOf_c _ _ HA63.out.1 HA63.out.2).mono ?_, ?_⟩
      · rintro e w' ⟨v, rfl, he, hv⟩
        exact ⟨v, rfl, by rw [HKc.out]; exact ⟨he, fun h => absurd h (by decide), fun _ => hv, fun h => absurd h (by decide)⟩⟩
      intro u2 w6 hk2
      rw [HKc.out] at hk2
      obtain ⟨hk2, -, hk2', -⟩ := hk2
      have hL := hk2' rfl
      refine ⟨hk2, hK _ _ ?_⟩
      clear hK K hdf hk2 hk2'
      repeat (refine WalkE.pure rfl (fun K hK => ?_); simp only [PureDo]; go_simp; refine hK _ ?_; clear hK K)
      refine WalkE.step (fun K hK wg hwg hdg => ?_)
      simp only [OpDo, OpSafe, OpOut]
      go_simp
      have j6 : Ext (we.alloc (.cells #[.int .i64 0] 3)) wg := hdg _ (Array.mem_of_getElem? (i := 1) rfl) rfl
      have j13 : Ext w6 wg := hdg _ (Array.mem_of_getElem? (i := 2) rfl) rfl
      have hxg : Ext wc wg := (Ext.drew _).trans hwg
      have hNX := HNX.out _ hxg
      have hGI := HGI.out _ hxg
      have hSg := (hS.low (Nat.zero_le _)).ext j6
      have hLg := hL.mono j13
      refine ⟨(firstPath_c NN 4096 _ _ _ _ [0] (letters (allLetters parts a)) (brokenN parts a p) (brokenG a p) wg hSg (by simp) (by intro s hs; simp at hs; omega) hLg (letters_asc _) (letters_lt6 HA63.out.2) hNX hGI (by omega) (by omega)).mono ?_, ?_⟩
      · rintro e w' ⟨r, hr, rfl, he⟩
        exact ⟨_, rfl, by rw [HKc.out]; exact ⟨he, fun h => absurd h (by decide), fun h => absurd h (by decide), fun _ => ⟨r, hr, rfl⟩⟩⟩
      intro u3 w9 hk3
      rw [HKc.out] at hk3
      obtain ⟨hk3, -, -, hk3'⟩ := hk3
      obtain ⟨r, hr, rfl⟩ := hk3' rfl
      refine ⟨hk3, hK _ _ ?_⟩
      clear hK K hdg hk3 hk3'
      repeat (refine WalkE.pure rfl (fun K hK => ?_); simp only [PureDo]; go_simp; refine hK _ ?_; clear hK K)
      refine WalkE.nil (fun wn hwn hmn => ?_)
      simp only [List.drop_succ_cons, List.drop_zero, List.drop_nil]
      go_wp2_with fail
      go_ret2
      exact ⟨r, hr, rfl, hxw8.trans ((Ext.drew _).trans hwn)⟩
end Go.Proofs.YthpiihblmekijaaGreatDoor
