/- The program's SystemOf (begun). -/
import Derived.Test.YtloampfmlhmlhaaGreatDoorWalkU
import Derived.Test.YtloampfmlhmlhaaGreatDoorPool
namespace Go.Proofs.YtloampfmlhmlhaaGreatDoor
set_option linter.unusedSimpArgs false
set_option linter.unusedVariables false
open Go Go.RowKit
set_option maxHeartbeats 4000000
set_option maxRecDepth 100000

/-- The edges of a state's first m letters. -/
def edgesTo (A : Auto) (q m : Nat) : List Edge := (((letters A.alphabet).take m).filter fun l => accepts A (step A q l)).map fun l => ⟨(rankA A q : Int), l, (rankA A (step A q l) : Int)⟩
theorem edgesTo_zero (A : Auto) (q : Nat) : edgesTo A q 0 = [] := rfl
theorem edgesTo_full (A : Auto) (q : Nat) : edgesTo A q (letters A.alphabet).length = edgesFrom A q := by unfold edgesTo edgesFrom; rw [List.take_length]
theorem edgesTo_succ {A : Auto} {q m : Nat} {l : Int} (h : (letters A.alphabet)[m]? = some l) : edgesTo A q (m + 1) = edgesTo A q m ++ (if accepts A (step A q l) = true then [⟨(rankA A q : Int), l, (rankA A (step A q l) : Int)⟩] else []) := by
  unfold edgesTo
  rw [List.take_add_one, h, Option.toList_some, List.filter_append, List.map_append]
  by_cases ha : accepts A (step A q l) = true <;> simp [ha]
theorem edgesTo_len (A : Auto) (q m : Nat) : (edgesTo A q m).length ≤ 6 := by
  unfold edgesTo
  rw [List.length_map]
  refine Nat.le_trans (List.length_filter_le _ _) ?_
  rw [List.length_take]
  exact Nat.le_trans (Nat.min_le_right _ _) (lettersTo_len A.alphabet 6)
def edgesK (A : Auto) (nd : List Nat) (k : Nat) : List Edge := (nd.take k).flatMap (edgesFrom A)
theorem edgesK_succ {A : Auto} {nd : List Nat} {k q : Nat} (h : nd[k]? = some q) : edgesK A nd (k + 1) = edgesK A nd k ++ edgesFrom A q := by
  unfold edgesK
  rw [List.take_add_one, h, Option.toList_some, List.flatMap_append]
  simp
theorem edgesK_len (A : Auto) (nd : List Nat) : ∀ k, (edgesK A nd k).length ≤ 6 * k
  | 0 => by simp [edgesK]
  | k + 1 => by
    have ih := edgesK_len A nd k
    cases h : nd[k]? with
    | none =>
      have : edgesK A nd (k + 1) = edgesK A nd k := by unfold edgesK; rw [List.take_add_one, h]; simp
      rw [this]; omega
    | some q =>
      rw [edgesK_succ h, List.length_append, ← edgesTo_full]
      have := edgesTo_len A q (letters A.alphabet).length
      omega

/-- What SystemOf returns. -/
def SysOfEnd (A : Auto) (w : World) (e : Ending) (w' : World) : Prop :=
  Ext w w' ∧ ((autoValid A = true ∧ accepts A 0 = true ∧ ∃ ve, e = .returned (.tuple #[.agg #[.int .i64 A.alphabet, .int .i64 (rankA A A.next.length), ve], .bool true]) ∧ EdgesOwn 108 w.heap.size w' ve (sysOf A).edges) ∨
    ((autoValid A && accepts A 0) = false ∧ e = .returned (.tuple #[.agg #[.int .i64 0, .int .i64 0, .slice none 0 0], .bool false])))

theorem tnd_put {S : Nat → Prop} (w : World) {b : Nat} (hS : S b) (j : Nat) (v : Value) : Tnd S w (w.setCell ⟨b, j, none⟩ v) :=
  ⟨rfl, rfl, rfl, by simp, fun c _ hc => Below.heap_setCell w ⟨b, j, none⟩ v c (fun e => hc (by rw [e]; exact hS))⟩

theorem SystemOf_c (v : Value) (A : Auto) (w : World) (hv : AutoV w v A) (hT : Deb w) : Calls Tryz.prog 19 #[v] w (SysOfEnd A w) := by
  obtain ⟨vn, va, rfl, hN1, hA1⟩ := hv
  have hN1' := hN1
  have hA1' := hA1
  obtain ⟨aN1, cN1, rfl, -, -⟩ := hN1'.open
  obtain ⟨aA1, cA1, rfl, -, -⟩ := hA1'.open
  clear hN1' hA1'
  have HV := Lib.hid (show ∀ w', Ext w w' → AutoV w' (.agg #[.int .i64 A.alphabet, .slice aN1 A.next.length cN1, .slice aA1 A.accept.length cA1]) A from fun w' h => ⟨_, _, rfl, hN1.mono h, hA1.mono h⟩)
  have HNX := Lib.hid (show ∀ w', Ext w w' → IntssV w' (.slice aN1 A.next.length cN1) A.next from fun w' h => hN1.mono h)
  have HACC := Lib.hid (show ∀ w', Ext w w' → BoolsV w' (.slice aA1 A.accept.length cA1) A.accept from fun w' h => hA1.mono h)
  obtain ⟨wo, hwo⟩ : ∃ wo, wo = (w.alloc (.cells #[.int .i64 A.alphabet, .slice aN1 A.next.length cN1, .slice aA1 A.accept.length cA1] 26)).alloc (.cells #[.int .i64 0, .int .i64 0, .slice none 0 0] 29) := ⟨_, rfl⟩
  have he : Ext w wo := by rw [hwo]; exact (Ext.alloc _ _).trans (Ext.alloc _ _)
  have b1 : Blk wo w.heap.size #[.int .i64 A.alphabet, .slice aN1 A.next.length cN1, .slice aA1 A.accept.length cA1] 26 := by rw [hwo]; exact (Blk.new _ _ _).ext (Ext.alloc _ _)
  have b2 : Blk wo (w.heap.size + 1) #[.int .i64 0, .int .i64 0, .slice none 0 0] 29 := by
    rw [hwo]; have := Blk.new (w.alloc (.cells #[.int .i64 A.alphabet, .slice aN1 A.next.length cN1, .slice aA1 A.accept.length cA1] 26)) #[.int .i64 0, .int .i64 0, .slice none 0 0] 29; rwa [World.size_alloc] at this
  obtain ⟨vb, hvb⟩ : ∃ vb, autoValid A = vb := ⟨_, rfl⟩
  have HVB := Lib.hid hvb
  have CAV := Lib.hid (AutomatonValid_b hvb (HV.out _ he))
  clear hvb hN1 hA1
  go_enter Tryz.func19, Tryz.ntmps19
  have b1_0 := b1.cell 0 rfl; have b1_1 := b1.cell 1 rfl; have b1_2 := b1.cell 2 rfl
  go_wp2_with fail
  rw [← hwo]
  clear hwo
  go_wp2_with fail
  refine CAV.out.mono ?_
  rintro e w2 ⟨rfl, he2⟩
  clear CAV b1_0 b1_1 b1_2
  replace he := he.trans he2
  replace b1 := b1.ext he2
  replace b2 := b2.ext he2
  clear he2
  have hbig : w.heap.size ≤ w.heap.size + 1 := by omega
  have b1_0 := b1.cell 0 rfl; have b1_1 := b1.cell 1 rfl; have b1_2 := b1.cell 2 rfl
  have rc0 := b2.cell 0 rfl; have rf0 := b2.fr 0; have rc1 := b2.cell 1 rfl; have rf1 := b2.fr 1; have rc2 := b2.cell 2 rfl; have rf2 := b2.fr 2
  cases vb with
  | false =>
    go_wp2_with fail
    refine bodyPost_ret (v := .tuple #[.agg #[.int .i64 0, .int .i64 0, .slice none 0 0], .bool false]) (by simp [results, Tryz.results19, go_sem, rc0, rc1, rc2, rf0, rf1, rf2]) rfl ?_
    exact ⟨(((he.setCell (p := ⟨(w.heap.size + 1), 0, none⟩) (by simp only []; omega) _).setCell (p := ⟨(w.heap.size + 1), 1, none⟩) (by simp only []; omega) _).setCell (p := ⟨(w.heap.size + 1), 2, none⟩) (by simp only []; omega) _), .inr ⟨by rw [HVB.out]; rfl, rfl⟩⟩
  | true =>
    obtain ⟨-, -, hn1, hn12, hna⟩ := autoValid_facts HVB.out
    have h0 : 0 < A.accept.length := by omega
    have HNA := Lib.hid hna
    have hac12 : A.accept.length ≤ 12 := by omega
    clear hna
    obtain ⟨ab, hab⟩ : ∃ ab, A.accept[0]? = some ab := ⟨_, List.getElem?_eq_getElem h0⟩
    have hacc0 : accepts A 0 = ab := by unfold accepts; rw [hab]; rfl
    have HA0 := Lib.hid hacc0
    obtain ⟨aa, cc, ea, -, hn⟩ := (HACC.out _ he).open
    cases ea
    obtain ⟨ba, offa, rfl, -, hc⟩ := hn 0 ab hab
    have q0 : w2.cell? ⟨ba, offa, none⟩ = some (.bool ab) := by have := hc 0 ab hab; simpa [BoolAt] using this
    have HC := Lib.hid hc
    clear hn hab hacc0 hc
    have hi0 : (0 : Int) < (A.accept.length : Int) := by omega
    cases ab with
    | false =>
      go_wp2_with fail
      refine bodyPost_ret (v := .tuple #[.agg #[.int .i64 0, .int .i64 0, .slice none 0 0], .bool false]) (by simp [results, Tryz.results19, go_sem, rc0, rc1, rc2, rf0, rf1, rf2]) rfl ?_
      exact ⟨(((he.setCell (p := ⟨(w.heap.size + 1), 0, none⟩) (by simp only []; omega) _).setCell (p := ⟨(w.heap.size + 1), 1, none⟩) (by simp only []; omega) _).setCell (p := ⟨(w.heap.size + 1), 2, none⟩) (by simp only []; omega) _), .inr ⟨by rw [HVB.out, HA0.out]; rfl, rfl⟩⟩
    | true =>
      go_wp2_with fail
      clear q0 hi0 h0
      go_loopw [4, 27] (fun f i wr => ∃ k : Nat, k ≤ A.accept.length ∧ i = .int .i64 k ∧ f = .int .i64 (setA A k) ∧ w2 = wr) (fun _ i _ => A.accept.length - (intOf i).toNat)
      case atStart => exact ⟨0, by omega, rfl, rfl, rfl⟩
      case round =>
        obtain ⟨k, hk, rfl, rfl, rfl⟩ := hrel
        have hk12 : k ≤ 12 := by omega
        by_cases hlt : k < A.accept.length
        · obtain ⟨x, hx⟩ : ∃ x, A.accept[k]? = some x := ⟨_, List.getElem?_eq_getElem hlt⟩
          have hax : accepts A k = x := by unfold accepts; rw [hx]; rfl
          have qk : w2.cell? ⟨ba, offa + k, none⟩ = some (.bool x) := by have := HC.out k x hx; simpa [BoolAt] using this
          have hks : (k : Int) < (A.accept.length : Int) := by omega
          have hl := setA_lt A (k := k) (by omega)
          have hp : 2 ^ k < 65536 := pow_lt16 (by omega)
          have HOR : Hid (x = true → bits .or .i64 (setA A k : Int) (wrap64 (2 ^ k)) = (setA A (k + 1) : Int)) := Lib.hid fun h => by
            rw [wrap_pow k (by omega), i64_or_nat _ _ (by omega) (by omega)]
            show _ = ((if accepts A k = true then setA A k ||| 2 ^ k else setA A k : Nat) : Int)
            rw [if_pos (by rw [hax, h])]
          have HNO : Hid (x = false → setA A (k + 1) = setA A k) := Lib.hid fun h => by
            show (if accepts A k = true then setA A k ||| 2 ^ k else setA A k) = _
            rw [if_neg (by rw [hax, h]; simp)]
          clear hx hax hp
          cases x with
          | false =>
            go_wp2_with fail
            exact ⟨⟨k + 1, by omega, by go_num, by rw [HNO.out rfl], by first | rfl | trivial⟩, by simp [intOf]; omega⟩
          | true =>
            go_wp2_with fail
            exact ⟨⟨k + 1, by omega, by go_num, congrArg _ (HOR.out rfl), by first | rfl | trivial⟩, by simp [intOf]; omega⟩
        · obtain rfl : k = A.accept.length := by omega
          have hl := setA_lt A hk12
          have CRK : Hid (∀ (j : Nat) w', j ≤ A.next.length → Calls Tryz.prog 65 #[.int .i64 (setA A A.accept.length), .int .i64 j] w' (Same (.int .i64 (rankA A j)) w')) := Lib.hid fun j w' hj => by
            have hna := HNA.out
            have := rank_c (setA A A.accept.length) j w' hl (by omega)
            rwa [pop_rank A (n := A.accept.length) hk12 (by omega)] at this
          go_wp2_with fail
          have D0 := fun d os => cell_regrown (b1.cell 0 rfl) d os
          have D1 := fun d os => cell_regrown (b1.cell 1 rfl) d os
          have D2 := fun d os => cell_regrown (b1.cell 2 rfl) d os
          obtain ⟨Kc, HKc⟩ : ∃ Kc : FuncId → Array Value → World → Value → World → Prop, Hid (Kc = fun _ _ w0 v w' => Ext w0 w' ∧ v = .int .i64 (rankA A A.next.length)) := ⟨_, rfl⟩
          refine wp_region_ext (Kc := Kc) 9 (by kernel_rfl) (by kernel_rfl) ?_
          simp only [List.take_succ_cons, List.take_zero]
          repeat (refine WalkE.pure rfl (fun K hK => ?_); simp only [PureDo]; go_simp; refine hK _ ?_; clear hK K)
          refine WalkE.step (fun K hK wc hwc hdc => ?_)
          simp only [OpDo, OpSafe, OpOut]
          go_simp
          refine ⟨(CRK.out A.next.length _ (Nat.le_refl _)).mono ?_, ?_⟩
          · rintro e w' ⟨rfl, rfl⟩
            exact ⟨_, rfl, by rw [HKc.out]; exact ⟨Ext.refl _, rfl⟩⟩
          intro u4 w4 hk4
          rw [HKc.out] at hk4
          obtain ⟨hk4, rfl⟩ := hk4
          refine ⟨hk4, hK _ _ ?_⟩
          clear hK K hdc hk4
          repeat (refine WalkE.pure rfl (fun K hK => ?_); simp only [PureDo]; go_simp; refine hK _ ?_; clear hK K)
          refine WalkE.step (fun K hK we hwe hde => ?_)
          simp only [OpDo, OpSafe, OpOut]
          go_simp
          refine ⟨Ext.alloc _ _, hK _ _ ?_⟩
          clear hK K hde
          refine WalkE.nil (fun wn hwn hmn => ?_)
          simp only [List.drop_succ_cons, List.drop_zero, List.drop_nil]
          have hxn : Ext w2 wn := (Ext.drew _).trans hwn
          have b7 : Blk wn we.heap.size #[.int .i64 0, .int .i64 0, .slice none 0 0] 29 := (Blk.new we _ _).ext (hmn 8 (by omega))
          have hp7 : w2.heap.size ≤ we.heap.size := hwe.size
          clear hmn HKc D0 D1 D2 hwn hwe
          generalize we.heap.size = p7 at b7 hp7 ⊢
          clear we
          have sc0 := b7.cell 0 rfl; have sf0 := b7.fr 0; have sc1 := b7.cell 1 rfl; have sf1 := b7.fr 1; have sc2 := b7.cell 2 rfl; have sf2 := b7.fr 2
          obtain ⟨rk, hrk⟩ : ∃ rk, (rankA A A.next.length : Int) = rk := ⟨_, rfl⟩
          rw [hrk]
          have HRK := Lib.hid hrk
          clear hrk
          obtain ⟨ha0, ha63, -⟩ := autoValid_facts HVB.out
          have hne : ¬ (w.heap.size = p7) := by have := b1.lt; omega
          have hne' : ¬ (p7 = w.heap.size) := by omega
          have b1n := b1.ext hxn
          have qc0 := b1n.cell 0 rfl; have qc1 := b1n.cell 1 rfl; have qc2 := b1n.cell 2 rfl
          go_wp2_with fail
          refine (lettersOf_o A.alphabet _ ha0 ha63).mono ?_
          rintro e w4 ⟨vl, rfl, he4, hvl⟩
          have b73 := ((b7.set 0 (.int .i64 A.alphabet)).set 1 (.int .i64 rk)).set 2 (.slice none 0 0)
          have he3 : Ext w2 (((wn.setCell ⟨p7, 0, none⟩ (.int .i64 A.alphabet)).setCell ⟨p7, 1, none⟩ (.int .i64 rk)).setCell ⟨p7, 2, none⟩ (.slice none 0 0)) := ((hxn.setCell (p := ⟨p7, 0, none⟩) (by simp only []; omega) _).setCell (p := ⟨p7, 1, none⟩) (by simp only []; omega) _).setCell (p := ⟨p7, 2, none⟩) (by simp only []; omega) _
          generalize ((wn.setCell ⟨p7, 0, none⟩ (.int .i64 A.alphabet)).setCell ⟨p7, 1, none⟩ (.int .i64 rk)).setCell ⟨p7, 2, none⟩ (.slice none 0 0) = w3 at b73 he3 he4 hvl ⊢
          clear b7 hxn b1n
          have b74 := b73.ext he4
          have he24 := he3.trans he4
          have HSZ := Lib.hid (show p7 < w3.heap.size from b73.lt)
          clear b73 he3 sc0 sc1 sc2 sf0 sf1 sf2 qc0 qc1 qc2 wn
          obtain ⟨aL, cL, rfl⟩ := own_any' hvl.own
          go_wp2_with fail
          refine (members_c (setA A A.accept.length) w4 (by omega) (hT.ext (he.trans he24))).mono ?_
          rintro e w5 ⟨vm, rfl, he5, hvm⟩
          rw [bits_setA A hac12] at hvm
          obtain ⟨aM, cM, rfl⟩ := own_any' hvm.own
          have hx5 : Ext w w5 := he.trans (he24.trans he5)
          have hx25 : Ext w2 w5 := he24.trans he5
          have HB1 := Lib.hid (b1.ext hx25)
          have HB2 := Lib.hid (b2.ext hx25)
          have b75 := b74.ext he5
          have HLO := Lib.hid (own_ext hvl.own he5)
          have HMO := Lib.hid hvm
          have hpw : w.heap.size + 1 < p7 := by have := b2.lt; omega
          have hp3 : p7 < w3.heap.size := HSZ.out
          have h34 : w3.heap.size ≤ w4.heap.size := he4.size
          have h45 : w4.heap.size ≤ w5.heap.size := he5.size
          obtain ⟨nd, hnd⟩ : ∃ nd, (List.range A.accept.length).filter (accepts A) = nd := ⟨_, rfl⟩
          have HND : Hid (∀ (k q : Nat), nd[k]? = some q → q < A.next.length ∧ accepts A q = true) := Lib.hid fun k q h => by
            have h1 := List.mem_of_getElem? h
            rw [← hnd, List.mem_filter, List.mem_range] at h1
            exact ⟨by have := HNA.out; omega, h1.2⟩
          have hnl : nd.length ≤ 12 := by
            have := List.length_filter_le (accepts A) (List.range A.accept.length)
            rw [hnd, List.length_range] at this; omega
          have hml : (ints nd).length = nd.length := by simp [ints]
          have HSE : Hid ((sysOf A).edges = edgesK A nd nd.length) := Lib.hid (by
            unfold edgesK; rw [List.take_length, ← hnd]; show ((List.range A.next.length).filter (accepts A)).flatMap (edgesFrom A) = _; rw [HNA.out])
          rw [hnd] at hvm HMO
          rw [hnd, hml]
          clear hnd hvl hvm b1 b2 b74
          have HW := Lib.hid (show ∀ wr, Tnd (fun b => b = p7 ∨ w5.heap.size ≤ b) w5 wr → Ext w wr ∧ Ext w2 wr from fun wr h =>
            ⟨Below.trans hx5 (h.below hx5.size fun b e => by have := hx5.size; rcases e with rfl | e <;> omega), Below.trans hx25 (h.below hx25.size fun b e => by have := hx25.size; rcases e with rfl | e <;> omega)⟩)
          have HLR := Lib.hid (show ∀ wr, Tnd (fun b => b = p7 ∨ w5.heap.size ≤ b) w5 wr → IntsV wr (.slice aL (letters A.alphabet).length cL) (letters A.alphabet) from fun wr h =>
            (show IntsOwn 3 _ _ _ _ from h.own HLO.out fun g hg e => by have := World.ownsRow.lt HLO.out g hg; rcases e with rfl | e <;> omega).ints)
          have HMR := Lib.hid (show ∀ wr, Tnd (fun b => b = p7 ∨ w5.heap.size ≤ b) w5 wr → IntsV wr (.slice aM nd.length cM) (ints nd) from fun wr h => by
            rw [← hml]
            exact (show IntsOwn 3 _ _ _ _ from h.own HMO.out fun g hg e => by have := World.ownsRow.lt HMO.out g hg; rcases e with rfl | e <;> omega).ints)
          have HBR := Lib.hid (fun wr (h : Tnd (fun b => b = p7 ∨ w5.heap.size ≤ b) w5 wr) => HB1.out.tnd h (show ¬ (w.heap.size = p7 ∨ w5.heap.size ≤ w.heap.size) by omega))
          have HBS := Lib.hid (fun wr (h : Tnd (fun b => b = p7 ∨ w5.heap.size ≤ b) w5 wr) => HB2.out.tnd h (show ¬ (w.heap.size + 1 = p7 ∨ w5.heap.size ≤ w.heap.size + 1) by omega))
          have HE2 := Lib.hid he
          clear he24 he5 he4 hx5 hx25 he hp7 hp3 h34 h45
          go_wp2_with fail
          go_loopw [52] (fun i wr => ∃ (k : Nat) (ve : Value), k ≤ nd.length ∧ i = .int .i64 k ∧ Tnd (fun b => b = p7 ∨ w5.heap.size ≤ b) w5 wr ∧ Blk wr p7 #[.int .i64 A.alphabet, .int .i64 rk, ve] 29 ∧ EdgesOwn 108 w5.heap.size wr ve (edgesK A nd k)) (fun i _ => nd.length - (intOf i).toNat)
          case atStart => exact ⟨0, _, by omega, rfl, Tnd.refl _ _, b75, EdgesOwn.nil _ _ _⟩
          case round =>
            clear b75
            obtain ⟨k, ve, hk, rfl, hT5, hb7, hown⟩ := hrel
            have hx2 := (HW.out _ hT5).2
            have b1 := HBR.out _ hT5
            by_cases hlt : k < nd.length
            · obtain ⟨q, hq⟩ : ∃ q, nd[k]? = some q := ⟨_, List.getElem?_eq_getElem hlt⟩
              have hqi : (ints nd)[k]? = some (q : Int) := by simp [ints, hq]
              obtain ⟨hqn, hqa⟩ := HND.out k q hq
              have HQ := Lib.hid hq
              obtain ⟨row, hr, hrl, -⟩ := autoValid_row HVB.out hqn
              obtain ⟨aN', cN', heq, -, hn2⟩ := (HNX.out _ HE2.out).open
              cases heq
              obtain ⟨b3, off3, rfl, -, hc3⟩ := hn2 q row hr
              obtain ⟨vr, g1, hvr⟩ := hc3 q row hr
              rw [Nat.mul_one] at g1
              replace g1 := hx2.cell g1
              obtain ⟨ar, cr, rfl, -, hrr⟩ := hvr.open
              have hlr : row.length = (letters A.alphabet).length := hrl
              clear hrl
              have HR := Lib.hid hr
              have HRR := Lib.hid hrr
              obtain ⟨aM', cM', heq, -, hll⟩ := (HMR.out _ hT5).open
              simp only [Value.slice.injEq] at heq
              obtain ⟨rfl, -, rfl⟩ := heq
              obtain ⟨b4, off4, rfl, -, hc4⟩ := hll k _ hqi
              have g4 := hc4 k _ hqi
              rw [Nat.mul_one] at g4
              unfold IntAt at g4
              have hki : (k : Int) < (nd.length : Int) := by omega
              have hqi1 : (q : Int) < (A.next.length : Int) := by omega
              clear hc3 hn2 hr hvr hrr hc4 hll hqi hq
              have b1_0 := b1.cell 0 rfl; have b1_1 := b1.cell 1 rfl; have b1_2 := b1.cell 2 rfl
              go_wp2_with fail
              clear b1_0 b1_1 b1_2 g1 g4 b1 hx2
              have hll6 := lettersTo_len A.alphabet 6
              have hll6 : (letters A.alphabet).length ≤ 6 := hll6
              have HK := Lib.hid (edgesK_len A nd k)
              go_loopw [62] (fun j wr => ∃ (m : Nat) (ve : Value), m ≤ (letters A.alphabet).length ∧ j = .int .i64 m ∧ Tnd (fun b => b = p7 ∨ w5.heap.size ≤ b) w5 wr ∧ Blk wr p7 #[.int .i64 A.alphabet, .int .i64 rk, ve] 29 ∧ EdgesOwn 108 w5.heap.size wr ve (edgesK A nd k ++ edgesTo A q m)) (fun j _ => (letters A.alphabet).length - (intOf j).toNat)
              case atStart => exact ⟨0, ve, by omega, rfl, hT5, hb7, by rw [edgesTo_zero, List.append_nil]; exact hown⟩
              case round =>
                clear hT5 hb7 hown
                obtain ⟨m, ve, hm, rfl, hT5, hb7, hown⟩ := hrel
                by_cases hml2 : m < (letters A.alphabet).length
                · obtain ⟨l, hl⟩ : ∃ l, (letters A.alphabet)[m]? = some l := ⟨_, List.getElem?_eq_getElem hml2⟩
                  obtain ⟨hb, l0, l6, hm6⟩ := letters_mem _ _ _ ha63 hl
                  have hp := ((letters_place _ _ m ha0 ha63 l0 l6 hm6).1 hl).2
                  obtain ⟨row', z, hr', hz, rfl, hzn⟩ := step_facts HVB.out hqn hb
                  rw [HR.out] at hr'
                  cases hr'
                  rw [hp] at hz
                  have HES := Lib.hid (edgesTo_succ (A := A) (q := q) hl)
                  obtain ⟨r, hrz⟩ : ∃ r, step A q l = r := ⟨_, rfl⟩
                  rw [hrz] at hz hzn HES
                  have hra : r < A.accept.length := by have := HNA.out; omega
                  obtain ⟨y, hy⟩ : ∃ y, A.accept[r]? = some y := ⟨_, List.getElem?_eq_getElem hra⟩
                  have hay : accepts A r = y := by unfold accepts; rw [hy]; rfl
                  have hx2 := (HW.out _ hT5).2
                  have b1 := HBR.out _ hT5
                  obtain ⟨b5, off5, rfl, -, hc5⟩ := HRR.out m _ hz
                  have g5 := hx2.cell (hc5 m _ hz)
                  rw [Nat.mul_one] at g5
                  have g6 : wr.cell? ⟨ba, offa + r, none⟩ = some (.bool y) := by have := HC.out r y hy; have := hx2.cell (by simpa [BoolAt] using this); exact this
                  have hmi : (m : Int) < ((letters A.alphabet).length : Int) := by omega
                  have hri : (r : Int) < (A.accept.length : Int) := by omega
                  rw [hay] at HES
                  have hel := edgesTo_len A q m
                  have HLM := Lib.hid hl
                  clear hc5 hz hb hp hrz hay hy hl
                  have b1_0 := b1.cell 0 rfl; have b1_1 := b1.cell 1 rfl; have b1_2 := b1.cell 2 rfl
                  cases y with
                  | false =>
                    go_wp2_with fail
                    exact ⟨⟨m + 1, ve, by omega, by go_num, hT5, hb7, by rw [HES.out]; simpa using hown⟩, by simp [intOf]; omega⟩
                  | true =>
                    obtain ⟨es, hes⟩ : ∃ es, edgesK A nd k ++ edgesTo A q m = es := ⟨_, rfl⟩
                    have hL : es.length ≤ 200 := by have := HK.out; rw [← hes, List.length_append]; omega
                    have HES' : Hid (edgesK A nd k ++ edgesTo A q (m + 1) = es ++ [⟨(rankA A q : Int), l, (rankA A r : Int)⟩]) := Lib.hid (by rw [HES.out, if_pos rfl, ← List.append_assoc, hes])
                    rw [hes] at hown
                    clear hes HES
                    obtain ⟨ae, ce, rfl⟩ := own_any' hown
                    obtain ⟨aL', cL', heq, -, hll⟩ := (HLR.out _ hT5).open
                    simp only [Value.slice.injEq] at heq
                    obtain ⟨rfl, -, rfl⟩ := heq
                    obtain ⟨b8, off8, rfl, -, hc8⟩ := hll m l HLM.out
                    have g8 := hc8 m l HLM.out
                    rw [Nat.mul_one] at g8
                    unfold IntAt at g8
                    clear hll hc8
                    go_wp2_with fail
                    clear b1_0 b1_1 b1_2 b1 g5 g6
                    have hP : Pool w5.heap.size wr [⟨108, 3, .slice ae es.length ce, es.length, edgeCells es⟩] := ⟨fun s hs => by simp at hs; subst hs; exact hown, List.pairwise_singleton _ _⟩
                    have E2 := fun d os => cell_regrown (hb7.cell 2 rfl) d os
                    have E8 := fun d os => cell_regrown g8 d os
                    obtain ⟨Kc, HKc⟩ : ∃ Kc : FuncId → Array Value → World → Value → World → Prop, Hid (Kc = fun _ args w0 v w' => Ext w0 w' ∧ ∀ j : Nat, args = #[.int .i64 (setA A A.accept.length), .int .i64 j] → v = .int .i64 (rankA A j)) := ⟨_, rfl⟩
                    refine wp_region_ext (Kc := Kc) 14 (by kernel_rfl) (by kernel_rfl) ?_
                    simp only [List.take_succ_cons, List.take_zero]
                    repeat (refine WalkE.pure rfl (fun K hK => ?_); simp only [PureDo]; go_simp; refine hK _ ?_; clear hK K)
                    refine WalkE.step (fun K hK wc hwc hdc => ?_)
                    simp only [OpDo, OpSafe, OpOut]
                    go_simp
                    refine ⟨(CRK.out q _ (Nat.le_of_lt hqn)).mono ?_, ?_⟩
                    · rintro e w' ⟨rfl, rfl⟩
                      exact ⟨_, rfl, by rw [HKc.out]; exact ⟨Ext.refl _, fun j h => by simp at h; have h2 : q = j := (by omega); subst h2; rfl⟩⟩
                    intro u4 w4 hk4
                    rw [HKc.out] at hk4
                    obtain ⟨hk4, hv4⟩ := hk4
                    obtain rfl := hv4 q rfl
                    refine ⟨hk4, hK _ _ ?_⟩
                    clear hK K hdc hk4 hv4
                    repeat (refine WalkE.pure rfl (fun K hK => ?_); simp only [PureDo]; go_simp; refine hK _ ?_; clear hK K)
                    refine WalkE.step (fun K hK wd hwd hdd => ?_)
                    simp only [OpDo, OpSafe, OpOut]
                    go_simp
                    refine ⟨(CRK.out r _ (Nat.le_of_lt hzn)).mono ?_, ?_⟩
                    · rintro e w' ⟨rfl, rfl⟩
                      exact ⟨_, rfl, by rw [HKc.out]; exact ⟨Ext.refl _, fun j h => by simp at h; have h2 : r = j := (by omega); subst h2; rfl⟩⟩
                    intro u6 w6 hk6
                    rw [HKc.out] at hk6
                    obtain ⟨hk6, hv6⟩ := hk6
                    obtain rfl := hv6 r rfl
                    refine ⟨hk6, hK _ _ ?_⟩
                    clear hK K hdd hk6 hv6
                    repeat (refine WalkE.pure rfl (fun K hK => ?_); simp only [PureDo]; go_simp; refine hK _ ?_; clear hK K)
                    refine WalkE.step (fun K hK we hwe hde => ?_)
                    simp only [OpDo, OpSafe, OpOut]
                    go_simp
                    refine ⟨Ext.alloc _ _, hK _ _ ?_⟩
                    clear hK K hde
                    refine WalkE.nil (fun wn hwn hmn => ?_)
                    simp only [List.drop_succ_cons, List.drop_zero, List.drop_nil]
                    have x0 : Ext wr wn := (Ext.drew _).trans hwn
                    have hbn : Blk wn we.heap.size #[.int .i64 (rankA A q), .int .i64 l, .int .i64 (rankA A r)] 108 := (Blk.new we _ _).ext (hmn 13 (by omega))
                    have hP5 := hP.ext x0
                    have hb7n := hb7.ext x0
                    have hNC : ∀ (j : Nat) u, [Value.int .i64 (rankA A q), .int .i64 l, .int .i64 (rankA A r)][j]? = some u → wn.cell? ((⟨we.heap.size, 0, none⟩ : Addr).add j) = some u := fun j u hu => by
                      rw [add_none, Nat.zero_add]
                      exact hbn.cell j (by simpa using hu)
                    have h1c : ∀ u ∈ [Value.int .i64 (rankA A q), .int .i64 l, .int .i64 (rankA A r)], u.oneCell' = true := fun u hu => by simp at hu; rcases hu with rfl | rfl | rfl <;> rfl
                    have hbs : w5.heap.size ≤ wn.heap.size := Nat.le_trans hT5.size x0.size
                    clear hmn HKc E2 E8 hwn hwc hwd hwe hbn
                    generalize we.heap.size = gN at hNC ⊢
                    go_wp2_with (at_builtin; refine appPN (base := w5.heap.size) (l := []) (news := [Value.int .i64 (rankA A q), .int .i64 l, .int .i64 (rankA A r)]) rfl rfl Tryz.underlying27 infoEdge rfl (by decide) hP5 rfl rfl (by rfl) hNC h1c (by omega) (by decide) hbs ?_; intro v1 w7 hP1 hg1 hb1; have b67 := Blk.grown hb7n hP5.head hg1 (show 29 ≠ 108 by decide); have g2 := b67.cell 2 rfl; have f2 := b67.fr 2; obtain ⟨a1, c1, rfl⟩ := own_any' (Pool.hd hP1))
                    all_goals
                      have hT7 : Tnd (fun b => b = p7 ∨ w5.heap.size ≤ b) w5 w7 := (hT5.trans (Tnd.ext x0)).trans (Tnd.grown hg1 fun g hg => .inr (own_lt hP5.head hg).1)
                      have hT8 := hT7.trans (tnd_put (S := fun b => b = p7 ∨ w5.heap.size ≤ b) w7 (b := p7) (.inl rfl) 2 (.slice a1 (es.length + 1) c1))
                      have b68 := b67.set 2 (.slice a1 (es.length + 1) c1)
                      have hP8 := hP1.set b67 (fun s hs => by simp at hs; subst hs; show 29 ≠ 108; decide) 2 (.slice a1 (es.length + 1) c1)
                      have hown8 := EdgesOwn.push (x := ⟨(rankA A q : Int), l, (rankA A r : Int)⟩) (Pool.hd hP8) HES'.out
                      clear hP hP1 hP5 hP8 hg1 hb1 b67 g2 f2 x0 hNC h1c hbs hT7 hT5 hb7 hb7n hown g8
                      generalize w7.setCell ⟨p7, 2, none⟩ (.slice a1 (es.length + 1) c1) = w8 at hT8 b68 hown8 ⊢
                      go_wp2_with fail
                      exact ⟨⟨m + 1, _, by omega, by go_num, hT8, b68, hown8⟩, by simp [intOf]; omega⟩
                · obtain rfl : m = (letters A.alphabet).length := by omega
                  go_wp2_with fail
                  exact ⟨⟨k + 1, ve, by omega, by go_num, hT5, hb7, by rw [edgesK_succ HQ.out, ← edgesTo_full]; exact hown⟩, by simp [intOf]; omega⟩
            · obtain rfl : k = nd.length := by omega
              obtain ⟨ae, ce, rfl⟩ := own_any' hown
              have b2 := HBS.out _ hT5
              have hb7_0 := hb7.cell 0 rfl; have hb7_1 := hb7.cell 1 rfl; have hb7_2 := hb7.cell 2 rfl
              have rc0 := b2.cell 0 rfl; have rf0 := b2.fr 0; have rc1 := b2.cell 1 rfl; have rf1 := b2.fr 1; have rc2 := b2.cell 2 rfl; have rf2 := b2.fr 2
              go_wp2_with fail
              obtain rfl := HRK.out
              have hxw := (HW.out _ hT5).1
              refine bodyPost_ret (v := .tuple #[.agg #[.int .i64 A.alphabet, .int .i64 (rankA A A.next.length), .slice ae (edgesK A nd nd.length).length ce], .bool true]) (by simp [results, Tryz.results19, go_sem, rc0, rc1, rc2, rf0, rf1, rf2]) rfl ?_
              refine ⟨(((hxw.setCell (p := ⟨(w.heap.size + 1), 0, none⟩) (by simp only []; omega) _).setCell (p := ⟨(w.heap.size + 1), 1, none⟩) (by simp only []; omega) _).setCell (p := ⟨(w.heap.size + 1), 2, none⟩) (by simp only []; omega) _), .inl ⟨HVB.out, HA0.out, _, rfl, ?_⟩⟩
              rw [HSE.out]
              exact own_base (own_store (own_store (own_store hown b2 (by decide) 0 _) (b2.set 0 _) (by decide) 1 _) ((b2.set 0 _).set 1 _) (by decide) 2 _) (HW.out _ (Tnd.refl _ _)).1.size
end Go.Proofs.YtloampfmlhmlhaaGreatDoor
