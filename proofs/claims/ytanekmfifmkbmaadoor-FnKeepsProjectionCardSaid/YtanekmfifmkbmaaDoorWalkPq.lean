/- Part of this seat's proofs, cut to what its law needs. -/

import Derived.Test.YtanekmfifmkbmaaDoorWalkDt
import Derived.Test.YtanekmfifmkbmaaDoorWalkR
namespace Go.Proofs.YtanekmfifmkbmaaDoor
open Go Go.RowKit
set_option linter.unusedVariables false
set_option linter.unusedSimpArgs false
set_option maxHeartbeats 4000000
set_option maxRecDepth 100000

theorem ProjectSystem_s (v : Value) (s : Sys) (a : Int) (w : World) (hv : SysV w v s) (hel : s.edges.length ≤ 1048576) :
    Calls Tryd.prog 15 #[v, .int .i64 a] w (fun e w' => ∃ v' b, e = .returned (.tuple #[v', .bool b]) ∧ Ext w w' ∧ ProjEnd s a w.heap.size w' v' b) := by
  have HV := Lib.hid hv
  obtain ⟨vE1, rfl, k1⟩ := hv
  obtain ⟨aE1, cE1, rfl, -, -⟩ := k1.open
  clear k1
  obtain ⟨wo, hwo⟩ : ∃ wo, wo = (w.alloc (.cells #[.int .i64 s.alphabet, .int .i64 s.states, .slice aE1 s.edges.length cE1] 25)).alloc (.cells #[.int .i64 0, .slice none 0 0, .slice none 0 0] 32) := ⟨_, rfl⟩
  have he : Ext w wo := by rw [hwo]; exact (Ext.alloc _ _).trans (Ext.alloc _ _)
  have b1 : Blk wo w.heap.size #[.int .i64 s.alphabet, .int .i64 s.states, .slice aE1 s.edges.length cE1] 25 := by rw [hwo]; exact Ext.blk (Ext.alloc _ _)
  have b2 : Blk wo (w.heap.size + 1) #[.int .i64 0, .slice none 0 0, .slice none 0 0] 32 := by rw [hwo]; exact Ext.blk1 (Ext.refl _)
  go_enter Tryd.func15, Tryd.ntmps15
  go_upto_region 1 with fail
  rw [← hwo]
  clear hwo
  have b1_0 := b1.cell 0 rfl; have b1_1 := b1.cell 1 rfl; have b1_2 := b1.cell 2 rfl
  go_wp2_with fail
  refine (SystemValid_s _ s _ (HV.out.mono he)).mono ?_
  rintro e w1 ⟨rfl, he1⟩
  clear b1_0 b1_1 b1_2
  replace he := he.trans he1
  replace b1 := b1.ext he1
  replace b2 := b2.ext he1
  clear he1
  cases hs : sysValid s with
  | false =>
    have rc0 := b2.cell 0 rfl; have rf0 := b2.fr 0; have rc1 := b2.cell 1 rfl; have rf1 := b2.fr 1; have rc2 := b2.cell 2 rfl; have rf2 := b2.fr 2
    go_wp2_with fail
    refine bodyPost_ret (v := .tuple #[.agg #[.int .i64 0, .slice none 0 0, .slice none 0 0], .bool false]) (by simp [results, Tryd.results15, go_sem, rc0, rc1, rc2, rf0, rf1, rf2]) rfl ?_
    exact ⟨_, false, rfl, (((he.setCell (p := ⟨(w.heap.size + 1), 0, none⟩) (by simp only []; omega) _).setCell (p := ⟨(w.heap.size + 1), 1, none⟩) (by simp only []; omega) _).setCell (p := ⟨(w.heap.size + 1), 2, none⟩) (by simp only []; omega) _), .inr ⟨by unfold projOk; rw [hs]; rfl, rfl, rfl⟩⟩
  | true =>
  have HS := Lib.hid hs
  clear hs
  go_wp2_with fail
  refine (l1Alphabet_c a w1).mono ?_
  rintro e w' ⟨rfl, rfl⟩
  cases ha : isAlpha a with
  | false =>
    have rc0 := b2.cell 0 rfl; have rf0 := b2.fr 0; have rc1 := b2.cell 1 rfl; have rf1 := b2.fr 1; have rc2 := b2.cell 2 rfl; have rf2 := b2.fr 2
    go_wp2_with fail
    refine bodyPost_ret (v := .tuple #[.agg #[.int .i64 0, .slice none 0 0, .slice none 0 0], .bool false]) (by simp [results, Tryd.results15, go_sem, rc0, rc1, rc2, rf0, rf1, rf2]) rfl ?_
    exact ⟨_, false, rfl, (((he.setCell (p := ⟨(w.heap.size + 1), 0, none⟩) (by simp only []; omega) _).setCell (p := ⟨(w.heap.size + 1), 1, none⟩) (by simp only []; omega) _).setCell (p := ⟨(w.heap.size + 1), 2, none⟩) (by simp only []; omega) _), .inr ⟨by unfold projOk; rw [ha]; simp, rfl, rfl⟩⟩
  | true =>
  have HA := Lib.hid ha
  obtain ⟨a0, a63⟩ := alpha_facts ha
  clear ha
  have b1_0 := b1.cell 0 rfl; have b1_1 := b1.cell 1 rfl; have b1_2 := b1.cell 2 rfl
  obtain ⟨z, hz⟩ : ∃ z, bits .and .i64 s.alphabet a = z := ⟨_, rfl⟩
  by_cases hz0 : z = a
  case neg =>
    have HNO := Lib.hid (show projOk s a = false from by unfold projOk; rw [HS.out, HA.out, hz, decide_eq_false hz0]; rfl)
    have hzb : (z == a) = false := beq_eq_false_iff_ne.2 hz0
    have rc0 := b2.cell 0 rfl; have rf0 := b2.fr 0; have rc1 := b2.cell 1 rfl; have rf1 := b2.fr 1; have rc2 := b2.cell 2 rfl; have rf2 := b2.fr 2
    go_wp2_with fail
    refine bodyPost_ret (v := .tuple #[.agg #[.int .i64 0, .slice none 0 0, .slice none 0 0], .bool false]) (by simp [results, Tryd.results15, go_sem, rc0, rc1, rc2, rf0, rf1, rf2]) rfl ?_
    exact ⟨_, false, rfl, (((he.setCell (p := ⟨(w.heap.size + 1), 0, none⟩) (by simp only []; omega) _).setCell (p := ⟨(w.heap.size + 1), 1, none⟩) (by simp only []; omega) _).setCell (p := ⟨(w.heap.size + 1), 2, none⟩) (by simp only []; omega) _), .inr ⟨HNO.out, rfl, rfl⟩⟩
  have HOK := Lib.hid (show projOk s a = true from by unfold projOk; rw [HS.out, HA.out, hz, decide_eq_true hz0]; rfl)
  have hzb : (z == a) = true := by simp [hz0]
  clear hz0
  go_wp2_with fail
  refine (l6Subsets_s _ s a _ (HV.out.mono he) HS.out hel a0 a63).mono ?_
  rintro e w2 ⟨v', b, rfl, he2, hend⟩
  have hsh : ∃ (x : Int) (aN : Option Addr) (n cN : Nat) (aA : Option Addr) (m cA : Nat), v' = .agg #[.int .i64 x, .slice aN n cN, .slice aA m cA] := by
    rcases hend with ⟨-, _, -, -, vn, va, e, h4, h5⟩ | ⟨-, e, -⟩
    · obtain ⟨a1, c1, rfl⟩ := h4.shape
      obtain ⟨a2, c2, rfl⟩ := h5.shape
      exact ⟨_, _, _, _, _, _, _, e⟩
    · exact ⟨_, _, _, _, _, _, _, e⟩
  obtain ⟨xa, xN, xn, xc, xA, xm, xd, rfl⟩ := hsh
  have HEND := Lib.hid hend
  have lw := he.size
  clear hend b1_0 b1_1 b1_2 b1 hz hzb
  replace b2 := b2.ext he2
  replace he := he.trans he2
  have rc0 := b2.cell 0 rfl; have rf0 := b2.fr 0; have rc1 := b2.cell 1 rfl; have rf1 := b2.fr 1; have rc2 := b2.cell 2 rfl; have rf2 := b2.fr 2
  go_wp2_with fail
  refine bodyPost_ret (v := .tuple #[.agg #[.int .i64 xa, .slice xN xn xc, .slice xA xm xd], .bool b]) (by simp [results, Tryd.results15, go_sem, rc0, rc1, rc2, rf0, rf1, rf2]) rfl ?_
  refine ⟨_, b, rfl, (((he.setCell (p := ⟨(w.heap.size + 1), 0, none⟩) (by simp only []; omega) _).setCell (p := ⟨(w.heap.size + 1), 1, none⟩) (by simp only []; omega) _).setCell (p := ⟨(w.heap.size + 1), 2, none⟩) (by simp only []; omega) _), .inl ⟨HOK.out, ?_⟩⟩
  rcases HEND.out with ⟨h2, nodes, h3, h4, h5⟩ | h2
  · exact .inl ⟨h2, nodes, h3, h4, (auto_store (auto_store (auto_store h5 b2 (by decide) (by decide) (by decide) 0 _) (b2.set 0 _) (by decide) (by decide) (by decide) 1 _) ((b2.set 0 _).set 1 _) (by decide) (by decide) (by decide) 2 _).low (by omega)⟩
  · exact .inr h2

def ProjT (s : Sys) (a : Int) (X : Auto) : Prop := sysValid s = true ∧ 0 ≤ a ∧ a ≤ 63 ∧ projOk s a = true ∧ ∃ nodes, Numbers (nextH s (hidS s a)) (letters a) (startH s (hidS s a)) nodes ∧ nodes.length ≤ 12 ∧ X = subsetA s a (hidS s a) nodes
def ProjF (s : Sys) (a : Int) (X : Auto) : Prop := X = zeroA ∧ (projOk s a = false ∨ TooMany (nextH s (hidS s a)) (letters a) (startH s (hidS s a)) 12)
theorem ProjEnd.val {s : Sys} {a : Int} {base : Nat} {w' : World} {v' : Value} {b : Bool} (h : ProjEnd s a base w' v' b) : ∃ X, AutoV w' v' X ∧ (b = true → ProjT s a X) ∧ (b = false → ProjF s a X) := by
  have hz : AutoV w' (.agg #[.int .i64 0, .slice none 0 0, .slice none 0 0]) zeroA := (zero_own 0 w').auto
  rcases h with ⟨h1, ⟨h2, nodes, h3, h4, h5⟩ | ⟨h2, h3, h4⟩⟩ | ⟨h1, h2, h3⟩
  · have k := h1
    unfold projOk at k
    simp only [Bool.and_eq_true] at k
    obtain ⟨a0, a63⟩ := alpha_facts k.1.2
    exact ⟨_, h5.auto, fun _ => ⟨k.1.1, a0, a63, h1, nodes, h3, h4, rfl⟩, (fun h => by rw [h2] at h; cases h)⟩
  · subst h3
    exact ⟨_, hz, (fun h => by rw [h2] at h; cases h), fun _ => ⟨rfl, .inr h4⟩⟩
  · subst h3
    exact ⟨_, hz, (fun h => by rw [h2] at h; cases h), fun _ => ⟨rfl, .inl h1⟩⟩
theorem ProjIs.unique {s : Sys} {a : Int} {X Y : Auto} {g f : Bool} (h1 : g = true → ProjT s a X) (h2 : g = false → ProjF s a X) (k1 : f = true → ProjT s a Y) (k2 : f = false → ProjF s a Y) : g = f ∧ X = Y := by
  cases g <;> cases f
  · obtain ⟨e1, -⟩ := h2 rfl
    obtain ⟨e2, -⟩ := k2 rfl
    exact ⟨rfl, by rw [e1, e2]⟩
  · obtain ⟨-, e1⟩ := h2 rfl
    obtain ⟨-, -, -, hp, nodes, h3, h4, -⟩ := k1 rfl
    rcases e1 with e1 | e1
    · rw [hp] at e1; cases e1
    · exact absurd e1 (h3.few h4)
  · obtain ⟨-, e1⟩ := k2 rfl
    obtain ⟨-, -, -, hp, nodes, h3, h4, -⟩ := h1 rfl
    rcases e1 with e1 | e1
    · rw [hp] at e1; cases e1
    · exact absurd e1 (h3.few h4)
  · obtain ⟨-, -, -, -, n1, h3, -, e1⟩ := h1 rfl
    obtain ⟨-, -, -, -, n2, k3, -, e2⟩ := k1 rfl
    exact ⟨rfl, by rw [e1, e2, h3.unique k3]⟩


theorem sum_le6 : ∀ (l : List (List Int)), (∀ r ∈ l, r.length ≤ 6) → (l.map List.length).sum ≤ 6 * l.length
  | [], _ => by simp
  | r :: l, h => by
    have h1 := h r (by simp)
    have h2 := sum_le6 l fun x hx => h x (by simp [hx])
    simp only [List.map_cons, List.sum_cons, List.length_cons]; omega
theorem szAuto_fine {x : Auto} (hx : autoValid x = true) : szAuto x ≤ 1048576 := by
  have h1 := sum_le6 x.next fun r hr => by
    obtain ⟨i, hi, rfl⟩ := List.getElem_of_mem hr
    obtain ⟨row, k1, k2, -⟩ := autoValid_row hx hi
    rw [List.getElem?_eq_getElem hi] at k1
    cases k1
    rw [k2]; exact lettersTo_len _ 6
  have h2 := autoValid_facts hx
  unfold szAuto szss; omega
def notTo (l : List Bool) (k : Nat) : List Bool := (l.take k).map not ++ l.drop k
theorem notTo_zero (l : List Bool) : notTo l 0 = l := by simp [notTo]
theorem notTo_full (l : List Bool) : notTo l l.length = l.map not := by simp [notTo]
theorem notTo_len (l : List Bool) (k : Nat) : (notTo l k).length = l.length := by simp [notTo]; omega
theorem notTo_at {l : List Bool} {k : Nat} {b : Bool} (h : l[k]? = some b) : (notTo l k)[k]? = some b := by
  have hk := (List.getElem?_eq_some_iff.1 h).1
  unfold notTo
  rw [List.getElem?_append_right (by simp; omega)]
  simp only [List.length_map, List.length_take, List.getElem?_drop]
  rw [Nat.min_eq_left (by omega), show k + (k - k) = k by omega]; exact h
theorem notTo_succ {l : List Bool} {k : Nat} {b : Bool} (h : l[k]? = some b) : (notTo l k).set k (!b) = notTo l (k + 1) := by
  have hk := (List.getElem?_eq_some_iff.1 h).1
  refine List.ext_getElem? fun i => ?_
  unfold notTo
  rw [List.getElem?_set]
  have hlen : ((l.take k).map not ++ l.drop k).length = l.length := notTo_len l k
  by_cases hi : k = i
  · subst hi
    rw [if_pos rfl, if_pos (by rw [hlen]; exact hk), List.getElem?_append_left (by simp; omega)]
    simp [List.getElem?_take, h]
  · rw [if_neg hi]
    rcases Nat.lt_or_ge i k with h1 | h1
    · rw [List.getElem?_append_left (by simp; omega), List.getElem?_append_left (by simp; omega)]
      simp [List.getElem?_take, h1, Nat.lt_succ_of_lt h1]
    · rw [List.getElem?_append_right (by simp; omega), List.getElem?_append_right (by simp; omega)]
      simp only [List.length_map, List.length_take, List.getElem?_drop]
      rw [Nat.min_eq_left (by omega), Nat.min_eq_left (by omega)]
      congr 1
      omega

theorem ComplementAutomaton_c (v : Value) (x : Auto) (w : World) (hv : AutoV w v x) (hx : autoValid x = true) (hsz : szAuto x ≤ 1048576) :
    Calls Tryd.prog 17 #[v] w (fun e w' => ∃ v', e = .returned (.tuple #[v', .bool true]) ∧ Ext w w' ∧ AutoOwn w.heap.size w' v' (compA x)) := by
  have HV := Lib.hid hv
  obtain ⟨vN1, vA1, rfl, k1, k2⟩ := hv
  obtain ⟨aN1, cN1, rfl, -, -⟩ := k1.open
  obtain ⟨aA1, cA1, rfl, -, -⟩ := k2.open
  clear k1 k2
  have hac : x.accept.length ≤ 12 := by have h2 := autoValid_facts hx; omega
  obtain ⟨wo, hwo⟩ : ∃ wo, wo = (w.alloc (.cells #[.int .i64 x.alphabet, .slice aN1 x.next.length cN1, .slice aA1 x.accept.length cA1] 32)).alloc (.cells #[.int .i64 0, .slice none 0 0, .slice none 0 0] 32) := ⟨_, rfl⟩
  have he : Ext w wo := by rw [hwo]; exact (Ext.alloc _ _).trans (Ext.alloc _ _)
  have b1 : Blk wo w.heap.size #[.int .i64 x.alphabet, .slice aN1 x.next.length cN1, .slice aA1 x.accept.length cA1] 32 := by rw [hwo]; exact Ext.blk (Ext.alloc _ _)
  have b2 : Blk wo (w.heap.size + 1) #[.int .i64 0, .slice none 0 0, .slice none 0 0] 32 := by rw [hwo]; exact Ext.blk1 (Ext.refl _)
  go_enter Tryd.func17, Tryd.ntmps17
  go_upto_region 1 with fail
  rw [← hwo]
  clear hwo
  have b1_0 := b1.cell 0 rfl; have b1_1 := b1.cell 1 rfl; have b1_2 := b1.cell 2 rfl
  go_wp2_with fail
  refine (AutomatonValid_b hx (HV.out.mono he)).mono ?_
  rintro e w1 ⟨rfl, he1⟩
  clear b1_0 b1_1 b1_2
  replace he := he.trans he1
  replace b1 := b1.ext he1
  replace b2 := b2.ext he1
  clear he1
  have b1_0 := b1.cell 0 rfl; have b1_1 := b1.cell 1 rfl; have b1_2 := b1.cell 2 rfl
  go_wp2_with fail
  refine (copyAutomaton_c _ x _ (HV.out.mono he) hsz).mono ?_
  rintro e w2 ⟨v2, rfl, he2, hO⟩
  clear b1_0 b1_1 b1_2
  have l1 : w.heap.size + 1 < w1.heap.size := b2.lt
  replace he := he.trans he2
  replace b2 := b2.ext he2
  obtain ⟨vN2, vA2, rfl, hN, hA⟩ := hO
  obtain ⟨aN2, cN2, rfl⟩ := hN.shape
  obtain ⟨aA2, cA2, rfl⟩ := hA.shape
  have l2 : w1.heap.size ≤ w2.heap.size := he2.size
  clear he2 b1
  generalize w1.heap.size = base at hN hA l1 l2
  go_upto_region 4 with fail
  obtain ⟨w3, hw3⟩ : ∃ w3, w3 = w2.alloc (.cells #[.int .i64 x.alphabet, .slice aN2 x.next.length cN2, .slice aA2 x.accept.length cA2] 32) := ⟨_, rfl⟩
  have y3 : Ext w2 w3 := by rw [hw3]; exact Ext.alloc _ _
  have b4 : Blk w3 w2.heap.size #[.int .i64 x.alphabet, .slice aN2 x.next.length cN2, .slice aA2 x.accept.length cA2] 32 := by rw [hw3]; exact Blk.new _ _ _
  rw [← hw3]
  clear hw3
  have l3 := he.size
  generalize w2.heap.size = G at b4 l2 l3 ⊢
  replace he := he.trans y3
  replace b2 := b2.ext y3
  replace hN := hN.ext y3
  replace hA : w3.ownsRow base 4 1 (.slice aA2 x.accept.length cA2) x.accept.length ((notTo x.accept 0).map Value.bool) := by rw [notTo_zero]; exact own_ext hA y3
  have l4 := Nat.le_trans l2 (by have := b4.lt; omega : G ≤ w3.heap.size)
  clear y3
  have b4_0 := b4.cell 0 rfl; have b4_1 := b4.cell 1 rfl; have b4_2 := b4.cell 2 rfl
  go_wp2_with fail
  clear b4_0 b4_1 b4_2
  go_loopw [15] (fun i wr => ∃ k : Nat, k ≤ x.accept.length ∧ i = .int .i64 k ∧ Blk wr G #[.int .i64 x.alphabet, .slice aN2 x.next.length cN2, .slice aA2 x.accept.length cA2] 32 ∧ IntssOwn 51 3 base wr (.slice aN2 x.next.length cN2) x.next ∧ wr.ownsRow base 4 1 (.slice aA2 x.accept.length cA2) x.accept.length ((notTo x.accept k).map Value.bool) ∧ Blk wr (w.heap.size + 1) #[.int .i64 0, .slice none 0 0, .slice none 0 0] 32 ∧ Ext w wr) (fun i _ => x.accept.length - (intOf i).toNat)
  case atStart => exact ⟨0, by omega, rfl, b4, hN, hA, b2, he⟩
  case round =>
    clear b4 hN hA b2 he
    obtain ⟨k, hk, rfl, b4, hN, hA, b2, he⟩ := hrel
    by_cases hlt : k < x.accept.length
    · obtain ⟨b, hb⟩ : ∃ b, x.accept[k]? = some b := ⟨_, List.getElem?_eq_getElem hlt⟩
      obtain ⟨gA, cA', e6, ga⟩ := own_at hA (j := k) (u := .bool b) (by rw [List.getElem?_map, notTo_at hb]; rfl)
      cases e6
      have HB := Lib.hid hb
      clear hb
      have i1 : (k : Int) < (x.accept.length : Int) := by omega
      go_wp2_with fail
      have D0 := fun d os => cell_regrown (b4.cell 2 rfl) d os
      have D1 := fun d os => cell_regrown ga d os
      obtain ⟨Kc, HKc⟩ : ∃ Kc : FuncId → Array Value → World → Value → World → Prop, Hid (Kc = fun _ _ _ _ _ => False) := ⟨_, rfl⟩
      refine wp_region_ext (Kc := Kc) 10 (by kernel_rfl) (by kernel_rfl) ?_
      simp only [List.take_succ_cons, List.take_zero]
      repeat (refine WalkE.pure rfl (fun K hK => ?_); simp only [PureDo]; go_simp; refine hK _ ?_; clear hK K)
      refine WalkE.nil (fun wn hwn hmn => ?_)
      simp only [List.drop_succ_cons, List.drop_zero, List.drop_nil]
      have x0 : Ext wr wn := (Ext.drew _).trans hwn
      have hA2 := own_ext hA x0
      have b42 := b4.ext x0
      have b22 := b2.ext x0
      have hN2 := hN.ext x0
      have he2 := he.trans x0
      clear hmn HKc D0 D1 hwn x0 ga hA b4 b2 hN he
      have gz := own_cell hA2 (j := k) (u := .bool b) (by rw [List.getElem?_map, notTo_at HB.out]; rfl)
      have fz := hA2.frozenAt k
      go_wp2_with fail
      obtain ⟨o1, p1⟩ := hA2.stored k (.bool (!b))
      rw [← List.map_set, notTo_succ HB.out] at o1
      obtain ⟨vs, n1, n2, n3⟩ := hN2
      refine ⟨⟨k + 1, by omega, by go_num, b42.grown hA2 p1 (by decide), ⟨vs, own_grown n1 hA2 p1 (by decide), n2.grown hA2 p1 (by decide), n3⟩, o1, b22.grown hA2 p1 (by decide), he2.grown p1 he2.size ?_⟩, by simp [intOf]; omega⟩
      intro j hj
      cases hj
      rcases hA2.2 with ⟨h, _⟩ | ⟨g1, cap, cur, h, hge, _⟩
      · cases h
      · cases h; omega
    · obtain rfl : k = x.accept.length := by omega
      rw [notTo_full] at hA
      have HEND := Lib.hid (show AutoOwn base wr (.agg #[.int .i64 x.alphabet, .slice aN2 x.next.length cN2, .slice aA2 x.accept.length cA2]) (compA x) from ⟨_, _, rfl, hN, by
        show wr.ownsRow base _ 1 _ (compA x).accept.length _
        rw [show (compA x).accept.length = x.accept.length from List.length_map ..]; exact hA⟩)
      have b4_0 := b4.cell 0 rfl; have b4_1 := b4.cell 1 rfl; have b4_2 := b4.cell 2 rfl
      have rc0 := b2.cell 0 rfl; have rf0 := b2.fr 0; have rc1 := b2.cell 1 rfl; have rf1 := b2.fr 1; have rc2 := b2.cell 2 rfl; have rf2 := b2.fr 2
      clear hA hN
      go_wp2_with fail
      refine bodyPost_ret (v := .tuple #[.agg #[.int .i64 x.alphabet, .slice aN2 x.next.length cN2, .slice aA2 x.accept.length cA2], .bool true]) (by simp [results, Tryd.results17, go_sem, rc0, rc1, rc2, rf0, rf1, rf2]) rfl ?_
      refine ⟨_, rfl, (((he.setCell (p := ⟨(w.heap.size + 1), 0, none⟩) (by simp only []; omega) _).setCell (p := ⟨(w.heap.size + 1), 1, none⟩) (by simp only []; omega) _).setCell (p := ⟨(w.heap.size + 1), 2, none⟩) (by simp only []; omega) _), ?_⟩
      exact (auto_store (auto_store (auto_store HEND.out b2 (by decide) (by decide) (by decide) 0 _) (b2.set 0 _) (by decide) (by decide) (by decide) 1 _) ((b2.set 0 _).set 1 _) (by decide) (by decide) (by decide) 2 _).low (by omega)
end Go.Proofs.YtanekmfifmkbmaaDoor
