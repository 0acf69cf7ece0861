/- Part of this seat's proofs, cut to what its law needs. -/

import Derived.Test.YtadplnbadfnlfaaGreatDoorWalkTs
import Derived.Deep.DeepCutAuto
namespace Go.Proofs.YtadplnbadfnlfaaGreatDoor
set_option linter.unusedSimpArgs false
set_option linter.unusedVariables false
open Go Go.RowKit
set_option maxHeartbeats 4000000
set_option maxRecDepth 100000

theorem tnd_putS {S : Nat → Prop} (w : World) {b : Nat} (hS : S b) (j : Nat) (v : Value) : Tnd S w (w.setCell ⟨b, j, none⟩ v) :=
  ⟨rfl, rfl, rfl, by simp, fun c _ hc => Below.heap_setCell w ⟨b, j, none⟩ v c (fun e => hc (by rw [e]; exact hS))⟩
def growS (s : Sys) (f : Nat) : Nat → Nat
  | 0 => f
  | m + 1 => growS s f m ||| stepM s f (m : Int)
theorem growS_lt {s : Sys} (hs : sysValid s = true) {f : Nat} (hf : f < 65536) : ∀ m, growS s f m < 65536
  | 0 => hf
  | m + 1 => Nat.or_lt_two_pow (n := 16) (growS_lt hs hf m) (stepM_lt hs f m)
theorem growS_le (s : Sys) (f : Nat) : ∀ m, f ≤ growS s f m
  | 0 => Nat.le_refl _
  | m + 1 => Nat.le_trans (growS_le s f m) Nat.left_le_or
theorem growS_zero {s : Sys} {f : Nat} (h : f.testBit 0 = true) : ∀ m, (growS s f m).testBit 0 = true
  | 0 => h
  | m + 1 => by show (growS s f m ||| stepM s f (m : Int)).testBit 0 = true; rw [Nat.testBit_or, growS_zero h m]; rfl
theorem growS_has {s : Sys} {f r l : Nat} (h : (stepM s f l).testBit r = true) : ∀ m, l < m → (growS s f m).testBit r = true
  | 0, hl => absurd hl (Nat.not_lt_zero _)
  | m + 1, hl => by
    show (growS s f m ||| stepM s f (m : Int)).testBit r = true
    rw [Nat.testBit_or, Bool.or_eq_true]
    rcases Nat.lt_or_ge l m with h1 | h1
    · exact .inl (growS_has h m h1)
    · obtain rfl : l = m := by omega
      exact .inr h
theorem growS_stay {s : Sys} {f : Nat} (hf : f < 65536) (h0 : f.testBit 0 = true) (h : growS s f 6 = f) : StayS s f :=
  ⟨hf, h0, fun l hl r hr => by rw [← h]; exact growS_has hr 6 hl⟩

theorem ReachableStates_c (v : Value) (s : Sys) (w : World) (hv : SysV w v s) (hs : sysValid s = true) (hT : Deb w) :
    Calls Tryz.prog 120 #[v] w (fun e w' => ∃ f : Nat, e = .returned (.int .i64 f) ∧ StayS s f ∧ Ext w w') := by
  obtain ⟨ve, rfl, h1⟩ := hv
  obtain ⟨ae, ce, rfl, -, -⟩ := h1.open
  have HV := Lib.hid (show ∀ w', Ext w w' → SysV w' (.agg #[.int .i64 s.alphabet, .int .i64 s.states, .slice ae s.edges.length ce]) s from fun w' h => ⟨_, rfl, h1.mono h⟩)
  have HDb := Lib.hid hT
  clear h1 hT
  obtain ⟨wo, hwo⟩ : ∃ wo, wo = w.alloc (.cells #[.int .i64 s.alphabet, .int .i64 s.states, .slice ae s.edges.length ce] 25) := ⟨_, rfl⟩
  have he : Ext w wo := by rw [hwo]; exact Ext.alloc _ _
  have b1 : Blk wo w.heap.size #[.int .i64 s.alphabet, .int .i64 s.states, .slice ae s.edges.length ce] 25 := by rw [hwo]; exact Blk.new _ _ _
  go_enter Tryz.func120, Tryz.ntmps120
  go_upto_region 1 with fail
  rw [← hwo]
  clear hwo
  have b1_0 := b1.cell 0 rfl; have b1_1 := b1.cell 1 rfl; have b1_2 := b1.cell 2 rfl
  go_wp2_with fail
  refine (SystemValid_b hs (HV.out _ he)).mono ?_
  rintro e w1 ⟨rfl, he1⟩
  clear b1_0 b1_1 b1_2
  replace he := he.trans he1
  replace b1 := b1.ext he1
  have b1_0 := b1.cell 0 rfl; have b1_1 := b1.cell 1 rfl; have b1_2 := b1.cell 2 rfl
  go_wp2_with fail
  refine (movesOf_c _ s w1 (HV.out _ he) hs).mono ?_
  rintro e w2 ⟨vm, rfl, he2, hM⟩
  clear b1_0 b1_1 b1_2 b1
  replace he := he.trans he2
  obtain ⟨mb, mcs, rfl, hMB⟩ := hM
  have HM := Lib.hid (show ∀ w', Ext w2 w' → MovesV w' (.pointer (some ⟨mb, 0, none⟩)) s from fun w' h => MovesV.mono ⟨mb, mcs, rfl, hMB⟩ h)
  have HDD := Lib.hid (show ∀ w', Ext w2 w' → Deb w' from fun w' h => HDb.out.ext (he.trans h))
  have HE := Lib.hid he
  clear hMB he he1 he2
  go_wp2_with fail
  go_loopw [4] (fun t wr => ∃ f : Nat, t = .int .i64 f ∧ f < 65536 ∧ f.testBit 0 = true ∧ Ext w2 wr) (fun t _ => 65536 - (intOf t).toNat)
  case atStart => exact ⟨1, rfl, by omega, rfl, Ext.refl _⟩
  case round =>
    obtain ⟨f, rfl, hf, hf0, hx⟩ := hrel
    have HF0 := Lib.hid hf0
    clear hf0
    go_wp2_with fail
    go_loopw [5, 13] (fun a i wr => ∃ m : Nat, m ≤ 6 ∧ i = .int .i64 m ∧ a = .int .i64 (growS s f m) ∧ Ext w2 wr) (fun _ i _ => 6 - (intOf i).toNat)
    case atStart => exact ⟨0, by omega, rfl, rfl, hx⟩
    case round =>
      clear hx
      obtain ⟨m, hm, rfl, rfl, hx⟩ := hrel
      have hg := growS_lt hs hf m
      by_cases hlt : m < 6
      · have hst := stepM_lt hs f (m : Int)
        have HOR := Lib.hid (show bits .or .i64 (growS s f m : Int) (stepM s f (m : Int) : Nat) = (growS s f (m + 1) : Int) from i64_or_nat _ _ (by omega) (by omega))
        go_wp2_with fail
        refine (step_c _ s f m wr (HM.out _ hx) hs hf hlt (HDD.out _ hx)).mono ?_
        rintro e w4 ⟨rfl, he4⟩
        go_wp2_with fail
        exact ⟨⟨m + 1, by omega, by go_num, congrArg _ HOR.out, hx.trans he4⟩, by simp [intOf]; omega⟩
      · obtain rfl : m = 6 := by omega
        have hle := growS_le s f 6
        have h0 := growS_zero (s := s) HF0.out 6
        by_cases hq : growS s f 6 = f
        · have hst := Lib.hid (growS_stay hf HF0.out hq)
          rw [hq]
          have hq2 : ((f : Int) == (f : Int)) = true := by simp
          clear hq
          go_wp2_with fail
          go_ret
          exact ⟨f, rfl, hst.out, HE.out.trans hx⟩
        · have hq2 : ((growS s f 6 : Int) == (f : Int)) = false := beq_eq_false_iff_ne.2 (by omega)
          have hgl : f < growS s f 6 := by omega
          have H0 := Lib.hid h0
          clear hq h0
          go_wp2_with fail
          exact ⟨⟨growS s f 6, rfl, hg, H0.out, hx⟩, by simp [intOf]; omega⟩

def subE (f : Nat) (l : List Edge) : List Edge := (l.filter (inS f)).map (mapS f)
theorem subE_succ {f k : Nat} {l : List Edge} {e : Edge} (h : l[k]? = some e) : subE f (l.take (k + 1)) = subE f (l.take k) ++ if inS f e = true then [mapS f e] else [] := by
  unfold subE
  rw [List.take_add_one, h, Option.toList_some, List.filter_append, List.map_append]
  by_cases hi : inS f e = true <;> simp [hi]
theorem subE_len (f : Nat) (l : List Edge) (k : Nat) : (subE f (l.take k)).length ≤ k := by
  unfold subE
  rw [List.length_map]
  refine Nat.le_trans (List.length_filter_le _ _) ?_
  rw [List.length_take]
  exact Nat.min_le_left _ _

theorem subSystem_c (v : Value) (s : Sys) (f : Nat) (w : World) (hv : SysV w v s) (hs : sysValid s = true) (hf : f < 65536) (hel : s.edges.length ≤ 100000) :
    Calls Tryz.prog 119 #[v, .int .i64 f] w (fun e w' => ∃ ve, e = .returned (.agg #[.int .i64 s.alphabet, .int .i64 (rankS f 16), ve]) ∧ Ext w w' ∧ EdgesOwn 103 w.heap.size w' ve (subE f s.edges)) := by
  obtain ⟨ve0, rfl, h1⟩ := hv
  obtain ⟨aE, cE, rfl, -, hEO⟩ := h1.open
  have HEO := Lib.hid hEO
  clear hEO
  have HEV := Lib.hid (show ∀ w', Ext w w' → EdgesV w' (.slice aE s.edges.length cE) s.edges from fun w' h => h1.mono h)
  clear h1
  have hin := fun e he => edges_in hs (e := e) he
  have HIN := Lib.hid hin
  clear hin
  have CRK : Hid (∀ (j : Nat) w', j < 16 → Calls Tryz.prog 205 #[.int .i64 f, .int .i64 j] w' (Same (.int .i64 (rankS f j)) w')) := Lib.hid fun j w' hj => rank_w f j w' hf hj
  have CHA : Hid (∀ (j : Nat) w', j < 16 → Calls Tryz.prog 118 #[.int .i64 f, .int .i64 j] w' (Same (.bool (f.testBit j)) w')) := Lib.hid fun j w' hj => by
    have := has_c f j w' (by omega) (by omega) (by omega)
    rwa [show bit (f : Int) (j : Int) = f.testBit j by rw [bit_nonneg (by omega)]; rfl] at this
  have COC : Hid (∀ w', Calls Tryz.prog 204 #[.int .u64 f] w' (Same (.int .i64 (rankS f 16)) w')) := Lib.hid fun w' => oc_w f w' hf
  obtain ⟨wo, hwo⟩ : ∃ wo, wo = (w.alloc (.cells #[.int .i64 s.alphabet, .int .i64 s.states, .slice aE s.edges.length cE] 25)).alloc (.cells #[.int .i64 0, .int .i64 0, .slice none 0 0] 25) := ⟨_, rfl⟩
  have he : Ext w wo := by rw [hwo]; exact (Ext.alloc _ _).trans (Ext.alloc _ _)
  have b1 : Blk wo w.heap.size #[.int .i64 s.alphabet, .int .i64 s.states, .slice aE s.edges.length cE] 25 := by rw [hwo]; exact (Blk.new _ _ _).ext (Ext.alloc _ _)
  have b2 : Blk wo (w.heap.size + 1) #[.int .i64 0, .int .i64 0, .slice none 0 0] 25 := by
    rw [hwo]; have := Blk.new (w.alloc (.cells #[.int .i64 s.alphabet, .int .i64 s.states, .slice aE s.edges.length cE] 25)) #[.int .i64 0, .int .i64 0, .slice none 0 0] 25; rwa [World.size_alloc] at this
  have hfw : IntKind.u64.wrap (f : Int) = (f : Int) := u64_wide f (by omega)
  go_enter Tryz.func119, Tryz.ntmps119
  go_upto_region 1 with fail
  rw [← hwo]
  clear hwo
  have D0 := fun d os => cell_regrown (b1.cell 0 rfl) d os
  obtain ⟨Kc, HKc⟩ : ∃ Kc : FuncId → Array Value → World → Value → World → Prop, Hid (Kc = fun _ _ w0 v w' => Ext w0 w' ∧ v = .int .i64 (rankS f 16)) := ⟨_, rfl⟩
  refine wp_region_ext (Kc := Kc) 7 (by kernel_rfl) (by kernel_rfl) ?_
  simp only [List.take_succ_cons, List.take_zero]
  repeat (refine WalkE.pure rfl (fun K hK => ?_); simp only [PureDo]; go_simp; refine hK _ ?_; clear hK K)
  refine WalkE.step (fun K hK wc hwc hdc => ?_)
  simp only [OpDo, OpSafe, OpOut]
  go_simp
  try rw [hfw]
  refine ⟨(COC.out _).mono ?_, ?_⟩
  · rintro e w' ⟨rfl, rfl⟩
    exact ⟨_, rfl, by rw [HKc.out]; exact ⟨Ext.refl _, rfl⟩⟩
  intro u4 w4 hk4
  rw [HKc.out] at hk4
  obtain ⟨hk4, rfl⟩ := hk4
  refine ⟨hk4, hK _ _ ?_⟩
  clear hK K hdc hk4
  repeat (refine WalkE.pure rfl (fun K hK => ?_); simp only [PureDo]; go_simp; refine hK _ ?_; clear hK K)
  refine WalkE.step (fun K hK we hwe hde => ?_)
  simp only [OpDo, OpSafe, OpOut]
  go_simp
  refine ⟨Ext.alloc _ _, hK _ _ ?_⟩
  clear hK K hde
  refine WalkE.nil (fun wn hwn hmn => ?_)
  simp only [List.drop_succ_cons, List.drop_zero, List.drop_nil]
  have hxn : Ext wo wn := (Ext.drew _).trans hwn
  have b7 : Blk wn we.heap.size #[.int .i64 0, .int .i64 0, .slice none 0 0] 25 := (Blk.new we _ _).ext (hmn 6 (by omega))
  have hp7 : wo.heap.size ≤ we.heap.size := hwe.size
  clear hmn HKc D0 hwn hwe
  generalize we.heap.size = p7 at b7 hp7 ⊢
  clear we
  have sc0 := b7.cell 0 rfl; have sf0 := b7.fr 0; have sc1 := b7.cell 1 rfl; have sf1 := b7.fr 1; have sc2 := b7.cell 2 rfl; have sf2 := b7.fr 2
  obtain ⟨rk, hrk⟩ : ∃ rk, (rankS f 16 : Int) = rk := ⟨_, rfl⟩
  rw [hrk]
  have HRK := Lib.hid hrk
  clear hrk
  have hne : ¬ (w.heap.size = p7) := by have := b1.lt; omega
  have hne' : ¬ (p7 = w.heap.size) := by omega
  have b1n := b1.ext hxn
  have qc0 := b1n.cell 0 rfl; have qc1 := b1n.cell 1 rfl; have qc2 := b1n.cell 2 rfl
  go_upto_region 2 with fail
  have b73 := ((b7.set 0 (.int .i64 s.alphabet)).set 1 (.int .i64 rk)).set 2 (.slice none 0 0)
  have he3 : Ext wo (((wn.setCell ⟨p7, 0, none⟩ (.int .i64 s.alphabet)).setCell ⟨p7, 1, none⟩ (.int .i64 rk)).setCell ⟨p7, 2, none⟩ (.slice none 0 0)) := ((hxn.setCell (p := ⟨p7, 0, none⟩) (by simp only []; omega) _).setCell (p := ⟨p7, 1, none⟩) (by simp only []; omega) _).setCell (p := ⟨p7, 2, none⟩) (by simp only []; omega) _
  generalize ((wn.setCell ⟨p7, 0, none⟩ (.int .i64 s.alphabet)).setCell ⟨p7, 1, none⟩ (.int .i64 rk)).setCell ⟨p7, 2, none⟩ (.slice none 0 0) = w5 at b73 he3 ⊢
  clear b7 hxn b1n sc0 sc1 sc2 sf0 sf1 sf2 qc0 qc1 qc2 wn
  have hx5 : Ext w w5 := he.trans he3
  have b15 := b1.ext he3
  have b25 := b2.ext he3
  have b75 := b73
  have hpw : w.heap.size + 1 < p7 := by have := b2.lt; omega
  have HB1 := Lib.hid b15
  have HB2 := Lib.hid b25
  have HW := Lib.hid (show ∀ wr, Tnd (fun b => b = p7 ∨ w5.heap.size ≤ b) w5 wr → Ext w wr from fun wr h =>
    Below.trans hx5 (h.below hx5.size fun b e => by have := hx5.size; rcases e with rfl | e <;> omega))
  have hp5 : p7 < w5.heap.size := b75.lt
  have HBS := Lib.hid (fun wr (h : Tnd (fun b => b = p7 ∨ w5.heap.size ≤ b) w5 wr) => HB2.out.tnd h (show ¬ (w.heap.size + 1 = p7 ∨ w5.heap.size ≤ w.heap.size + 1) by omega))
  have qc0 := b15.cell 0 rfl; have qc1 := b15.cell 1 rfl; have qc2 := b15.cell 2 rfl
  clear b1 b2 b73 he he3 b25 b15 hne hne' hp7
  go_wp2_with fail
  clear qc0 qc1 qc2
  go_loopw [17, 26, 27, 28, 29] (fun i _ _ _ _ wr => ∃ (k : Nat) (ve : Value), k ≤ s.edges.length ∧ i = .int .i64 k ∧ Tnd (fun b => b = p7 ∨ w5.heap.size ≤ b) w5 wr ∧ Blk wr p7 #[.int .i64 s.alphabet, .int .i64 rk, ve] 25 ∧ EdgesOwn 103 w5.heap.size wr ve (subE f (s.edges.take k))) (fun i _ _ _ _ _ => s.edges.length - (intOf i).toNat)
  case atStart => exact ⟨0, _, by omega, rfl, Tnd.refl _ _, b75, EdgesOwn.nil _ _ _⟩
  case round =>
    clear b75
    obtain ⟨k, ve, hk, rfl, hT5, hb7, hown⟩ := hrel
    have hx := HW.out _ hT5
    by_cases hlt : k < s.edges.length
    · obtain ⟨x, hxk⟩ : ∃ x, s.edges[k]? = some x := ⟨_, List.getElem?_eq_getElem hlt⟩
      obtain ⟨b, off, rfl, -, hc⟩ := HEO.out k x hxk
      obtain ⟨q1, q2, q3⟩ := (hc k x hxk).mono hx
      have hin := HIN.out x (List.mem_of_getElem? hxk)
      have HES := Lib.hid (subE_succ (f := f) hxk)
      have HLE := Lib.hid (subE_len f s.edges k)
      obtain ⟨src, letter, dst⟩ := x
      obtain ⟨i1, i2, i3, i4, -, -, -⟩ := hin
      simp only [] at i1 i2 i3 i4 q1 q2 q3
      obtain ⟨q, rfl⟩ := Int.eq_ofNat_of_zero_le i3
      obtain ⟨r, rfl⟩ := Int.eq_ofNat_of_zero_le i4
      simp only [Int.toNat_natCast] at i1 i2
      obtain ⟨t1, ht1⟩ : ∃ t1, f.testBit q = t1 := ⟨_, rfl⟩
      obtain ⟨t2, ht2⟩ : ∃ t2, f.testBit r = t2 := ⟨_, rfl⟩
      have HIS : Hid (inS f ⟨(q : Int), letter, (r : Int)⟩ = (t1 && t2)) := Lib.hid (by unfold inS; simp only [Int.toNat_natCast]; rw [ht1, ht2])
      have C1 := Lib.hid (fun w' => (by have := CHA.out q w' i1; rwa [ht1] at this : Calls Tryz.prog 118 #[.int .i64 f, .int .i64 q] w' (Same (.bool t1) w')))
      have C2 := Lib.hid (fun w' => (by have := CHA.out r w' i2; rwa [ht2] at this : Calls Tryz.prog 118 #[.int .i64 f, .int .i64 r] w' (Same (.bool t2) w')))
      have CQ := Lib.hid (fun w' => CRK.out q w' i1)
      have CR := Lib.hid (fun w' => CRK.out r w' i2)
      clear hc hxk i3 i4 ht1 ht2 i1 i2
      go_wp2_with fail
      obtain ⟨wo2, hwo2⟩ : ∃ wo2, wo2 = wr.alloc (.cells #[.int .i64 q, .int .i64 letter, .int .i64 r] 103) := ⟨_, rfl⟩
      have hx2 : Ext wr wo2 := by rw [hwo2]; exact Ext.alloc _ _
      have hT : Blk wo2 wr.heap.size #[.int .i64 q, .int .i64 letter, .int .i64 r] 103 := by rw [hwo2]; exact Blk.new _ _ _
      rw [← hwo2]
      clear hwo2 q1 q2 q3
      have hT6 : Tnd (fun b => b = p7 ∨ w5.heap.size ≤ b) w5 wo2 := hT5.trans (Tnd.ext hx2)
      have hb7 := hb7.ext hx2
      have hown : EdgesOwn 103 w5.heap.size wo2 ve (subE f (s.edges.take k)) := own_ext hown hx2
      clear hT5 hx2 hx
      have hT_0 := hT.cell 0 rfl; have hT_1 := hT.cell 1 rfl; have hT_2 := hT.cell 2 rfl
      refine (C1.out _).mono ?_
      rintro e w' ⟨rfl, rfl⟩
      cases t1 with
      | false =>
        go_wp2_with fail
        exact ⟨⟨k + 1, ve, by omega, by go_num, hT6, hb7, by rw [HES.out, HIS.out]; simpa using hown⟩, by simp [intOf]; omega⟩
      | true =>
      go_wp2_with fail
      refine (C2.out _).mono ?_
      rintro e w' ⟨rfl, rfl⟩
      cases t2 with
      | false =>
        go_wp2_with fail
        exact ⟨⟨k + 1, ve, by omega, by go_num, hT6, hb7, by rw [HES.out, HIS.out]; simpa using hown⟩, by simp [intOf]; omega⟩
      | true =>
      obtain ⟨es, hes⟩ : ∃ es, subE f (s.edges.take k) = es := ⟨_, rfl⟩
      have hL : es.length ≤ 100000 := by have := HLE.out; rw [hes] at this; omega
      have HES' : Hid (subE f (s.edges.take (k + 1)) = es ++ [⟨(rankS f q : Int), letter, (rankS f r : Int)⟩]) := Lib.hid (by rw [HES.out, HIS.out, hes]; simp [mapS])
      rw [hes] at hown
      clear hes HES HIS HLE
      obtain ⟨ae, ce, rfl⟩ := own_any' hown
      go_wp2_with fail
      clear hT_0 hT_1 hT_2
      have hP : Pool w5.heap.size wo2 [⟨103, 3, .slice ae es.length ce, es.length, edgeCells es⟩] := ⟨fun s hs => by simp at hs; subst hs; exact hown, List.pairwise_singleton _ _⟩
      have E2 := fun d os => cell_regrown (hb7.cell 2 rfl) d os
      have E5 := fun d os => cell_regrown (hT.cell 0 rfl) d os
      have E6 := fun d os => cell_regrown (hT.cell 1 rfl) d os
      have E7 := fun d os => cell_regrown (hT.cell 2 rfl) d os
      obtain ⟨Kc, HKc⟩ : ∃ Kc : FuncId → Array Value → World → Value → World → Prop, Hid (Kc = fun _ args w0 v w' => Ext w0 w' ∧ ∀ j : Nat, args = #[.int .i64 f, .int .i64 j] → v = .int .i64 (rankS f j)) := ⟨_, rfl⟩
      refine wp_region_ext (Kc := Kc) 14 (by kernel_rfl) (by kernel_rfl) ?_
      simp only [List.take_succ_cons, List.take_zero]
      repeat (refine WalkE.pure rfl (fun K hK => ?_); simp only [PureDo]; go_simp; refine hK _ ?_; clear hK K)
      refine WalkE.step (fun K hK wc hwc hdc => ?_)
      simp only [OpDo, OpSafe, OpOut]
      go_simp
      refine ⟨(CQ.out _).mono ?_, ?_⟩
      · rintro e w' ⟨rfl, rfl⟩
        exact ⟨_, rfl, by rw [HKc.out]; exact ⟨Ext.refl _, fun j h => by simp at h; have h2 : q = j := (by omega); subst h2; rfl⟩⟩
      intro u4 w4 hk4
      rw [HKc.out] at hk4
      obtain ⟨hk4, hv4⟩ := hk4
      obtain rfl := hv4 q rfl
      refine ⟨hk4, hK _ _ ?_⟩
      clear hK K hdc hk4 hv4
      repeat (refine WalkE.pure rfl (fun K hK => ?_); simp only [PureDo]; go_simp; refine hK _ ?_; clear hK K)
      refine WalkE.step (fun K hK wd hwd hdd => ?_)
      simp only [OpDo, OpSafe, OpOut]
      go_simp
      refine ⟨(CR.out _).mono ?_, ?_⟩
      · rintro e w' ⟨rfl, rfl⟩
        exact ⟨_, rfl, by rw [HKc.out]; exact ⟨Ext.refl _, fun j h => by simp at h; have h2 : r = j := (by omega); subst h2; rfl⟩⟩
      intro u6 w6 hk6
      rw [HKc.out] at hk6
      obtain ⟨hk6, hv6⟩ := hk6
      obtain rfl := hv6 r rfl
      refine ⟨hk6, hK _ _ ?_⟩
      clear hK K hdd hk6 hv6
      repeat (refine WalkE.pure rfl (fun K hK => ?_); simp only [PureDo]; go_simp; refine hK _ ?_; clear hK K)
      refine WalkE.step (fun K hK we hwe hde => ?_)
      simp only [OpDo, OpSafe, OpOut]
      go_simp
      refine ⟨Ext.alloc _ _, hK _ _ ?_⟩
      clear hK K hde
      refine WalkE.nil (fun wn hwn hmn => ?_)
      simp only [List.drop_succ_cons, List.drop_zero, List.drop_nil]
      have x0 : Ext wo2 wn := (Ext.drew _).trans hwn
      have hbn : Blk wn we.heap.size #[.int .i64 (rankS f q), .int .i64 letter, .int .i64 (rankS f r)] 103 := (Blk.new we _ _).ext (hmn 13 (by omega))
      have hP5 := hP.ext x0
      have hb7n := hb7.ext x0
      have hNC : ∀ (j : Nat) u, [Value.int .i64 (rankS f q), .int .i64 letter, .int .i64 (rankS f r)][j]? = some u → wn.cell? ((⟨we.heap.size, 0, none⟩ : Addr).add j) = some u := fun j u hu => by
        rw [add_none, Nat.zero_add]
        exact hbn.cell j (by simpa using hu)
      have h1c : ∀ u ∈ [Value.int .i64 (rankS f q), .int .i64 letter, .int .i64 (rankS f r)], u.oneCell' = true := fun u hu => by simp at hu; rcases hu with rfl | rfl | rfl <;> rfl
      have hbs : w5.heap.size ≤ wn.heap.size := Nat.le_trans hT6.size x0.size
      clear hmn HKc E2 E5 E6 E7 hwn hwc hwd hwe hbn hT
      generalize we.heap.size = gN at hNC ⊢
      go_wp2_with (at_builtin; refine appPN (base := w5.heap.size) (l := []) (news := [Value.int .i64 (rankS f q), .int .i64 letter, .int .i64 (rankS f r)]) rfl rfl Tryz.underlying23 infoEdge rfl (by decide) hP5 rfl rfl (by rfl) hNC h1c (by omega) (by decide) hbs ?_; intro v1 w7 hP1 hg1 hb1; have b67 := Blk.grown hb7n hP5.head hg1 (show 25 ≠ 103 by decide); have g2 := b67.cell 2 rfl; have f2 := b67.fr 2; obtain ⟨a1, c1, rfl⟩ := own_any' (Pool.hd hP1))
      all_goals
        have hT7 : Tnd (fun b => b = p7 ∨ w5.heap.size ≤ b) w5 w7 := (hT6.trans (Tnd.ext x0)).trans (Tnd.grown hg1 fun g hg => .inr (own_lt hP5.head hg).1)
        have hT8 := hT7.trans (tnd_putS (S := fun b => b = p7 ∨ w5.heap.size ≤ b) w7 (b := p7) (.inl rfl) 2 (.slice a1 (es.length + 1) c1))
        have b68 := b67.set 2 (.slice a1 (es.length + 1) c1)
        have hP8 := hP1.set b67 (fun s hs => by simp at hs; subst hs; show 25 ≠ 103; decide) 2 (.slice a1 (es.length + 1) c1)
        have hown8 := EdgesOwn.push (x := ⟨(rankS f q : Int), letter, (rankS f r : Int)⟩) (Pool.hd hP8) HES'.out
        clear hP hP1 hP5 hP8 hg1 hb1 b67 g2 f2 x0 hNC h1c hbs hT7 hT6 hb7 hb7n hown
        generalize w7.setCell ⟨p7, 2, none⟩ (.slice a1 (es.length + 1) c1) = w8 at hT8 b68 hown8 ⊢
        go_wp2_with fail
        exact ⟨⟨k + 1, _, by omega, by go_num, hT8, b68, hown8⟩, by simp [intOf]; omega⟩
    · obtain rfl : k = s.edges.length := by omega
      rw [List.take_length] at hown
      obtain ⟨ae, ce, rfl⟩ := own_any' hown
      have b2 := HBS.out _ hT5
      have hb7_0 := hb7.cell 0 rfl; have hb7_1 := hb7.cell 1 rfl; have hb7_2 := hb7.cell 2 rfl
      have rc0 := b2.cell 0 rfl; have rf0 := b2.fr 0; have rc1 := b2.cell 1 rfl; have rf1 := b2.fr 1; have rc2 := b2.cell 2 rfl; have rf2 := b2.fr 2
      go_wp2_with fail
      obtain rfl := HRK.out
      have hxw := hx
      refine bodyPost_ret (v := .agg #[.int .i64 s.alphabet, .int .i64 (rankS f 16), .slice ae (subE f s.edges).length ce]) (by simp [results, Tryz.results119, go_sem, rc0, rc1, rc2, rf0, rf1, rf2]) rfl ?_
      refine ⟨_, rfl, (((hxw.setCell (p := ⟨(w.heap.size + 1), 0, none⟩) (by simp only []; omega) _).setCell (p := ⟨(w.heap.size + 1), 1, none⟩) (by simp only []; omega) _).setCell (p := ⟨(w.heap.size + 1), 2, none⟩) (by simp only []; omega) _), ?_⟩
      exact own_base (own_store (own_store (own_store hown b2 (by decide) 0 _) (b2.set 0 _) (by decide) 1 _) ((b2.set 0 _).set 1 _) (by decide) 2 _) (HW.out _ (Tnd.refl _ _)).size

theorem TrimSystem_c (v : Value) (s : Sys) (w : World) (hv : SysV w v s) (hs : sysValid s = true) (hel : s.edges.length ≤ 100000) (hT : Deb w) :
    Calls Tryz.prog 46 #[v] w (fun e w' => ∃ f ve, StayS s f ∧ e = .returned (.tuple #[.agg #[.int .i64 (subS s f).alphabet, .int .i64 (subS s f).states, ve], .bool true]) ∧ Ext w w' ∧ EdgesOwn 103 w.heap.size w' ve (subS s f).edges) := by
  obtain ⟨ve0, rfl, h1⟩ := hv
  obtain ⟨aE, cE, rfl, -, -⟩ := h1.open
  have HV := Lib.hid (show ∀ w', Ext w w' → SysV w' (.agg #[.int .i64 s.alphabet, .int .i64 s.states, .slice aE s.edges.length cE]) s from fun w' h => ⟨_, rfl, h1.mono h⟩)
  have HD := Lib.hid (show ∀ w', Ext w w' → Deb w' from fun w' h => hT.ext h)
  clear h1 hT
  obtain ⟨wo, hwo⟩ : ∃ wo, wo = (w.alloc (.cells #[.int .i64 s.alphabet, .int .i64 s.states, .slice aE s.edges.length cE] 25)).alloc (.cells #[.int .i64 0, .int .i64 0, .slice none 0 0] 25) := ⟨_, rfl⟩
  have he : Ext w wo := by rw [hwo]; exact (Ext.alloc _ _).trans (Ext.alloc _ _)
  have b1 : Blk wo w.heap.size #[.int .i64 s.alphabet, .int .i64 s.states, .slice aE s.edges.length cE] 25 := by rw [hwo]; exact (Blk.new _ _ _).ext (Ext.alloc _ _)
  have b2 : Blk wo (w.heap.size + 1) #[.int .i64 0, .int .i64 0, .slice none 0 0] 25 := by
    rw [hwo]; have := Blk.new (w.alloc (.cells #[.int .i64 s.alphabet, .int .i64 s.states, .slice aE s.edges.length cE] 25)) #[.int .i64 0, .int .i64 0, .slice none 0 0] 25; rwa [World.size_alloc] at this
  go_enter Tryz.func46, Tryz.ntmps46
  go_upto_region 1 with fail
  rw [← hwo]
  clear hwo
  have b1_0 := b1.cell 0 rfl; have b1_1 := b1.cell 1 rfl; have b1_2 := b1.cell 2 rfl
  go_wp2_with fail
  refine (SystemValid_b hs (HV.out _ he)).mono ?_
  rintro e w2 ⟨rfl, he2⟩
  clear b1_0 b1_1 b1_2
  replace he := he.trans he2
  replace b1 := b1.ext he2
  replace b2 := b2.ext he2
  go_upto_region 3 with fail
  have D0 := fun d os => cell_regrown (b1.cell 0 rfl) d os
  have D1 := fun d os => cell_regrown (b1.cell 1 rfl) d os
  have D2 := fun d os => cell_regrown (b1.cell 2 rfl) d os
  obtain ⟨Kc, HKc⟩ : ∃ Kc : FuncId → Array Value → World → Value → World → Prop, Hid (Kc = fun fn _ w0 v w' => Ext w0 w' ∧ (fn = 120 → ∃ f : Nat, v = .int .i64 f ∧ StayS s f) ∧ (fn = 119 → ∃ (f : Nat) (ve : Value), StayS s f ∧ v = .agg #[.int .i64 s.alphabet, .int .i64 (rankS f 16), ve] ∧ EdgesOwn 103 w0.heap.size w' ve (subE f s.edges))) := ⟨_, rfl⟩
  refine wp_region_ext (Kc := Kc) 4 (by kernel_rfl) (by kernel_rfl) ?_
  simp only [List.take_succ_cons, List.take_zero]
  repeat (refine WalkE.pure rfl (fun K hK => ?_); simp only [PureDo]; go_simp; refine hK _ ?_; clear hK K)
  refine WalkE.step (fun K hK wc hwc hdc => ?_)
  simp only [OpDo, OpSafe, OpOut]
  go_simp
  have hxc := he.trans ((Ext.drew _).trans hwc)
  refine ⟨(ReachableStates_c _ s _ (HV.out _ hxc) hs (HD.out _ hxc)).mono ?_, ?_⟩
  · rintro e w' ⟨f, rfl, hf, he'⟩
    exact ⟨_, rfl, by rw [HKc.out]; exact ⟨he', fun _ => ⟨f, rfl, hf⟩, fun h => absurd h (by decide)⟩⟩
  intro u4 w4 hk4
  rw [HKc.out] at hk4
  obtain ⟨hk4, hv4, -⟩ := hk4
  obtain ⟨f, rfl, hf⟩ := hv4 rfl
  refine ⟨hk4, hK _ _ ?_⟩
  clear hK K hdc hv4
  repeat (refine WalkE.pure rfl (fun K hK => ?_); simp only [PureDo]; go_simp; refine hK _ ?_; clear hK K)
  refine WalkE.step (fun K hK wd hwd hdd => ?_)
  simp only [OpDo, OpSafe, OpOut]
  go_simp
  have hxd := he.trans ((Ext.drew _).trans hwd)
  refine ⟨(subSystem_c _ s f _ (HV.out _ hxd) hs hf.lt hel).mono ?_, ?_⟩
  · rintro e w' ⟨ve, rfl, he', hO⟩
    exact ⟨_, rfl, by rw [HKc.out]; exact ⟨he', fun h => absurd h (by decide), fun _ => ⟨f, ve, hf, rfl, hO⟩⟩⟩
  intro u5 w5 hk5
  rw [HKc.out] at hk5
  obtain ⟨hk5, -, hv5⟩ := hk5
  obtain ⟨f2, ve, hf2, rfl, hO⟩ := hv5 rfl
  refine ⟨hk5, hK _ _ ?_⟩
  clear hK K hdd hv5
  repeat (refine WalkE.pure rfl (fun K hK => ?_); simp only [PureDo]; go_simp; refine hK _ ?_; clear hK K)
  refine WalkE.nil (fun wn hwn hmn => ?_)
  simp only [List.drop_succ_cons, List.drop_zero, List.drop_nil]
  have hO' : EdgesOwn 103 wd.heap.size wn ve (subE f2 s.edges) := own_ext hO (hmn 3 (by omega))
  have hxn : Ext w wn := he.trans ((Ext.drew _).trans hwn)
  have b2n := b2.ext ((Ext.drew _).trans hwn)
  have hsd : w.heap.size ≤ wd.heap.size := hxd.size
  clear hmn HKc D0 D1 D2 hwn hwd hwc hO hk4 hk5 b1 b2 hxc hxd
  obtain ⟨ae, ce, rfl⟩ := own_any' hO'
  have rc0 := b2n.cell 0 rfl; have rf0 := b2n.fr 0; have rc1 := b2n.cell 1 rfl; have rf1 := b2n.fr 1; have rc2 := b2n.cell 2 rfl; have rf2 := b2n.fr 2
  go_wp2_with fail
  refine bodyPost_ret (v := .tuple #[.agg #[.int .i64 s.alphabet, .int .i64 (rankS f2 16), .slice ae (subE f2 s.edges).length ce], .bool true]) (by simp [results, Tryz.results46, go_sem, rc0, rc1, rc2, rf0, rf1, rf2]) rfl ?_
  refine ⟨f2, _, hf2, rfl, (((hxn.setCell (p := ⟨(w.heap.size + 1), 0, none⟩) (by simp only []; omega) _).setCell (p := ⟨(w.heap.size + 1), 1, none⟩) (by simp only []; omega) _).setCell (p := ⟨(w.heap.size + 1), 2, none⟩) (by simp only []; omega) _), ?_⟩
  exact own_base (own_store (own_store (own_store hO' b2n (by decide) 0 _) (b2n.set 0 _) (by decide) 1 _) ((b2n.set 0 _).set 1 _) (by decide) 2 _) hsd
end Go.Proofs.YtadplnbadfnlfaaGreatDoor
