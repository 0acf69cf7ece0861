/- Part of this seat's proofs, cut to what its law needs. -/

import Derived.Test.YtanekmfifmkbmaaGreatDoorCpR
namespace Go.Proofs.YtanekmfifmkbmaaGreatDoor
open Go Go.RowKit
set_option linter.unusedVariables false
set_option linter.unusedSimpArgs false
set_option maxHeartbeats 4000000
set_option maxRecDepth 100000

theorem slv_nil {α : Type} {E : World → Nat → Nat → α → Prop} {sz : Nat} (w : World) : SlV E sz w (.slice none 0 0) ([] : List α) :=
  ⟨none, 0, rfl, Nat.le_refl _, by unfold maxLen; omega, fun h => absurd h (Nat.lt_irrefl 0)⟩

theorem ComposeSystems_s (va vb : Value) (a b : Sys) (w : World) (hva : SysV w va a) (hvb : SysV w vb b) (hea : a.edges.length ≤ 1048576) (heb : b.edges.length ≤ 1048576) :
    Calls Tryz.prog 8 #[va, vb] w (fun e w' => ∃ v' f, e = .returned (.tuple #[v', .bool f]) ∧ Ext w w' ∧ CompIs a b w.heap.size w' v' f) := by
  have HA := Lib.hid hva
  obtain ⟨vE1, rfl, k1⟩ := hva
  obtain ⟨aE1, cE1, rfl, -, -⟩ := k1.open
  have HB := Lib.hid hvb
  obtain ⟨vE2, rfl, k3⟩ := hvb
  obtain ⟨aE2, cE2, rfl, -, -⟩ := k3.open
  have KE1 := Lib.hid k1
  have KE2 := Lib.hid k3
  clear k1 k3
  unfold CompIs
  obtain ⟨al, hal⟩ : ∃ al, alC a b = al := ⟨_, rfl⟩
  have HAL := Lib.hid hal
  rw [hal]
  clear hal
  obtain ⟨wo, hwo⟩ : ∃ wo, wo = ((w.alloc (.cells #[.int .i64 a.alphabet, .int .i64 a.states, .slice aE1 a.edges.length cE1] 25)).alloc (.cells #[.int .i64 b.alphabet, .int .i64 b.states, .slice aE2 b.edges.length cE2] 25)).alloc (.cells #[.int .i64 0, .int .i64 0, .slice none 0 0] 25) := ⟨_, rfl⟩
  have he : Ext w wo := by rw [hwo]; exact ((Ext.alloc _ _).trans (Ext.alloc _ _)).trans (Ext.alloc _ _)
  have b1 : Blk wo w.heap.size #[.int .i64 a.alphabet, .int .i64 a.states, .slice aE1 a.edges.length cE1] 25 := by rw [hwo]; exact Ext.blk ((Ext.alloc _ _).trans (Ext.alloc _ _))
  have b2 : Blk wo (w.heap.size + 1) #[.int .i64 b.alphabet, .int .i64 b.states, .slice aE2 b.edges.length cE2] 25 := by rw [hwo]; exact Ext.blk1 (Ext.alloc _ _)
  have b4 : Blk wo (w.heap.size + 1 + 1) #[.int .i64 0, .int .i64 0, .slice none 0 0] 25 := by rw [hwo]; exact Ext.blk2 (Ext.refl _)
  go_enter Tryz.func8, Tryz.ntmps8
  go_upto_region 1 with fail
  rw [← hwo]
  clear hwo
  have b1_0 := b1.cell 0 rfl; have b1_1 := b1.cell 1 rfl; have b1_2 := b1.cell 2 rfl
  by_cases ha : sysValid a = true
  case neg =>
    have ha' : sysValid a = false := by simpa using ha
    go_wp2_with fail
    refine (SystemValid_sb ha' (HA.out.mono he)).mono ?_
    rintro e w1 ⟨rfl, he1⟩
    replace he := he.trans he1
    replace b4 := b4.ext he1
    have rc0 := b4.cell 0 rfl; have rf0 := b4.fr 0; have rc1 := b4.cell 1 rfl; have rf1 := b4.fr 1; have rc2 := b4.cell 2 rfl; have rf2 := b4.fr 2
    go_wp2_with fail
    refine bodyPost_ret (v := .tuple #[.agg #[.int .i64 0, .int .i64 0, .slice none 0 0], .bool false]) (by simp [results, Tryz.results8, go_sem, rc0, rc1, rc2, rf0, rf1, rf2]) rfl ?_
    exact ⟨_, false, rfl, (((he.setCell (p := ⟨(w.heap.size + 1 + 1), 0, none⟩) (by simp only []; omega) _).setCell (p := ⟨(w.heap.size + 1 + 1), 1, none⟩) (by simp only []; omega) _).setCell (p := ⟨(w.heap.size + 1 + 1), 2, none⟩) (by simp only []; omega) _), .inr ⟨rfl, rfl, .inl ha'⟩⟩
  have HSA := Lib.hid ha
  go_wp2_with fail
  refine (SystemValid_sb ha (HA.out.mono he)).mono ?_
  rintro e w1 ⟨rfl, he1⟩
  clear b1_0 b1_1 b1_2 ha
  replace he := he.trans he1
  replace b1 := b1.ext he1
  replace b2 := b2.ext he1
  replace b4 := b4.ext he1
  clear he1
  have b2_0 := b2.cell 0 rfl; have b2_1 := b2.cell 1 rfl; have b2_2 := b2.cell 2 rfl
  by_cases hb : sysValid b = true
  case neg =>
    have hb' : sysValid b = false := by simpa using hb
    go_wp2_with fail
    refine (SystemValid_sb hb' (HB.out.mono he)).mono ?_
    rintro e w1 ⟨rfl, he1⟩
    replace he := he.trans he1
    replace b4 := b4.ext he1
    have rc0 := b4.cell 0 rfl; have rf0 := b4.fr 0; have rc1 := b4.cell 1 rfl; have rf1 := b4.fr 1; have rc2 := b4.cell 2 rfl; have rf2 := b4.fr 2
    go_wp2_with fail
    refine bodyPost_ret (v := .tuple #[.agg #[.int .i64 0, .int .i64 0, .slice none 0 0], .bool false]) (by simp [results, Tryz.results8, go_sem, rc0, rc1, rc2, rf0, rf1, rf2]) rfl ?_
    exact ⟨_, false, rfl, (((he.setCell (p := ⟨(w.heap.size + 1 + 1), 0, none⟩) (by simp only []; omega) _).setCell (p := ⟨(w.heap.size + 1 + 1), 1, none⟩) (by simp only []; omega) _).setCell (p := ⟨(w.heap.size + 1 + 1), 2, none⟩) (by simp only []; omega) _), .inr ⟨rfl, rfl, .inr (.inl hb')⟩⟩
  have HSB := Lib.hid hb
  go_wp2_with fail
  refine (SystemValid_sb hb (HB.out.mono he)).mono ?_
  rintro e w2 ⟨rfl, he1⟩
  clear b2_0 b2_1 b2_2 hb
  replace he := he.trans he1
  replace b1 := b1.ext he1
  replace b2 := b2.ext he1
  replace b4 := b4.ext he1
  clear he1
  obtain ⟨al0, al63, -⟩ := alC_facts HSA.out HSB.out
  rw [HAL.out] at al0 al63
  have eal : bits .or .i64 a.alphabet b.alphabet = al := HAL.out
  have b1_0 := b1.cell 0 rfl; have b1_1 := b1.cell 1 rfl; have b1_2 := b1.cell 2 rfl
  have b2_0 := b2.cell 0 rfl; have b2_1 := b2.cell 1 rfl; have b2_2 := b2.cell 2 rfl
  have c1 := fun o => (Ext.alloc w2 o).cell b1_0
  have c2 := fun o => (Ext.alloc w2 o).cell b2_0
  go_upto_region 4 with fail
  obtain ⟨w4, hw4⟩ : ∃ w4, w4 = (w2.alloc (.cells #[.int .i64 a.alphabet, .int .i64 a.states, .slice aE1 a.edges.length cE1, .int .i64 b.alphabet, .int .i64 b.states, .slice aE2 b.edges.length cE2] 25)).alloc (.cells #[.slice (some ⟨w2.heap.size, 0, none⟩) 2 2, .slice none 0 0, .slice none 0 0, .int .i64 al, .int .i64 0, .int .i64 0] 92) := ⟨_, rfl⟩
  have y4 : Ext w2 w4 := by rw [hw4]; exact (Ext.alloc _ _).trans (Ext.alloc _ _)
  have bl : Blk w4 w2.heap.size #[.int .i64 a.alphabet, .int .i64 a.states, .slice aE1 a.edges.length cE1, .int .i64 b.alphabet, .int .i64 b.states, .slice aE2 b.edges.length cE2] 25 := by rw [hw4]; exact Ext.blk (Ext.alloc _ _)
  have bN : Blk w4 (w2.heap.size + 1) #[.slice (some ⟨w2.heap.size, 0, none⟩) 2 2, .slice none 0 0, .slice none 0 0, .int .i64 al, .int .i64 0, .int .i64 0] 92 := by rw [hw4]; exact Ext.blk1 (Ext.refl _)
  rw [← hw4]
  clear hw4 eal c1 c2 b1_0 b1_1 b1_2 b2_0 b2_1 b2_2 b1 b2
  generalize w2.heap.size = GL at bl bN ⊢
  replace he := he.trans y4
  replace b4 := b4.ext y4
  clear y4
  have HNV := Lib.hid (show ∀ w', Ext w4 w' → NetV w' (.agg #[.slice (some ⟨GL, 0, none⟩) 2 2, .slice none 0 0, .slice none 0 0, .int .i64 al, .int .i64 0, .int .i64 0]) (netC a b al) [] 0 0 from fun w' h =>
    ⟨_, _, _, rfl, SyssV.lit2 (bl.ext h) (KE1.out.mono (he.trans h)) (KE2.out.mono (he.trans h)), slv_nil _, slv_nil _⟩)
  have HNO := Lib.hid (netC_ok HSA.out HSB.out al0 al63 hea heb)
  have bN_0 := bN.cell 0 rfl; have bN_1 := bN.cell 1 rfl; have bN_2 := bN.cell 2 rfl; have bN_3 := bN.cell 3 rfl; have bN_4 := bN.cell 4 rfl; have bN_5 := bN.cell 5 rfl
  go_wp2_with fail
  refine (l4Sizes_c _ (netC a b al) [] 0 0 w4 (HNV.out _ (Ext.refl _)) HNO.out).mono ?_
  rintro e w5 ⟨vz, rfl, he5, hz⟩
  rw [netC_sizes] at hz
  have hzv := hz.ints
  obtain ⟨aZ, cZ, rfl⟩ := hz.shape
  clear bN_0 bN_1 bN_2 bN_3 bN_4 bN_5 hz
  replace b4 := b4.ext he5
  replace bN := bN.ext he5
  replace he := he.trans he5
  have hx4 := he5
  clear he5 bl
  have bN_0 := bN.cell 0 rfl; have bN_1 := bN.cell 1 rfl; have bN_2 := bN.cell 2 rfl; have bN_3 := bN.cell 3 rfl; have bN_4 := bN.cell 4 rfl; have bN_5 := bN.cell 5 rfl
  go_wp2_with fail
  refine (l7Pairs_s _ _ a b al w5 (HNV.out _ hx4) hzv HSA.out HSB.out hea heb al0 al63).mono ?_
  rintro e w6 ⟨gR, cR, L, rfl, he6, hR, hst⟩
  have HST := Lib.hid hst
  have hMKf := Nat.mul_le_mul (pos_states HSA.out).2 (pos_states HSB.out).2
  obtain ⟨N, hN⟩ : ∃ N, a.states.toNat * b.states.toNat = N := ⟨_, rfl⟩
  have HN := Lib.hid hN
  rw [hN] at hR hMKf ⊢
  clear bN_0 bN_1 bN_2 bN_3 bN_4 bN_5 hst hN
  replace b4 := b4.ext he6
  replace bN := bN.ext he6
  replace he := he.trans he6
  replace hx4 := hx4.trans he6
  have hzv := hzv.mono he6
  clear he6
  have HSZ := Lib.hid (show ∀ w', Ext w6 w' → IntsV w' (.slice aZ (ints [a.states.toNat, b.states.toNat]).length cZ) (ints (sizesOf (netC a b al))) from fun w' h => by rw [netC_sizes]; exact hzv.mono h)
  have HRB := Lib.hid (show ∀ w', Ext w6 w' → BoolsV w' (.slice (some ⟨gR, 0, none⟩) N cR) (RL N L) from fun w' h => by
    have h1 := own_ext hR h
    have h2 : BoolsOwn 4 w5.heap.size w' (.slice (some ⟨gR, 0, none⟩) N cR) (RL N L) := by unfold BoolsOwn; rw [RL_len]; exact h1
    exact h2.bools)
  have HRC := Lib.hid (show ∀ w', Ext w6 w' → ∀ i, i < N → w'.cell? ⟨gR, i, none⟩ = some (.bool (decide (i ∈ L))) from fun w' h i hi => own_cell (own_ext hR h) (by rw [List.getElem?_map, RL_at L hi]; rfl))
  have HNW := Lib.hid (show ∀ w', Ext w6 w' → NetV w' (.agg #[.slice (some ⟨GL, 0, none⟩) 2 2, .slice none 0 0, .slice none 0 0, .int .i64 al, .int .i64 0, .int .i64 0]) (netC a b al) [] 0 0 from fun w' h => HNV.out _ (hx4.trans h))
  have HBN := Lib.hid bN
  have H4 := Lib.hid b4
  have HW := Lib.hid he
  have hl4 : w.heap.size + 1 + 1 < w6.heap.size := b4.lt
  clear hzv hR HNV hx4
  have D0 := fun d os => cell_regrown (bN.cell 3 rfl) d os
  have hrk := rk_le L N
  go_upto_region 6 with fail
  obtain ⟨Kc, HKc⟩ : ∃ Kc : FuncId → Array Value → World → Value → World → Prop, Hid (Kc = fun (_ : FuncId) (_ : Array Value) (w0 : World) (v : Value) (w' : World) => Ext w0 w' ∧ v = .int .i64 (rk L N : Nat)) := ⟨_, rfl⟩
  refine wp_region_ext (Kc := Kc) 8 (by kernel_rfl) (by kernel_rfl) ?_
  simp only [List.take_succ_cons, List.take_zero]
  repeat (refine WalkE.pure rfl (fun K hK => ?_); simp only [PureDo]; go_simp; refine hK _ ?_; clear hK K)
  refine WalkE.step (fun K hK wc hwc hdc => ?_)
  simp only [OpDo, OpSafe, OpOut]
  go_simp
  refine ⟨(l7Rank_c _ N L N _ (HRB.out _ ((Ext.drew _).trans hwc)) (Nat.le_refl _) (by omega)).mono ?_, ?_⟩
  · rintro e w' ⟨rfl, rfl⟩
    exact ⟨_, rfl, by rw [HKc.out]; exact ⟨Ext.refl _, rfl⟩⟩
  intro u4 w4' hk4
  rw [HKc.out] at hk4
  obtain ⟨hk4, rfl⟩ := hk4
  refine ⟨hk4, hK _ _ ?_⟩
  clear hK K hdc hk4
  repeat (refine WalkE.pure rfl (fun K hK => ?_); simp only [PureDo]; go_simp; refine hK _ ?_; clear hK K)
  refine WalkE.step (fun K hK we hwe hde => ?_)
  simp only [OpDo, OpSafe, OpOut]
  go_simp
  refine ⟨Ext.alloc _ _, hK _ _ ?_⟩
  clear hK K hde
  refine WalkE.nil (fun wn hwn hmn => ?_)
  simp only [List.drop_succ_cons, List.drop_zero, List.drop_nil]
  have hxn : Ext w6 wn := (Ext.drew _).trans hwn
  have b9 : Blk wn we.heap.size #[.int .i64 0, .int .i64 0, .slice none 0 0] 25 := (Blk.new we _ _).ext (hmn 7 (by omega))
  have hg9 : w6.heap.size ≤ we.heap.size := Nat.le_trans (Ext.drew _).size hwe.size
  clear hmn HKc D0 hwn hwe hwc bN b4 he
  generalize we.heap.size = G9 at b9 hg9 ⊢
  have sc0 := b9.cell 0 rfl; have sf0 := b9.fr 0; have sc1 := b9.cell 1 rfl; have sf1 := b9.fr 1; have sc2 := b9.cell 2 rfl; have sf2 := b9.fr 2
  obtain ⟨R, hR⟩ : ∃ R, rk L N = R := ⟨_, rfl⟩
  have HR := Lib.hid hR
  rw [hR] at hrk ⊢
  clear hR
  go_upto_region 7 with fail
  have b93 := ((b9.set 0 (.int .i64 al)).set 1 (.int .i64 (R : Nat))).set 2 (.slice none 0 0)
  have hxq : Ext w6 (((wn.setCell ⟨G9, 0, none⟩ (.int .i64 al)).setCell ⟨G9, 1, none⟩ (.int .i64 (R : Nat))).setCell ⟨G9, 2, none⟩ (.slice none 0 0)) := ((hxn.setCell (p := ⟨G9, 0, none⟩) (by simp only []; omega) _).setCell (p := ⟨G9, 1, none⟩) (by simp only []; omega) _).setCell (p := ⟨G9, 2, none⟩) (by simp only []; omega) _
  generalize ((wn.setCell ⟨G9, 0, none⟩ (.int .i64 al)).setCell ⟨G9, 1, none⟩ (.int .i64 (R : Nat))).setCell ⟨G9, 2, none⟩ (.slice none 0 0) = wq at b93 hxq ⊢
  clear b9 sc0 sc1 sc2 sf0 sf1 sf2 hxn wn
  have b9 : Blk wq G9 #[.int .i64 al, .int .i64 (R : Nat), .slice none 0 0] 25 := b93
  clear b93
  obtain ⟨nodes, hno⟩ : ∃ nodes, nodesR N L = nodes := ⟨_, rfl⟩
  have HLt := Lib.hid (show ∀ x ∈ L, x < N from fun x hx => by rw [← HN.out]; exact HST.out.lt HSA.out HSB.out x hx)
  have HPAIR := Lib.hid (show Pairs a b al nodes from by rw [← hno]; exact HST.out.pairs (nodesR_asc N L) (nodesR_mem HLt.out))
  have HNL := Lib.hid (show nodes.length = R from by rw [← hno, nodesR_len]; exact HR.out)
  have HNA := Lib.hid (show ∀ i, i < N → i ∈ L → nodes[rk L i]? = some i ∧ nodes.idxOf i = rk L i from fun i hi hm => by rw [← hno]; exact ⟨nodesR_at hi hm, nodesR_idx hi hm⟩)
  clear hno
  have b9_0 := b9.cell 0 rfl; have b9_1 := b9.cell 1 rfl; have b9_2 := b9.cell 2 rfl
  by_cases hbig : 16 < R
  · have hFULL := Lib.hid (show FullP a b al from ⟨nodes, asc_nodup HPAIR.out.asc, by rw [HNL.out]; exact hbig, fun x hx => (HPAIR.out.mem x).1 hx⟩)
    have b4 := H4.out.ext hxq
    have hxw := HW.out.trans hxq
    have hb16 : (16 : Int) < (R : Int) := by omega
    have rc0 := b4.cell 0 rfl; have rf0 := b4.fr 0; have rc1 := b4.cell 1 rfl; have rf1 := b4.fr 1; have rc2 := b4.cell 2 rfl; have rf2 := b4.fr 2
    clear hbig
    go_wp2_with fail
    refine bodyPost_ret (v := .tuple #[.agg #[.int .i64 0, .int .i64 0, .slice none 0 0], .bool false]) (by simp [results, Tryz.results8, go_sem, rc0, rc1, rc2, rf0, rf1, rf2]) rfl ?_
    exact ⟨_, false, rfl, (((hxw.setCell (p := ⟨(w.heap.size + 1 + 1), 0, none⟩) (by simp only []; omega) _).setCell (p := ⟨(w.heap.size + 1 + 1), 1, none⟩) (by simp only []; omega) _).setCell (p := ⟨(w.heap.size + 1 + 1), 2, none⟩) (by simp only []; omega) _), .inr ⟨rfl, rfl, .inr (.inr ⟨HSA.out, HSB.out, hFULL.out⟩)⟩⟩
  have hb16 : ¬ (16 : Int) < (R : Int) := by omega
  have hR16 : R ≤ 16 := by omega
  clear hbig
  have bN := HBN.out.ext hxq
  have bN_0 := bN.cell 0 rfl; have bN_1 := bN.cell 1 rfl; have bN_2 := bN.cell 2 rfl; have bN_3 := bN.cell 3 rfl; have bN_4 := bN.cell 4 rfl; have bN_5 := bN.cell 5 rfl
  go_wp2_with fail
  refine (l1Letters_o _ _ al0 al63).mono ?_
  rintro e wL ⟨vl, rfl, heL, hl⟩
  obtain ⟨aL, cL, rfl⟩ := hl.shape
  clear bN_0 bN_1 bN_2 bN_3 bN_4 bN_5 bN b9_0 b9_1 b9_2
  have hgq := b9.lt
  replace b9 := b9.ext heL
  have hxL := hxq.trans heL
  have hgL : G9 < wL.heap.size := b9.lt
  have hqL := heL.size
  have hl6 := hxL.size
  have HX := Lib.hid (show ∀ w', Tnd (fun q => q = G9 ∨ wL.heap.size ≤ q) wL w' → Ext w6 w' from fun w' h => Below.trans hxL (h.below hl6 fun q hq => by rcases hq with rfl | hq <;> omega))
  have HLAT := Lib.hid (show ∀ w', Tnd (fun q => q = G9 ∨ wL.heap.size ≤ q) wL w' → ∀ (m : Nat) (l : Int), (letters al)[m]? = some l → ∃ bq oq, aL = some ⟨bq, oq, none⟩ ∧ w'.cell? ⟨bq, oq + m, none⟩ = some (.int .i64 l) from fun w' h m l hm => by
    have h2 : IntsOwn 3 wq.heap.size w' (.slice aL (letters al).length cL) (letters al) := h.own hl.own fun q hq hs => by
      have h3 := own_lt hl.own hq
      rcases hs with hs | hs <;> omega
    obtain ⟨aq, cq, e9, -, hat⟩ := h2.ints.open
    cases e9
    obtain ⟨bq, oq, e8, -, hc⟩ := hat m l hm
    have := hc m l hm
    unfold IntAt at this
    rw [Nat.mul_one] at this
    exact ⟨bq, oq, e8, this⟩)
  clear hl heL hxq hxL hgq hqL
  have hL6 : (letters al).length ≤ 6 := lettersTo_len al 6
  go_wp2_with fail
  go_loopw [11, 63, 64, 65, 66] (fun j _ _ _ _ wr => ∃ (i : Nat) (ve : Value), j = .int .i64 i ∧ i ≤ N ∧ Tnd (fun q => q = G9 ∨ wL.heap.size ≤ q) wL wr ∧ Blk wr G9 #[.int .i64 al, .int .i64 (R : Nat), ve] 25 ∧ EdgesOwn 87 wL.heap.size wr ve (compTo a b al nodes (rk L i))) (fun j _ _ _ _ _ => N - (intOf j).toNat)
  case atStart => exact ⟨0, _, rfl, by omega, Tnd.refl _ _, b9, EdgesOwn.nil _ _ _⟩
  case round =>
    clear b9
    obtain ⟨i, ve, rfl, hi, hT, b9, hE⟩ := hrel
    by_cases hiN : i < N
    case neg =>
      obtain rfl : i = N := by omega
      obtain ⟨aE, cE, rfl⟩ := own_any' hE
      have b4 := H4.out.ext (HX.out _ hT)
      have hxw := HW.out.trans (HX.out _ hT)
      have HEE := Lib.hid hE
      have gc0 := b9.cell 0 rfl; have gc1 := b9.cell 1 rfl; have gc2 := b9.cell 2 rfl
      have rc0 := b4.cell 0 rfl; have rf0 := b4.fr 0; have rc1 := b4.cell 1 rfl; have rf1 := b4.fr 1; have rc2 := b4.cell 2 rfl; have rf2 := b4.fr 2
      clear hE
      go_wp2_with fail
      refine bodyPost_ret (v := .tuple #[.agg #[.int .i64 al, .int .i64 (R : Nat), .slice aE (compTo a b al nodes (rk L i)).length cE], .bool true]) (by simp [results, Tryz.results8, go_sem, rc0, rc1, rc2, rf0, rf1, rf2]) rfl ?_
      refine ⟨_, true, rfl, (((hxw.setCell (p := ⟨(w.heap.size + 1 + 1), 0, none⟩) (by simp only []; omega) _).setCell (p := ⟨(w.heap.size + 1 + 1), 1, none⟩) (by simp only []; omega) _).setCell (p := ⟨(w.heap.size + 1 + 1), 2, none⟩) (by simp only []; omega) _), .inl ⟨rfl, HSA.out, HSB.out, nodes, HPAIR.out, by rw [HNL.out]; exact hR16, _, by rw [HNL.out], ?_⟩⟩
      have hEE := HEE.out
      rw [HR.out] at hEE ⊢
      rw [HNL.out]
      exact own_base (own_store (own_store (own_store hEE b4 (by decide) 0 _) (b4.set 0 _) (by decide) 1 _) ((b4.set 0 _).set 1 _) (by decide) 2 _) (by omega)
    have hE0 : EdgesOwn 87 wL.heap.size wr ve (compMid a b al nodes (rk L i) 0) := by rw [compMid_zero]; exact hE
    have hiN' : (i : Int) < (N : Int) := by omega
    have HRS := Lib.hid (rk_succ L i)
    have hrkN : rk L i < R ∨ ¬ i ∈ L := by
      by_cases hm : i ∈ L
      · left
        have h1 := (List.getElem?_eq_some_iff.1 (HNA.out i hiN hm).1).1
        rw [HNL.out] at h1; exact h1
      · exact .inr hm
    obtain ⟨K9, hK9⟩ : ∃ K9, rk L i = K9 := ⟨_, rfl⟩
    have HK9 := Lib.hid hK9
    rw [hK9] at hE0 HRS hrkN
    clear hE hK9
    have HRK := Lib.hid hrkN
    clear hrkN
    go_wp2_with fail
    go_loopw [12, 63, 64, 65, 66] (fun j _ _ _ _ wr => ∃ (m : Nat) (ve : Value), j = .int .i64 m ∧ m ≤ (letters al).length ∧ Hid (¬ i ∈ L → m = 0) ∧ Tnd (fun q => q = G9 ∨ wL.heap.size ≤ q) wL wr ∧ Blk wr G9 #[.int .i64 al, .int .i64 (R : Nat), ve] 25 ∧ EdgesOwn 87 wL.heap.size wr ve (compMid a b al nodes K9 m)) (fun j _ _ _ _ _ => (letters al).length - (intOf j).toNat)
    case atStart => exact ⟨0, _, rfl, by omega, Lib.hid (fun _ => rfl), hT, b9, hE0⟩
    case round =>
      clear hT b9 hE0
      obtain ⟨m, ve, rfl, hm, HM0, hT, b9, hE⟩ := hrel
      by_cases hml : m < (letters al).length
      case neg =>
        obtain rfl : m = (letters al).length := by omega
        have hE2 : EdgesOwn 87 wL.heap.size wr ve (compTo a b al nodes (rk L (i + 1))) := by
          by_cases hmem : i ∈ L
          · rw [HRS.out, if_pos hmem, ← compMid_full]; exact hE
          · have h0 := HM0.out hmem
            rw [HRS.out, if_neg hmem, Nat.add_zero, ← compMid_zero, ← h0]; exact hE
        clear hE
        go_wp2_with fail
        exact ⟨⟨i + 1, ve, by go_num, by omega, hT, b9, hE2⟩, by simp [intOf]; omega⟩
      have hml' : (m : Int) < ((letters al).length : Int) := by omega
      have cr := HRC.out _ (HX.out _ hT) i hiN
      by_cases hmem : i ∈ L
      case neg =>
        have h0 := HM0.out hmem
        have hE2 : EdgesOwn 87 wL.heap.size wr ve (compTo a b al nodes (rk L (i + 1))) := by
          rw [HRS.out, if_neg hmem, Nat.add_zero, ← compMid_zero, ← h0]; exact hE
        rw [decide_eq_false hmem] at cr
        clear hE h0 hmem
        go_wp2_with fail
        exact ⟨⟨i + 1, ve, by go_num, by omega, hT, b9, hE2⟩, by simp [intOf]; omega⟩
      rw [decide_eq_true hmem] at cr
      have HMM := Lib.hid hmem
      have hKR : K9 < R := HRK.out.resolve_right (fun h => h hmem)
      obtain ⟨l, hl⟩ : ∃ l, (letters al)[m]? = some l := ⟨_, List.getElem?_eq_getElem hml⟩
      have HLM := Lib.hid hl
      obtain ⟨hl0, hl6'⟩ := letters_lt6 al63 l (List.mem_of_getElem? hl)
      obtain ⟨bq, oq, rfl, cl⟩ := HLAT.out wr hT m l hl
      obtain ⟨nx, hnx⟩ : ∃ nx, cpN a b i l = nx := ⟨_, rfl⟩
      have HNX := Lib.hid hnx
      have hnl : nx.length ≤ 256 := by rw [← hnx]; exact cpN_len _ _ _ _
      have HNE := Lib.hid (show netN (netC a b al) i l = nx from by rw [← hnx]; exact net_eq HSA.out HSB.out al i l)
      have HCE := Lib.hid (show compE a b nodes K9 l = nx.map fun y2 => ⟨(K9 : Int), l, (nodes.idxOf y2 : Nat)⟩ from by
        have h1 := (HNA.out i hiN hmem).1
        rw [HK9.out] at h1
        unfold compE
        rw [List.getD_eq_getElem?_getD, h1, Option.getD_some, hnx])
      have bN := HBN.out.ext (HX.out _ hT)
      have HXW := Lib.hid (HX.out _ hT)
      clear hl hnx hmem
      go_wp2_with fail
      clear cr
      have D0 := fun d os => cell_regrown (bN.cell 0 rfl) d os; have D1 := fun d os => cell_regrown (bN.cell 1 rfl) d os; have D2 := fun d os => cell_regrown (bN.cell 2 rfl) d os; have D3 := fun d os => cell_regrown (bN.cell 3 rfl) d os; have D4 := fun d os => cell_regrown (bN.cell 4 rfl) d os; have D5 := fun d os => cell_regrown (bN.cell 5 rfl) d os
      have D6 := fun d os => cell_regrown cl d os
      obtain ⟨Kc, HKc⟩ : ∃ Kc : FuncId → Array Value → World → Value → World → Prop, Hid (Kc = fun (f : FuncId) (_ : Array Value) (w0 : World) (v : Value) (w' : World) => Ext w0 w' ∧ (f = 44 → IntsV w' v (ints (decode (sizesOf (netC a b al)) i))) ∧ (f = 43 → w'.ownsRow w0.heap.size 3 1 v nx.length ((ints nx).map (Value.int .i64)))) := ⟨_, rfl⟩
      refine wp_region_ext (Kc := Kc) 11 (by kernel_rfl) (by kernel_rfl) ?_
      simp only [List.take_succ_cons, List.take_zero]
      repeat (refine WalkE.pure rfl (fun K hK => ?_); simp only [PureDo]; go_simp; refine hK _ ?_; clear hK K)
      refine WalkE.step (fun K hK wc hwc hdc => ?_)
      simp only [OpDo, OpSafe, OpOut]
      go_simp
      refine ⟨(l4Decode_c _ (sizesOf (netC a b al)) i wc (HSZ.out _ (HXW.out.trans ((Ext.drew _).trans hwc))) (sizes_bound HNO.out) (by rw [netC_sizes]; simp) (by omega)).mono ?_, ?_⟩
      · rintro e w' ⟨v, rfl, he9, hv⟩
        exact ⟨v, rfl, by rw [HKc.out]; exact ⟨he9, fun _ => hv.ints, fun h => absurd h (by decide)⟩⟩
      intro u1 w5' hk1
      rw [HKc.out] at hk1
      obtain ⟨hk1, hk2, -⟩ := hk1
      have hdv := hk2 rfl
      refine ⟨hk1, hK _ _ ?_⟩
      clear hK K hdc hk1 hk2
      repeat (refine WalkE.pure rfl (fun K hK => ?_); simp only [PureDo]; go_simp; refine hK _ ?_; clear hK K)
      refine WalkE.step (fun K hK wd hwd hdd => ?_)
      simp only [OpDo, OpSafe, OpOut]
      go_simp
      have j4 : Ext w5' wd := hdd ⟨4, .data⟩ (by simp) rfl
      refine ⟨(l4Nexts_c _ _ _ (netC a b al) [] 0 0 i l wd (HNW.out _ (HXW.out.trans ((Ext.drew _).trans hwd))) HNO.out (HSZ.out _ (HXW.out.trans ((Ext.drew _).trans hwd))) (hdv.mono j4) hl0 hl6').mono ?_, ?_⟩
      · rintro e w' ⟨v, rfl, he9, hv⟩
        exact ⟨v, rfl, by rw [HKc.out]; exact ⟨he9, (fun h => absurd h (by decide)), fun _ => by
          unfold IntsOwn at hv
          rw [HNE.out, ints_len] at hv
          exact hv⟩⟩
      intro u1 w6' hk1
      rw [HKc.out] at hk1
      obtain ⟨hk1, -, hk2⟩ := hk1
      have ho := own_base (hk2 rfl) (Nat.zero_le _)
      obtain ⟨aN, cN, rfl⟩ := own_any' ho
      refine ⟨hk1, hK _ _ ?_⟩
      clear hK K hdd hk1 hk2 hdv j4
      repeat (refine WalkE.pure rfl (fun K hK => ?_); simp only [PureDo]; go_simp; refine hK _ ?_; clear hK K)
      refine WalkE.nil (fun wn hwn hmn => ?_)
      simp only [List.drop_succ_cons, List.drop_zero, List.drop_nil]
      have hxn : Ext wr wn := (Ext.drew _).trans hwn
      have ho2 := own_ext ho (hmn 9 (by omega))
      have hT2 := hT.trans (Tnd.ext hxn)
      have b92 := b9.ext hxn
      have hE2 : EdgesOwn 87 wL.heap.size wn ve (compIn a b al nodes K9 m 0 l) := by rw [compIn_zero]; exact own_ext hE hxn
      clear hmn HKc D0 D1 D2 D3 D4 D5 D6 hwn hwd hwc ho hT b9 hE cl bN HXW hxn
      go_wp2_with fail
      go_loopw [14] (fun j wr => ∃ (q : Nat) (ve : Value), j = .int .i64 q ∧ q ≤ nx.length ∧ Tnd (fun q => q = G9 ∨ wL.heap.size ≤ q) wL wr ∧ Blk wr G9 #[.int .i64 al, .int .i64 (R : Nat), ve] 25 ∧ EdgesOwn 87 wL.heap.size wr ve (compIn a b al nodes K9 m q l) ∧ wr.ownsRow 0 3 1 (.slice aN nx.length cN) nx.length ((ints nx).map (Value.int .i64))) (fun j _ => nx.length - (intOf j).toNat)
      case atStart => exact ⟨0, ve, rfl, by omega, hT2, b92, hE2, ho2⟩
      case round =>
        clear hT2 b92 hE2 ho2
        obtain ⟨q, ve, rfl, hq, hT, b9, hE, ho⟩ := hrel
        by_cases hqn : q < nx.length
        case neg =>
          obtain rfl : q = nx.length := by omega
          have hE2 : EdgesOwn 87 wL.heap.size wr ve (compMid a b al nodes K9 (m + 1)) := by
            rw [← compIn_full HLM.out, HCE.out, List.length_map]; exact hE
          clear hE
          go_wp2_with fail
          exact ⟨⟨m + 1, ve, by go_num, by omega, Lib.hid (fun h => absurd HMM.out h), hT, b9, hE2⟩, by simp [intOf]; omega⟩
        obtain ⟨y, hy⟩ : ∃ y, nx[q]? = some y := ⟨_, List.getElem?_eq_getElem hqn⟩
        obtain ⟨gN, cN', e6, gn⟩ := own_at ho (j := q) (u := .int .i64 y) (by rw [List.getElem?_map, ints_at hy]; rfl)
        cases e6
        have him : i ∈ nodes := List.mem_of_getElem? (HNA.out i hiN HMM.out).1
        have hym : y ∈ nodes := HPAIR.out.next him (List.mem_of_getElem? HLM.out) (by rw [HNX.out]; exact List.mem_of_getElem? hy)
        have hyN : y < N := by rw [← HN.out]; exact HPAIR.out.lt HSA.out HSB.out y hym
        have hyL : y ∈ L := HST.out.all ((HPAIR.out.mem y).1 hym)
        obtain ⟨ix, hix⟩ : ∃ ix, rk L y = ix := ⟨_, rfl⟩
        have hidx : nodes.idxOf y = ix := by rw [← hix]; exact (HNA.out y hyN hyL).2
        have HSU := Lib.hid (compIn_succ (a := a) (b := b) (al := al) (nodes := nodes) (i := K9) (m := m) (q := q) (l := l) (e := ⟨(K9 : Int), l, (ix : Nat)⟩) (by rw [HCE.out, List.getElem?_map, hy, Option.map_some, hidx]))
        have HIX := Lib.hid hix
        have hEL := compIn_len a b al nodes K9 m q l
        have hqn' : (q : Int) < (nx.length : Int) := by omega
        obtain ⟨E, hEe⟩ : ∃ E, compIn a b al nodes K9 m q l = E := ⟨_, rfl⟩
        rw [hEe] at hE HSU hEL
        obtain ⟨aE, cE, rfl⟩ := own_any' hE
        obtain ⟨bq2, oq2, e7, cl⟩ := HLAT.out wr hT m l HLM.out
        cases e7
        have HRBW := Lib.hid (fun w' (h : Ext wr w') => HRB.out w' ((HX.out _ hT).trans h))
        have C1 := Lib.hid (fun w' (h : Ext wr w') => (show Calls Tryz.prog 41 #[.slice (some ⟨gR, 0, none⟩) N cR, .int .i64 i] w' (Same (.int .i64 (K9 : Nat)) w') from by have := l7Rank_c _ N L i w' (HRBW.out w' h) (by omega) (by omega); rwa [HK9.out] at this))
        have C2 := Lib.hid (fun w' (h : Ext wr w') => (show Calls Tryz.prog 41 #[.slice (some ⟨gR, 0, none⟩) N cR, .int .i64 y] w' (Same (.int .i64 (ix : Nat)) w') from by have := l7Rank_c _ N L y w' (HRBW.out w' h) (by omega) (by omega); rwa [HIX.out] at this))
        have HKY := Lib.hid (show i = y → K9 = ix from by rintro rfl; rw [← HK9.out, ← HIX.out])
        clear hy him hym hyL hix hidx hEe HRBW
        go_wp2_with fail
        have D0 := fun d os => cell_regrown (b9.cell 2 rfl) d os
        have D1 := fun d os => cell_regrown cl d os
        have D2 := fun d os => cell_regrown gn d os
        obtain ⟨Kc, HKc⟩ : ∃ Kc : FuncId → Array Value → World → Value → World → Prop, Hid (Kc = fun (_ : FuncId) (args : Array Value) (w0 : World) (v : Value) (w' : World) => Ext w0 w' ∧ (args = #[.slice (some ⟨gR, 0, none⟩) N cR, .int .i64 i] → v = .int .i64 (K9 : Nat)) ∧ (args = #[.slice (some ⟨gR, 0, none⟩) N cR, .int .i64 y] → v = .int .i64 (ix : Nat))) := ⟨_, rfl⟩
        refine wp_region_ext (Kc := Kc) 17 (by kernel_rfl) (by kernel_rfl) ?_
        simp only [List.take_succ_cons, List.take_zero]
        repeat (refine WalkE.pure rfl (fun K hK => ?_); simp only [PureDo]; go_simp; refine hK _ ?_; clear hK K)
        refine WalkE.step (fun K hK wc hwc hdc => ?_)
        simp only [OpDo, OpSafe, OpOut]
        go_simp
        refine ⟨(C1.out _ ((Ext.drew _).trans hwc)).mono ?_, ?_⟩
        · rintro e w' ⟨rfl, rfl⟩
          exact ⟨_, rfl, by rw [HKc.out]; exact ⟨Ext.refl _, fun _ => rfl, fun h => by
            simp only [Array.mk.injEq, List.cons.injEq, and_true, true_and] at h
            have h2 : i = y := by injection h with _ h; omega
            rw [HKY.out h2]⟩⟩
        intro u4 w4' hk4
        rw [HKc.out] at hk4
        obtain ⟨hk4, hv4, -⟩ := hk4
        obtain rfl := hv4 rfl
        refine ⟨hk4, hK _ _ ?_⟩
        clear hK K hdc hk4 hv4
        repeat (refine WalkE.pure rfl (fun K hK => ?_); simp only [PureDo]; go_simp; refine hK _ ?_; clear hK K)
        refine WalkE.step (fun K hK wd hwd hdd => ?_)
        simp only [OpDo, OpSafe, OpOut]
        go_simp
        refine ⟨(C2.out _ ((Ext.drew _).trans hwd)).mono ?_, ?_⟩
        · rintro e w' ⟨rfl, rfl⟩
          exact ⟨_, rfl, by rw [HKc.out]; exact ⟨Ext.refl _, fun h => by
            simp only [Array.mk.injEq, List.cons.injEq, and_true, true_and] at h
            have h2 : i = y := by injection h with _ h; omega
            rw [HKY.out h2], fun _ => rfl⟩⟩
        intro u6 w6' hk6
        rw [HKc.out] at hk6
        obtain ⟨hk6, -, hv6⟩ := hk6
        obtain rfl := hv6 rfl
        refine ⟨hk6, hK _ _ ?_⟩
        clear hK K hdd hk6 hv6
        repeat (refine WalkE.pure rfl (fun K hK => ?_); simp only [PureDo]; go_simp; refine hK _ ?_; clear hK K)
        refine WalkE.step (fun K hK we hwe hde => ?_)
        simp only [OpDo, OpSafe, OpOut]
        go_simp
        refine ⟨Ext.alloc _ _, hK _ _ ?_⟩
        clear hK K hde
        refine WalkE.nil (fun wn hwn hmn => ?_)
        simp only [List.drop_succ_cons, List.drop_zero, List.drop_nil]
        have hxn : Ext wr wn := (Ext.drew _).trans hwn
        have hbn : Blk wn we.heap.size #[.int .i64 (K9 : Int), .int .i64 l, .int .i64 (ix : Int)] 87 := (Blk.new we _ _).ext (hmn 16 (by omega))
        have hcell : ∀ (j : Nat) u, [Value.int .i64 (K9 : Int), .int .i64 l, .int .i64 (ix : Int)][j]? = some u → wn.cell? ((⟨we.heap.size, 0, none⟩ : Addr).add j) = some u := fun j u hu => by
          rw [add_none, Nat.zero_add]
          exact hbn.cell j (by simpa using hu)
        have hP : Pool wL.heap.size wn [⟨87, 3, .slice aE E.length cE, E.length, edgeCells E⟩] := ⟨fun t ht => by simp only [List.mem_singleton] at ht; subst ht; exact own_ext hE hxn, List.pairwise_singleton _ _⟩
        have b92 := b9.ext hxn
        have hT2 := hT.trans (Tnd.ext hxn)
        have ho2 := own_ext ho hxn
        have hsz := hT2.size
        clear hmn HKc D0 D1 D2 hwn hwe hwd hwc hbn hE b9 hT ho cl gn C1 C2
        generalize we.heap.size = gW at hcell ⊢
        go_wp2_with (at_builtin; refine appPN (news := [Value.int .i64 (K9 : Int), .int .i64 l, .int .i64 (ix : Int)]) rfl rfl Tryz.underlying23 infoEdge rfl (by decide) hP rfl rfl (by simp) hcell (by simp [Value.oneCell']) (by omega) (by decide) hsz ?_; intro v1 w7' hP1 hg1 hb1; obtain ⟨a1, c1, rfl⟩ := own_any' (Pool.hd hP1); have b74 := b92.grown (Pool.hd hP) hg1 (by decide); have g2 := b74.cell 2 rfl; have f2 := b74.fr 2)
        refine ⟨⟨q + 1, _, by go_num, by omega, (hT2.trans (Tnd.grown hg1 (S := fun q => q = G9 ∨ wL.heap.size ≤ q) (fun g hg => .inr (own_lt (Pool.hd hP) hg).1))).trans (tnd_put _ (.inl rfl) 2 _), b74.set 2 _, ?_, own_store (own_grown ho2 (Pool.hd hP) hg1 (by decide)) b74 (by decide) 2 _⟩, by simp [intOf]; omega⟩
        rw [HSU.out]
        unfold EdgesOwn
        rw [edgeCells_snoc, List.length_append]
        exact own_store (Pool.hd hP1) b74 (by decide) 2 _
end Go.Proofs.YtanekmfifmkbmaaGreatDoor
