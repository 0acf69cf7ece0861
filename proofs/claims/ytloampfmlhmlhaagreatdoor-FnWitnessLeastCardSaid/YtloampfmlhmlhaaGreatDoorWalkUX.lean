/- The program's UnsafeWitness: the function itself. -/
import Derived.Test.YtloampfmlhmlhaaGreatDoorWalkUW
import Derived.Deep.RegionLaw
namespace Go.Proofs.YtloampfmlhmlhaaGreatDoor
set_option linter.unusedSimpArgs false
set_option linter.unusedVariables false
open Go Go.RowKit
set_option maxHeartbeats 1600000
set_option maxRecDepth 100000

theorem UnsafeWitness_c (v : Value) (t : Task) (s : ByteArray) (w : World) (hV : TaskV w v t) (hs : s.size ≤ 1048576) (hT : Deb w) :
    Calls Tryz.prog 23 #[v, .string s] w (AnsEnd (UW t s) w) := by
  have HDb := Lib.hid hT
  obtain ⟨ve, vn, va, rfl, h1, h2, h3⟩ := hV
  obtain ⟨ae, ce, rfl, -, -⟩ := h1.open
  obtain ⟨an, cn, rfl, -, -⟩ := h2.open
  obtain ⟨aa, ca, rfl, -, -⟩ := h3.open
  have HV := Lib.hid (show ∀ w', Ext w w' → TaskV w' (.agg #[.int .i64 t.sys.alphabet, .int .i64 t.sys.states, .slice ae t.sys.edges.length ce, .int .i64 t.prop.alphabet, .slice an t.prop.next.length cn, .slice aa t.prop.accept.length ca, .int .i64 t.alphabet]) t from fun w' h => ⟨_, _, _, rfl, h1.mono h, h2.mono h, h3.mono h⟩)
  have HSY := Lib.hid (show ∀ w', Ext w w' → SysV w' (.agg #[.int .i64 t.sys.alphabet, .int .i64 t.sys.states, .slice ae t.sys.edges.length ce]) t.sys from fun w' h => ⟨_, rfl, h1.mono h⟩)
  have HAU := Lib.hid (show ∀ w', Ext w w' → AutoV w' (.agg #[.int .i64 t.prop.alphabet, .slice an t.prop.next.length cn, .slice aa t.prop.accept.length ca]) t.prop from fun w' h => ⟨_, _, rfl, h2.mono h, h3.mono h⟩)
  have HAC := Lib.hid (show ∀ w', Ext w w' → BoolsV w' (.slice aa t.prop.accept.length ca) t.prop.accept from fun w' h => h3.mono h)
  clear h1 h2 h3 hT
  obtain ⟨tb, htb⟩ : ∃ tb, taskValid t = tb := ⟨_, rfl⟩
  obtain ⟨wb, hwb⟩ : ∃ wb, wordIn s t.alphabet = wb := ⟨_, rfl⟩
  obtain ⟨sb, hsb⟩ : ∃ sb, safeWord t s = sb := ⟨_, rfl⟩
  have HTB := Lib.hid htb
  have HWB := Lib.hid hwb
  have HSB := Lib.hid hsb
  have HWW := Lib.hid (show ∀ w', Calls Tryz.prog 15 #[.string s, .int .i64 t.alphabet] w' (Same (.bool wb) w') from fun w' => by have := WordWithin_c s t.alphabet w' hs; rwa [hwb] at this)
  have HTV := Lib.hid (show ∀ w', Ext w w' → Calls Tryz.prog 28 #[.agg #[.int .i64 t.sys.alphabet, .int .i64 t.sys.states, .slice ae t.sys.edges.length ce, .int .i64 t.prop.alphabet, .slice an t.prop.next.length cn, .slice aa t.prop.accept.length ca, .int .i64 t.alphabet]] w' (Grows (.bool tb) w') from fun w' h => by have := TaskValid_c _ t w' (HV.out w' h); rwa [htb] at this)
  clear htb hwb hsb
  obtain ⟨wo, hwo⟩ : ∃ wo, wo = (w.alloc (.cells #[.int .i64 t.sys.alphabet, .int .i64 t.sys.states, .slice ae t.sys.edges.length ce, .int .i64 t.prop.alphabet, .slice an t.prop.next.length cn, .slice aa t.prop.accept.length ca, .int .i64 t.alphabet] 31)).alloc (.cells #[.string s] 9) := ⟨_, rfl⟩
  have he : Ext w wo := by rw [hwo]; exact (Ext.alloc _ _).trans (Ext.alloc _ _)
  have b2 : Blk wo w.heap.size #[.int .i64 t.sys.alphabet, .int .i64 t.sys.states, .slice ae t.sys.edges.length ce, .int .i64 t.prop.alphabet, .slice an t.prop.next.length cn, .slice aa t.prop.accept.length ca, .int .i64 t.alphabet] 31 := by rw [hwo]; exact Ext.blk (Ext.alloc _ _)
  have b3 : Blk wo (w.heap.size + 1) #[.string s] 9 := by rw [hwo]; exact Ext.blk1 (Ext.refl _)
  go_enter Tryz.func23, Tryz.ntmps23
  go_upto_region 1 with fail
  rw [← hwo]
  clear hwo
  go_cut [27] (fun v27 wc => v27 = .bool (!(tb && wb) || sb) ∧ Ext wo wc)
  case first =>
    have D0 := fun d os => cell_regrown (b2.cell 0 rfl) d os
    have D1 := fun d os => cell_regrown (b2.cell 1 rfl) d os
    have D2 := fun d os => cell_regrown (b2.cell 2 rfl) d os
    have D3 := fun d os => cell_regrown (b2.cell 3 rfl) d os
    have D4 := fun d os => cell_regrown (b2.cell 4 rfl) d os
    have D5 := fun d os => cell_regrown (b2.cell 5 rfl) d os
    have D6 := fun d os => cell_regrown (b2.cell 6 rfl) d os
    have E0 := fun d os => cell_regrown (b3.cell 0 rfl) d os
    cases tb with
    | false =>
      refine wp_region_quiet_below (by kernel_rfl) (by kernel_rfl) ?_
      repeat (go_big_quiet_step ((go_at_call 28; exact Grows.quiet (HTV.out _ (he.trans (below_regrown _ _ _))))))
      refine wpQuiet_nil ?_
      intro _ hw'
      obtain ⟨⟨dq, osq⟩, hw''⟩ := hw'
      subst hw''
      have hq2 : Ext wo (Go.Sort.grow (redrawn wo dq) osq) := below_regrown wo dq osq
      generalize Go.Sort.grow (redrawn wo dq) osq = wq at hq2 ⊢
      go_wp2_with fail
      go_meet
      case rel => exact ⟨rfl, hq2⟩
    | true =>
      cases wb with
      | false =>
        refine wp_region_quiet_below (by kernel_rfl) (by kernel_rfl) ?_
        repeat (go_big_quiet_step ((first | (go_at_call 28; exact Grows.quiet (HTV.out _ (he.trans (below_regrown _ _ _)))) | (go_at_call 15; exact Same.quiet (HWW.out _)))))
        refine wpQuiet_nil ?_
        intro _ hw'
        obtain ⟨⟨dq, osq⟩, hw''⟩ := hw'
        subst hw''
        have hq2 : Ext wo (Go.Sort.grow (redrawn wo dq) osq) := below_regrown wo dq osq
        generalize Go.Sort.grow (redrawn wo dq) osq = wq at hq2 ⊢
        go_wp2_with fail
        go_meet
        case rel => exact ⟨rfl, hq2⟩
      | true =>
        clear D0 D1 D2 D3 D4 D5 D6 E0
        have b2d := b2.ext (Ext.drew _)
        have b3d := b3.ext (Ext.drew _)
        have c0 := b2d.cell 0 rfl; have c1 := b2d.cell 1 rfl; have c2 := b2d.cell 2 rfl; have c3 := b2d.cell 3 rfl; have c4 := b2d.cell 4 rfl; have c5 := b2d.cell 5 rfl; have c6 := b2d.cell 6 rfl
        have d0 := b3d.cell 0 rfl
        have hed := he.trans (Ext.drew wo)
        have HFW : Hid (safeFrom t (closeM t startM) (chars s) = sb) := Lib.hid (by rw [← HSB.out]; unfold safeWord; rw [HTB.out, HWB.out]; rfl)
        go_region_law (go_simp; go_wp2_with (first
          | (go_at_call 28; refine (HTV.out _ hed).mono ?_; rintro e w6 ⟨rfl, he6⟩; have b26 := b2d.ext he6; have b36 := b3d.ext he6; have c60 := b26.cell 0 rfl; have c61 := b26.cell 1 rfl; have c62 := b26.cell 2 rfl; have c63 := b26.cell 3 rfl; have c64 := b26.cell 4 rfl; have c65 := b26.cell 5 rfl; have c66 := b26.cell 6 rfl; have d60 := b36.cell 0 rfl)
          | (go_at_call 15; refine (HWW.out _).mono ?_; rintro e w' ⟨rfl, rfl⟩)
          | (go_at_call 72; refine (newSafety_c _ t _ (HV.out _ (hed.trans he6)) HTB.out (HDb.out.ext (hed.trans he6))).mono ?_; rintro e w7 ⟨K, rows, rfl, hS, hO, he7, hm7, hB7⟩; have b37 := b36.ext he7; have d70 := b37.cell 0 rfl)
          | (go_at_call 73; refine (safe_c t K s w7 w7 HTB.out HWB.out hO (fun w' h => HDb.out.ext (Below.trans ((hed.trans he6).trans he7) (h.below ((hed.trans he6).trans he7).size fun b hb => by have := (hed.trans he6).size; rcases hb with rfl | hb <;> omega))) (Tnd.refl _ _) rows hS).mono ?_; rintro e w8 ⟨rfl, ht8⟩; rw [HFW.out])))
        all_goals
          have hx8 : Ext wo w8 := Below.trans (((Ext.drew wo).trans he6).trans he7) (ht8.below (((Ext.drew wo).trans he6).trans he7).size fun b hb => by have := ((Ext.drew wo).trans he6).size; rcases hb with rfl | hb <;> omega)
          clear c0 c1 c2 c3 c4 c5 c6 d0 c60 c61 c62 c63 c64 c65 c66 d60 d70 b26 b36 b37 b2d b3d hO hS
          go_wp2_with fail
          go_meet
          case rel => exact ⟨by simp, hx8⟩
  case rest =>
    obtain ⟨wA, rfl⟩ : ∃ wA, wA = wc := ⟨_, rfl⟩
    obtain ⟨rfl, he2⟩ := hcut
    replace he := he.trans he2
    replace b2 := b2.ext he2
    replace b3 := b3.ext he2
    clear he2 HTV HWW wo
    by_cases hB : (!(tb && wb) || sb) = true
    · rw [hB]
      have HN : Hid (UW t s none) := Lib.hid (uw_none (by
        rw [HTB.out, HWB.out, HSB.out]
        cases tb <;> cases wb <;> cases sb <;> simp at hB ⊢))
      go_wp2_with fail
      go_ret2
      exact ⟨none, HN.out, rfl, he⟩
    · have hB' : (!(tb && wb) || sb) = false := by simpa using hB
      rw [hB']
      obtain rfl : tb = true := by cases tb <;> simp at hB'; rfl
      obtain rfl : wb = true := by cases wb <;> simp at hB'; rfl
      clear hB hB' HSB
      obtain ⟨hsv, hpv, hal⟩ := taskValid_facts HTB.out
      have HS := Lib.hid hsv
      have HP := Lib.hid hpv
      have D0 := fun d os => cell_regrown (b2.cell 0 rfl) d os
      have D1 := fun d os => cell_regrown (b2.cell 1 rfl) d os
      have D2 := fun d os => cell_regrown (b2.cell 2 rfl) d os
      have D3 := fun d os => cell_regrown (b2.cell 3 rfl) d os
      have D4 := fun d os => cell_regrown (b2.cell 4 rfl) d os
      have D5 := fun d os => cell_regrown (b2.cell 5 rfl) d os
      have D6 := fun d os => cell_regrown (b2.cell 6 rfl) d os
      have HSYc := Lib.hid (show ∀ w', Ext wA w' → SysV w' (.agg #[.int .i64 t.sys.alphabet, .int .i64 t.sys.states, .slice ae t.sys.edges.length ce]) t.sys from fun w' h => HSY.out _ (he.trans h))
      have HAUc := Lib.hid (show ∀ w', Ext wA w' → AutoV w' (.agg #[.int .i64 t.prop.alphabet, .slice an t.prop.next.length cn, .slice aa t.prop.accept.length ca]) t.prop from fun w' h => HAU.out _ (he.trans h))
      clear hsv hpv
      go_upto_region 3 with fail
      go_cut [6, 7] (fun v6 v7 wd => ∃ b6 b7 vm aT cT, v6 = .pointer (some ⟨b6, 0, none⟩) ∧ v7 = .pointer (some ⟨b7, 0, none⟩) ∧ Ext wA wd ∧ wA.heap.size ≤ b6 ∧ wA.heap.size ≤ b7 ∧ Blk wd b6 #[vm] 115 ∧ Blk wd b7 #[.slice aT (table t.prop).length cT] 117 ∧ MovesV wd vm t.sys ∧ TabOwn wd (.slice aT (table t.prop).length cT) t.prop)
      case first =>
        obtain ⟨Kc, HKc⟩ : ∃ Kc : FuncId → Array Value → World → Value → World → Prop, Hid (Kc = fun (f : FuncId) (args : Array Value) (w0 : World) (v : Value) (w' : World) => Ext w0 w' ∧ (f = 74 → MovesV w' v t.sys) ∧ (f = 75 → TabOwn w' v t.prop)) := ⟨_, rfl⟩
        refine wp_region_ext2 (Kc := Kc) 8 (fun i => i == 6 || i == 7) (by kernel_rfl) (by kernel_rfl) ?_
        simp only [List.take_succ_cons, List.take_zero]
        repeat (refine WalkE2.pure rfl rfl (fun K hK => ?_); simp only [PureDo]; go_simp; refine hK _ ?_; clear hK K)
        refine WalkE2.step (fun wd hwd hdd K hK => ?_)
        simp only [OpDo, OpSafe, OpOut]
        go_simp
        refine ⟨(movesOf_c _ t.sys _ (HSYc.out _ ((Ext.drew _).trans hwd)) HS.out).mono ?_, ?_⟩
        · rintro e w' ⟨v, rfl, he, hv⟩
          exact ⟨v, rfl, by rw [HKc.out]; exact ⟨he, fun _ => hv, fun h => absurd h (by decide)⟩⟩
        intro u1 w5 hk1
        rw [HKc.out] at hk1
        have hm1 := hk1.2.1 rfl
        refine ⟨hk1.1, hK _ _ ?_⟩
        clear hK K hdd hk1
        repeat (refine WalkE2.pure rfl rfl (fun K hK => ?_); simp only [PureDo]; go_simp; refine hK _ ?_; clear hK K)
        refine WalkE2.step (fun we hwe hde K hK => ?_)
        simp only [OpDo, OpSafe, OpOut]
        go_simp
        refine ⟨(tableOf_o _ t.prop _ (HAUc.out _ ((Ext.drew _).trans hwe)) HP.out).mono ?_, ?_⟩
        · rintro e w' ⟨v, rfl, he, hv⟩
          exact ⟨v, rfl, by rw [HKc.out]; exact ⟨he, fun h => absurd h (by decide), fun _ => hv⟩⟩
        intro u2 w6 hk2
        rw [HKc.out] at hk2
        have ht2 := hk2.2.2 rfl
        refine ⟨hk2.1, hK _ _ ?_⟩
        clear hK K hde hk2
        refine WalkE2.step (fun wf hwf hdf K hK => ?_)
        simp only [OpDo, OpSafe, OpOut]
        go_simp
        refine ⟨Ext.alloc _ _, hK _ _ ?_⟩
        clear hK K hdf
        refine WalkE2.step (fun wg hwg hdg K hK => ?_)
        simp only [OpDo, OpSafe, OpOut]
        go_simp
        refine ⟨Ext.alloc _ _, hK _ _ ?_⟩
        clear hK K hdg
        refine WalkE2.nil (fun wn hwn hmn htot => ?_)
        simp only [List.drop_succ_cons, List.drop_zero, List.drop_nil]
        have q1 := hm1.mono (hmn 2 (by omega))
        have q2 := ht2.mono (hmn 5 (by omega))
        have g1 := (Blk.new wf _ _).ext (hmn 6 (by omega))
        have g2 := (Blk.new wg _ _).ext (hmn 7 (by omega))
        have hne : wf.heap.size ≠ wg.heap.size := by
          rcases htot 6 7 (by omega) (by omega) (by omega) rfl rfl with h | h
          · have := h.size
            simp only [upd2, WW] at this
            simp at this
            omega
          · have := h.size
            simp only [upd2, WW] at this
            simp at this
            omega
        obtain ⟨aT, cT, rfl, -, -⟩ := q2.tab.open
        have q1' := q1
        obtain ⟨bmv, csm, rfl, -⟩ := q1'
        have s1 : wA.heap.size ≤ wf.heap.size := Nat.le_trans (Ext.drew _).size hwf.size
        have s2 : wA.heap.size ≤ wg.heap.size := Nat.le_trans (Ext.drew _).size hwg.size
        have hxn : Ext wA wn := (Ext.drew _).trans hwn
        clear htot hmn hm1 ht2 hwd hwe hwf hwg hwn HKc D0 D1 D2 D3 D4 D5 D6
        generalize wf.heap.size = b6 at g1 hne s1 ⊢
        generalize wg.heap.size = b7 at g2 hne s2 ⊢
        have cg1 := g1.cell 0 rfl
        have cg2 := g2.cell 0 rfl
        have fg1 := g1.fr 0
        have fg2 := g2.fr 0
        go_wp2_with fail
        go_meet
        case rel =>
          refine ⟨b6, b7, _, aT, cT, rfl, rfl, (hxn.setCell (p := ⟨b6, 0, none⟩) (by simp only []; omega) _).setCell (p := ⟨b7, 0, none⟩) (by simp only []; omega) _, s1, s2, (g1.set 0 _).other (p := ⟨b7, 0, none⟩) hne _, (g2.other (p := ⟨b6, 0, none⟩) hne.symm _).set 0 _, ?_, ?_⟩
          · exact (q1.other g1 (by decide) 0 _).other (g2.other (p := ⟨b6, 0, none⟩) hne.symm _) (by decide) 0 _
          · exact (q2.store g1 (by decide) 0 _).store (g2.other (p := ⟨b6, 0, none⟩) hne.symm _) (by decide) 0 _
      case rest =>
        obtain ⟨wB, rfl⟩ : ∃ wB, wB = wc := ⟨_, rfl⟩
        obtain ⟨b6, b7, vm, aT, cT, rfl, rfl, hxd, s6, s7, hB6, hB7, hMV, hTO⟩ := hcut
        obtain ⟨K, hK⟩ := Int.eq_ofNat_of_zero_le (show 0 ≤ t.sys.states by have := valid_alpha HS.out; omega)
        have b2d := b2.ext hxd
        have hl2 := b2d.lt
        obtain ⟨M, hM⟩ : ∃ M, t.prop.next.length = M := ⟨_, rfl⟩
        have hB7' := hB7
        rw [table_len, hM] at hB7'
        have HKK := Lib.hid hK
        have HMM := Lib.hid hM
        have cK := b2d.cell 1 rfl
        rw [hK] at cK
        clear hK hM D0 D1 D2 D3 D4 D5 D6 HSYc HAUc
        have D0 := fun d os => cell_regrown cK d os
        have D1 := fun d os => cell_regrown (hB7'.cell 0 rfl) d os
        go_upto_region 4 with fail
        go_cut [8, 9] (fun v8 v9 we => ∃ b8 b9, v8 = .pointer (some ⟨b8, 0, none⟩) ∧ v9 = .pointer (some ⟨b9, 0, none⟩) ∧ Ext wB we ∧ Blk we b8 #[.int .i64 (K : Int)] 3 ∧ Blk we b9 #[.int .i64 (M : Int)] 3)
        case first =>
          have c7 := hB7'.cell 0 rfl
          have l7 := hB7'.lt
          go_region
          all_goals go_wp2_with fail
          all_goals go_meet
          case rel =>
            have hch : Ext wB (((wB.alloc (.cells #[.int .i64 (K : Int)] 3)).alloc (.cells #[.int .i64 (M : Int)] 3)).drew) := ((Ext.alloc _ _).trans (Ext.alloc _ _)).trans (Ext.drew _)
            exact ⟨_, _, rfl, rfl, hch, Ext.blk ((Ext.alloc _ _).trans (Ext.drew _)), Ext.blk1 (Ext.drew _)⟩
          case rel =>
            have hch : Ext wB (((wB.alloc (.cells #[.int .i64 (M : Int)] 3)).alloc (.cells #[.int .i64 (K : Int)] 3)).drew) := ((Ext.alloc _ _).trans (Ext.alloc _ _)).trans (Ext.drew _)
            exact ⟨_, _, rfl, rfl, hch, Ext.blk1 (Ext.drew _), Ext.blk ((Ext.alloc _ _).trans (Ext.drew _))⟩
        case rest =>
          obtain ⟨wC, rfl⟩ : ∃ wC, wC = wc := ⟨_, rfl⟩
          obtain ⟨b8, b9, rfl, rfl, hxe, hB8, hB9⟩ := hcut
          have hxac := he.trans (hxd.trans hxe)
          obtain ⟨-, -, hal⟩ := taskValid_facts HTB.out
          obtain ⟨al0, al63⟩ := alpha_facts hal
          obtain ⟨sa0, sa63, st1, st16⟩ := valid_alpha HS.out
          have HG : Hid (GrW wC b9 b8 w.heap.size (w.heap.size + 1) b6 b7 t s) := Lib.hid ⟨by rw [HMM.out]; exact hB9, by rw [HKK.out]; exact hB8, ⟨_, _, _, b2d.ext hxe, HAC.out _ hxac⟩, b3.ext (hxd.trans hxe), ⟨vm, hB6.ext hxe, hMV.mono hxe⟩, ⟨_, hB7.ext hxe, hTO.tab.mono hxe⟩⟩
          have HALL : Hid (bits .or .i64 t.sys.alphabet t.alphabet = ((t.sys.alphabet.toNat ||| t.alphabet.toNat : Nat) : Int)) := Lib.hid (by
            have h5 := i64_or_nat t.sys.alphabet.toNat t.alphabet.toNat (by omega) (by omega)
            rwa [Int.toNat_of_nonneg sa0, Int.toNat_of_nonneg al0] at h5)
          have hAL63 : ((t.sys.alphabet.toNat ||| t.alphabet.toNat : Nat) : Int) ≤ 63 := by
            have : t.sys.alphabet.toNat ||| t.alphabet.toNat < 2 ^ 6 := Nat.or_lt_two_pow (by omega) (by omega)
            omega
          have HLB : Hid (∀ l, l ∈ letters ((t.sys.alphabet.toNat ||| t.alphabet.toNat : Nat) : Int) ↔ (bit t.sys.alphabet l = true ∨ bit t.alphabet l = true)) := Lib.hid fun l => by
            rw [letters_iff l hAL63, bit_or, bit_toNat sa0, bit_toNat al0, Bool.or_eq_true]
          have hsz := witSize HTB.out HWB.out
          rw [HMM.out, HKK.out, Int.toNat_natCast] at hsz
          have hsl : s.size ≤ 50000 := by have := HWB.out; simp only [wordIn, Bool.and_eq_true, decide_eq_true_eq] at this; exact this.1.2
          have h2e := b2d.ext hxe
          have h3e := b3.ext (hxd.trans hxe)
          have e0 := h2e.cell 0 rfl
          have e6 := h2e.cell 6 rfl
          have e8 := hB8.cell 0 rfl
          have e9 := hB9.cell 0 rfl
          have e3 := h3e.cell 0 rfl
          have hAL := HALL.out
          obtain ⟨AL, hALe⟩ : ∃ AL : Int, AL = ((t.sys.alphabet.toNat ||| t.alphabet.toNat : Nat) : Int) := ⟨_, rfl⟩
          rw [← hALe] at hAL hAL63 HLB
          have hAL0 : 0 ≤ AL := by rw [hALe]; omega
          obtain ⟨NN, hNN⟩ : ∃ NN, Hid (NN = (s.size + 1) * K * M) := ⟨_, rfl⟩
          rw [← hNN.out] at hsz
          have hKM : (s.size + 1) * K ≤ 50001 * 16 := Nat.mul_le_mul (by omega) (by have := HKK.out; omega)
          clear hALe
          go_wp2_with fail
          refine (lettersOf_c AL _ hAL0 hAL63).mono ?_
          rintro e w5 ⟨vl, rfl, he5, hvl⟩
          clear e0 e6 e8 e9 e3 hAL
          have e8 := (hB8.ext he5).cell 0 rfl
          have e9 := (hB9.ext he5).cell 0 rfl
          have e3 := (h3e.ext he5).cell 0 rfl
          have hx5 := hxac.trans he5
          have hone := IntsOwn.one 3 w5 0
          have hea := Ext.alloc w5 (.cells #[.int .i64 0] 3)
          have HNX := Lib.hid (nextIs_wit (HG.out.ext (he5.trans hea)) HTB.out HWB.out (HDb.out.ext (hx5.trans hea)) (al := AL) hAL63)
          have HGI := Lib.hid (goalIs_wit (HG.out.ext (he5.trans hea)) HP.out (n := NN) (by omega))
          have hNN1 : 1 ≤ NN := by
            rw [hNN.out]
            have h1 : 1 ≤ (s.size + 1) * K := Nat.mul_pos (by omega) (by have := HKK.out; omega)
            have h2 : 1 ≤ M := by have := autoValid_facts HP.out; have := HMM.out; omega
            exact Nat.mul_pos h1 h2
          rw [HMM.out, HKK.out, Int.toNat_natCast, ← hNN.out] at HNX
          have hn1 : NN ≤ 1073741824 := by omega
          have hn2 : NN * 16 + 16 ≤ 4294967296 := by omega
          have hn3 : ∀ x ∈ [0], x < NN := by intro x hx; simp at hx; omega
          have hn4 : (chars s).length ≤ 1048576 := by rw [chars_len]; omega
          have w1 : wrap64 ((s.size : Int) + 1) = (s.size : Int) + 1 := IntWalk.wrap64_in _ (by omega)
          have w2 : wrap64 (((s.size : Int) + 1) * (K : Int)) = ((s.size : Int) + 1) * (K : Int) := by rw [show ((s.size : Int) + 1) * (K : Int) = (((s.size + 1) * K : Nat) : Int) by simp]; exact IntWalk.wrap64_in _ (by omega)
          have w3 : wrap64 (((s.size : Int) + 1) * (K : Int) * (M : Int)) = (NN : Int) := by rw [hNN.out, show ((s.size : Int) + 1) * (K : Int) * (M : Int) = (((s.size + 1) * K * M : Nat) : Int) by simp]; exact IntWalk.wrap64_in _ (by rw [← hNN.out]; omega)
          go_wp2_with fail
          refine (firstPath_c NN 16 _ _ _ _ [0] (letters AL) (witN t.sys t.prop t.alphabet (chars s)) (witG t.prop) _ (hone.low (Nat.zero_le _)) (by simp) hn3 (hvl.mono hea) (letters_asc _) (letters_lt6 hAL63) HNX.out HGI.out hn1 hn2).mono ?_
          rintro e w6 ⟨r, hr, rfl, he6⟩
          go_wp2_with fail
          go_ret2
          refine ⟨r, ?_, rfl, (hx5.trans hea).trans he6⟩
          unfold UW
          rw [HTB.out, HWB.out]
          refine hr.congr fun v => ?_
          exact wit_iff HS.out HP.out hal hn4 HLB.out v
theorem UnsafeWitness_cd (v : Value) (t : Task) (s : ByteArray) (w : World) (hV : TaskV w v t) (hs : s.size ≤ 1048576) (hT : Deb w) :
    Calls Tryz.prog 23 #[v, .string s] w (Grows (.tuple #[.string (rtext (uwOf t s)), .bool (uwOf t s).isSome]) w) :=
  (UnsafeWitness_c v t s w hV hs hT).mono (by rintro e w' ⟨r, hr, rfl, he⟩; rw [hr.of]; exact Grows.mk rfl he)
end Go.Proofs.YtloampfmlhmlhaaGreatDoor
