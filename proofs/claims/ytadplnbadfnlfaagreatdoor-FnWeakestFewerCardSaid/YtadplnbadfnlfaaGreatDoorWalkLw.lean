/- Part of this seat's proofs, cut to what its law needs. -/

import Derived.Test.YtadplnbadfnlfaaGreatDoorPlainLw
import Derived.Test.YtadplnbadfnlfaaGreatDoorProd
namespace Go.Proofs.YtadplnbadfnlfaaGreatDoor
set_option linter.unusedSimpArgs false
set_option linter.unusedVariables false
open Go Go.RowKit
set_option maxHeartbeats 2000000
set_option maxRecDepth 100000



theorem comparable2_c (va vb : Value) (a b : Auto) (w : World) (hva : AutoV w va a) (hvb : AutoV w vb b) :
    Calls Tryz.prog 114 #[va, vb] w (Grows (.bool (comp2 a b)) w) := by
  have HA := Lib.hid hva
  obtain ⟨vN1, vA1, rfl, k1, k2⟩ := hva
  obtain ⟨aN1, cN1, rfl, -, -⟩ := k1.open
  obtain ⟨aA1, cA1, rfl, -, -⟩ := k2.open
  have HB := Lib.hid hvb
  obtain ⟨vN2, vA2, rfl, k3, k4⟩ := hvb
  obtain ⟨aN2, cN2, rfl, -, -⟩ := k3.open
  obtain ⟨aA2, cA2, rfl, -, -⟩ := k4.open
  obtain ⟨wo, hwo⟩ : ∃ wo, wo = ((w.alloc (.cells #[.int .i64 a.alphabet, .slice aN1 a.next.length cN1, .slice aA1 a.accept.length cA1] 31)).alloc (.cells #[.int .i64 b.alphabet, .slice aN2 b.next.length cN2, .slice aA2 b.accept.length cA2] 31)) := ⟨_, rfl⟩
  have he : Ext w wo := by rw [hwo]; exact (Ext.alloc _ _).trans (Ext.alloc _ _)
  have b1 : Blk wo w.heap.size #[.int .i64 a.alphabet, .slice aN1 a.next.length cN1, .slice aA1 a.accept.length cA1] 31 := by rw [hwo]; exact Ext.blk (Ext.alloc _ _)
  have b2 : Blk wo (w.heap.size + 1) #[.int .i64 b.alphabet, .slice aN2 b.next.length cN2, .slice aA2 b.accept.length cA2] 31 := by rw [hwo]; exact Ext.blk1 (Ext.refl _)
  go_enter Tryz.func114, Tryz.ntmps114
  go_wp2_with fail
  rw [← hwo]
  clear hwo
  clear k1 k2 k3 k4
  have b1_0 := b1.cell 0 rfl; have b1_1 := b1.cell 1 rfl; have b1_2 := b1.cell 2 rfl
  go_wp2_with fail
  by_cases hA : autoValid a = true
  case neg =>
    have hA' : autoValid a = false := by simpa using hA
    refine (AutomatonValid_b hA' (HA.out.mono he)).mono ?_
    rintro e w1 ⟨rfl, he1⟩
    go_wp2_with fail
    go_ret
    exact Grows.mk (by simp [comp2, hA']) (he.trans he1)
  refine (AutomatonValid_b hA (HA.out.mono he)).mono ?_
  rintro e w1 ⟨rfl, he1⟩
  clear b1_0 b1_1 b1_2
  replace b1 := b1.ext he1
  replace b2 := b2.ext he1
  replace he := he.trans he1
  have b2_0 := b2.cell 0 rfl; have b2_1 := b2.cell 1 rfl; have b2_2 := b2.cell 2 rfl
  go_wp2_with fail
  by_cases hB : autoValid b = true
  case neg =>
    have hB' : autoValid b = false := by simpa using hB
    refine (AutomatonValid_b hB' (HB.out.mono he)).mono ?_
    rintro e w2 ⟨rfl, he2⟩
    go_wp2_with fail
    go_ret
    exact Grows.mk (by simp [comp2, hB']) (he.trans he2)
  refine (AutomatonValid_b hB (HB.out.mono he)).mono ?_
  rintro e w2 ⟨rfl, he2⟩
  clear b2_0 b2_1 b2_2
  replace b1 := b1.ext he2
  replace b2 := b2.ext he2
  replace he := he.trans he2
  have b1_0 := b1.cell 0 rfl; have b1_1 := b1.cell 1 rfl; have b1_2 := b1.cell 2 rfl
  have b2_0 := b2.cell 0 rfl; have b2_1 := b2.cell 1 rfl; have b2_2 := b2.cell 2 rfl
  have HX := Lib.hid (show comp2 a b = decide (a.alphabet = b.alphabet) by unfold comp2; rw [hA, hB]; rfl)
  clear hA hB
  go_wp2_with fail
  go_ret
  exact Grows.mk (by rw [HX.out]; first | rfl | simp) he

theorem outNext_c (b8 bm b9 : Nat) (p q : Auto) (node lt : Nat) (vo : Value) (out : List Int) (base : Nat) (w : World) (h : GroundP w b8 bm b9 p q) (hp : autoValid p = true) (hq : autoValid q = true) (hn : node < p.next.length * q.next.length) (hl : lt < 6)
    (ho : IntsOwn 3 base w vo out) (hout : out.length + 1 ≤ 4294967296) (hbase : base ≤ w.heap.size) :
    Calls Tryz.prog 270 #[.int .i64 node, .int .i64 lt, vo, .pointer (some ⟨b8, 0, none⟩), .pointer (some ⟨bm, 0, none⟩), .pointer (some ⟨b9, 0, none⟩)] w (Appends base vo (out ++ ints (outN p q node (lt : Nat))) w) := by
  obtain ⟨⟨vu, hu1, hu2⟩, hm, ⟨vr, hr1, hr2⟩⟩ := h
  obtain ⟨au, cu, rfl, -, hu3⟩ := hu2.open
  obtain ⟨ar, cr, rfl, -, hr3⟩ := hr2.open
  simp only [table_len] at hu1 hr1
  obtain ⟨n1, n2, n3⟩ := TabOk.valid hp
  obtain ⟨m1, m2, m3⟩ := TabOk.valid hq
  obtain ⟨M, hMd⟩ : ∃ M, Hid (M = q.next.length) := ⟨_, rfl⟩
  obtain ⟨K, hKd⟩ : ∃ K, Hid (K = p.next.length) := ⟨_, rfl⟩
  obtain ⟨d, hd⟩ : ∃ d, Hid (d = node / M) := ⟨_, rfl⟩
  obtain ⟨r, hr⟩ : ∃ r, Hid (r = node % M) := ⟨_, rfl⟩
  rw [← hMd.out] at hm m1 m2 m3 hr1 hn
  rw [← hKd.out] at n1 n2 n3 hu1 hn
  have hdK : d < K := by rw [hd.out]; exact Nat.div_lt_of_lt_mul (by rw [Nat.mul_comm]; exact hn)
  have hrM : r < M := by rw [hr.out]; exact Nat.mod_lt _ m1
  obtain ⟨su, hsu⟩ : ∃ su, Hid (su = step p d (lt : Nat)) := ⟨_, rfl⟩
  obtain ⟨sp, hsp⟩ : ∃ sp, Hid (sp = step q r (lt : Nat)) := ⟨_, rfl⟩
  have hsuK : su < 12 := by rw [hsu.out]; have := n3 d (lt : Nat) hdK; omega
  have hspM : sp < 12 := by rw [hsp.out]; have := m3 r (lt : Nat) hrM; omega
  obtain ⟨b1, o1, rfl, -, hc1⟩ := hu3 d _ (table_at p d (by rw [← hKd.out]; exact hdK))
  obtain ⟨b2, o2, rfl, -, hc2⟩ := hr3 r _ (table_at q r (by rw [← hMd.out]; exact hrM))
  have g1 := hc1 d _ (table_at p d (by rw [← hKd.out]; exact hdK)) lt hl
  have g2 := hc2 r _ (table_at q r (by rw [← hMd.out]; exact hrM)) lt hl
  simp only [tabRow] at g1 g2
  rw [← hsu.out] at g1
  rw [← hsp.out] at g2
  have hKM : K * M ≤ 12 * 12 := Nat.mul_le_mul n2 m2
  have e1 : Int.tdiv (node : Int) (M : Int) = (d : Int) := by rw [hd.out]; simp [Int.tdiv_eq_ediv_of_nonneg]
  have e3 : Int.tmod (node : Int) (M : Int) = (r : Int) := by rw [hr.out]; simp [Int.tmod_eq_emod_of_nonneg]
  have hsm : su * M ≤ 12 * 12 := Nat.mul_le_mul (by omega) m2
  obtain ⟨rest, hrest⟩ : ∃ rest, Hid (rest = su * M + sp) := ⟨_, rfl⟩
  have hrest2 : rest ≤ 156 := by rw [hrest.out]; omega
  have e5 : IntKind.i64.wrap ((su : Int) * (M : Int)) = (su : Int) * (M : Int) := by rw [show (su : Int) * (M : Int) = ((su * M : Nat) : Int) by simp, IntKind.wrap_i64]; omega
  have e6 : IntKind.i64.wrap ((su : Int) * (M : Int) + (sp : Int)) = (rest : Int) := by rw [hrest.out, show (su : Int) * (M : Int) = ((su * M : Nat) : Int) by simp, IntKind.wrap_i64]; omega
  have e7 : IntKind.i64.wrap (d : Int) = (d : Int) := by rw [IntKind.wrap_i64]; omega
  have m0 : ¬ M = 0 := by omega
  have i1 : (d : Int) < (K : Int) := by omega
  have i2 : (r : Int) < (M : Int) := by omega
  have i3 : (lt : Int) < 6 := by omega
  have HN : Hid (outN p q node (lt : Nat) = [rest]) := by
    show _ = _
    unfold outN
    rw [← hMd.out, ← hd.out, ← hr.out, ← hsu.out, ← hsp.out, ← hrest.out]
  rw [HN.out]
  clear hu3 hr3 hc1 hc2 hu2 hr2 n3 m3 hKM hn hsm
  have D1 := fun d os => cell_regrown (hu1.cell 0 rfl) d os
  have D2 := fun d os => cell_regrown (hm.cell 0 rfl) d os
  have D4 := fun d os => cell_regrown (hr1.cell 0 rfl) d os
  have D5 := fun d os => cell_regrown g1 d os
  have D6 := fun d os => cell_regrown g2 d os
  obtain ⟨ao, co, rfl⟩ := ho.shape
  go_enter Tryz.func270, Tryz.ntmps270
  go_wp2_with fail
  obtain ⟨Kc, HKc⟩ : ∃ Kc : FuncId → Array Value → World → Value → World → Prop, Hid (Kc = fun _ _ _ _ _ => True) := ⟨_, rfl⟩
  refine wp_region_ext (Kc := Kc) 21 (by kernel_rfl) (by kernel_rfl) ?_
  simp only [List.take_succ_cons, List.take_zero]
  repeat (refine WalkE.pure rfl (fun K hK => ?_); simp only [PureDo]; go_simp; refine hK _ ?_; clear hK K)
  refine WalkE.step (fun K hK wb hwb hdb => ?_)
  simp only [OpDo, OpSafe, OpOut]
  go_simp
  refine ⟨Ext.alloc _ _, hK _ _ ?_⟩
  clear hK K hdb
  have hone := (IntsOwn.one 3 wb (rest : Int)).ints
  refine WalkE.nil (fun wn hwn hmn => ?_)
  simp only [List.drop_succ_cons, List.drop_zero, List.drop_nil]
  have hx : Ext w wn := (Ext.drew _).trans hwn
  have hone2 := hone.mono (hmn 20 (by omega))
  have ho2 := ho.ext hx
  clear hmn HKc D1 D2 D4 D5 D6 hwb hone hwn
  go_wp2_with (at_builtin; refine appInts rfl rfl Tryz.underlying96 infoInt ho2 rfl rfl hone2 (by simp; omega) (by decide) (Nat.le_trans hbase hx.size) ?_; intro v1 w1 hown1 hgr1 hloc1)
  go_ret
  refine ⟨_, rfl, ?_, (Tnd.ext hx).trans (Tnd.grown hgr1 fun g hg => hg), fun g hg => ?_⟩
  · exact hown1
  · rcases hloc1 with h3 | h3
    · exact .inl (h3 ▸ hg)
    · have h4 := h3.symm.trans hg
      cases h4
      exact .inr hx.size

theorem outside_c (x y : Bool) (w : World) : Calls Tryz.prog 200 #[.bool x, .bool y] w (Grows (.bool (x && !y)) w) := by
  cases x with
  | true =>
    go_enter Tryz.func200, Tryz.ntmps200
    go_wp2_with fail
    go_ret
    exact Grows.mk rfl (Ext.refl _)
  | false =>
    go_enter Tryz.func200, Tryz.ntmps200
    go_wp2_with fail
    go_ret
    exact Grows.mk rfl (Ext.refl _)
theorem enter_outside (args : Array Value) (w : World) : (callFunc 200 args).run Tryz.prog w = .ok (.enter 200 args) w := rfl

structure GroundG (w : World) (bg ba bm bb : Nat) (a b : Auto) : Prop where
  g : Blk w bg #[.func (.func 200) #[] #[]] 223
  aa : ∃ al vn va, Blk w ba #[al, vn, va] 31 ∧ BoolsV w va a.accept
  m : Blk w bm #[.int .i64 (b.next.length : Nat)] 3
  bb : ∃ al vn va, Blk w bb #[al, vn, va] 31 ∧ BoolsV w va b.accept
theorem GroundG.ext {w w' : World} {bg ba bm bb : Nat} {a b : Auto} (h : GroundG w bg ba bm bb a b) (he : Ext w w') : GroundG w' bg ba bm bb a b :=
  let ⟨h1, ⟨al, vn, va, h2, h3⟩, h4, ⟨al', vn', va', h5, h6⟩⟩ := h; ⟨h1.ext he, ⟨al, vn, va, h2.ext he, h3.mono he⟩, h4.ext he, ⟨al', vn', va', h5.ext he, h6.mono he⟩⟩
theorem outGoal_c (bg ba bm bb : Nat) (a b : Auto) (node : Nat) (w : World) (h : GroundG w bg ba bm bb a b) (ha : autoValid a = true) (hb : autoValid b = true) (hn : node < a.next.length * b.next.length) :
    Calls Tryz.prog 271 #[.int .i64 node, .pointer (some ⟨bg, 0, none⟩), .pointer (some ⟨ba, 0, none⟩), .pointer (some ⟨bm, 0, none⟩), .pointer (some ⟨bb, 0, none⟩)] w (Grows (.bool (outG a b node)) w) := by
  obtain ⟨hg, ⟨al, vn, va, hA, hva⟩, hm, ⟨al', vn', va', hB, hvb⟩⟩ := h
  obtain ⟨au, cu, rfl, -, hu3⟩ := hva.open
  obtain ⟨ar, cr, rfl, -, hr3⟩ := hvb.open
  obtain ⟨n1, n2, -⟩ := TabOk.valid ha
  obtain ⟨m1, m2, -⟩ := TabOk.valid hb
  obtain ⟨M, hMd⟩ : ∃ M, Hid (M = b.next.length) := ⟨_, rfl⟩
  obtain ⟨K, hKd⟩ : ∃ K, Hid (K = a.next.length) := ⟨_, rfl⟩
  obtain ⟨qa, hqa⟩ : ∃ qa, Hid (qa = node / M) := ⟨_, rfl⟩
  obtain ⟨qp, hqp⟩ : ∃ qp, Hid (qp = node % M) := ⟨_, rfl⟩
  rw [← hMd.out] at hm m1 m2 hn
  rw [← hKd.out] at n1 n2 hn
  have hqaK : qa < K := by rw [hqa.out]; exact Nat.div_lt_of_lt_mul (by rw [Nat.mul_comm]; exact hn)
  have hqpM : qp < M := by rw [hqp.out]; exact Nat.mod_lt _ m1
  have ta := accepts_at ha (q := qa) (by rw [← hKd.out]; exact hqaK)
  have tp := accepts_at hb (q := qp) (by rw [← hMd.out]; exact hqpM)
  have la := (List.getElem?_eq_some_iff.1 ta).1
  have lp := (List.getElem?_eq_some_iff.1 tp).1
  obtain ⟨b1, o1, rfl, -, hc1⟩ := hu3 qa _ ta
  obtain ⟨b2, o2, rfl, -, hc2⟩ := hr3 qp _ tp
  have g1 : w.cell? ⟨b1, o1 + qa, none⟩ = some (.bool (accepts a qa)) := by have := hc1 qa _ ta; rw [Nat.mul_one] at this; exact this
  have g2 : w.cell? ⟨b2, o2 + qp, none⟩ = some (.bool (accepts b qp)) := by have := hc2 qp _ tp; rw [Nat.mul_one] at this; exact this
  have hKM : K * M ≤ 12 * 12 := Nat.mul_le_mul n2 m2
  have hn2 : node < 144 := by omega
  have e1 : Int.tdiv (node : Int) (M : Int) = (qa : Int) := by rw [hqa.out]; simp [Int.tdiv_eq_ediv_of_nonneg]
  have e3 : Int.tmod (node : Int) (M : Int) = (qp : Int) := by rw [hqp.out]; simp [Int.tmod_eq_emod_of_nonneg]
  have e7 : IntKind.i64.wrap (qa : Int) = (qa : Int) := by rw [IntKind.wrap_i64]; omega
  have m0 : ¬ M = 0 := by omega
  have i1 : (qa : Int) < (a.accept.length : Int) := by omega
  have i2 : (qp : Int) < (b.accept.length : Int) := by omega
  have hG : Hid (outG a b node = (accepts a qa && !accepts b qp)) := by
    show _ = _
    unfold outG
    rw [← hMd.out, ← hqa.out, ← hqp.out]
  rw [hG.out]
  generalize accepts a qa = x1 at g1 ⊢
  generalize accepts b qp = x2 at g2 ⊢
  have D1 := fun d os => cell_regrown (hg.cell 0 rfl) d os
  have D2 := fun d os => cell_regrown (hA.cell 2 rfl) d os
  have D3 := fun d os => cell_regrown (hm.cell 0 rfl) d os
  have D4 := fun d os => cell_regrown (hB.cell 2 rfl) d os
  have D5 := fun d os => cell_regrown g1 d os
  have D6 := fun d os => cell_regrown g2 d os
  have hent := enter_outside
  clear hu3 hr3 hc1 hc2 ta tp hva hvb hKM hn
  go_enter Tryz.func271, Tryz.ntmps271
  go_wp2_with fail
  obtain ⟨Kc, HKc⟩ : ∃ Kc : FuncId → Array Value → World → Value → World → Prop, Hid (Kc = fun _ _ _ _ _ => True) := ⟨_, rfl⟩
  refine wp_region_ext (Kc := Kc) 15 (by kernel_rfl) (by kernel_rfl) ?_
  simp only [List.take_succ_cons, List.take_zero]
  repeat (refine WalkE.pure rfl (fun K hK => ?_); simp only [PureDo]; go_simp; refine hK _ ?_; clear hK K)
  refine WalkE.nil (fun wn hwn hmn => ?_)
  simp only [List.drop_succ_cons, List.drop_zero, List.drop_nil]
  clear hmn HKc D1 D2 D3 D4 D5 D6
  go_wp2_with (refine (outside_c x1 x2 _).mono ?_; rintro e w3 ⟨rfl, he3⟩)
  go_ret
  exact Grows.mk rfl (((Ext.drew _).trans hwn).trans he3)
theorem enter_out1 (args : Array Value) (w : World) : (callFunc 270 args).run Tryz.prog w = .ok (.enter 270 args) w := rfl
theorem enter_out2 (args : Array Value) (w : World) : (callFunc 271 args).run Tryz.prog w = .ok (.enter 271 args) w := rfl
theorem next_out {w0 : World} {b8 bm b9 : Nat} {a b : Auto} (h : GroundP w0 b8 bm b9 a b) (ha : autoValid a = true) (hb : autoValid b = true) :
    NextIs w0 (a.next.length * b.next.length) 1 (letters a.alphabet) (.func (.func 270) #[] #[.pointer (some ⟨b8, 0, none⟩), .pointer (some ⟨bm, 0, none⟩), .pointer (some ⟨b9, 0, none⟩)]) (outN a b) := by
  obtain ⟨-, a1, -⟩ := autoValid_facts ha
  refine ⟨⟨_, _, rfl, enter_out1, fun w' k l vo out b' hx hk hl ho hb0 hb1 hout => ?_⟩, fun k l _ _ => by simp [outN], fun k l hk _ => outN_lt ha hb hk l⟩
  obtain ⟨hl0, hl6⟩ := letters_lt6 a1 l hl
  obtain ⟨lt, rfl⟩ := Int.eq_ofNat_of_zero_le hl0
  exact outNext_c b8 bm b9 a b k lt vo out b' w' (h.ext hx) ha hb hk (by omega) ho hout hb1
theorem goal_out {w0 : World} {bg ba bm bb : Nat} {a b : Auto} (h : GroundG w0 bg ba bm bb a b) (ha : autoValid a = true) (hb : autoValid b = true) :
    GoalIs w0 (a.next.length * b.next.length) (.func (.func 271) #[] #[.pointer (some ⟨bg, 0, none⟩), .pointer (some ⟨ba, 0, none⟩), .pointer (some ⟨bm, 0, none⟩), .pointer (some ⟨bb, 0, none⟩)]) (outG a b) :=
  ⟨_, _, rfl, enter_out2, fun w' k hx hk => outGoal_c bg ba bm bb a b k w' (h.ext hx) ha hb hk⟩

theorem firstOfBoth_c (va vb : Value) (a b : Auto) (w : World) (hva : AutoV w va a) (hvb : AutoV w vb b) (ha : autoValid a = true) (hb : autoValid b = true) :
    Calls Tryz.prog 199 #[va, vb, .int .i64 0, .int .i64 0, .func (.func 200) #[] #[]] w (FoundEnd (OutW a b) w) := by
  obtain ⟨vN1, vA1, rfl, k1, k2⟩ := hva
  obtain ⟨aN1, cN1, rfl, -, -⟩ := k1.open
  obtain ⟨aA1, cA1, rfl, -, -⟩ := k2.open
  obtain ⟨vN2, vA2, rfl, k3, k4⟩ := hvb
  obtain ⟨aN2, cN2, rfl, -, -⟩ := k3.open
  obtain ⟨aA2, cA2, rfl, -, -⟩ := k4.open
  have HTP := Lib.hid (show ∀ w', Ext w w' → AutoV w' (.agg #[.int .i64 a.alphabet, .slice aN1 a.next.length cN1, .slice aA1 a.accept.length cA1]) a from fun w' h => ⟨_, _, rfl, k1.mono h, k2.mono h⟩)
  have HTQ := Lib.hid (show ∀ w', Ext w w' → AutoV w' (.agg #[.int .i64 b.alphabet, .slice aN2 b.next.length cN2, .slice aA2 b.accept.length cA2]) b from fun w' h => ⟨_, _, rfl, k3.mono h, k4.mono h⟩)
  have HPA := Lib.hid (show ∀ w', Ext w w' → BoolsV w' (.slice aA1 a.accept.length cA1) a.accept from fun w' h => k2.mono h)
  have HQA := Lib.hid (show ∀ w', Ext w w' → BoolsV w' (.slice aA2 b.accept.length cA2) b.accept from fun w' h => k4.mono h)
  clear k1 k2 k3 k4
  obtain ⟨wo, hwo⟩ : ∃ wo, wo = ((w.alloc (.cells #[.int .i64 a.alphabet, .slice aN1 a.next.length cN1, .slice aA1 a.accept.length cA1] 31)).alloc (.cells #[.int .i64 b.alphabet, .slice aN2 b.next.length cN2, .slice aA2 b.accept.length cA2] 31)).alloc (.cells #[.func (.func 200) #[] #[]] 223) := ⟨_, rfl⟩
  have he : Ext w wo := by rw [hwo]; exact ((Ext.alloc _ _).trans (Ext.alloc _ _)).trans (Ext.alloc _ _)
  have h3 : Blk wo w.heap.size #[.int .i64 a.alphabet, .slice aN1 a.next.length cN1, .slice aA1 a.accept.length cA1] 31 := by rw [hwo]; exact Ext.blk ((Ext.alloc _ _).trans (Ext.alloc _ _))
  have h4 : Blk wo (w.heap.size + 1) #[.int .i64 b.alphabet, .slice aN2 b.next.length cN2, .slice aA2 b.accept.length cA2] 31 := by rw [hwo]; exact Ext.blk1 (Ext.alloc _ _)
  have hR : Blk wo (w.heap.size + 1 + 1) #[.func (.func 200) #[] #[]] 223 := by rw [hwo]; exact Ext.blk2 (Ext.refl _)
  go_enter Tryz.func199, Tryz.ntmps199
  go_upto_region 1 with fail
  rw [← hwo]
  clear hwo
  have D0 := fun d os => cell_regrown (h3.cell 0 rfl) d os
  have D1 := fun d os => cell_regrown (h3.cell 1 rfl) d os
  have D2 := fun d os => cell_regrown (h3.cell 2 rfl) d os
  have D4 := fun d os => cell_regrown (h4.cell 0 rfl) d os
  have D5 := fun d os => cell_regrown (h4.cell 1 rfl) d os
  have D6 := fun d os => cell_regrown (h4.cell 2 rfl) d os
  obtain ⟨Kc, HKc⟩ : ∃ Kc : FuncId → Array Value → World → Value → World → Prop, Hid (Kc = fun (_ : FuncId) (args : Array Value) (w0 : World) (v : Value) (w' : World) => Ext w0 w' ∧ ∀ u x, args = #[u] → AutoV w0 u x → TabOwn w' v x) := ⟨_, rfl⟩
  refine wp_region_ext2 (Kc := Kc) 6 (fun i => i == 4 || i == 5) (by kernel_rfl) (by kernel_rfl) ?_
  simp only [List.take_succ_cons, List.take_zero]
  repeat (refine WalkE2.pure rfl rfl (fun K hK => ?_); simp only [PureDo]; go_simp; refine hK _ ?_; clear hK K)
  refine WalkE2.step (fun wd hwd hdd K hK => ?_)
  simp only [OpDo, OpSafe, OpOut]
  go_simp
  refine ⟨(tableOf_o _ a _ (HTP.out _ (he.trans ((Ext.drew _).trans hwd))) ha).mono ?_, ?_⟩
  · rintro e w' ⟨v, rfl, he9, hv⟩
    exact ⟨v, rfl, by rw [HKc.out]; exact ⟨he9, fun u x hu hux => by simp only [Array.mk.injEq, List.cons.injEq, and_true] at hu; subst hu; rw [← (HTP.out _ (he.trans ((Ext.drew _).trans hwd))).inj hux]; exact hv⟩⟩
  intro u1 w5 hk1
  rw [HKc.out] at hk1
  have ht1 := hk1.2 _ a rfl (HTP.out _ (he.trans ((Ext.drew _).trans hwd)))
  refine ⟨hk1.1, hK _ _ ?_⟩
  clear hK K hdd hk1
  repeat (refine WalkE2.pure rfl rfl (fun K hK => ?_); simp only [PureDo]; go_simp; refine hK _ ?_; clear hK K)
  refine WalkE2.step (fun we hwe hde K hK => ?_)
  simp only [OpDo, OpSafe, OpOut]
  go_simp
  refine ⟨(tableOf_o _ b _ (HTQ.out _ (he.trans ((Ext.drew _).trans hwe))) hb).mono ?_, ?_⟩
  · rintro e w' ⟨v, rfl, he9, hv⟩
    exact ⟨v, rfl, by rw [HKc.out]; exact ⟨he9, fun u x hu hux => by simp only [Array.mk.injEq, List.cons.injEq, and_true] at hu; subst hu; rw [← (HTQ.out _ (he.trans ((Ext.drew _).trans hwe))).inj hux]; exact hv⟩⟩
  intro u2 w6 hk2
  rw [HKc.out] at hk2
  have ht2 := hk2.2 _ b rfl (HTQ.out _ (he.trans ((Ext.drew _).trans hwe)))
  refine ⟨hk2.1, hK _ _ ?_⟩
  clear hK K hde hk2
  refine WalkE2.step (fun wf hwf hdf K hK => ?_)
  simp only [OpDo, OpSafe, OpOut]
  go_simp
  refine ⟨Ext.alloc _ _, hK _ _ ?_⟩
  clear hK K hdf
  refine WalkE2.step (fun wg hwg hdg K hK => ?_)
  simp only [OpDo, OpSafe, OpOut]
  go_simp
  refine ⟨Ext.alloc _ _, hK _ _ ?_⟩
  clear hK K hdg
  refine WalkE2.nil (fun wn hwn hmn htot => ?_)
  simp only [List.drop_succ_cons, List.drop_zero, List.drop_nil]
  have q1 := ht1.mono (hmn 1 (by omega))
  have q2 := ht2.mono (hmn 3 (by omega))
  have g1 := (Blk.new wf _ _).ext (hmn 4 (by omega))
  have g2 := (Blk.new wg _ _).ext (hmn 5 (by omega))
  have hne : wf.heap.size ≠ wg.heap.size := by
    rcases htot 4 5 (by omega) (by omega) (by omega) rfl rfl with h | h
    · have := h.size
      simp only [upd2, WW] at this
      simp at this
      omega
    · have := h.size
      simp only [upd2, WW] at this
      simp at this
      omega
  obtain ⟨aT1, cT1, rfl, -, -⟩ := q1.tab.open
  obtain ⟨aT2, cT2, rfl, -, -⟩ := q2.tab.open
  have s1 : wo.heap.size ≤ wf.heap.size := Nat.le_trans (Ext.drew _).size hwf.size
  have s2 : wo.heap.size ≤ wg.heap.size := Nat.le_trans (Ext.drew _).size hwg.size
  have hxn : Ext wo wn := (Ext.drew _).trans hwn
  clear htot hmn ht1 ht2 hwd hwe hwf hwg hwn HKc D0 D1 D2 D4 D5 D6
  generalize wf.heap.size = b10 at g1 hne s1 ⊢
  generalize wg.heap.size = b11 at g2 hne s2 ⊢
  have cg1 := g1.cell 0 rfl
  have cg2 := g2.cell 0 rfl
  have fg1 := g1.fr 0
  have fg2 := g2.fr 0
  go_upto_region 2 with fail
  obtain ⟨w7, hw7⟩ : ∃ w7, w7 = (wn.setCell ⟨b10, 0, none⟩ (.slice aT1 (table a).length cT1)).setCell ⟨b11, 0, none⟩ (.slice aT2 (table b).length cT2) := ⟨_, rfl⟩
  have y7 : Ext wo w7 := by rw [hw7]; exact (hxn.setCell (p := ⟨b10, 0, none⟩) (by simp only []; omega) _).setCell (p := ⟨b11, 0, none⟩) (by simp only []; omega) _
  have r1 : Blk w7 b10 #[.slice aT1 (table a).length cT1] 146 := by rw [hw7]; exact (g1.set 0 _).other (p := ⟨b11, 0, none⟩) hne _
  have r2 : Blk w7 b11 #[.slice aT2 (table b).length cT2] 146 := by rw [hw7]; exact (g2.other (p := ⟨b10, 0, none⟩) hne.symm _).set 0 _
  have x1 : TabOwn w7 (.slice aT1 (table a).length cT1) a := by rw [hw7]; exact (q1.store g1 (by decide) 0 _).store (g2.other (p := ⟨b10, 0, none⟩) hne.symm _) (by decide) 0 _
  have x2 : TabOwn w7 (.slice aT2 (table b).length cT2) b := by rw [hw7]; exact (q2.store g1 (by decide) 0 _).store (g2.other (p := ⟨b10, 0, none⟩) hne.symm _) (by decide) 0 _
  rw [← hw7]
  clear hw7 q1 q2 g1 g2 cg1 cg2 fg1 fg2 hxn s1 s2 hne
  clear wn
  replace he := he.trans y7
  replace h3 := h3.ext y7
  replace h4 := h4.ext y7
  replace hR := hR.ext y7
  clear y7
  have c11 := r2.cell 0 rfl
  rw [table_len] at *
  go_upto_region 3 with fail
  obtain ⟨w8, hw8⟩ : ∃ w8, w8 = w7.alloc (.cells #[.int .i64 (b.next.length : Nat)] 3) := ⟨_, rfl⟩
  have y8 : Ext w7 w8 := by rw [hw8]; exact Ext.alloc _ _
  have hM : Blk w8 w7.heap.size #[.int .i64 (b.next.length : Nat)] 3 := by rw [hw8]; exact Blk.new _ _ _
  rw [← hw8]
  clear hw8
  generalize w7.heap.size = b12 at hM ⊢
  replace he := he.trans y8
  replace h3 := h3.ext y8
  replace h4 := h4.ext y8
  replace hR := hR.ext y8
  replace r1 := r1.ext y8
  have HG := Lib.hid (show GroundP w8 b10 b12 b11 a b from ⟨⟨_, r1, x1.tab.mono y8⟩, hM, ⟨_, r2.ext y8, x2.tab.mono y8⟩⟩)
  have HG2 := Lib.hid (show GroundG w8 (w.heap.size + 1 + 1) w.heap.size b12 (w.heap.size + 1) a b from ⟨hR, ⟨_, _, _, h3, HPA.out _ he⟩, hM, ⟨_, _, _, h4, HQA.out _ he⟩⟩)
  clear r2 x1 x2 c11
  go_upto_region 4 with fail
  have D0 := fun d os => cell_regrown (r1.cell 0 rfl) d os
  have D1 := fun d os => cell_regrown (hM.cell 0 rfl) d os
  have D2 := fun d os => cell_regrown (h3.cell 0 rfl) d os
  obtain ⟨n1, n2, -⟩ := TabOk.valid ha
  obtain ⟨m1, m2, -⟩ := TabOk.valid hb
  have hKM : a.next.length * b.next.length ≤ 12 * 12 := Nat.mul_le_mul n2 m2
  have hKM0 : 0 < a.next.length * b.next.length := Nat.mul_pos n1 m1
  obtain ⟨a0, a63, -⟩ := autoValid_facts ha
  have HOW := Lib.hid (out_wins ha hb)
  have HNX := Lib.hid (fun (w' : World) (hx : Ext w8 w') => next_out (HG.out.ext hx) ha hb)
  have HGI := Lib.hid (fun (w' : World) (hx : Ext w8 w') => goal_out (HG2.out.ext hx) ha hb)
  obtain ⟨NN, hNN⟩ : ∃ NN, Hid (NN = a.next.length * b.next.length) := ⟨_, rfl⟩
  have e2 : IntKind.i64.wrap ((a.next.length : Int) * (b.next.length : Int)) = (NN : Int) := by rw [hNN.out, show (a.next.length : Int) * (b.next.length : Int) = ((a.next.length * b.next.length : Nat) : Int) by simp, IntKind.wrap_i64]; omega
  rw [← hNN.out] at HNX HGI hKM hKM0
  clear HG HG2 r1
  obtain ⟨Kc, HKc⟩ : ∃ Kc : FuncId → Array Value → World → Value → World → Prop, Hid (Kc = fun (f : FuncId) (_ : Array Value) (w0 : World) (v : Value) (w' : World) => Ext w0 w' ∧ (f = 61 → IntsV w' v (letters a.alphabet)) ∧ (f = 155 → ∃ r, FirstIs (OutW a b) r ∧ v = .tuple #[.string (rtext r), .bool r.isSome])) := ⟨_, rfl⟩
  refine wp_region_ext (Kc := Kc) 18 (by kernel_rfl) (by kernel_rfl) ?_
  simp only [List.take_succ_cons, List.take_zero]
  repeat (refine WalkE.pure rfl (fun K hK => ?_); simp only [PureDo]; go_simp; refine hK _ ?_; clear hK K)
  refine WalkE.step (fun K hK we hwe hde => ?_)
  simp only [OpDo, OpSafe, OpOut]
  go_simp
  have hS := IntsOwn.one 3 we 0
  refine ⟨Ext.alloc _ _, hK _ _ ?_⟩
  clear hK K hde
  repeat (refine WalkE.pure rfl (fun K hK => ?_); simp only [PureDo]; go_simp; refine hK _ ?_; clear hK K)
  refine WalkE.step (fun K hK wf hwf hdf => ?_)
  simp only [OpDo, OpSafe, OpOut]
  go_simp
  refine ⟨(lettersOf_c _ _ a0 a63).mono ?_, ?_⟩
  · rintro e w' ⟨v, rfl, he, hv⟩
    exact ⟨v, rfl, by rw [HKc.out]; exact ⟨he, fun _ => hv, fun h => absurd h (by decide)⟩⟩
  intro u2 w6 hk2
  rw [HKc.out] at hk2
  obtain ⟨hk2, hk2', -⟩ := hk2
  have hL := hk2' rfl
  refine ⟨hk2, hK _ _ ?_⟩
  clear hK K hdf hk2 hk2'
  repeat (refine WalkE.pure rfl (fun K hK => ?_); simp only [PureDo]; go_simp; refine hK _ ?_; clear hK K)
  refine WalkE.step (fun K hK wg hwg hdg => ?_)
  simp only [OpDo, OpSafe, OpOut]
  go_simp
  have j6 : Ext (we.alloc (.cells #[.int .i64 0] 3)) wg := hdg ⟨9, .data⟩ (by simp) rfl
  have j13 : Ext w6 wg := hdg ⟨12, .data⟩ (by simp) rfl
  have hxg : Ext w8 wg := (Ext.drew _).trans hwg
  have hNX := HNX.out _ hxg
  have hGI := HGI.out _ hxg
  have hSg := (hS.low (Nat.zero_le _)).ext j6
  have hLg := hL.mono j13
  refine ⟨(firstPath_c NN 1 _ _ _ _ [0] (letters a.alphabet) (outN a b) (outG a b) wg hSg (by simp) (by intro s hs; simp at hs; omega) hLg (letters_asc _) (letters_lt6 a63) hNX hGI (by omega) (by omega)).mono ?_, ?_⟩
  · rintro e w' ⟨r, hr, rfl, he⟩
    exact ⟨_, rfl, by rw [HKc.out]; exact ⟨he, fun h => absurd h (by decide), fun _ => ⟨r, hr.congr HOW.out, rfl⟩⟩⟩
  intro u3 w9 hk3
  rw [HKc.out] at hk3
  obtain ⟨hk3, -, hk3'⟩ := hk3
  obtain ⟨r, hr, rfl⟩ := hk3' rfl
  refine ⟨hk3, hK _ _ ?_⟩
  clear hK K hdg hk3 hk3'
  repeat (refine WalkE.pure rfl (fun K hK => ?_); simp only [PureDo]; go_simp; refine hK _ ?_; clear hK K)
  refine WalkE.nil (fun wn hwn hmn => ?_)
  simp only [List.drop_succ_cons, List.drop_zero, List.drop_nil]
  go_wp2_with fail
  go_ret2
  exact ⟨r, hr, rfl, he.trans ((Ext.drew _).trans hwn)⟩

theorem FirstOutside_c (va vb : Value) (a b : Auto) (w : World) (hva : AutoV w va a) (hvb : AutoV w vb b) :
    Calls Tryz.prog 113 #[va, vb] w (AnsEnd (OutR a b) w) := by
  have HA := Lib.hid hva
  obtain ⟨vN1, vA1, rfl, k1, k2⟩ := hva
  obtain ⟨aN1, cN1, rfl, -, -⟩ := k1.open
  obtain ⟨aA1, cA1, rfl, -, -⟩ := k2.open
  have HB := Lib.hid hvb
  obtain ⟨vN2, vA2, rfl, k3, k4⟩ := hvb
  obtain ⟨aN2, cN2, rfl, -, -⟩ := k3.open
  obtain ⟨aA2, cA2, rfl, -, -⟩ := k4.open
  obtain ⟨wo, hwo⟩ : ∃ wo, wo = ((w.alloc (.cells #[.int .i64 a.alphabet, .slice aN1 a.next.length cN1, .slice aA1 a.accept.length cA1] 31)).alloc (.cells #[.int .i64 b.alphabet, .slice aN2 b.next.length cN2, .slice aA2 b.accept.length cA2] 31)) := ⟨_, rfl⟩
  have he : Ext w wo := by rw [hwo]; exact (Ext.alloc _ _).trans (Ext.alloc _ _)
  have b1 : Blk wo w.heap.size #[.int .i64 a.alphabet, .slice aN1 a.next.length cN1, .slice aA1 a.accept.length cA1] 31 := by rw [hwo]; exact Ext.blk (Ext.alloc _ _)
  have b2 : Blk wo (w.heap.size + 1) #[.int .i64 b.alphabet, .slice aN2 b.next.length cN2, .slice aA2 b.accept.length cA2] 31 := by rw [hwo]; exact Ext.blk1 (Ext.refl _)
  go_enter Tryz.func113, Tryz.ntmps113
  go_wp2_with fail
  rw [← hwo]
  clear hwo
  clear k1 k2 k3 k4
  have b1_0 := b1.cell 0 rfl; have b1_1 := b1.cell 1 rfl; have b1_2 := b1.cell 2 rfl
  have b2_0 := b2.cell 0 rfl; have b2_1 := b2.cell 1 rfl; have b2_2 := b2.cell 2 rfl
  go_wp2_with fail
  refine (comparable2_c _ _ a b _ (HA.out.mono he) (HB.out.mono he)).mono ?_
  rintro e w0 ⟨rfl, he0⟩
  by_cases hall : comp2 a b = true
  case neg =>
    have hall' : comp2 a b = false := by simpa using hall
    rw [hall']
    go_wp2_with fail
    go_ret2
    exact ⟨none, by unfold OutR; rw [hall']; simp, rfl, he.trans he0⟩
  rw [hall]
  have HALL := Lib.hid hall
  clear hall b1_0 b1_1 b1_2 b2_0 b2_1 b2_2
  have hx := he.trans he0
  have B1 := b1.ext he0
  have B2 := b2.ext he0
  have B1_0 := B1.cell 0 rfl; have B1_1 := B1.cell 1 rfl; have B1_2 := B1.cell 2 rfl
  have B2_0 := B2.cell 0 rfl; have B2_1 := B2.cell 1 rfl; have B2_2 := B2.cell 2 rfl
  have hall := HALL.out
  unfold comp2 at hall
  simp only [Bool.and_eq_true, decide_eq_true_eq] at hall
  obtain ⟨⟨hva, hvb⟩, -⟩ := hall
  have HVA := Lib.hid hva
  have HVB := Lib.hid hvb
  clear hva hvb
  go_wp2_with fail
  refine (firstOfBoth_c _ _ a b _ (HA.out.mono hx) (HB.out.mono hx) HVA.out HVB.out).mono ?_
  rintro e w5 ⟨r, hr, rfl, he5⟩
  go_wp2_with fail
  go_ret2
  exact ⟨r, by unfold OutR; rw [HALL.out]; exact hr, rfl, hx.trans he5⟩

theorem LanguageWithin_c (va vb : Value) (a b : Auto) (w : World) (hva : AutoV w va a) (hvb : AutoV w vb b) :
    Calls Tryz.prog 40 #[va, vb] w (Grows (.bool (withinB a b)) w) := by
  have HA := Lib.hid hva
  obtain ⟨vN1, vA1, rfl, k1, k2⟩ := hva
  obtain ⟨aN1, cN1, rfl, -, -⟩ := k1.open
  obtain ⟨aA1, cA1, rfl, -, -⟩ := k2.open
  have HB := Lib.hid hvb
  obtain ⟨vN2, vA2, rfl, k3, k4⟩ := hvb
  obtain ⟨aN2, cN2, rfl, -, -⟩ := k3.open
  obtain ⟨aA2, cA2, rfl, -, -⟩ := k4.open
  obtain ⟨wo, hwo⟩ : ∃ wo, wo = ((w.alloc (.cells #[.int .i64 a.alphabet, .slice aN1 a.next.length cN1, .slice aA1 a.accept.length cA1] 31)).alloc (.cells #[.int .i64 b.alphabet, .slice aN2 b.next.length cN2, .slice aA2 b.accept.length cA2] 31)) := ⟨_, rfl⟩
  have he : Ext w wo := by rw [hwo]; exact (Ext.alloc _ _).trans (Ext.alloc _ _)
  have b1 : Blk wo w.heap.size #[.int .i64 a.alphabet, .slice aN1 a.next.length cN1, .slice aA1 a.accept.length cA1] 31 := by rw [hwo]; exact Ext.blk (Ext.alloc _ _)
  have b2 : Blk wo (w.heap.size + 1) #[.int .i64 b.alphabet, .slice aN2 b.next.length cN2, .slice aA2 b.accept.length cA2] 31 := by rw [hwo]; exact Ext.blk1 (Ext.refl _)
  go_enter Tryz.func40, Tryz.ntmps40
  go_wp2_with fail
  rw [← hwo]
  clear hwo
  clear k1 k2 k3 k4
  have b1_0 := b1.cell 0 rfl; have b1_1 := b1.cell 1 rfl; have b1_2 := b1.cell 2 rfl
  have b2_0 := b2.cell 0 rfl; have b2_1 := b2.cell 1 rfl; have b2_2 := b2.cell 2 rfl
  go_wp2_with fail
  refine (FirstOutside_c _ _ a b _ (HA.out.mono he) (HB.out.mono he)).mono ?_
  rintro e w1 ⟨r, hr, rfl, he1⟩
  have HR := Lib.hid (OutR.within hr)
  clear hr
  clear b1_0 b1_1 b1_2 b2_0 b2_1 b2_2
  replace b1 := b1.ext he1
  replace b2 := b2.ext he1
  replace he := he.trans he1
  have b1_0 := b1.cell 0 rfl; have b1_1 := b1.cell 1 rfl; have b1_2 := b1.cell 2 rfl
  have b2_0 := b2.cell 0 rfl; have b2_1 := b2.cell 1 rfl; have b2_2 := b2.cell 2 rfl
  go_wp2_with fail
  refine (comparable2_c _ _ a b _ (HA.out.mono he) (HB.out.mono he)).mono ?_
  rintro e w2 ⟨rfl, he2⟩
  cases hc : comp2 a b with
  | false =>
    go_wp2_with fail
    go_ret
    exact Grows.mk (by rw [← HR.out, hc]; rfl) (he.trans he2)
  | true =>
    go_wp2_with fail
    go_ret
    exact Grows.mk (by rw [← HR.out, hc]; simp) (he.trans he2)
end Go.Proofs.YtadplnbadfnlfaaGreatDoor
