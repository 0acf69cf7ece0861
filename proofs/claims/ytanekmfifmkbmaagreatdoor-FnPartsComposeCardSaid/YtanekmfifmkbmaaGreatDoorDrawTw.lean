/- Part of this seat's proofs, cut to what its law needs. -/

import Derived.Test.YtanekmfifmkbmaaGreatDoorDrawP
import Derived.Test.YtanekmfifmkbmaaGreatDoorDrawE
import Derived.Deep.RegionLaw
import Derived.Deep.DrawnRows
import Derived.Laws.StructEq
namespace Go.Proofs.YtanekmfifmkbmaaGreatDoor
set_option linter.unusedSimpArgs false
set_option linter.unusedVariables false
open Go.RowKit
set_option maxHeartbeats 1500000
set_option maxRecDepth 100000
attribute [local go_sem ↓] Go.wp_at_zero Go.wp_at_succ

variable {D D' D'' : Nat → Prop} {g q q' : Nat} {w w' : World}

theorem pick_cx (g p : Nat) (n : Int) (w : World) (h : Rd g p w) (hp : p ≤ 1099511627776) :
    Calls Tryz.prog 23 #[.pointer (some ⟨g, 0, none⟩), .int .i64 n] w (Picks g p n w) := by
  obtain ⟨a, c, l, hB, hl, hv⟩ := h
  have HR := Lib.hid (fun u hu => Rd.step hB hl hv u hu)
  have c0 := hB.cell 0 rfl
  have c1 := hB.cell 1 rfl
  have f1 := hB.fr 1
  by_cases hn1 : n < 1
  · have hb : decide (n < 1) = true := by simpa using hn1
    go_enter Tryz.func23, Tryz.ntmps23
    go_wp2_with fail
    go_ret
    exact ⟨0, rfl, fun h => by omega, fun _ => rfl, HR.out _ rfl, Kept.set _ _ _ _⟩
  have hb : decide (n < 1) = false := by simpa using hn1
  by_cases h0 : l.length = 0
  · have hl0 : l = [] := List.eq_nil_of_length_eq_zero h0
    subst hl0
    go_enter Tryz.func23, Tryz.ntmps23
    go_wp2_with fail
    go_ret
    exact ⟨0, rfl, fun h => by omega, fun _ => rfl, HR.out _ rfl, Kept.set _ _ _ _⟩
  obtain ⟨b, off, rfl, hbg', hc⟩ := hv (by omega)
  have hbg : b ≠ g := by omega
  clear hv
  have hb2 : (((l.length : Int)) == 0) = false := beq_eq_false_iff_ne.2 (by omega)
  by_cases hk : p < l.length
  · obtain ⟨x, hx⟩ : ∃ x, l[p]? = some x := ⟨_, List.getElem?_eq_getElem hk⟩
    have c2 := hc p x hx
    have hx2 : x.toNat < 256 := x.toNat_lt
    have hk' : decide ((p : Int) < (l.length : Int)) = true := by simpa using hk
    go_enter Tryz.func23, Tryz.ntmps23
    go_wp2_with fail
    go_ret
    obtain ⟨y, hy, hy2⟩ := tmod_nat l[p].toNat n (by omega)
    exact ⟨y, by rw [wrap64_byte' l[p].toNat (by have := l[p].toNat_lt; omega), hy]; rfl, fun _ => hy2, fun h => by omega, HR.out _ rfl, Kept.set _ _ _ _⟩
  have hk' : decide ((p : Int) < (l.length : Int)) = false := by simpa using hk
  obtain ⟨q1, hq1, e1⟩ : ∃ q1 : Nat, q1 < l.length ∧ Int.tmod (p : Int) (l.length : Int) = (q1 : Int) := ⟨p % l.length, Nat.mod_lt _ (by omega), tmod_cast p l.length⟩
  obtain ⟨q2, hq2, e2⟩ : ∃ q2 : Nat, q2 < l.length ∧ Int.tmod ((p : Int) * 7 + 3) (l.length : Int) = (q2 : Int) := ⟨(p * 7 + 3) % l.length, Nat.mod_lt _ (by omega), tmod_cast (p * 7 + 3) l.length⟩
  obtain ⟨q3, hq3, e3⟩ : ∃ q3 : Nat, q3 ≤ p ∧ Int.tdiv (p : Int) (l.length : Int) = (q3 : Int) := ⟨p / l.length, Nat.div_le_self _ _, tdiv_cast p l.length⟩
  obtain ⟨x1, hx1⟩ : ∃ x, l[q1]? = some x := ⟨_, List.getElem?_eq_getElem hq1⟩
  obtain ⟨x2, hx2⟩ : ∃ x, l[q2]? = some x := ⟨_, List.getElem?_eq_getElem hq2⟩
  have H1 := hc q1 x1 hx1
  have H2 := hc q2 x2 hx2
  have hR := HR.out ((p : Int) + 1) rfl
  have hK := Kept.set w g 1 (.int .i64 ((p : Int) + 1))
  have G0 := (hB.set 1 (.int .i64 ((p : Int) + 1))).cell 0 rfl
  have G1 := (hB.set 1 (.int .i64 ((p : Int) + 1))).cell 1 rfl
  have H1' := hK.cell (p := ⟨b, off + q1, none⟩) hbg H1
  have H2' := hK.cell (p := ⟨b, off + q2, none⟩) hbg H2
  generalize hx1n : x1.toNat = y1 at H1'
  generalize hx2n : x2.toNat = y2 at H2'
  have hy1 : y1 < 256 := by rw [← hx1n]; exact x1.toNat_lt
  have hy2 : y2 < 256 := by rw [← hx2n]; exact x2.toNat_lt
  clear hx1n hx2n H1 H2 hx1 hx2
  go_enter Tryz.func23, Tryz.ntmps23
  go_wp2_with fail
  clear c0 c1 f1
  generalize w.setCell ⟨g, 1, none⟩ (.int .i64 ((p : Int) + 1)) = w1 at hR hK G0 G1 H1' H2' ⊢
  have D0 := fun d os => cell_regrown G0 d os
  have D1 := fun d os => cell_regrown H1' d os
  have D2 := fun d os => cell_regrown H2' d os
  have hw : ∀ m : Int, (-9223372036854775808 ≤ m ∧ m ≤ 9223372036854775807) → IntKind.i64.wrap m = m := fun m hm => IntWalk.i64_in m hm
  have r1 := hw ((p : Int) * 7) (by omega)
  have r2 := hw ((p : Int) * 7 + 3) (by omega)
  have r3 := hw ((y1 : Int) * 131) (by omega)
  have r4 := hw ((y2 : Int) * 1117) (by omega)
  have r5 := hw ((y1 : Int) * 131 + (y2 : Int) * 1117) (by omega)
  have r6 := hw ((p : Int) * 29) (by omega)
  have r7 := hw ((y1 : Int) * 131 + (y2 : Int) * 1117 + (p : Int) * 29) (by omega)
  have r8 := hw ((q3 : Int) * 53) (by omega)
  obtain ⟨X, hX1, hX⟩ : ∃ X : Nat, X ≤ 1125899906842624 ∧ (y1 : Int) * 131 + (y2 : Int) * 1117 + (p : Int) * 29 + (q3 : Int) * 53 = (X : Int) := ⟨y1 * 131 + y2 * 1117 + p * 29 + q3 * 53, by omega, by omega⟩
  have r9 : IntKind.i64.wrap ((y1 : Int) * 131 + (y2 : Int) * 1117 + (p : Int) * 29 + (q3 : Int) * 53) = (X : Int) := (hw _ (by omega)).trans hX
  clear hX
  have r10 := hw (q3 : Int) (by omega)
  have ry1 := hw (y1 : Int) (by omega)
  have ry2 := hw (y2 : Int) (by omega)
  clear hw
  obtain ⟨Kc, HKc⟩ : ∃ Kc : FuncId → Array Value → World → Value → World → Prop, Hid (Kc = fun _ _ _ _ _ => True) := ⟨_, rfl⟩
  refine wp_region_ext (Kc := Kc) 45 (by kernel_rfl) (by kernel_rfl) ?_
  simp only [List.take_succ_cons, List.take_zero]
  repeat (refine WalkE.pure rfl (fun K hK => ?_); simp only [PureDo]; go_simp; refine hK _ ?_; clear hK K)
  refine WalkE.nil (fun wn hwn hmn => ?_)
  simp only [List.drop_succ_cons, List.drop_zero, List.drop_nil]
  clear hmn HKc D0 D1 D2 r1 r2 r3 r4 r5 r6 r7 r8 r9 r10 ry1 ry2 e1 e2 e3 G0 G1 H1' H2' hB hc
  go_wp2_with fail
  go_ret
  obtain ⟨m, hm⟩ : ∃ m : Nat, bits .xor .i64 (X : Int) ((X : Int) / 64) = (m : Int) := ⟨X ^^^ X / 64, by
    have h1 : ((X : Int) / 64) = ((X / 64 : Nat) : Int) := by omega
    rw [h1]; exact i64_xor_nat _ _ (by omega) (by omega)⟩
  obtain ⟨y, hy, hy2⟩ := tmod_nat m n (by omega)
  exact ⟨y, by rw [hm, hy]; rfl, fun _ => hy2, fun h => by omega, hR.ext ((Ext.drew _).trans hwn), hK.trans (Tnd.ext ((Ext.drew _).trans hwn))⟩
theorem pick_tx (n : Int) (h : St D g q w) (hq : q + 1 ≤ 1000000) :
    Calls Tryz.prog 23 #[.pointer (some ⟨g, 0, none⟩), .int .i64 n] w (fun e w' => ∃ x : Nat, e = .returned (.int .i64 (x : Int)) ∧ (1 ≤ n → (x : Int) < n) ∧ (n < 1 → x = 0) ∧ St D g (q + 1) w' ∧ Kept g w w') := by
  obtain ⟨p, hp, hr⟩ := h.rd
  refine (pick_cx g p n w hr (by omega)).mono ?_
  rintro e w' ⟨x, rfl, h1, h2, h3, h4⟩
  exact ⟨x, rfl, h1, h2, h.asked h4 h3 (by omega) (by omega), h4⟩

theorem edge_cut {wB : World} {G G7 n cE : Nat} {al ns : Int} {aE : Option Addr} (hg : g < w.heap.size) (hd : ∀ x, D x → x < w.heap.size) (hG : w.heap.size + 1 < G) (hG7 : G < G7)
    (BA : Box D g q w w.heap.size 3 #[.int .i64 al, .int .i64 ns, .slice aE n cE] 25 wB D) (BR : Box D g q w (w.heap.size + 1) 3 #[.int .i64 0, .int .i64 0, .slice none 0 0] 25 wB D) (BG : Box D g q w G 3 #[.int .i64 al, .int .i64 ns, .slice none 0 0] 25 wB D)
    (b7 : Blk wB G7 #[.int .i64 0, .int .i64 0, .int .i64 0] 87) (o7 : ¬ D G7) (hE : SlOk D wB 87 3 (.slice aE n cE) n) (y z : Int) :
    ∃ (G7' : Nat) (y' z' : Int), (Value.pointer (some ⟨G7, 0, none⟩)) = .pointer (some ⟨G7', 0, none⟩) ∧ G < G7' ∧ Box D g q w w.heap.size 3 #[.int .i64 al, .int .i64 ns, .slice aE n cE] 25 (((wB.setCell ⟨G7, 0, none⟩ (.int .i64 y)).setCell ⟨G7, 1, none⟩ (.int .i64 0)).setCell ⟨G7, 2, none⟩ (.int .i64 z)) D ∧ Box D g q w (w.heap.size + 1) 3 #[.int .i64 0, .int .i64 0, .slice none 0 0] 25 (((wB.setCell ⟨G7, 0, none⟩ (.int .i64 y)).setCell ⟨G7, 1, none⟩ (.int .i64 0)).setCell ⟨G7, 2, none⟩ (.int .i64 z)) D ∧ Box D g q w G 3 #[.int .i64 al, .int .i64 ns, .slice none 0 0] 25 (((wB.setCell ⟨G7, 0, none⟩ (.int .i64 y)).setCell ⟨G7, 1, none⟩ (.int .i64 0)).setCell ⟨G7, 2, none⟩ (.int .i64 z)) D ∧ Box D g q w G7' 3 #[.int .i64 y', .int .i64 0, .int .i64 z'] 87 (((wB.setCell ⟨G7, 0, none⟩ (.int .i64 y)).setCell ⟨G7, 1, none⟩ (.int .i64 0)).setCell ⟨G7, 2, none⟩ (.int .i64 z)) D ∧ SlOk D (((wB.setCell ⟨G7, 0, none⟩ (.int .i64 y)).setCell ⟨G7, 1, none⟩ (.int .i64 0)).setCell ⟨G7, 2, none⟩ (.int .i64 z)) 87 3 (.slice aE n cE) n := by
  have BX : Box D g q w G7 3 #[.int .i64 0, .int .i64 0, .int .i64 0] 87 wB D := ⟨BG.inc, BG.st, BG.tr, b7, o7⟩
  refine ⟨G7, y, z, rfl, hG7, ?_, ?_, ?_, ?_, ?_⟩
  · exact (((BA.other (b' := G7) (by omega) hd (by omega) (by omega) o7 0 (.int .i64 y)).other (b' := G7) (by omega) hd (by omega) (by omega) o7 1 (.int .i64 0)).other (b' := G7) (by omega) hd (by omega) (by omega) o7 2 (.int .i64 z))
  · exact (((BR.other (b' := G7) (by omega) hd (by omega) (by omega) o7 0 (.int .i64 y)).other (b' := G7) (by omega) hd (by omega) (by omega) o7 1 (.int .i64 0)).other (b' := G7) (by omega) hd (by omega) (by omega) o7 2 (.int .i64 z))
  · exact (((BG.other (b' := G7) (by omega) hd (by omega) (by omega) o7 0 (.int .i64 y)).other (b' := G7) (by omega) hd (by omega) (by omega) o7 1 (.int .i64 0)).other (b' := G7) (by omega) hd (by omega) (by omega) o7 2 (.int .i64 z))
  · exact (((BX.set (by omega) hd (by omega) 0 (.int .i64 y)).set (by omega) hd (by omega) 1 (.int .i64 0)).set (by omega) hd (by omega) 2 (.int .i64 z))
  · exact (((hE.tr (fun _ h => h) (Shp.box o7)).tr (fun _ h => h) (Shp.box o7)).tr (fun _ h => h) (Shp.box o7))

theorem eql_edge (a b c x y z : Int) (w : World) : (binOp .eql 87 (.agg #[.int .i64 a, .int .i64 b, .int .i64 c]) (.agg #[.int .i64 x, .int .i64 y, .int .i64 z])).run Tryz.prog w = .ok (.bool ((a == x) && ((b == y) && (c == z)))) w := by
  have h : (Op.equal 87 (.agg #[.int .i64 a, .int .i64 b, .int .i64 c]) (.agg #[.int .i64 x, .int .i64 y, .int .i64 z])).run Tryz.prog w = .ok ((a == x) && ((b == y) && (c == z))) w := by
    unfold Op.equal Op.maxDepth
    rw [run_equalIn_struct w 9999 87 _ _ (by kernel_rfl) (by kernel_rfl)]
    have hi : Tryz.prog.underlying 3 = some (.int .i64) := Tryz.underlying3
    simp only [Program.fieldsOf, Tryz.underlying87]
    cases h1 : (a == x) <;> cases h2 : (b == y) <;> cases h3 : (c == z) <;> simp [Op.eqFields, part, go_sem, h1, h2, h3, hi, run_equalIn_int]
  show Sem.run _ (Value.bool <$> Op.equal 87 _ _) w = _
  simp [h]

def L6 (D : Nat → Prop) (g q : Nat) (w : World) (G G7 : Nat) (al ns : Int) (aE : Option Addr) (n cE : Nat) (y l z : Int) (m : Nat) (wr : World) : Prop :=
  ∃ (D' : Nat → Prop) (aM : Option Addr) (cM : Nat), Box D g q w w.heap.size 13 #[.int .i64 al, .int .i64 ns, .slice aE n cE] 25 wr D' ∧ Box D g q w (w.heap.size + 1) 13 #[.int .i64 0, .int .i64 0, .slice none 0 0] 25 wr D' ∧
    Box D g q w G 13 #[.int .i64 al, .int .i64 ns, .slice aM m cM] 25 wr D' ∧ Box D g q w G7 13 #[.int .i64 y, .int .i64 l, .int .i64 z] 87 wr D' ∧ SlOk D' wr 87 3 (.slice aE n cE) n ∧ SlOk D' wr 87 3 (.slice aM m cM) m
theorem L6.ext {G G7 : Nat} {al ns : Int} {aE : Option Addr} {n cE : Nat} {y l z : Int} {m : Nat} {wr wq : World} (h : L6 D g q w G G7 al ns aE n cE y l z m wr) (hx : Ext wr wq) : L6 D g q w G G7 al ns aE n cE y l z m wq := by
  obtain ⟨D', aM, cM, BA, BR, BG, BX, hE, hM⟩ := h
  exact ⟨D', aM, cM, BA.ext hx, BR.ext hx, BG.ext hx, BX.ext hx, hE.tr' (Inc.refl _ _) (Tr.ext BG.st hx), hM.tr' (Inc.refl _ _) (Tr.ext BG.st hx)⟩

theorem l6Change_t (v : Value) (hv : SysT D q w v) (h : St D g q w) (hq : q + 30 ≤ 1000000) :
    Calls Tryz.prog 25 #[.pointer (some ⟨g, 0, none⟩), v] w (Drawn D g q 30 w SysT) := by
  have hg := h.g_lt
  have hd := fun x hx => (h.dom x hx).2
  obtain ⟨al, ns, n, aE, cE, rfl, hn, hE⟩ := hv.boxed
  have BA := Box.new h #[.int .i64 al, .int .i64 ns, .slice aE n cE] 25
  have BA := BA.ext (Ext.alloc _ (.cells #[.int .i64 0, .int .i64 0, .slice none 0 0] 25))
  have BR : Box D g q w (w.heap.size + 1) 0 #[.int .i64 0, .int .i64 0, .slice none 0 0] 25 _ D := ⟨BA.inc, BA.st, BA.tr, Ext.blk1 (Ext.refl _), h.out (by omega)⟩
  have hE := hE.tr' (Inc.refl _ _) BR.tr
  go_enter Tryz.func25, Tryz.ntmps25
  go_upto_region 1 with fail
  generalize (w.alloc (.cells #[.int .i64 al, .int .i64 ns, .slice aE n cE] 25)).alloc (.cells #[.int .i64 0, .int .i64 0, .slice none 0 0] 25) = w1 at BA BR hE ⊢
  have ac0 := BA.blk.cell 0 rfl; have ac1 := BA.blk.cell 1 rfl; have ac2 := BA.blk.cell 2 rfl
  have hR1 := BR.blk.lt
  have heBG := Ext.alloc w1 (.cells #[.int .i64 al, .int .i64 ns, .slice none 0 0] 25)
  have BG : Box D g q w w1.heap.size _ #[.int .i64 al, .int .i64 ns, .slice none 0 0] 25 _ _ := ⟨BA.inc, (BA.ext heBG).st, (BA.ext heBG).tr, Blk.new _ _ _, BA.st.out (Nat.le_refl _)⟩
  have hE := hE.tr' (Inc.refl _ _) (Tr.ext BA.st heBG)
  have BA := BA.ext heBG
  have BR := BR.ext heBG
  have a2' := BA.blk.cell 2 rfl
  have hG : w.heap.size + 1 < w1.heap.size := hR1
  go_wp2_with fail
  generalize w1.alloc (.cells #[.int .i64 al, .int .i64 ns, .slice none 0 0] 25) = w2 at BA BR BG hE ⊢
  generalize w1.heap.size = G at BG hG ⊢
  clear ac0 ac1 ac2 a2' hR1
  refine (pick_tx _ BG.st (by omega)).mono ?_
  rintro e w3 ⟨x, rfl, -, -, hs3, hk3⟩
  have hE := hE.tr' (Inc.refl _ _) (Tr.kept BA.st hk3)
  have BA := BA.kept (by omega) hk3 (c' := 1) (hs3.up (by omega))
  have BR := BR.kept (by omega) hk3 (c' := 1) (hs3.up (by omega))
  have BG := BG.kept (by omega) hk3 (c' := 1) (hs3.up (by omega))
  clear hs3 hk3
  have EA := BA.ext (Ext.drew w3)
  have ER := BR.ext (Ext.drew w3)
  have EG := BG.ext (Ext.drew w3)
  have FE := hE.tr' (Inc.refl _ _) (Tr.ext BG.st (Ext.drew w3))
  have p1 := EA.blk.cell 1 rfl
  have pa1 := fun o => (Ext.alloc w3.drew o).cell p1
  have pb1 := fun o => (Ext.alloc w3 o).cell (BA.blk.cell 1 rfl)
  have hz3 : G < w3.drew.heap.size := EG.blk.lt
  have hz3' : G < w3.heap.size := hz3
  go_wp2_with fail
  go_cut [4, 5, 6, 7] from 4 (fun v4 v5 v6 v7 wc => (v4 = .pointer (some ⟨w.heap.size + 1, 0, none⟩) ∧ v5 = .pointer (some ⟨G, 0, none⟩) ∧ v6 = .int .i64 (x : Int)) ∧ ∃ (G7 : Nat) (y z : Int), v7 = .pointer (some ⟨G7, 0, none⟩) ∧ G < G7 ∧ Box D g q w w.heap.size 3 #[.int .i64 al, .int .i64 ns, .slice aE n cE] 25 wc D ∧ Box D g q w (w.heap.size + 1) 3 #[.int .i64 0, .int .i64 0, .slice none 0 0] 25 wc D ∧ Box D g q w G 3 #[.int .i64 al, .int .i64 ns, .slice none 0 0] 25 wc D ∧ Box D g q w G7 3 #[.int .i64 y, .int .i64 0, .int .i64 z] 87 wc D ∧ SlOk D wc 87 3 (.slice aE n cE) n)
  case first =>
    go_region_law (go_simp; go_wp2_with (go_at_call 23; first
      | (refine (pick_tx _ hs5 (by omega)).mono ?_; rintro e w6 ⟨y6, rfl, -, -, hs6, hk6⟩; have K6 : Kept g w5 w6 := hk6; have b7 := b5.kept hk6 (by omega); have o7 := o5; have y_0 := b7.cell 0 rfl; have f_0 := b7.fr 0; have y_1 := b7.cell 1 rfl; have f_1 := b7.fr 1; have y_2 := b7.cell 2 rfl; have f_2 := b7.fr 2)
      | (refine (pick_tx _ hs5 (by omega)).mono ?_; rintro e w6 ⟨y6, rfl, -, -, hs6, hk6⟩; have K6 : Kept g w5 w6 := hk6; have o7 := hs6.out (Nat.le_refl _); have b7 := Blk.new w6 #[.int .i64 0, .int .i64 0, .int .i64 0] 87; have y_0 := b7.cell 0 rfl; have f_0 := b7.fr 0; have y_1 := b7.cell 1 rfl; have f_1 := b7.fr 1; have y_2 := b7.cell 2 rfl; have f_2 := b7.fr 2)
      | (refine (pick_tx _ (hs5.ext (Ext.alloc _ _)) (by omega)).mono ?_; rintro e w6 ⟨y6, rfl, -, -, hs6, hk6⟩; have K6 : Kept g w5 w6 := (Tnd.ext (Ext.alloc _ _)).trans hk6; have o7 := hs5.out (Nat.le_refl _); have b7 := (Blk.new w5 #[.int .i64 0, .int .i64 0, .int .i64 0] 87).kept hk6 (by omega); have y_0 := b7.cell 0 rfl; have f_0 := b7.fr 0; have y_1 := b7.cell 1 rfl; have f_1 := b7.fr 1; have y_2 := b7.cell 2 rfl; have f_2 := b7.fr 2)
      | (refine (pick_tx _ (EG.st.ext (Ext.alloc _ _)) (by omega)).mono ?_; rintro e w5 ⟨y5, rfl, -, -, hs5, hk5⟩; have K5 : Kept g w3.drew w5 := (Tnd.ext (Ext.alloc _ _)).trans hk5; have o5 : ¬ D w3.heap.size := EG.st.out (Nat.le_refl _); have b5 : Blk w5 w3.heap.size #[.int .i64 0, .int .i64 0, .int .i64 0] 87 := (Blk.new w3.drew #[.int .i64 0, .int .i64 0, .int .i64 0] 87).kept hk5 (by omega); have p5 := (EA.kept (by omega) K5 (c' := 2) (hs5.up (by omega))).blk.cell 1 rfl)
      | (refine (pick_tx _ EG.st (by omega)).mono ?_; rintro e w5 ⟨y5, rfl, -, -, hs5, hk5⟩; have K5 : Kept g w3.drew w5 := hk5; have hz5 := hk5.size; have p5 := (EA.kept (by omega) K5 (c' := 2) (hs5.up (by omega))).blk.cell 1 rfl; have pa5 := fun o => (Ext.alloc w5 o).cell p5)))
    all_goals
      have EA6 := EA.kept (by omega) (K5.trans K6) (c' := 3) (hs6.up (by omega))
      have ER6 := ER.kept (by omega) (K5.trans K6) (c' := 3) (hs6.up (by omega))
      have EG6 := EG.kept (by omega) (K5.trans K6) (c' := 3) (hs6.up (by omega))
      have F6 := FE.tr' (Inc.refl _ _) (Tr.kept EG.st (K5.trans K6))
      have l6 : G < w6.heap.size := EG6.blk.lt
      have l5 : G < w5.heap.size := by have := K5.size; omega
      go_wp2_with fail
      go_meet
      case rel => first
        | exact ⟨⟨rfl, rfl, rfl⟩, edge_cut hg hd hG (by omega) EA6 ER6 EG6 b7 o7 F6 _ _⟩
        | exact ⟨⟨rfl, rfl, rfl⟩, _, _, _, rfl, l6, EA6.ext (Ext.alloc _ _), ER6.ext (Ext.alloc _ _), EG6.ext (Ext.alloc _ _), ⟨EG6.inc, (EG6.ext (Ext.alloc _ _)).st, (EG6.ext (Ext.alloc _ _)).tr, Blk.new _ _ _, o7⟩, F6.tr' (Inc.refl _ _) (Tr.ext EG6.st (Ext.alloc _ _))⟩
  case rest =>
    clear EA ER EG FE BA BR BG hE
    obtain ⟨⟨rfl, rfl, rfl⟩, G7, y, z, rfl, hG7, BA, BR, BG, BX, hE⟩ := hcut
    have a0 := BA.blk.cell 0 rfl
    go_wp2_with fail
    refine (l1Letters_t al BG.st (by omega)).mono ?_
    rintro e w8 ⟨v8, D8, rfl, hi8, hs8, ht8, m, hm, hL⟩
    have hE := hE.tr' hi8 ht8
    have BA := BA.drawn (by omega) hi8 ht8 (c' := 9) (hs8.up (by omega))
    have BR := BR.drawn (by omega) hi8 ht8 (c' := 9) (hs8.up (by omega))
    have BG := BG.drawn (by omega) hi8 ht8 (c' := 9) (hs8.up (by omega))
    have BX := BX.drawn (by omega) hi8 ht8 (c' := 9) (hs8.up (by omega))
    clear hi8 hs8 ht8 a0
    obtain ⟨aL, cL, rfl⟩ := hL.shape
    have hg7 : g ≠ G7 := by omega
    go_upto_region 5 with fail
    go_cut [8, 9] (fun v8 v9 wc => v8 = .slice aL m cL ∧ ∃ (fr : Bool) (D' : Nat → Prop) (y l z : Int), v9 = .bool fr ∧ (fr = true → 0 < m) ∧ SlOk D' wc 3 1 (.slice aL m cL) m ∧ Box D g q w w.heap.size 10 #[.int .i64 al, .int .i64 ns, .slice aE n cE] 25 wc D' ∧ Box D g q w (w.heap.size + 1) 10 #[.int .i64 0, .int .i64 0, .slice none 0 0] 25 wc D' ∧ Box D g q w G 10 #[.int .i64 al, .int .i64 ns, .slice none 0 0] 25 wc D' ∧ Box D g q w G7 10 #[.int .i64 y, .int .i64 l, .int .i64 z] 87 wc D' ∧ SlOk D' wc 87 3 (.slice aE n cE) n)
    case first =>
      by_cases h0 : m = 0
      · subst h0
        go_wp2_with fail
        go_meet
        case rel => exact ⟨rfl, false, D8, _, _, _, rfl, (fun h => by cases h), hL, BA.up (by omega), BR.up (by omega), BG.up (by omega), BX.up (by omega), hE⟩
      · have hm0 : (0 : Int) < (m : Int) := by omega
        go_wp2_with fail
        refine (pick_t 2 BG.st (by omega) (by omega)).mono ?_
        rintro e w9 ⟨u, rfl, -, -, hs9, hk9⟩
        have hE := hE.tr' (Inc.refl _ _) (Tr.kept BA.st hk9)
        have hL := hL.tr' (Inc.refl _ _) (Tr.kept BA.st hk9)
        have BA := BA.kept (by omega) hk9 (c' := 10) (hs9.up (by omega))
        have BR := BR.kept (by omega) hk9 (c' := 10) (hs9.up (by omega))
        have BG := BG.kept (by omega) hk9 (c' := 10) (hs9.up (by omega))
        have BX := BX.kept (by omega) hk9 (c' := 10) (hs9.up (by omega))
        clear hs9 hk9
        go_wp2_with fail
        go_meet
        case rel => exact ⟨rfl, _, D8, _, _, _, rfl, (fun _ => by omega), hL, BA, BR, BG, BX, hE⟩
    case rest =>
    clear BA BR BG BX hE hL
    obtain ⟨rfl, fr, D9, y, l, z, rfl, hfr, hL, BA, BR, BG, BX, hE⟩ := hcut
    go_upto_if 42 with fail
    go_cut [9] (fun v9 wc => ∃ (fr : Bool) (D' : Nat → Prop) (y l z : Int), v9 = .bool fr ∧ Box D g q w w.heap.size 12 #[.int .i64 al, .int .i64 ns, .slice aE n cE] 25 wc D' ∧ Box D g q w (w.heap.size + 1) 12 #[.int .i64 0, .int .i64 0, .slice none 0 0] 25 wc D' ∧ Box D g q w G 12 #[.int .i64 al, .int .i64 ns, .slice none 0 0] 25 wc D' ∧ Box D g q w G7 12 #[.int .i64 y, .int .i64 l, .int .i64 z] 87 wc D' ∧ SlOk D' wc 87 3 (.slice aE n cE) n)
    case first =>
      cases fr with
      | false =>
        go_wp2_with fail
        go_meet
        case rel => exact ⟨_, D9, _, _, _, rfl, BA.up (by omega), BR.up (by omega), BG.up (by omega), BX.up (by omega), hE⟩
      | true =>
        have hm1 := hfr rfl
        go_wp2_with fail
        refine (pick_t m BG.st (by omega) (by omega)).mono ?_
        rintro e w10 ⟨j, rfl, hj, -, hs10, hk10⟩
        have hE := hE.tr' (Inc.refl _ _) (Tr.kept BA.st hk10)
        have hL := hL.tr' (Inc.refl _ _) (Tr.kept BA.st hk10)
        have BA := BA.kept (by omega) hk10 (c' := 11) (hs10.up (by omega))
        have BR := BR.kept (by omega) hk10 (c' := 11) (hs10.up (by omega))
        have BG := BG.kept (by omega) hk10 (c' := 11) (hs10.up (by omega))
        have BX := BX.kept (by omega) hk10 (c' := 11) (hs10.up (by omega))
        clear hs10 hk10
        have hjm : j < m := by have := hj (by omega); omega
        obtain ⟨bL, capL, l', hvL, hDL, hcL⟩ := hL.int_at BG.st.typ hjm
        cases hvL
        have hj1 : (0 : Int) ≤ (j : Int) := by omega
        have hj2 : (j : Int) < (m : Int) := by omega
        have e0 := BX.blk.cell 1 rfl
        have e1 := BX.blk.fr 1
        have o := BX.out
        go_wp2_with fail
        go_meet
        case rel => exact ⟨_, D9, _, _, _, rfl, (BA.other (b' := G7) (by omega) hd (by omega) (by omega) o 1 (.int .i64 l')).up (by omega), (BR.other (b' := G7) (by omega) hd (by omega) (by omega) o 1 (.int .i64 l')).up (by omega), (BG.other (b' := G7) (by omega) hd (by omega) (by omega) o 1 (.int .i64 l')).up (by omega), (BX.set (by omega) hd (by omega) 1 (.int .i64 l')).up (by omega), hE.tr (fun _ h => h) (Shp.box o)⟩
    case rest =>
    clear BA BR BG BX hE hL
    obtain ⟨fr, D9, y, l, z, rfl, BA, BR, BG, BX, hE⟩ := hcut
    go_wp2_with fail
    go_loopw [9, 10, 60, 61, 62, 63, 64, 65, 66, 76, 77, 78, 79, 80, 81, 82] (fun f i _ _ _ _ _ _ _ _ _ _ _ _ _ _ wr => ∃ (k m : Nat) (fr : Bool), k ≤ n ∧ m ≤ k + 1 ∧ (fr = true → m ≤ k) ∧ i = .int .i64 k ∧ f = .bool fr ∧ L6 D g q w G G7 al ns aE n cE y l z m wr) (fun _ i _ _ _ _ _ _ _ _ _ _ _ _ _ _ _ => n - (intOf i).toNat)
    case atStart => exact ⟨0, 0, fr, by omega, by omega, by omega, rfl, rfl, D9, none, 0, BA.up (by omega), BR.up (by omega), BG.up (by omega), BX.up (by omega), hE, SlOk.nil⟩
    case round =>
      clear BA BR BG BX hE
      obtain ⟨k, m, f, hk, hm, hmf, rfl, rfl, HL⟩ := hrel
      have hL := HL
      obtain ⟨D1, aM, cM, BA, BR, BG, BX, hE, hM⟩ := hL
      have a2 := BA.blk.cell 2 rfl
      by_cases hlt : k < n
      · have hk2 : (k : Int) < (n : Int) := by omega
        go_upto_region 11 with fail
        go_cut [67] (fun v67 wc => ∃ b : Bool, v67 = .bool b ∧ (b = true → f = true) ∧ L6 D g q w G G7 al ns aE n cE y l z m wc)
        case first =>
          obtain ⟨xs, hxl, hxs⟩ := hE.edges BA.st.typ
          obtain ⟨x, hx⟩ : ∃ x, xs[k]? = some x := ⟨_, List.getElem?_eq_getElem (by omega)⟩
          obtain ⟨aX, cX, eX, -, hn2⟩ := hxs.open
          obtain ⟨rfl, -, rfl⟩ : aE = aX ∧ n = xs.length ∧ cE = cX := by simpa using eX
          obtain ⟨b, off, rfl, -, hc⟩ := hn2 k x hx
          obtain ⟨q1, q2, q3⟩ := hc k x hx
          have D0 := fun d os => cell_regrown a2 d os
          have g1 := fun d os => cell_regrown q1 d os
          have g2 := fun d os => cell_regrown q2 d os
          have g3 := fun d os => cell_regrown q3 d os
          have e0 := fun d os => cell_regrown (BX.blk.cell 0 rfl) d os
          have e1 := fun d os => cell_regrown (BX.blk.cell 1 rfl) d os
          have e2 := fun d os => cell_regrown (BX.blk.cell 2 rfl) d os
          clear eX hxs hc hn2 hx q1 q2 q3 a2 hxl
          cases f with
          | false =>
            refine wp_region_quiet_below (by kernel_rfl) (by kernel_rfl) ?_
            repeat (go_big_quiet_step (fail))
            refine wpQuiet_nil ?_
            intro _ hw'
            obtain ⟨⟨dq, osq⟩, hw''⟩ := hw'
            subst hw''
            have hq2 : Ext wr (Go.Sort.grow (redrawn wr dq) osq) := below_regrown wr dq osq
            generalize Go.Sort.grow (redrawn wr dq) osq = wq at hq2 ⊢
            go_wp2_with fail
            go_meet
            case rel => exact ⟨_, rfl, (fun h => by cases h), HL.ext hq2⟩
          | true =>
            obtain ⟨lt, hlt2⟩ : ∃ lt, edgeLt ⟨y, l, z⟩ x = lt := ⟨_, rfl⟩
            have HB := Lib.hid (fun w' => l2Before_c ⟨y, l, z⟩ x w')
            rw [hlt2] at HB
            clear hlt2
            refine wp_region_quiet_below (by kernel_rfl) (by kernel_rfl) ?_
            repeat (go_big_quiet_step ((go_at_call 67; exact Grows.quiet (HB.out _))))
            refine wpQuiet_nil ?_
            intro _ hw'
            obtain ⟨⟨dq, osq⟩, hw''⟩ := hw'
            subst hw''
            have hq2 : Ext wr (Go.Sort.grow (redrawn wr dq) osq) := below_regrown wr dq osq
            generalize Go.Sort.grow (redrawn wr dq) osq = wq at hq2 ⊢
            go_wp2_with fail
            go_meet
            case rel => exact ⟨_, rfl, (fun _ => by first | rfl | trivial), HL.ext hq2⟩
        case rest =>
        clear BA BR BG BX hE hM HL a2
        obtain ⟨b67, rfl, hbf, HL⟩ := hcut
        have hL := HL
        obtain ⟨D1, aM, cM, BA, BR, BG, BX, hE, hM⟩ := hL
        go_upto_if 67 with fail
        go_cut [9] (fun v9 wc => ∃ (m' : Nat) (f' : Bool), v9 = .bool f' ∧ m' ≤ k + 1 ∧ (f' = true → m' ≤ k) ∧ L6 D g q w G G7 al ns aE n cE y l z m' wc)
        case first =>
          cases b67 with
          | false =>
            go_wp2_with fail
            go_meet
            case rel => exact ⟨m, f, rfl, hm, hmf, HL⟩
          | true =>
            have hmk := hmf (hbf rfl)
            have gc0 := BG.blk.cell 0 rfl; have gf0 := BG.blk.fr 0; have gc1 := BG.blk.cell 1 rfl; have gf1 := BG.blk.fr 1; have gc2 := BG.blk.cell 2 rfl; have gf2 := BG.blk.fr 2
            have ec0 := BX.blk.cell 0 rfl; have ef0 := BX.blk.fr 0; have ec1 := BX.blk.cell 1 rfl; have ef1 := BX.blk.fr 1; have ec2 := BX.blk.cell 2 rfl; have ef2 := BX.blk.fr 2
            clear HL
            go_wp2_with (at_builtin; refine app1_t (q + 13) rfl rfl Tryz.underlying23 infoEdge rfl (by decide) per_edge zk_edge BG.st hM rfl rfl rfl (by simp [Value.oneCell']) (kin_edge _ _ _) (by omega) (by decide) (by omega) ?_; intro v1 w3 D3 hi3 hs3 ht3 hE3; obtain ⟨a3, c3, rfl⟩ := hE3.shape; have hE5 := hE.tr' hi3 ht3; have BA := BA.drawn (by omega) hi3 ht3 (c' := 13) hs3; have BR := BR.drawn (by omega) hi3 ht3 (c' := 13) hs3; have BX := BX.drawn (by omega) hi3 ht3 (c' := 13) hs3; have BG := BG.drawn (by omega) hi3 ht3 (c' := 13) hs3; have gc2 := BG.blk.cell 2 rfl; have gf2 := BG.blk.fr 2)
            go_meet
            case rel => exact ⟨m + 1, false, rfl, by omega, (fun h => by cases h), D3, a3, c3, BA.other (b' := G) (by omega) hd (by omega) (by omega) BG.out 2 (.slice a3 (m + 1) c3), BR.other (b' := G) (by omega) hd (by omega) (by omega) BG.out 2 (.slice a3 (m + 1) c3), BG.set (by omega) hd (by omega) 2 (.slice a3 (m + 1) c3), BX.other (b' := G) (by omega) hd (by omega) (by omega) BG.out 2 (.slice a3 (m + 1) c3), hE5.tr (fun _ h => h) (Shp.box BG.out), hE3.tr (fun _ h => h) (Shp.box BG.out)⟩
        case rest =>
        clear BA BR BG BX hE hM HL hm hmf hbf
        obtain ⟨m, f, rfl, hm, hmf, HL⟩ := hcut
        have hL := HL
        obtain ⟨D1, aM, cM, BA, BR, BG, BX, hE, hM⟩ := hL
        go_upto_region 14 with fail
        go_cut [83] (fun v83 wc => ∃ b : Bool, v83 = .bool b ∧ L6 D g q w G G7 al ns aE n cE y l z m wc)
        case first =>
          have a2 := BA.blk.cell 2 rfl
          obtain ⟨xs, hxl, hxs⟩ := hE.edges BA.st.typ
          obtain ⟨x, hx⟩ : ∃ x, xs[k]? = some x := ⟨_, List.getElem?_eq_getElem (by omega)⟩
          obtain ⟨aX, cX, eX, -, hn2⟩ := hxs.open
          obtain ⟨rfl, -, rfl⟩ : aE = aX ∧ n = xs.length ∧ cE = cX := by simpa using eX
          obtain ⟨b, off, rfl, -, hc⟩ := hn2 k x hx
          obtain ⟨q1, q2, q3⟩ := hc k x hx
          have D0 := fun d os => cell_regrown a2 d os
          have g1 := fun d os => cell_regrown q1 d os
          have g2 := fun d os => cell_regrown q2 d os
          have g3 := fun d os => cell_regrown q3 d os
          have e0 := fun d os => cell_regrown (BX.blk.cell 0 rfl) d os
          have e1 := fun d os => cell_regrown (BX.blk.cell 1 rfl) d os
          have e2 := fun d os => cell_regrown (BX.blk.cell 2 rfl) d os
          clear eX hxs hc hn2 hx q1 q2 q3 a2 hxl
          cases f with
          | false =>
            refine wp_region_quiet_below (by kernel_rfl) (by kernel_rfl) ?_
            repeat (go_big_quiet_step (fail))
            refine wpQuiet_nil ?_
            intro _ hw'
            obtain ⟨⟨dq, osq⟩, hw''⟩ := hw'
            subst hw''
            have hq2 : Ext wc (Go.Sort.grow (redrawn wc dq) osq) := below_regrown wc dq osq
            generalize Go.Sort.grow (redrawn wc dq) osq = wq at hq2 ⊢
            go_wp2_with fail
            go_meet
            case rel => exact ⟨_, rfl, HL.ext hq2⟩
          | true =>
            have heq := fun w' => eql_edge y l z x.src x.letter x.dst w'
            refine wp_region_quiet_below (by kernel_rfl) (by kernel_rfl) ?_
            repeat (go_big_quiet_step (fail))
            refine wpQuiet_nil ?_
            intro _ hw'
            obtain ⟨⟨dq, osq⟩, hw''⟩ := hw'
            subst hw''
            have hq2 : Ext wc (Go.Sort.grow (redrawn wc dq) osq) := below_regrown wc dq osq
            generalize Go.Sort.grow (redrawn wc dq) osq = wq at hq2 ⊢
            go_wp2_with fail
            go_meet
            case rel => exact ⟨_, rfl, HL.ext hq2⟩
        case rest =>
        clear BA BR BG BX hE hM HL
        obtain ⟨b83, rfl, HL⟩ := hcut
        go_upto_if 83 with fail
        go_cut [9] (fun v9 wc => ∃ f' : Bool, v9 = .bool f' ∧ (f' = true → m ≤ k) ∧ L6 D g q w G G7 al ns aE n cE y l z m wc)
        case first =>
          cases b83 with
          | false =>
            go_wp2_with fail
            go_meet
            case rel => exact ⟨f, rfl, hmf, HL⟩
          | true =>
            go_wp2_with fail
            go_meet
            case rel => exact ⟨false, rfl, (fun h => by cases h), HL⟩
        case rest =>
        clear HL hmf
        obtain ⟨f, rfl, hmf, HL⟩ := hcut
        by_cases hkx : (k : Int) = (x : Int)
        · have hb : ((k : Int) != (x : Int)) = false := by simp [hkx]
          go_wp2_with fail
          exact ⟨⟨k + 1, m, f, by omega, by omega, fun h => by have := hmf h; omega, by go_num, rfl, HL⟩, by simp [intOf]; omega⟩
        · have hb : ((k : Int) != (x : Int)) = true := by simpa using hkx
          have hL := HL
          obtain ⟨D1, aM, cM, BA, BR, BG, BX, hE, hM⟩ := hL
          clear HL
          obtain ⟨xs, hxl, hxs⟩ := hE.edges BA.st.typ
          obtain ⟨e, he⟩ : ∃ e, xs[k]? = some e := ⟨_, List.getElem?_eq_getElem (by omega)⟩
          obtain ⟨aX, cX, eX, -, hn2⟩ := hxs.open
          obtain ⟨rfl, -, rfl⟩ : aE = aX ∧ n = xs.length ∧ cE = cX := by simpa using eX
          obtain ⟨b, off, rfl, -, hc⟩ := hn2 k e he
          obtain ⟨q1, q2, q3⟩ := hc k e he
          have D0 := fun d os => cell_regrown (BA.blk.cell 2 rfl) d os
          have D2 := fun d os => cell_regrown (BG.blk.cell 2 rfl) d os
          have g1 := fun d os => cell_regrown q1 d os
          have g2 := fun d os => cell_regrown q2 d os
          have g3 := fun d os => cell_regrown q3 d os
          clear eX hxs hc hn2 he q1 q2 q3 hxl
          go_wp2_with fail
          obtain ⟨Kc, HKc⟩ : ∃ Kc : FuncId → Array Value → World → Value → World → Prop, Hid (Kc = fun _ _ _ _ _ => True) := ⟨_, rfl⟩
          refine wp_region_ext (Kc := Kc) 8 (by kernel_rfl) (by kernel_rfl) ?_
          simp only [List.take_succ_cons, List.take_zero]
          repeat (refine WalkE.pure rfl (fun K hK => ?_); simp only [PureDo]; go_simp; refine hK _ ?_; clear hK K)
          refine WalkE.step (fun K hK wd hwd hdd => ?_)
          simp only [OpDo, OpSafe, OpOut]
          go_simp
          refine ⟨Ext.alloc _ _, hK _ _ ?_⟩
          clear hK K hdd
          refine WalkE.nil (fun wn hwn hmn => ?_)
          simp only [List.drop_succ_cons, List.drop_zero, List.drop_nil]
          have hcell := cells3 (hmn 7 (by omega))
          have hx9 := (Ext.drew wc).trans hwn
          have hE := hE.tr' (Inc.refl _ _) (Tr.ext BA.st hx9)
          have hM := hM.tr' (Inc.refl _ _) (Tr.ext BA.st hx9)
          have BA := BA.ext hx9
          have BR := BR.ext hx9
          have BX := BX.ext hx9
          have BG := BG.ext hx9
          clear hmn HKc D0 D2 hwn hwd hx9 g1 g2 g3
          generalize wd.heap.size = rr at hcell ⊢
          clear wd
          go_wp2_with (at_builtin; refine app_t (news := _) (q' := q + 13) rfl _ _ _ rfl Tryz.underlying23 infoEdge rfl (by decide) per_edge zk_edge BG.st hM rfl rfl (by simp) hcell (by simp [Value.oneCell']) (kin_edge _ _ _) (by omega) (by decide) (by omega) ?_; intro v1 w3 D3 hi3 hs3 ht3 hE3; obtain ⟨a3, c3, rfl⟩ := hE3.shape; have hE5 := hE.tr' hi3 ht3; have BA := BA.drawn (by omega) hi3 ht3 (c' := 13) hs3; have BR := BR.drawn (by omega) hi3 ht3 (c' := 13) hs3; have BX := BX.drawn (by omega) hi3 ht3 (c' := 13) hs3; have BG := BG.drawn (by omega) hi3 ht3 (c' := 13) hs3; have gc2 := BG.blk.cell 2 rfl; have gf2 := BG.blk.fr 2)
          exact ⟨⟨k + 1, m + 1, f, by omega, by omega, fun h => by have := hmf h; omega, by go_num, rfl, D3, a3, c3, BA.other (b' := G) (by omega) hd (by omega) (by omega) BG.out 2 (.slice a3 (m + 1) c3), BR.other (b' := G) (by omega) hd (by omega) (by omega) BG.out 2 (.slice a3 (m + 1) c3), BG.set (by omega) hd (by omega) 2 (.slice a3 (m + 1) c3), BX.other (b' := G) (by omega) hd (by omega) (by omega) BG.out 2 (.slice a3 (m + 1) c3), hE5.tr (fun _ h => h) (Shp.box BG.out), hE3.tr (fun _ h => h) (Shp.box BG.out)⟩, by simp [intOf]; omega⟩
      · obtain rfl : k = n := by omega
        have hm2 : m ≤ k + 1 := hm
        clear HL hlt
        cases f with
        | false =>
          have gc0 := BG.blk.cell 0 rfl; have gf0 := BG.blk.fr 0; have gc1 := BG.blk.cell 1 rfl; have gf1 := BG.blk.fr 1; have gc2 := BG.blk.cell 2 rfl; have gf2 := BG.blk.fr 2
          have rc0 := BR.blk.cell 0 rfl; have rf0 := BR.blk.fr 0; have rc1 := BR.blk.cell 1 rfl; have rf1 := BR.blk.fr 1; have rc2 := BR.blk.cell 2 rfl; have rf2 := BR.blk.fr 2
          go_wp2_with fail
          clear gc0 gc1 gc2 gf0 gf1 gf2 rc0 rc1 rc2 rf0 rf1 rf2
          have zc0 := BR.blk.cell 0 rfl; have zf0 := BR.blk.fr 0; have zc1 := BR.blk.cell 1 rfl; have zf1 := BR.blk.fr 1; have zc2 := BR.blk.cell 2 rfl; have zf2 := BR.blk.fr 2
          refine bodyPost_ret (v := .agg #[.int .i64 al, .int .i64 ns, .slice aM m cM]) (by simp [results, Tryz.results25, go_sem, zc0, zc1, zc2, zf0, zf1, zf2]) rfl ?_
          have BZ := ((BR.set (by omega) hd (by omega) 0 (.int .i64 al)).set (by omega) hd (by omega) 1 (.int .i64 ns)).set (by omega) hd (by omega) 2 (.slice aM m cM)
          have oZ := BR.out
          exact ⟨_, _, rfl, BZ.inc, BZ.st.up (by omega), BZ.tr, _, _, _, _, rfl, by omega, (((hM.tr (fun _ h => h) (Shp.box oZ)).tr (fun _ h => h) (Shp.box oZ)).tr (fun _ h => h) (Shp.box oZ))⟩
        | true =>
          have gc0 := BG.blk.cell 0 rfl; have gf0 := BG.blk.fr 0; have gc1 := BG.blk.cell 1 rfl; have gf1 := BG.blk.fr 1; have gc2 := BG.blk.cell 2 rfl; have gf2 := BG.blk.fr 2
          have ec0 := BX.blk.cell 0 rfl; have ef0 := BX.blk.fr 0; have ec1 := BX.blk.cell 1 rfl; have ef1 := BX.blk.fr 1; have ec2 := BX.blk.cell 2 rfl; have ef2 := BX.blk.fr 2
          go_wp2_with (at_builtin; refine app1_t (q + 13) rfl rfl Tryz.underlying23 infoEdge rfl (by decide) per_edge zk_edge BG.st hM rfl rfl rfl (by simp [Value.oneCell']) (kin_edge _ _ _) (by omega) (by decide) (by omega) ?_; intro v1 w3 D3 hi3 hs3 ht3 hE3; obtain ⟨a3, c3, rfl⟩ := hE3.shape; have hE5 := hE.tr' hi3 ht3; have BA := BA.drawn (by omega) hi3 ht3 (c' := 13) hs3; have BR := BR.drawn (by omega) hi3 ht3 (c' := 13) hs3; have BX := BX.drawn (by omega) hi3 ht3 (c' := 13) hs3; have BG := BG.drawn (by omega) hi3 ht3 (c' := 13) hs3; have gc2 := BG.blk.cell 2 rfl; have gf2 := BG.blk.fr 2; clear gc0 gc1 gf0 gf1 ec0 ec1 ec2 ef0 ef1 ef2; have BR := BR.other (b' := G) (by omega) hd (by omega) (by omega) BG.out 2 (.slice a3 (m + 1) c3); have hM := hE3.tr (fun _ h => h) (Shp.box (j := 2) (u := .slice a3 (m + 1) c3) BG.out); have BG := BG.set (by omega) hd (by omega) 2 (.slice a3 (m + 1) c3); have gd0 := BG.blk.cell 0 rfl; have gd1 := BG.blk.cell 1 rfl; have gd2 := BG.blk.cell 2 rfl; have rc0 := BR.blk.cell 0 rfl; have rf0 := BR.blk.fr 0; have rc1 := BR.blk.cell 1 rfl; have rf1 := BR.blk.fr 1; have rc2 := BR.blk.cell 2 rfl; have rf2 := BR.blk.fr 2)
          clear gd0 gd1 gd2 rc0 rc1 rc2 rf0 rf1 rf2
          have zc0 := BR.blk.cell 0 rfl; have zf0 := BR.blk.fr 0; have zc1 := BR.blk.cell 1 rfl; have zf1 := BR.blk.fr 1; have zc2 := BR.blk.cell 2 rfl; have zf2 := BR.blk.fr 2
          refine bodyPost_ret (v := .agg #[.int .i64 al, .int .i64 ns, .slice a3 (m + 1) c3]) (by simp [results, Tryz.results25, go_sem, zc0, zc1, zc2, zf0, zf1, zf2]) rfl ?_
          have BZ := ((BR.set (by omega) hd (by omega) 0 (.int .i64 al)).set (by omega) hd (by omega) 1 (.int .i64 ns)).set (by omega) hd (by omega) 2 (.slice a3 (m + 1) c3)
          have oZ := BR.out
          exact ⟨_, _, rfl, BZ.inc, BZ.st.up (by omega), BZ.tr, _, _, _, _, rfl, by omega, (((hM.tr (fun _ h => h) (Shp.box oZ)).tr (fun _ h => h) (Shp.box oZ)).tr (fun _ h => h) (Shp.box oZ))⟩

end Go.Proofs.YtanekmfifmkbmaaGreatDoor
