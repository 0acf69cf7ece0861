/- Walks: the first word that breaks a property (firstBroken): its nodes, and what is asked of them. -/
import Derived.Test.YthpiihblmekijaaGreatDoorWalkFP
import Derived.Test.YthpiihblmekijaaGreatDoorWalkK
namespace Go.Proofs.YthpiihblmekijaaGreatDoor
set_option linter.unusedSimpArgs false
set_option linter.unusedVariables false
open Go.RowKit

set_option maxHeartbeats 1600000
set_option maxRecDepth 100000

theorem appends_ext {base : Nat} {vo : Value} {l : List Int} {w w1 : World} {e : Ending} {w' : World} (h : Appends base vo l w1 e w') (he : Ext w w1) : Appends base vo l w e w' := by
  obtain ⟨v, h1, h2, h3, h4⟩ := h
  exact ⟨v, h1, h2, (Tnd.ext he).trans h3, fun g hg => (h4 g hg).imp id fun h5 => Nat.le_trans he.size h5⟩

/-- What the two functions of a search for a broken property lean on. -/
structure Ground (w : World) (bu bm bn br bp : Nat) (parts : List Sys) (a p : Auto) : Prop where
  u : ∃ vu, Blk w bu #[vu] 95 ∧ TabV w vu (table a)
  m : Blk w bm #[.int .i64 (p.next.length : Nat)] 3
  n : Blk w bn #[.int .i64 (a.next.length : Nat)] 3
  r : ∃ vr, Blk w br #[vr] 95 ∧ TabV w vr (table p)
  p : ∃ vs vm, Blk w bp #[vs, vm] 119 ∧ PartsV w (.agg #[vs, vm]) parts
theorem Ground.ext {w w' : World} {bu bm bn br bp : Nat} {parts : List Sys} {a p : Auto} (h : Ground w bu bm bn br bp parts a p) (he : Ext w w') : Ground w' bu bm bn br bp parts a p := by
  obtain ⟨⟨vu, h1, h2⟩, h3, h4, ⟨vr, h5, h6⟩, ⟨vs, vm, h7, h8⟩⟩ := h
  exact ⟨⟨vu, h1.ext he, h2.mono he⟩, h3.ext he, h4.ext he, ⟨vr, h5.ext he, h6.mono he⟩, ⟨vs, vm, h7.ext he, h8.mono he⟩⟩

/-- The automaton, of which the table is that of a valid one, or of the trivial one. -/
structure TabOk (a : Auto) : Prop where
  n1 : 1 ≤ a.next.length
  n12 : a.next.length ≤ 12
  lt : ∀ q l, q < a.next.length → step a q l < a.next.length
theorem TabOk.valid {a : Auto} (h : autoValid a = true) : TabOk a := ⟨(autoValid_facts h).2.2.1, (autoValid_facts h).2.2.2.1, fun q l hq => step_lt h hq l⟩
theorem TabOk.triv : TabOk trivAuto := ⟨by decide, by decide, fun q l hq => by rw [triv_step]; exact hq⟩

/-- The first j nodes of those that came have been turned. -/
def turned (P : List Nat) (K M rest j : Nat) : List Nat := (P.take j).map (fun x => x * K * M + rest) ++ P.drop j
theorem turned_zero (P : List Nat) (K M rest : Nat) : turned P K M rest 0 = P := by simp [turned]
theorem turned_full (P : List Nat) (K M rest : Nat) : turned P K M rest P.length = P.map fun x => x * K * M + rest := by simp [turned]
theorem turned_len (P : List Nat) (K M rest j : Nat) (h : j ≤ P.length) : (turned P K M rest j).length = P.length := by simp [turned]; omega
theorem turned_at {P : List Nat} {K M rest j x : Nat} (h : P[j]? = some x) : (turned P K M rest j)[j]? = some x := by
  have hj := (List.getElem?_eq_some_iff.1 h).1
  unfold turned
  rw [List.getElem?_append_right (by simp; omega), List.getElem?_drop]
  simp only [List.length_map, List.length_take, Nat.min_eq_left (Nat.le_of_lt hj), Nat.sub_self, Nat.add_zero]
  exact h
theorem turned_set {P : List Nat} {K M rest j x : Nat} (h : P[j]? = some x) : (turned P K M rest j).set j (x * K * M + rest) = turned P K M rest (j + 1) := by
  have hj := (List.getElem?_eq_some_iff.1 h).1
  have hd : P.drop j = x :: P.drop (j + 1) := by
    rw [List.drop_eq_getElem_cons hj]
    rw [List.getElem?_eq_getElem hj] at h; cases h; rfl
  unfold turned
  rw [List.set_append_right _ _ (by simp; omega), hd, List.take_add_one, h]
  simp [Nat.min_eq_left (Nat.le_of_lt hj)]

theorem brokenNext_c (bu bm bn br bp : Nat) (parts : List Sys) (a p : Auto) (node lt : Nat) (vo : Value) (out : List Int) (base : Nat) (w0 w : World) (h0 : Ground w0 bu bm bn br bp parts a p) (hx0 : Ext w0 w) (hb0 : w0.heap.size ≤ base) (hp : areParts parts = true) (ha : TabOk a) (hq : TabOk p)
    (hn : node ≤ 1099511627776) (hl : lt < 6) (hT : Deb w) (ho : IntsOwn 3 base w vo out) (hout : out.length + 4096 ≤ 4294967296) (hbase : base ≤ w.heap.size) (hb : ∀ x ∈ partsNext parts (node / p.next.length / a.next.length) (lt : Nat), x < 4096) (hlen : (partsNext parts (node / p.next.length / a.next.length) (lt : Nat)).length ≤ 4096) :
    Calls Tryz.prog 89 #[.int .i64 node, .int .i64 lt, vo, .pointer (some ⟨bu, 0, none⟩), .pointer (some ⟨bm, 0, none⟩), .pointer (some ⟨bn, 0, none⟩), .pointer (some ⟨br, 0, none⟩), .pointer (some ⟨bp, 0, none⟩)] w
      (Appends base vo (out ++ ints (brokenN parts a p node (lt : Nat))) w) := by
  have hbm0 := Nat.lt_of_lt_of_le h0.m.lt hb0
  have hbn0 := Nat.lt_of_lt_of_le h0.n.lt hb0
  obtain ⟨⟨vu, hu1, hu2⟩, hm, hnn, ⟨vr, hr1, hr2⟩, ⟨vs, vm, hp1, hp2⟩⟩ := h0.ext hx0
  obtain ⟨au, cu, rfl, -, hu3⟩ := hu2.open
  obtain ⟨ar, cr, rfl, -, hr3⟩ := hr2.open
  simp only [table_len] at hu1 hr1
  obtain ⟨n1, n2, n3⟩ := ha
  obtain ⟨m1, m2, m3⟩ := hq
  obtain ⟨M, hMd⟩ : ∃ M, Hid (M = p.next.length) := ⟨_, rfl⟩
  obtain ⟨K, hKd⟩ : ∃ K, Hid (K = a.next.length) := ⟨_, rfl⟩
  obtain ⟨d, hd⟩ : ∃ d, Hid (d = node / M) := ⟨_, rfl⟩
  obtain ⟨qa, hqa⟩ : ∃ qa, Hid (qa = d % K) := ⟨_, rfl⟩
  obtain ⟨qp, hqp⟩ : ∃ qp, Hid (qp = node % M) := ⟨_, rfl⟩
  obtain ⟨d2, hd2⟩ : ∃ d2, Hid (d2 = d / K) := ⟨_, rfl⟩
  rw [← hMd.out] at hm m1 m2 m3 hr1 hb hlen
  rw [← hKd.out] at hnn n1 n2 n3 hu1 hb hlen
  rw [← hd.out, ← hd2.out] at hb hlen
  have hqaK : qa < K := by rw [hqa.out]; exact Nat.mod_lt _ n1
  have hqpM : qp < M := by rw [hqp.out]; exact Nat.mod_lt _ m1
  obtain ⟨su, hsu⟩ : ∃ su, Hid (su = step a qa (lt : Nat)) := ⟨_, rfl⟩
  obtain ⟨sp, hsp⟩ : ∃ sp, Hid (sp = step p qp (lt : Nat)) := ⟨_, rfl⟩
  have hsuK : su < 12 := by rw [hsu.out]; have := n3 qa (lt : Nat) hqaK; omega
  have hspM : sp < 12 := by rw [hsp.out]; have := m3 qp (lt : Nat) hqpM; omega
  obtain ⟨b1, o1, rfl, -, hc1⟩ := hu3 qa _ (table_at a qa (by rw [← hKd.out]; exact hqaK))
  obtain ⟨b2, o2, rfl, -, hc2⟩ := hr3 qp _ (table_at p qp (by rw [← hMd.out]; exact hqpM))
  have g1 := hc1 qa _ (table_at a qa (by rw [← hKd.out]; exact hqaK)) lt hl
  have g2 := hc2 qp _ (table_at p qp (by rw [← hMd.out]; exact hqpM)) lt hl
  simp only [tabRow] at g1 g2
  rw [← hsu.out] at g1
  rw [← hsp.out] at g2
  have hd40 : d ≤ 1099511627776 := by rw [hd.out]; exact Nat.le_trans (Nat.div_le_self _ _) hn
  have hd240 : d2 ≤ 1099511627776 := by rw [hd2.out]; exact Nat.le_trans (Nat.div_le_self _ _) hd40
  have e1 : Int.tdiv (node : Int) (M : Int) = (d : Int) := by rw [hd.out]; simp [Int.tdiv_eq_ediv_of_nonneg]
  have e2 : Int.tmod (d : Int) (K : Int) = (qa : Int) := by rw [hqa.out]; simp [Int.tmod_eq_emod_of_nonneg]
  have e3 : Int.tmod (node : Int) (M : Int) = (qp : Int) := by rw [hqp.out]; simp [Int.tmod_eq_emod_of_nonneg]
  have e4 : Int.tdiv (d : Int) (K : Int) = (d2 : Int) := by rw [hd2.out]; simp [Int.tdiv_eq_ediv_of_nonneg]
  have hsm : su * M ≤ 12 * 12 := Nat.mul_le_mul (by omega) m2
  obtain ⟨rest, hrest⟩ : ∃ rest, Hid (rest = su * M + sp) := ⟨_, rfl⟩
  have hrest2 : rest ≤ 156 := by rw [hrest.out]; omega
  have e5 : IntKind.i64.wrap ((su : Int) * (M : Int)) = (su : Int) * (M : Int) := by rw [show (su : Int) * (M : Int) = ((su * M : Nat) : Int) by simp, IntKind.wrap_i64]; omega
  have e6 : IntKind.i64.wrap ((su : Int) * (M : Int) + (sp : Int)) = (rest : Int) := by rw [hrest.out, show (su : Int) * (M : Int) = ((su * M : Nat) : Int) by simp, IntKind.wrap_i64]; omega
  have e7 : IntKind.i64.wrap (d : Int) = (d : Int) := by rw [IntKind.wrap_i64]; omega
  have e8 : IntKind.i64.wrap (d2 : Int) = (d2 : Int) := by rw [IntKind.wrap_i64]; omega
  have k0 : ¬ K = 0 := by omega
  have m0 : ¬ M = 0 := by omega
  have i1 : (qa : Int) < (K : Int) := by omega
  have i2 : (qp : Int) < (M : Int) := by omega
  have i3 : (lt : Int) < 6 := by omega
  obtain ⟨ao, co, rfl⟩ := ho.shape
  clear hu3 hr3 hc1 hc2 hu2 hr2 n3 m3
  have D1 := fun d os => cell_regrown (hu1.cell 0 rfl) d os
  have D2 := fun d os => cell_regrown (hm.cell 0 rfl) d os
  have D3 := fun d os => cell_regrown (hnn.cell 0 rfl) d os
  have D4 := fun d os => cell_regrown (hr1.cell 0 rfl) d os
  have D5 := fun d os => cell_regrown g1 d os
  have D6 := fun d os => cell_regrown g2 d os
  go_enter Tryz.func89, Tryz.ntmps89
  go_wp2_with fail
  obtain ⟨Kc, HKc⟩ : ∃ Kc : FuncId → Array Value → World → Value → World → Prop, Hid (Kc = fun (_ : FuncId) (_ : Array Value) (w0 : World) (v : Value) (w' : World) => Ext w0 w') := ⟨_, rfl⟩
  refine wp_region_ext (Kc := Kc) 22 (by kernel_rfl) (by kernel_rfl) ?_
  simp only [List.take_succ_cons, List.take_zero]
  repeat (refine WalkE.pure rfl (fun K hK => ?_); simp only [PureDo]; go_simp; refine hK _ ?_; clear hK K)
  refine WalkE.nil (fun wn hwn hmn => ?_)
  simp only [List.drop_succ_cons, List.drop_zero, List.drop_nil]
  clear hmn HKc
  have hx : Ext w wn := (Ext.drew _).trans hwn
  clear hwn D1 D4 D5 D6 e5 e6 e2 e3
  go_wp2_with fail
  have E2 := fun d os => cell_regrown ((hm.ext hx).cell 0 rfl) d os
  have E3 := fun d os => cell_regrown ((hnn.ext hx).cell 0 rfl) d os
  have E7 := fun d os => cell_regrown ((hp1.ext hx).cell 0 rfl) d os
  have E8 := fun d os => cell_regrown ((hp1.ext hx).cell 1 rfl) d os
  clear D2 D3
  obtain ⟨Kc, HKc⟩ : ∃ Kc : FuncId → Array Value → World → Value → World → Prop, Hid (Kc = fun (_ : FuncId) (_ : Array Value) (w0 : World) (v : Value) (w' : World) => Ext w0 w') := ⟨_, rfl⟩
  refine wp_region_ext (Kc := Kc) 8 (by kernel_rfl) (by kernel_rfl) ?_
  simp only [List.take_succ_cons, List.take_zero]
  repeat (refine WalkE.pure rfl (fun K hK => ?_); simp only [PureDo]; go_simp; refine hK _ ?_; clear hK K)
  refine WalkE.nil (fun wm hwm hmm => ?_)
  simp only [List.drop_succ_cons, List.drop_zero, List.drop_nil]
  clear hmm HKc
  have hx2 : Ext w wm := hx.trans ((Ext.drew _).trans hwm)
  clear hwm E2 E3 E7 E8 e1 e4 e7 e8 hx
  have hpv : PartsV wm (.agg #[vs, vm]) parts := PartsV.mono hx2 hp2
  have hTm := hT.ext hx2
  have hom := IntsOwn.ext ho hx2
  have hbm := Nat.le_trans hbase hx2.size
  have HNX := Lib.hid (next_c (.agg #[vs, vm]) parts d2 lt (.slice ao out.length co) out base wm hpv hp hd240 hl hTm hom hout hbm)
  clear hpv hTm hom
  obtain ⟨PN, hPN⟩ : ∃ PN, Hid (PN = partsNext parts d2 (lt : Nat)) := ⟨_, rfl⟩
  rw [← hPN.out] at hb hlen HNX
  have HB := Lib.hid hb
  clear hb
  go_wp2_with (refine (HNX.out).mono ?_; rintro e w5 ⟨v5, rfl, hown5, ht5, hloc5⟩; obtain ⟨a5, c5, rfl⟩ := hown5.shape)
  simp only [ints_len]
  have hw5 : Below base wm w5 := ht5.below hbm fun b hb => (World.ownsRow.lt ho b hb).1
  have hloc6 : ∀ g, (Value.slice a5 (out.length + PN.length) c5).ownBlock = some g → (Value.slice ao out.length co).ownBlock = some g ∨ wm.heap.size ≤ g := fun g hg => hloc5 g (by cases a5 <;> exact hg)
  go_loopw [14] (fun i wr => ∃ j : Nat, j ≤ PN.length ∧ i = .int .i64 ((out.length + j : Nat) : Int) ∧ IntsOwn 3 base wr (.slice a5 (out.length + PN.length) c5) (out ++ ints (turned PN K M rest j)) ∧ w5.grownBy wr (Value.slice a5 (out.length + PN.length) c5).ownBlock) (fun i _ => out.length + PN.length - (intOf i).toNat)
  case atStart => exact ⟨0, by omega, rfl, by rw [turned_zero]; simpa [ints_len] using hown5, World.grownBy.refl _ _⟩
  case round =>
    obtain ⟨j, hj, rfl, hown, hgr⟩ := hrel
    by_cases hlt : j < PN.length
    · obtain ⟨x, hxj⟩ : ∃ x, PN[j]? = some x := ⟨_, List.getElem?_eq_getElem hlt⟩
      have hx4 := HB.out x (List.mem_of_getElem? hxj)
      have hll : (out ++ ints (turned PN K M rest j)).length = out.length + PN.length := by rw [List.length_append, ints_len, turned_len _ _ _ _ _ hj]
      have hown' := hown.own
      rw [hll] at hown'
      obtain ⟨g, rfl, hbg⟩ := own_some hown' (by omega)
      have hat : ((out ++ ints (turned PN K M rest j)).map (Value.int .i64))[out.length + j]? = some (.int .i64 x) := by
        rw [List.getElem?_map, List.getElem?_append_right (by omega), Nat.add_sub_cancel_left, ints_at (turned_at hxj)]; rfl
      have gx := own_cell hown' hat
      have HTS := Lib.hid (turned_set (K := K) (M := M) (rest := rest) hxj)
      obtain ⟨ix, hix⟩ : ∃ ix, ix = out.length + j := ⟨_, rfl⟩
      rw [← hix] at gx ⊢
      have fx := hown'.frozenAt ix
      have hixl : ix < out.length + PN.length := by omega
      have hixl' : (ix : Int) < (out.length : Int) + (PN.length : Int) := by omega
      have hixl2 : (ix : Int) < ((out.length + PN.length : Nat) : Int) := by omega
      have HIX := Lib.hid hix
      have hm1 : x * K ≤ 4096 * 12 := Nat.mul_le_mul (by omega) n2
      have hm2 : x * K * M ≤ 4096 * 12 * 12 := Nat.mul_le_mul hm1 m2
      have w1 : IntKind.i64.wrap ((x : Int) * (K : Int)) = (x : Int) * (K : Int) := by rw [show (x : Int) * (K : Int) = ((x * K : Nat) : Int) by simp, IntKind.wrap_i64]; omega
      have w2 : IntKind.i64.wrap ((x : Int) * (K : Int) * (M : Int)) = (x : Int) * (K : Int) * (M : Int) := by rw [show (x : Int) * (K : Int) * (M : Int) = ((x * K * M : Nat) : Int) by simp, IntKind.wrap_i64]; omega
      have w3 : IntKind.i64.wrap ((x : Int) * (K : Int) * (M : Int) + (rest : Int)) = ((x * K * M + rest : Nat) : Int) := by rw [show (x : Int) * (K : Int) * (M : Int) + (rest : Int) = ((x * K * M + rest : Nat) : Int) by simp, IntKind.wrap_i64]; omega
      generalize hV : x * K * M + rest = xv at w3 HTS
      have hbk : ∀ {b : Nat} {cs : Array Value} {T : TypeId}, Blk w b cs T → b < base → Blk wr b cs T := fun {b cs T} hB hlt => by
        have h1 := (hB.ext hx2).low hw5 hlt
        exact (hgr.block b h1.lt (fun he => by simp [Value.ownBlock] at he; omega)).trans h1
      have gM := (hbk hm hbm0).cell 0 rfl
      have gK := (hbk hnn hbn0).cell 0 rfl
      have D1 := fun d os => cell_regrown gM d os
      have D2 := fun d os => cell_regrown gK d os
      have D3 := fun d os => cell_regrown gx d os
      clear gM gK hbk hat hix hll hxj
      go_wp2_with fail
      obtain ⟨Kc, HKc⟩ : ∃ Kc : FuncId → Array Value → World → Value → World → Prop, Hid (Kc = fun (_ : FuncId) (_ : Array Value) (w0 : World) (v : Value) (w' : World) => Ext w0 w') := ⟨_, rfl⟩
      refine wp_region_ext (Kc := Kc) 13 (by kernel_rfl) (by kernel_rfl) ?_
      simp only [List.take_succ_cons, List.take_zero]
      repeat (refine WalkE.pure rfl (fun K hK => ?_); simp only [PureDo]; go_simp; refine hK _ ?_; clear hK K)
      refine WalkE.nil (fun wz hwz hmz => ?_)
      simp only [List.drop_succ_cons, List.drop_zero, List.drop_nil]
      clear hmz HKc D1 D2 D3 w1 w2 w3
      have hx9 : Ext wr wz := (Ext.drew _).trans hwz
      have gz := hx9.cell gx
      have hownz := own_ext hown' hx9
      have fz := hownz.frozenAt ix
      clear hwz gx fx
      go_wp2_with fail
      obtain ⟨o1, p1⟩ := hownz.stored ix (.int .i64 xv)
      refine ⟨⟨j + 1, by omega, ?_, ?_, ?_⟩, by simp [intOf]; omega⟩
      · rw [HIX.out]; go_num
      · unfold IntsOwn
        have e : (out ++ ints (turned PN K M rest (j + 1))).map (Value.int .i64) = ((out ++ ints (turned PN K M rest j)).map (Value.int .i64)).set ix (.int .i64 xv) := by
          rw [← HTS.out, HIX.out, List.map_append, List.map_append, List.set_append_right _ _ (by simp), List.length_map, Nat.add_sub_cancel_left]
          simp [ints]
        rw [e, List.length_append, ints_len, turned_len _ _ _ _ _ (by omega)]
        exact o1
      · exact (hgr.trans (b := wr) (c := wz) ⟨hx9.os, hx9.tape, hx9.output, hx9.size, fun k hk _ => hx9.block k hk⟩).trans p1
    · obtain rfl : j = PN.length := by omega
      go_wp2_with fail
      go_ret
      refine ⟨_, rfl, ?_, ?_, fun g hg => ?_⟩
      · have e : brokenN parts a p node (lt : Nat) = turned PN K M rest PN.length := by
          unfold brokenN
          rw [turned_full, ← hMd.out, ← hKd.out, ← hd.out, ← hd2.out, ← hqa.out, ← hqp.out, ← hsu.out, ← hsp.out, ← hPN.out, ← hrest.out]
        rw [e]; exact hown
      · refine (Tnd.ext hx2).trans ⟨hgr.os.trans ht5.os, hgr.tape.trans ht5.tape, hgr.output.trans ht5.output, Nat.le_trans ht5.size hgr.size, fun b hb hnb => ?_⟩
        refine (hgr.block b (Nat.lt_of_lt_of_le hb ht5.size) fun he => ?_).trans (ht5.block b hb hnb)
        rcases hloc6 b he.symm with h1 | h1
        · exact hnb h1
        · omega
      · rcases hloc6 g hg with h1 | h1
        · exact .inl h1
        · exact .inr (Nat.le_trans hx2.size h1)

def brokenG (a p : Auto) (node : Nat) : Bool := accepts a (node / p.next.length % a.next.length) && !accepts p (node % p.next.length)
def AccOk (a : Auto) : Prop := ∀ q, q < a.next.length → a.accept[q]? = some (accepts a q)
theorem AccOk.valid {a : Auto} (h : autoValid a = true) : AccOk a := fun q hq => accepts_at h hq
theorem AccOk.triv : AccOk trivAuto := fun q hq => by
  have : q = 0 := by simp [trivAuto] at hq; omega
  subst this; rfl
/-- What the test of a goal leans on. -/
structure Ground2 (w : World) (b4 ba bm bn b5 : Nat) (a p : Auto) : Prop where
  a4 : Blk w b4 #[.pointer (some ⟨ba, 0, none⟩)] 73
  aa : ∃ vn va, Blk w ba #[.int .i64 a.alphabet, vn, va] 29 ∧ IntssV w vn a.next ∧ BoolsV w va a.accept
  m : Blk w bm #[.int .i64 (p.next.length : Nat)] 3
  n : Blk w bn #[.int .i64 (a.next.length : Nat)] 3
  pp : ∃ vn va, Blk w b5 #[.int .i64 p.alphabet, vn, va] 29 ∧ IntssV w vn p.next ∧ BoolsV w va p.accept
theorem Ground2.ext {w w' : World} {b4 ba bm bn b5 : Nat} {a p : Auto} (h : Ground2 w b4 ba bm bn b5 a p) (he : Ext w w') : Ground2 w' b4 ba bm bn b5 a p := by
  obtain ⟨h1, ⟨vn, va, h2, h3, h4⟩, h5, h6, ⟨vn', va', h7, h8, h9⟩⟩ := h
  exact ⟨h1.ext he, ⟨vn, va, h2.ext he, h3.mono he, h4.mono he⟩, h5.ext he, h6.ext he, ⟨vn', va', h7.ext he, h8.mono he, h9.mono he⟩⟩

theorem brokenGoal_c (b4 ba bm bn b5 : Nat) (a p : Auto) (node : Nat) (w : World) (h : Ground2 w b4 ba bm bn b5 a p) (ha : TabOk a) (hq : TabOk p) (ca : AccOk a) (cp : AccOk p) (hn : node ≤ 1099511627776) :
    Calls Tryz.prog 91 #[.int .i64 node, .pointer (some ⟨b4, 0, none⟩), .pointer (some ⟨bm, 0, none⟩), .pointer (some ⟨bn, 0, none⟩), .pointer (some ⟨b5, 0, none⟩)] w (Grows (.bool (brokenG a p node)) w) := by
  obtain ⟨h4, ⟨vn, va, hA, -, hva⟩, hm, hnn, ⟨vn', va', hP, -, hvp⟩⟩ := h
  obtain ⟨au, cu, rfl, -, hu3⟩ := hva.open
  obtain ⟨ar, cr, rfl, -, hr3⟩ := hvp.open
  obtain ⟨n1, n2, -⟩ := ha
  obtain ⟨m1, m2, -⟩ := hq
  obtain ⟨M, hMd⟩ : ∃ M, Hid (M = p.next.length) := ⟨_, rfl⟩
  obtain ⟨K, hKd⟩ : ∃ K, Hid (K = a.next.length) := ⟨_, rfl⟩
  obtain ⟨d, hd⟩ : ∃ d, Hid (d = node / M) := ⟨_, rfl⟩
  obtain ⟨qa, hqa⟩ : ∃ qa, Hid (qa = d % K) := ⟨_, rfl⟩
  obtain ⟨qp, hqp⟩ : ∃ qp, Hid (qp = node % M) := ⟨_, rfl⟩
  rw [← hMd.out] at hm m1 m2
  rw [← hKd.out] at hnn n1 n2
  have hqaK : qa < K := by rw [hqa.out]; exact Nat.mod_lt _ n1
  have hqpM : qp < M := by rw [hqp.out]; exact Nat.mod_lt _ m1
  have ta := ca qa (by rw [← hKd.out]; exact hqaK)
  have tp := cp qp (by rw [← hMd.out]; exact hqpM)
  have la := (List.getElem?_eq_some_iff.1 ta).1
  have lp := (List.getElem?_eq_some_iff.1 tp).1
  obtain ⟨b1, o1, rfl, -, hc1⟩ := hu3 qa _ ta
  obtain ⟨b2, o2, rfl, -, hc2⟩ := hr3 qp _ tp
  have g1 : w.cell? ⟨b1, o1 + qa, none⟩ = some (.bool (accepts a qa)) := by have := hc1 qa _ ta; rw [Nat.mul_one] at this; exact this
  have g2 : w.cell? ⟨b2, o2 + qp, none⟩ = some (.bool (accepts p qp)) := by have := hc2 qp _ tp; rw [Nat.mul_one] at this; exact this
  have hd40 : d ≤ 1099511627776 := by rw [hd.out]; exact Nat.le_trans (Nat.div_le_self _ _) hn
  have e1 : Int.tdiv (node : Int) (M : Int) = (d : Int) := by rw [hd.out]; simp [Int.tdiv_eq_ediv_of_nonneg]
  have e2 : Int.tmod (d : Int) (K : Int) = (qa : Int) := by rw [hqa.out]; simp [Int.tmod_eq_emod_of_nonneg]
  have e3 : Int.tmod (node : Int) (M : Int) = (qp : Int) := by rw [hqp.out]; simp [Int.tmod_eq_emod_of_nonneg]
  have e7 : IntKind.i64.wrap (d : Int) = (d : Int) := by rw [IntKind.wrap_i64]; omega
  have k0 : ¬ K = 0 := by omega
  have m0 : ¬ M = 0 := by omega
  have i1 : (qa : Int) < (a.accept.length : Int) := by omega
  have i2 : (qp : Int) < (p.accept.length : Int) := by omega
  have hG : Hid (brokenG a p node = (accepts a qa && !accepts p qp)) := by
    show _ = _
    unfold brokenG
    rw [← hMd.out, ← hKd.out, ← hd.out, ← hqa.out, ← hqp.out]
  generalize accepts a qa = x1 at g1 hG
  generalize accepts p qp = x2 at g2 hG
  have D1 := h4.cell 0 rfl
  have D2 := hA.cell 2 rfl
  have D3 := hm.cell 0 rfl
  have D4 := hnn.cell 0 rfl
  have D5 := hP.cell 2 rfl
  clear hu3 hr3 hc1 hc2 ta tp hva hvp
  cases x1 with
  | true =>
    go_enter Tryz.func91, Tryz.ntmps91
    go_wp2_with fail
    go_quiet (fail)
    go_wp2_with fail
    go_ret
    exact Grows.mk (by rw [hG.out]; rfl) (Ext.drewN _ _)
  | false =>
    go_enter Tryz.func91, Tryz.ntmps91
    go_wp2_with fail
    go_quiet (fail)
    go_wp2_with fail
    go_ret
    exact Grows.mk (by rw [hG.out]; rfl) (Ext.drewN _ _)
end Go.Proofs.YthpiihblmekijaaGreatDoor
