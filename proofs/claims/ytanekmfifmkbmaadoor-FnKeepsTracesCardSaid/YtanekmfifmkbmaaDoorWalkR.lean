/- Part of this seat's proofs, cut to what its law needs. -/

import Derived.Test.YtanekmfifmkbmaaDoorWalkE
import Derived.Test.YtanekmfifmkbmaaDoorRegion
import Derived.Test.YtanekmfifmkbmaaDoorWalkH
import Derived.Test.YtanekmfifmkbmaaDoorPlain2

namespace Go.Proofs.YtanekmfifmkbmaaDoor
set_option linter.unusedSimpArgs false
set_option linter.unusedVariables false
open Go.RowKit

set_option maxHeartbeats 800000
set_option maxRecDepth 20000

section
variable {P : Program} {ops : Array Oper} {rest : List Oper} {o : Oper} {a : Act} {Q : Exit → Act → World → Prop}
theorem appN {wr : World} {s x : Operand} {t e : TypeId} {base size bytes n m c : Nat} {ad : Addr} {z v : Value} {xs news : List Value} (hgd : o.guard = none)
    (ho : o.op = .call { callee := .builtin .append, args := #[s, x], argTypes := #[t, t] })
    (ht : P.underlying t = some (.slice e)) (hinfo : (P.info? e).map (fun i => (i.zero, i.size, i.bytes)) = some (some z, size, bytes)) (hzs : z.cells.size = size) (hsz : 0 < size)
    (hown : wr.ownsRow base e size v n xs) (hs : a.eval s = v) (hx : a.eval x = .slice (some ad) m c) (hl : news.length = m * size) (hnews : ∀ j u, news[j]? = some u → wr.cell? (ad.add j) = some u) (h1 : ∀ u ∈ news, u.oneCell' = true)
    (hn : n + m ≤ 4294967296) (hb : bytes ≤ 1024) (hbase : base ≤ wr.heap.size)
    (h : ∀ v' w', w'.ownsRow base e size v' (n + m) (xs ++ news) → wr.grownBy w' v.ownBlock → Below base wr w' → wpList P ops Q rest (a.put o.dst v') w') :
    wpList P ops Q (o :: rest) a wr := by
  obtain ⟨i, hi, hz, hsize, hby⟩ := info_parts hinfo
  refine wpList_append_own _ hgd s x t ho base e i z size bytes ht hi hz hsize hby hzs hsz v n xs hs hown ad m c news hx hl hnews h1 (by unfold maxLen; omega) ?_ hbase ?_
  · have := Nat.mul_le_mul hn hb; omega
  · intro v' w' h1 h2 _
    exact h v' w' h1 h2 ((Below.refl _ _).grown h2 hbase fun k hk => (World.ownsRow.lt hown k hk).1)
end

theorem nil_in {P : Program} (w : World) (d : Nat) (t e : TypeId) (a : Option Addr) (l c : Nat) (h : P.underlying t = some (.slice e)) : (Op.equalIn (d + 1) t (.slice a l c) (.slice none 0 0)).run P w = .ok a.isNone w := by
  cases a <;> simp [Op.equalIn, run_underlying h]
theorem nil_eq {P : Program} (w : World) (t e : TypeId) (a : Option Addr) (l c : Nat) (h : P.underlying t = some (.slice e)) : (Op.equal t (.slice a l c) (.slice none 0 0)).run P w = .ok a.isNone w := nil_in w 9999 t e a l c h
theorem nil_eql {P : Program} (w : World) (t e : TypeId) (a : Option Addr) (l c : Nat) (h : P.underlying t = some (.slice e)) : (binOp .eql t (.slice a l c) (.slice none 0 0)).run P w = .ok (.bool a.isNone) w := by
  simp [binOp, nil_eq w t e a l c h]
theorem own_lit (e : TypeId) (size : Nat) (w : World) : (w.alloc (.cells #[] e)).ownsRow w.heap.size e size (.slice (some ⟨w.heap.size, 0, none⟩) 0 0) 0 [] :=
  World.ownsRow_made w #[] 0 (Nat.le_refl _) (by unfold maxLen; omega) (by simp)

theorem add_none (b off j : Nat) : (⟨b, off, none⟩ : Addr).add j = ⟨b, off + j, none⟩ := by unfold Addr.add; split <;> simp_all
theorem BoolsV.cells {w : World} {ad : Addr} {c : Nat} {l : List Bool} (h : BoolsV w (.slice (some ad) l.length c) l) : ∀ j u, (l.map Value.bool)[j]? = some u → w.cell? (ad.add j) = some u := fun j u hu => by
  obtain ⟨a, c', he, -, h2⟩ := h.open
  cases he
  rw [List.getElem?_map] at hu
  obtain ⟨x, hx, rfl⟩ := Option.map_eq_some_iff.1 hu
  obtain ⟨b, off, he, -, hc⟩ := h2 j x hx
  cases he
  have := hc j x hx
  rw [Nat.mul_one] at this
  rw [add_none]
  exact this
theorem IntsV.cells {w : World} {ad : Addr} {c : Nat} {l : List Int} (h : IntsV w (.slice (some ad) l.length c) l) : ∀ j u, (l.map (Value.int .i64))[j]? = some u → w.cell? (ad.add j) = some u := fun j u hu => by
  obtain ⟨a, c', he, -, h2⟩ := h.open
  cases he
  rw [List.getElem?_map] at hu
  obtain ⟨x, hx, rfl⟩ := Option.map_eq_some_iff.1 hu
  obtain ⟨b, off, he, -, hc⟩ := h2 j x hx
  cases he
  have := hc j x hx
  rw [Nat.mul_one] at this
  rw [add_none]
  exact this
theorem SlV.nil_of_none {α : Type} {E : World → Nat → Nat → α → Prop} {sz : Nat} {w : World} {n c : Nat} {xs : List α} (h : SlV E sz w (.slice none n c) xs) : xs = [] := by
  obtain ⟨a, c', he, -, -, h3⟩ := h
  cases he
  cases xs with
  | nil => rfl
  | cons x xs => obtain ⟨b, off, he, _⟩ := h3 (by simp); cases he

theorem Ext.trans' {w w1 w2 : World} (h : Ext w w1) (k : Below w.heap.size w1 w2) : Ext w w2 := Below.trans h k

theorem cloneBools_c (v : Value) (l : List Bool) (w : World) (hv : BoolsV w v l) (hl : l.length ≤ 1048576) :
    Calls Tryd.prog 71 #[v] w (Gives (fun v w' => BoolsOwn 4 w.heap.size w' v l) w) := by
  obtain ⟨a, c, rfl, -, h1⟩ := hv.open
  have heq := fun (a : Option Addr) (n c : Nat) (w : World) => nil_eql (P := Tryd.prog) w 30 4 a n c Tryd.underlying30
  cases a with
  | none =>
    have hnil := SlV.nil_of_none hv
    subst hnil
    clear h1
    go_enter Tryd.func71, Tryd.ntmps71
    go_wp2_with fail
    go_ret
    exact Gives.mk rfl (Ext.refl _) (BoolsOwn.nil _ _ _)
  | some ad =>
    have hc := hv.cells
    clear h1
    go_enter Tryd.func71, Tryd.ntmps71
    go_wp2_with (at_builtin; refine appN (news := l.map Value.bool) rfl rfl Tryd.underlying30 infoBool rfl (by decide) (own_lit 4 1 w) rfl rfl (by simp) (fun j u hu => (Ext.alloc w _).cell (hc j u hu)) (by intro u hu; obtain ⟨b, _, rfl⟩ := List.mem_map.1 hu; rfl) (by omega) (by decide) (by simp) ?_; intro v1 w1 hown1 hgr1 hbl1)
    go_ret
    refine Gives.mk rfl ((Ext.alloc _ _).trans' hbl1) ?_
    rw [Nat.zero_add, List.nil_append] at hown1
    exact hown1

theorem cloneInts_c (v : Value) (l : List Int) (w : World) (hv : IntsV w v l) (hl : l.length ≤ 1048576) :
    Calls Tryd.prog 72 #[v] w (Gives (fun v w' => IntsOwn 3 w.heap.size w' v l) w) := by
  obtain ⟨a, c, rfl, -, h1⟩ := hv.open
  have heq := fun (a : Option Addr) (n c : Nat) (w : World) => nil_eql (P := Tryd.prog) w 51 3 a n c Tryd.underlying51
  cases a with
  | none =>
    have hnil := SlV.nil_of_none hv
    subst hnil
    clear h1
    go_enter Tryd.func72, Tryd.ntmps72
    go_wp2_with fail
    go_ret
    exact Gives.mk rfl (Ext.refl _) (IntsOwn.nil _ _ _)
  | some ad =>
    have hc := hv.cells
    clear h1
    go_enter Tryd.func72, Tryd.ntmps72
    go_wp2_with (at_builtin; refine appN (news := l.map (Value.int .i64)) rfl rfl Tryd.underlying51 infoInt rfl (by decide) (own_lit 3 1 w) rfl rfl (by simp) (fun j u hu => (Ext.alloc w _).cell (hc j u hu)) (by intro u hu; obtain ⟨b, _, rfl⟩ := List.mem_map.1 hu; rfl) (by omega) (by decide) (by simp) ?_; intro v1 w1 hown1 hgr1 hbl1)
    go_ret
    refine Gives.mk rfl ((Ext.alloc _ _).trans' hbl1) ?_
    rw [Nat.zero_add, List.nil_append] at hown1
    exact hown1

end Go.Proofs.YtanekmfifmkbmaaDoor

namespace Go.Proofs.YtanekmfifmkbmaaDoor
set_option linter.unusedSimpArgs false
set_option linter.unusedVariables false
open Go.RowKit

set_option maxHeartbeats 800000

theorem own_apart' {w : World} {base base' : Nat} {e e' : TypeId} {size size' n n' : Nat} {v v' : Value} {xs xs' : List Value} (h : w.ownsRow base e size v n xs) (h' : w.ownsRow base' e' size' v' n' xs') (hne : e ≠ e') : ∀ g, v.ownBlock = some g → v'.ownBlock ≠ some g := by
  intro g hg hg'
  rcases h.2 with ⟨rfl, _⟩ | ⟨g1, cap, cur, rfl, hb, hw, r⟩
  · simp [Value.ownBlock] at hg
  · rcases h'.2 with ⟨rfl, _⟩ | ⟨g2, cap', cur', rfl, hb', hw', r'⟩
    · simp [Value.ownBlock] at hg'
    · simp [Value.ownBlock] at hg hg'
      subst hg; subst hg'
      rw [hw] at hw'
      cases hw'
      exact hne rfl
theorem own_any' {w : World} {base : Nat} {e : TypeId} {size n : Nat} {v : Value} {xs : List Value} (h : w.ownsRow base e size v n xs) : ∃ a c, v = .slice a n c := by
  rcases own_shape h with ⟨rfl, rfl⟩ | ⟨g, cap, rfl, _⟩
  · exact ⟨_, _, rfl⟩
  · exact ⟨_, _, rfl⟩
theorem own_store {w : World} {base : Nat} {e T : TypeId} {size n g : Nat} {v : Value} {xs : List Value} {cs : Array Value} (h : w.ownsRow base e size v n xs) (hG : Blk w g cs T) (hne : T ≠ e) (j : Nat) (u : Value) : (w.setCell ⟨g, j, none⟩ u).ownsRow base e size v n xs := by
  refine ⟨h.1, ?_⟩
  rcases h.2 with h1 | ⟨g1, cap, cur, rfl, hb, hw, r⟩
  · exact .inl h1
  · refine .inr ⟨g1, cap, cur, rfl, hb, ?_, r⟩
    rw [Below.heap_setCell w ⟨g, j, none⟩ u g1 (fun he => by subst he; rw [show w.heap[g1]? = _ from hG] at hw; cases hw; exact hne rfl)]
    exact hw
theorem RowsAre.setOther {w : World} {e T : TypeId} {base g : Nat} {vs : List Value} {ll : List (List Int)} {cs : Array Value} (h : RowsAre e base w vs ll) (hG : Blk w g cs T) (hne : T ≠ e) (j : Nat) (u : Value) : RowsAre e base (w.setCell ⟨g, j, none⟩ u) vs ll :=
  ⟨h.len, fun i x l hx hl => own_store (h.row i x l hx hl) hG hne j u, h.apart⟩
theorem own_grown {w w' : World} {base base' : Nat} {e e' : TypeId} {size size' n n' : Nat} {v u : Value} {xs us : List Value} (h : w.ownsRow base e size v n xs) (hu : w.ownsRow base' e' size' u n' us) (hg : w.grownBy w' u.ownBlock) (hne : e ≠ e') : w'.ownsRow base e size v n xs := by
  refine World.ownsRow.kept h hg ?_
  cases hb : v.ownBlock with
  | none => exact .inl rfl
  | some q => exact .inr fun he => own_apart' h hu hne q hb he.symm
theorem RowsAre.grown {w w' : World} {e e' : TypeId} {base base' : Nat} {vs : List Value} {ll : List (List Int)} {size' n' : Nat} {u : Value} {us : List Value} (h : RowsAre e base w vs ll) (hu : w.ownsRow base' e' size' u n' us) (hg : w.grownBy w' u.ownBlock) (hne : e ≠ e') : RowsAre e base w' vs ll :=
  ⟨h.len, fun i x l hx hl => own_grown (h.row i x l hx hl) hu hg hne, h.apart⟩

theorem Blk.grown {w w' : World} {base' b : Nat} {T e' : TypeId} {size' n' : Nat} {u : Value} {us : List Value} {cs : Array Value} (h : Blk w b cs T) (hu : w.ownsRow base' e' size' u n' us) (hg : w.grownBy w' u.ownBlock) (hne : T ≠ e') : Blk w' b cs T := by
  refine (hg.block b h.lt fun he => ?_).trans h
  rcases hu.2 with ⟨rfl, _⟩ | ⟨g1, cap, cur, rfl, _, hw, _⟩
  · simp [Value.ownBlock] at he
  · simp [Value.ownBlock] at he
    subst he
    rw [show w.heap[b]? = _ from h] at hw
    cases hw
    exact hne rfl

theorem copyAutomaton_c (v : Value) (x : Auto) (w : World) (hv : AutoV w v x) (hs : szAuto x ≤ 1048576) :
    Calls Tryd.prog 48 #[v] w (Gives (fun v w' => AutoOwn w.heap.size w' v x) w) := by
  obtain ⟨vn, va, rfl, h1, h2⟩ := hv
  unfold szAuto szss at hs
  obtain ⟨an, cn, rfl, -, hn⟩ := h1.open
  obtain ⟨aa, ca, rfl, -, -⟩ := h2.open
  obtain ⟨wo, hwo⟩ : ∃ wo, wo = (w.alloc (.cells #[.int .i64 x.alphabet, .slice an x.next.length cn, .slice aa x.accept.length ca] 32)).alloc (.cells #[.int .i64 0, .slice none 0 0, .slice none 0 0] 32) := ⟨_, rfl⟩
  have he : Ext w wo := by rw [hwo]; exact (Ext.alloc _ _).trans (Ext.alloc _ _)
  have hB : Blk wo w.heap.size #[.int .i64 x.alphabet, .slice an x.next.length cn, .slice aa x.accept.length ca] 32 := by rw [hwo]; exact (Blk.new _ _ _).ext (Ext.alloc _ _)
  have hR : Blk wo (w.heap.size + 1) #[.int .i64 0, .slice none 0 0, .slice none 0 0] 32 := by rw [hwo]; have := Blk.new (w.alloc (.cells #[.int .i64 x.alphabet, .slice an x.next.length cn, .slice aa x.accept.length ca] 32)) #[.int .i64 0, .slice none 0 0, .slice none 0 0] 32; rwa [World.size_alloc] at this
  have hwos : w.heap.size + 2 ≤ wo.heap.size := by rw [hwo]; simp
  go_enter Tryd.func48, Tryd.ntmps48
  go_wp2_with fail
  rw [← hwo]
  clear hwo
  have D0 := fun d os => cell_regrown (hB.cell 0 rfl) d os
  have D2 := fun d os => cell_regrown (hB.cell 2 rfl) d os
  obtain ⟨Kc, HKc⟩ : ∃ Kc : FuncId → Array Value → World → Value → World → Prop, Hid (Kc = fun _ _ w0 v w' => Ext w0 w' ∧ BoolsOwn 4 w0.heap.size w' v x.accept) := ⟨_, rfl⟩
  refine wp_region_ext (Kc := Kc) 7 (by kernel_rfl) (by kernel_rfl) ?_
  simp only [List.take_succ_cons, List.take_zero]
  repeat (refine WalkE.pure rfl (fun K hK => ?_); simp only [PureDo]; go_simp; refine hK _ ?_; clear hK K)
  refine WalkE.step (fun K hK wc hwc hdc => ?_)
  simp only [OpDo, OpSafe, OpOut]
  go_simp
  refine ⟨(cloneBools_c _ x.accept _ (h2.mono (he.trans ((Ext.drew _).trans hwc))) (by omega)).mono ?_, ?_⟩
  · rintro e w' ⟨v, rfl, he, hv⟩
    exact ⟨v, rfl, by rw [HKc.out]; exact ⟨he, hv⟩⟩
  intro u w4 hk
  rw [HKc.out] at hk
  refine ⟨hk.1, hK _ _ ?_⟩
  clear hK K hdc
  obtain ⟨aa', ca', rfl⟩ := hk.2.shape
  repeat (refine WalkE.pure rfl (fun K hK => ?_); simp only [PureDo]; go_simp; refine hK _ ?_; clear hK K)
  refine WalkE.step (fun K hK wd hwd hdd => ?_)
  simp only [OpDo, OpSafe, OpOut]
  go_simp
  refine ⟨Ext.alloc _ _, hK _ _ ?_⟩
  clear hK K hdd
  refine WalkE.nil (fun wn hwn hmn => ?_)
  simp only [List.drop_succ_cons, List.drop_zero, List.drop_nil]
  have hwos' : w.heap.size + 2 ≤ wd.heap.size := Nat.le_trans hwos hwd.size
  have hwcs : w.heap.size ≤ wc.heap.size := Nat.le_trans (by omega) (Nat.le_trans hwos hwc.size)
  have hb := (hk.2.ext (hmn 4 (by omega))).low hwcs
  have hG := (Blk.new wd _ _).ext (hmn 6 (by omega))
  have hBn := hB.ext ((Ext.drew _).trans hwn)
  have hRn := hR.ext ((Ext.drew _).trans hwn)
  have hwn' := he.trans ((Ext.drew _).trans hwn)
  clear hmn hwd hwc hk hwcs HKc D0 D2 hB hR hwn
  generalize wd.heap.size = g at hG hwos' ⊢
  clear wd wc w4
  have gc0 := hG.cell 0 rfl; have gf0 := hG.fr 0; have gc1 := hG.cell 1 rfl; have gf1 := hG.fr 1; have gc2 := hG.cell 2 rfl; have gf2 := hG.fr 2
  have e1 : wn.cell? ⟨w.heap.size, 1, none⟩ = some (.slice an x.next.length cn) := hBn.cell 1 rfl
  go_wp2_with fail
  have e1' := e1
  have hG1 := ((hG.set 0 (.int .i64 x.alphabet)).set 1 (.slice none 0 0)).set 2 (.slice aa' x.accept.length ca')
  have hb1 : BoolsOwn 4 w.heap.size (((wn.setCell ⟨g, 0, none⟩ (.int .i64 x.alphabet)).setCell ⟨g, 1, none⟩ (.slice none 0 0)).setCell ⟨g, 2, none⟩ (.slice aa' x.accept.length ca')) (.slice aa' x.accept.length ca') x.accept := own_store (own_store (own_store hb hG (by decide) _ _) (hG.set 0 _) (by decide) _ _) ((hG.set 0 _).set 1 _) (by decide) _ _
  generalize hW1 : ((wn.setCell ⟨g, 0, none⟩ (.int .i64 x.alphabet)).setCell ⟨g, 1, none⟩ (.slice none 0 0)).setCell ⟨g, 2, none⟩ (.slice aa' x.accept.length ca') = w1 at hG1 hb1 ⊢
  have hR1 : Blk w1 (w.heap.size + 1) #[.int .i64 0, .slice none 0 0, .slice none 0 0] 32 := by rw [← hW1]; exact (((hRn.other (p := ⟨g, 0, none⟩) (by simp only []; omega) _).other (p := ⟨g, 1, none⟩) (by simp only []; omega) _).other (p := ⟨g, 2, none⟩) (by simp only []; omega) _)
  have hw1 : Ext w w1 := by rw [← hW1]; exact (((hwn'.setCell (p := ⟨g, 0, none⟩) (by simp only []; omega) _).setCell (p := ⟨g, 1, none⟩) (by simp only []; omega) _).setCell (p := ⟨g, 2, none⟩) (by simp only []; omega) _)
  clear hW1 hb hG hBn hRn e1 e1' gc0 gc1 gc2 gf0 gf1 gf2
  go_loopw [15] (fun i wr => ∃ (k : Nat) (vN : Value) (vs : List Value), k ≤ x.next.length ∧ i = .int .i64 k ∧ Blk wr g #[.int .i64 x.alphabet, vN, .slice aa' x.accept.length ca'] 32 ∧ wr.ownsRow w.heap.size 51 1 vN k vs ∧ RowsAre 3 w.heap.size wr vs (x.next.take k) ∧ BoolsOwn 4 w.heap.size wr (.slice aa' x.accept.length ca') x.accept ∧ Blk wr (w.heap.size + 1) #[.int .i64 0, .slice none 0 0, .slice none 0 0] 32 ∧ Ext w wr) (fun i _ => x.next.length - (intOf i).toNat)
  case atStart => exact ⟨0, .slice none 0 0, [], by omega, rfl, hG1, World.ownsRow_nil _ _ _ _, RowsAre.nil _ _ _, hb1, hR1, hw1⟩
  case round =>
    clear hG1 hb1 hw1 hR1
    obtain ⟨k, vN, vs, hk, rfl, hG, hN, hrows, hb, hR, hext⟩ := hrel
    by_cases hlt : k < x.next.length
    · obtain ⟨row, hr⟩ : ∃ row, x.next[k]? = some row := ⟨_, List.getElem?_eq_getElem hlt⟩
      obtain ⟨b, off, rfl, -, hc⟩ := hn k row hr
      obtain ⟨vr, g1, hvr⟩ := (hc k row hr).mono hext
      rw [Nat.mul_one] at g1
      have hrl : row.length ≤ 1048576 := by
        have h3 : row.length ≤ (x.next.map List.length).sum := le_sum_of_mem (List.mem_map_of_mem (List.mem_of_getElem? hr))
        omega
      have HR := Lib.hid hr
      obtain ⟨aN, cN, rfl⟩ := own_any' hN
      obtain ⟨ar, cr, rfl, -, -⟩ := hvr.open
      clear hc hn hr
      go_wp2_with fail
      have D0 := fun d os => cell_regrown (hG.cell 1 rfl) d os
      obtain ⟨Kc, HKc⟩ : ∃ Kc : FuncId → Array Value → World → Value → World → Prop, Hid (Kc = fun _ _ w0 v w' => Ext w0 w' ∧ IntsOwn 3 w0.heap.size w' v row) := ⟨_, rfl⟩
      refine wp_region_ext (Kc := Kc) 5 (by kernel_rfl) (by kernel_rfl) ?_
      simp only [List.take_succ_cons, List.take_zero]
      repeat (refine WalkE.pure rfl (fun K hK => ?_); simp only [PureDo]; go_simp; refine hK _ ?_; clear hK K)
      refine WalkE.step (fun K hK wc hwc hdc => ?_)
      simp only [OpDo, OpSafe, OpOut]
      go_simp
      refine ⟨(cloneInts_c _ row _ (hvr.mono ((Ext.drew _).trans hwc)) hrl).mono ?_, ?_⟩
      · rintro e w' ⟨v, rfl, he, hv⟩
        exact ⟨v, rfl, by rw [HKc.out]; exact ⟨he, hv⟩⟩
      intro u w4 hk4
      rw [HKc.out] at hk4
      refine ⟨hk4.1, hK _ _ ?_⟩
      clear hK K hdc
      obtain ⟨ar', cr', rfl⟩ := hk4.2.shape
      repeat (refine WalkE.pure rfl (fun K hK => ?_); simp only [PureDo]; go_simp; refine hK _ ?_; clear hK K)
      refine WalkE.step (fun K hK wd hwd hdd => ?_)
      simp only [OpDo, OpSafe, OpOut]
      go_simp
      refine ⟨Ext.alloc _ _, hK _ _ ?_⟩
      clear hK K hdd
      refine WalkE.nil (fun wn hwn hmn => ?_)
      simp only [List.drop_succ_cons, List.drop_zero, List.drop_nil]
      have hx : Ext wr wn := (Ext.drew _).trans hwn
      have hrow := (hk4.2.ext (hmn 3 (by omega))).low (base' := wr.heap.size) hwc.size
      have hq : wn.cell? ⟨wd.heap.size, 0, none⟩ = some (.slice ar' row.length cr') := (hmn 4 (by omega)).new 0 rfl
      have hN2 := own_ext hN hx
      have hrows2 := hrows.push (ll' := x.next.take (k + 1)) hx hrow hext.size (by rw [List.take_add_one, HR.out]; rfl)
      have hG2 := hG.ext hx
      have hR2 := hR.ext hx
      have hb2 := own_ext hb.own hx
      have hext2 := hext.trans hx
      have hsz := hext2.size
      have hcell : ∀ (j : Nat) (u : Value), [Value.slice ar' row.length cr'][j]? = some u → wn.cell? ((⟨wd.heap.size, 0, none⟩ : Addr).add j) = some u := fun j u hu => by
        rw [add_none]
        cases j with
        | zero => simp at hu; subst hu; exact hq
        | succ j => simp at hu
      clear hmn hk4 hrow HKc D0 hN hrows hG hb hext hwn hwc hwd hq
      generalize wd.heap.size = q at hcell ⊢
      clear wd wc w4 hvr g1
      go_wp2_with (at_builtin; refine appN (news := [Value.slice ar' row.length cr']) rfl rfl Tryd.underlying29 infoInts rfl (by decide) hN2 rfl rfl (by simp) hcell (by simp [Value.oneCell']) (by omega) (by decide) hsz ?_; intro v1 w1 hown1 hgr1 hbl1; obtain ⟨a1, c1, rfl⟩ := own_any' hown1; have hG3 := hG2.grown hN2 hgr1 (by decide); have gc1 := hG3.cell 1 rfl; have gf1 := hG3.fr 1)
      exact ⟨⟨k + 1, _, _, by omega, by go_num, hG3.set 1 _, own_store hown1 hG3 (by decide) 1 _, (hrows2.grown hN2 hgr1 (by decide)).setOther hG3 (by decide) 1 _, own_store (own_grown hb2 hN2 hgr1 (by decide)) hG3 (by decide) 1 _, (hR2.grown hN2 hgr1 (by decide)).other (p := ⟨g, 1, none⟩) (by simp only []; omega) _, (Below.trans hext2 hbl1).setCell (p := ⟨g, 1, none⟩) (by simp only []; omega) _⟩, by simp [intOf]; omega⟩
    · obtain rfl : k = x.next.length := by omega
      obtain ⟨aN, cN, rfl⟩ := own_any' hN
      have c0 := hG.cell 0 rfl
      have c1 := hG.cell 1 rfl
      have c2 := hG.cell 2 rfl
      have rc0 := hR.cell 0 rfl; have rf0 := hR.fr 0; have rc1 := hR.cell 1 rfl; have rf1 := hR.fr 1; have rc2 := hR.cell 2 rfl; have rf2 := hR.fr 2
      go_wp2_with fail
      refine bodyPost_ret (v := .agg #[.int .i64 x.alphabet, .slice aN x.next.length cN, .slice aa' x.accept.length ca']) (by simp [results, Tryd.results48, go_sem, rc0, rc1, rc2, rf0, rf1, rf2]) rfl ?_
      rw [List.take_length] at hrows
      have hR1 := hR.set 0 (.int .i64 x.alphabet)
      have hR2 := hR1.set 1 (.slice aN x.next.length cN)
      refine ⟨_, rfl, (((hext.setCell (p := ⟨(w.heap.size + 1), 0, none⟩) (by simp only []; omega) _).setCell (p := ⟨(w.heap.size + 1), 1, none⟩) (by simp only []; omega) _).setCell (p := ⟨(w.heap.size + 1), 2, none⟩) (by simp only []; omega) _), _, _, rfl, ⟨vs, own_store (own_store (own_store hN hR (by decide) 0 _) hR1 (by decide) 1 _) hR2 (by decide) 2 _, ((hrows.setOther hR (by decide) 0 _).setOther hR1 (by decide) 1 _).setOther hR2 (by decide) 2 _, fun j y hy => ?_⟩, own_store (own_store (own_store hb.own hR (by decide) 0 _) hR1 (by decide) 1 _) hR2 (by decide) 2 _⟩
      obtain ⟨l, hl⟩ : ∃ l, x.next[j]? = some l := ⟨_, List.getElem?_eq_getElem (by rw [← hrows.len]; exact (List.getElem?_eq_some_iff.1 hy).1)⟩
      have h3 := hrows.row j y l hy hl
      cases hbk : y.ownBlock with
      | none => exact .inl rfl
      | some q => exact .inr fun he => own_apart' h3 hN (by decide) q hbk he.symm
end Go.Proofs.YtanekmfifmkbmaaDoor

namespace Go.Proofs.YtanekmfifmkbmaaDoor
set_option linter.unusedSimpArgs false
set_option linter.unusedVariables false
open Go.RowKit

set_option maxHeartbeats 1000000

theorem intss_store {w : World} {base : Nat} {e2 e1 T : TypeId} {g : Nat} {v : Value} {ll : List (List Int)} {cs : Array Value} (h : IntssOwn e2 e1 base w v ll) (hG : Blk w g cs T) (hne : T ≠ e2) (hne1 : T ≠ e1) (j : Nat) (u : Value) : IntssOwn e2 e1 base (w.setCell ⟨g, j, none⟩ u) v ll :=
  let ⟨vs, h1, h2, h3⟩ := h; ⟨vs, own_store h1 hG hne j u, h2.setOther hG hne1 j u, h3⟩

end Go.Proofs.YtanekmfifmkbmaaDoor

namespace Go.Proofs.YtanekmfifmkbmaaDoor
set_option linter.unusedSimpArgs false
set_option linter.unusedVariables false
open Go.RowKit

set_option maxHeartbeats 1000000

theorem l1Bit_c (n : Nat) (w : World) (hn : n ≤ 16) : Calls Tryd.prog 77 #[.int .i64 n] w (Same (.int .i64 ((2 ^ n : Nat) : Int)) w) := by
  have hc : n = 0 ∨ n = 1 ∨ n = 2 ∨ n = 3 ∨ n = 4 ∨ n = 5 ∨ n = 6 ∨ n = 7 ∨ n = 8 ∨ n = 9 ∨ n = 10 ∨ n = 11 ∨ n = 12 ∨ n = 13 ∨ n = 14 ∨ n = 15 ∨ n = 16 := by omega
  go_enter Tryd.func77, Tryd.ntmps77
  go_wp2_with fail
  go_ret
  refine Same.mk ?_
  show Value.int .i64 (wrap64 (2 ^ n)) = _
  rcases hc with rfl | rfl | rfl | rfl | rfl | rfl | rfl | rfl | rfl | rfl | rfl | rfl | rfl | rfl | rfl | rfl | rfl <;> (refine congrArg _ ?_; unfold wrap64; decide)

end Go.Proofs.YtanekmfifmkbmaaDoor
