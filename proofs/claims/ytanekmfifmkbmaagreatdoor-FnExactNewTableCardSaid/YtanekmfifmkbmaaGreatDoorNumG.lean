/- Part of this seat's proofs, cut to what its law needs. -/

import Derived.Test.YtanekmfifmkbmaaGreatDoorSafeN
import Derived.Test.YtanekmfifmkbmaaGreatDoorWalkN

namespace Go.Proofs.YtanekmfifmkbmaaGreatDoor
set_option linter.unusedSimpArgs false
set_option linter.unusedVariables false
open Go.RowKit Go.Maps
set_option maxHeartbeats 4000000
set_option maxRecDepth 100000

def Touch (E : TypeId → Bool) (m lo : Nat) (w w' : World) : Prop := Tnd (fun b => b = m ∨ lo ≤ b ∧ ∃ cs T z, w.heap[b]? = some (.cells cs T z) ∧ E T = true) w w'
section
variable {E : TypeId → Bool} {m lo : Nat} {a b c w w' : World}
theorem Touch.refl (E : TypeId → Bool) (m lo : Nat) (w : World) : Touch E m lo w w := Tnd.refl _ _
theorem Touch.ext (h : Ext w w') : Touch E m lo w w' := Tnd.ext h
theorem Touch.size (h : Touch E m lo w w') : w.heap.size ≤ w'.heap.size := Tnd.size h
theorem Touch.trans (h : Touch E m lo a b) (k : Touch E m lo b c) : Touch E m lo a c :=
  ⟨k.os.trans h.os, k.tape.trans h.tape, k.output.trans h.output, Nat.le_trans h.size k.size, fun i hi hn => by
    have h1 := h.block i hi hn
    refine (k.block i (Nat.lt_of_lt_of_le hi h.size) fun hS => hn ?_).trans h1
    rcases hS with hS | ⟨hS, cs, T, z, e, hT⟩
    · exact .inl hS
    · exact .inr ⟨hS, cs, T, z, by rw [← h1]; exact e, hT⟩⟩
theorem Touch.map (hg : w.grownBy w' (some m)) : Touch E m lo w w' := Tnd.grown hg fun g hg => by cases hg; exact .inl rfl
theorem own_tag {base : Nat} {e : TypeId} {sz n : Nat} {v : Value} {xs : List Value} (h : w.ownsRow base e sz v n xs) {g : Nat} (hg : v.ownBlock = some g) : base ≤ g ∧ ∃ cs, w.heap[g]? = some (.cells cs e (0, 0)) := by
  rcases h.2 with ⟨rfl, _⟩ | ⟨g', cap, cur, rfl, hb, hg', _⟩
  · cases hg
  · simp only [Value.ownBlock, Option.some.injEq] at hg
    subst hg
    exact ⟨hb, cur, hg'⟩
theorem Touch.own {base : Nat} {e : TypeId} {sz n : Nat} {v : Value} {xs : List Value} (hg : w.grownBy w' v.ownBlock) (h : w.ownsRow base e sz v n xs) (hE : E e = true) (hl : lo ≤ base) : Touch E m lo w w' :=
  Tnd.grown hg fun g hg => by
    obtain ⟨h1, cs, h2⟩ := own_tag h hg
    exact .inr ⟨Nat.le_trans hl h1, cs, e, _, h2, hE⟩
theorem Touch.put {B : Nat} {cs : Array Value} {T : TypeId} (h : Blk w B cs T) (hE : E T = true) (hl : lo ≤ B) (j : Nat) (v : Value) : Touch E m lo w (w.setCell ⟨B, j, none⟩ v) :=
  tnd_set w (b := B) (.inr ⟨hl, cs, T, _, h, hE⟩) j v
theorem Touch.cell {base g : Nat} {e : TypeId} {sz n : Nat} {v : Value} {xs : List Value} (h : w.ownsRow base e sz v n xs) (hg : v.ownBlock = some g) (hE : E e = true) (hl : lo ≤ base) (j : Nat) (u : Value) : Touch E m lo w (w.setCell ⟨g, j, none⟩ u) := by
  obtain ⟨h1, cs, h2⟩ := own_tag h hg
  exact tnd_set w (b := g) (.inr ⟨Nat.le_trans hl h1, cs, e, _, h2, hE⟩) j u
theorem Touch.kept {base : Nat} {e : TypeId} {sz n : Nat} {v : Value} {xs : List Value} (h : Touch E m lo w w') (ho : w.ownsRow base e sz v n xs) (hE : E e = false) (hm : m < base) : w'.ownsRow base e sz v n xs :=
  Tnd.own h ho fun g hg hS => by
    obtain ⟨h1, cs, h2⟩ := own_tag ho hg
    rcases hS with hS | ⟨-, cs', T, z, e', hT⟩
    · omega
    · rw [h2] at e'
      cases e'
      rw [hE] at hT; cases hT
theorem Touch.low {w1 w2 : World} (h : Touch E m lo w w1) (hb : Below w.heap.size w1 w2) : Touch E m lo w w2 := Tnd.low h hb
theorem Touch.blk {B : Nat} {cs : Array Value} {T : TypeId} (h : Touch E m lo w w') (hB : Blk w B cs T) (hE : E T = false) (hm : B ≠ m) : Blk w' B cs T :=
  (h.block B hB.lt fun hS => by
    rcases hS with hS | ⟨-, cs', T', z, e', hT⟩
    · exact hm hS
    · have h2 : w.heap[B]? = _ := hB
      rw [h2] at e'
      cases e'
      rw [hE] at hT; cases hT).trans hB
theorem Touch.mapKept {P : Program} {k : TypeId} {R : Value → Option (DataW Unit × List MemPlace)} {b n : Nat} {D : DataW Unit} (h : Touch E m lo w w') (hm : w.ownsMap P k R b n D) (hb : b ≠ m) : w'.ownsMap P k R b n D := by
  obtain ⟨es, clock, h1, h2⟩ := hm
  refine ⟨es, clock, ?_, h2⟩
  rw [h.block b (Array.getElem?_eq_some_iff.1 h1).1 fun hS => ?_]
  · exact h1
  · rcases hS with hS | ⟨-, cs', T', z, e', hT⟩
    · exact hb hS
    · rw [h1] at e'; cases e'
end

def eK (T : TypeId) : Bool := T == 213 || T == 217 || T == 135 || T == 4
abbrev TK (K : SK) (w w' : World) : Prop := Touch eK K.bm K.B w w'
section
variable {K : SK} {w w' : World}
theorem TK.ext (h : Ext w w') : TK K w w' := Touch.ext h
theorem TK.map (h : w.grownBy w' (some K.bm)) : TK K w w' := Touch.map h
theorem TK.own {e : TypeId} {sz n : Nat} {v : Value} {xs : List Value} (hg : w.grownBy w' v.ownBlock) (h : w.ownsRow K.B e sz v n xs) (hE : eK e = true) : TK K w w' := Touch.own hg h hE (Nat.le_refl _)
theorem TK.put {cs : Array Value} (h : Blk w K.B cs 213) (j : Nat) (v : Value) : TK K w (w.setCell ⟨K.B, j, none⟩ v) := Touch.put h rfl (Nat.le_refl _) j v
theorem TK.cell {g : Nat} {e : TypeId} {sz n : Nat} {v : Value} {xs : List Value} (h : w.ownsRow K.B e sz v n xs) (hg : v.ownBlock = some g) (hE : eK e = true) (j : Nat) (u : Value) : TK K w (w.setCell ⟨g, j, none⟩ u) := Touch.cell h hg hE (Nat.le_refl _) j u
theorem TK.tnd (h : TK K w w') : Tnd (SS K) w w' := Tnd.imp h fun b hb => by
  rcases hb with hb | ⟨hb, -⟩
  · exact .inl hb
  · exact .inr hb
end
def AddEndK (t : Task) (K : SK) (w0 : World) (nodes : List Sets) (rows : List (List Int)) (f : Sets) (e : Ending) (w' : World) : Prop :=
  ∃ (n : Nat) (nodes' : List Sets) (rows' : List (List Int)), e = .returned (.int .i64 (n : Int)) ∧ nodes'[n]? = some f ∧ ((f ∈ nodes ∧ nodes' = nodes ∧ rows' = rows) ∨ (f ∉ nodes ∧ nodes' = nodes ++ [f] ∧ rows' = rows ++ [newRow])) ∧ SafAt t K nodes' rows' w' ∧ TK K w0 w'
attribute [local go_sem ↓] Go.wp_at_zero Go.wp_at_succ
theorem add_k (t : Task) (K : SK) (f : Sets) (nodes : List Sets) (rows : List (List Int)) (w0 w : World) (hs : sysValid t.sys = true) (hp : autoValid t.prop = true) (hf : Within t f) (hlen : nodes.length ≤ 100000000) (hB : K.B ≤ w.heap.size) (hO : ∀ w', TK K w0 w' → SafO t K w') (ht : TK K w0 w) (hS : SafAt t K nodes rows w) :
    Calls Tryz.prog 164 #[.pointer (some ⟨K.B, 0, none⟩), pval f] w (AddEndK t K w0 nodes rows f) := by
  have HO := Lib.hid hO
  obtain ⟨vs, vx, vu, D, nm, hX, hnm, hKM, hst⟩ := hS
  obtain ⟨us, hue⟩ : ∃ us, nodes.map (badM t) = us := ⟨_, rfl⟩
  rw [hue] at hX
  have HUE := Lib.hid hue
  have hul : us.length ≤ 100000000 := by rw [← hue, List.length_map]; exact hlen
  clear hue
  have HKM := Lib.hid hKM
  have HST := Lib.hid hst
  have hfl := fun p => within_lt hf p
  have hkey := Lib.hid (keyOf_p hfl)
  unfold pval at hkey
  obtain ⟨wo, hwo⟩ : ∃ wo, wo = w.alloc (.cells #[.int .u16 (f 0 : Int), .int .u16 (f 1 : Int), .int .u16 (f 2 : Int), .int .u16 (f 3 : Int), .int .u16 (f 4 : Int), .int .u16 (f 5 : Int), .int .u16 (f 6 : Int), .int .u16 (f 7 : Int), .int .u16 (f 8 : Int), .int .u16 (f 9 : Int), .int .u16 (f 10 : Int), .int .u16 (f 11 : Int)] 217) := ⟨_, rfl⟩
  have he : Ext w wo := by rw [hwo]; exact Ext.alloc _ _
  have B3 : PB wo w.heap.size f := by rw [hwo]; exact Ext.blk (Ext.refl _)
  have hwoB : w.heap.size < wo.heap.size := by rw [hwo]; simp
  have HVB := Lib.hid (fun b (hb : vs.ownBlock = some b) => (own_lt hX.pS hb).2)
  have hKB : K.B < w.heap.size := hX.box.lt
  have hX1 := hX.ext he
  have ht1 : TK K w0 wo := ht.trans (TK.ext he)
  have cs1 := hX1.c11
  clear hO hKM hst hX ht
  unfold pval
  go_enter Tryz.func164, Tryz.ntmps164
  go_wp2_with fail
  rw [← hwo]
  clear hwo
  obtain ⟨k0, k1, k2, k3, k4, k5, k6, k7, k8, k9, k10, k11⟩ := B3.all
  have D0 := fun d os => cell_regrown k0 d os; have D1 := fun d os => cell_regrown k1 d os; have D2 := fun d os => cell_regrown k2 d os; have D3 := fun d os => cell_regrown k3 d os; have D4 := fun d os => cell_regrown k4 d os; have D5 := fun d os => cell_regrown k5 d os; have D6 := fun d os => cell_regrown k6 d os; have D7 := fun d os => cell_regrown k7 d os; have D8 := fun d os => cell_regrown k8 d os; have D9 := fun d os => cell_regrown k9 d os; have D10 := fun d os => cell_regrown k10 d os; have D11 := fun d os => cell_regrown k11 d os
  have D12 := fun d os => cell_regrown cs1 d os
  obtain ⟨c, hlook, hat⟩ := look_p hX1.map hfl
  unfold pval at hlook
  have D13 := fun d os => hlook _ (below_regrown wo d os)
  clear hlook
  by_cases hmem : f ∈ nodes
  · obtain ⟨n, hn⟩ := List.getElem?_of_mem hmem
    have hhas : Maps.has D (keyL f) = true := (HKM.out f hf).1.2 hmem
    have hcn : c = (n : Int) := by
      have := (HKM.out f hf).2 n hn
      rw [hat] at this
      injection this with this
      injection this
    subst hcn
    rw [hhas] at D13
    obtain ⟨Kc, HKc⟩ : ∃ Kc : FuncId → Array Value → World → Value → World → Prop, Hid (Kc = fun _ _ _ _ _ => True) := ⟨_, rfl⟩
    refine wp_region_ext (Kc := Kc) 11 (by kernel_rfl) (by kernel_rfl) ?_
    simp only [List.take_succ_cons, List.take_zero]
    repeat (refine WalkE.pure rfl (fun K hK => ?_); simp only [PureDo]; go_simp; refine hK _ ?_; clear hK K)
    refine WalkE.nil (fun wn hwn hmn => ?_)
    simp only [List.drop_succ_cons, List.drop_zero, List.drop_nil]
    have hxn := (Ext.drew wo).trans hwn
    clear hmn HKc D12 D13 D0 D1 D2 D3 D4 D5 D6 D7 D8 D9 D10 D11
    go_wp2_with fail
    go_ret
    exact ⟨n, nodes, rows, rfl, hn, .inl ⟨hmem, rfl, rfl⟩, ⟨vs, vx, vu, D, nm, by rw [HUE.out]; exact hX1.ext hxn, hnm, HKM.out, HST.out⟩, ht1.trans (TK.ext hxn)⟩
  · have hhas : Maps.has D (keyL f) = false := by
      rw [Bool.eq_false_iff]; exact fun h => hmem ((HKM.out f hf).1.1 h)
    rw [hhas] at D13
    obtain ⟨Kc, HKc⟩ : ∃ Kc : FuncId → Array Value → World → Value → World → Prop, Hid (Kc = fun _ _ _ _ _ => True) := ⟨_, rfl⟩
    refine wp_region_ext (Kc := Kc) 11 (by kernel_rfl) (by kernel_rfl) ?_
    simp only [List.take_succ_cons, List.take_zero]
    repeat (refine WalkE.pure rfl (fun K hK => ?_); simp only [PureDo]; go_simp; refine hK _ ?_; clear hK K)
    refine WalkE.nil (fun wn hwn hmn => ?_)
    simp only [List.drop_succ_cons, List.drop_zero, List.drop_nil]
    have hxn := (Ext.drew wo).trans hwn
    clear hmn HKc D12 D13 D0 D1 D2 D3 D4 D5 D6 D7 D8 D9 D10 D11
    have hX2 := hX1.ext hxn
    have hTn : TK K w0 wn := ht1.trans (TK.ext hxn)
    have B3n := B3.ext hxn
    clear k0 k1 k2 k3 k4 k5 k6 k7 k8 k9 k10 k11
    clear hX1 cs1 B3 ht1 hat
    have hwnB : w.heap.size < wn.heap.size := Nat.lt_of_lt_of_le hwoB hxn.size
    obtain ⟨aS, cS, rfl⟩ := own_any' hX2.pS
    have d10 := hX2.c10
    have d11 := hX2.c11
    have hlen2 : nodes.length ≤ 100000000 := hlen
    go_wp2_with fail
    obtain ⟨k0, k1, k2, k3, k4, k5, k6, k7, k8, k9, k10, k11⟩ := B3n.all
    have D0 := fun d os => cell_regrown k0 d os; have D1 := fun d os => cell_regrown k1 d os; have D2 := fun d os => cell_regrown k2 d os; have D3 := fun d os => cell_regrown k3 d os; have D4 := fun d os => cell_regrown k4 d os; have D5 := fun d os => cell_regrown k5 d os; have D6 := fun d os => cell_regrown k6 d os; have D7 := fun d os => cell_regrown k7 d os; have D8 := fun d os => cell_regrown k8 d os; have D9 := fun d os => cell_regrown k9 d os; have D10 := fun d os => cell_regrown k10 d os; have D11 := fun d os => cell_regrown k11 d os
    have D12 := fun d os => cell_regrown d11 d os
    obtain ⟨Kc, HKc⟩ : ∃ Kc : FuncId → Array Value → World → Value → World → Prop, Hid (Kc = fun _ _ _ _ _ => True) := ⟨_, rfl⟩
    refine wp_region_ext (Kc := Kc) 6 (by kernel_rfl) (by kernel_rfl) ?_
    simp only [List.take_succ_cons, List.take_zero]
    repeat (refine WalkE.pure rfl (fun K hK => ?_); simp only [PureDo]; go_simp; refine hK _ ?_; clear hK K)
    refine WalkE.nil (fun wm hwm hmm => ?_)
    simp only [List.drop_succ_cons, List.drop_zero, List.drop_nil]
    have hxm := (Ext.drew wn).trans hwm
    clear hmm HKc D12 D0 D1 D2 D3 D4 D5 D6 D7 D8 D9 D10 D11 d10 d11 hwn hwm
    clear k0 k1 k2 k3 k4 k5 k6 k7 k8 k9 k10 k11
    have hX3 := hX2.ext hxm
    have hTm : TK K w0 wm := hTn.trans (TK.ext hxm)
    have B3m := B3n.ext hxm
    have HKP := Lib.hid (HKM.out.push hX3.map.isMap (autoValid_facts hp).2.2.2.1 hf hmem)
    have hnm2 : nm < maxLen := by unfold maxLen; omega
    go_wp2_with (at_mapUpdate; refine wpList_mapUpdate_own _ rfl _ _ _ 210 rfl 217 3 lawP Tryz.underlying210 _ K.bm nm D rfl hX3.map hnm2 _ _ _ rfl rfl hkey.out _ [] (elemP (x := nodes.length) (by omega)) ?_; intro w6 hm6 hg6)
    go_frame
    have hX4 := hX3.mapped hm6 hg6
    have hT4 : TK K w0 w6 := hTm.trans (TK.map hg6)
    have hb3 : w.heap.size ≠ K.bm := blk_ne_map B3m hX3.map
    have B3k : PB w6 w.heap.size f := (hg6.block _ (Blk.lt B3m) (fun e => hb3 (Option.some.inj e))).trans B3m
    have hw6B : w.heap.size < w6.heap.size := Blk.lt B3k
    clear hX3 hm6 hg6 hTm B3m hTn hX2 B3n hxn hxm
    obtain ⟨k0, k1, k2, k3, k4, k5, k6, k7, k8, k9, k10, k11⟩ := B3k.all
    have d10 := hX4.c10
    have r10 := fun o => (hX4.ext (Ext.alloc w6 o)).c10
    have x0 : Ext w6 (w6.alloc (.cells #[.int .u16 (f 0 : Int), .int .u16 (f 1 : Int), .int .u16 (f 2 : Int), .int .u16 (f 3 : Int), .int .u16 (f 4 : Int), .int .u16 (f 5 : Int), .int .u16 (f 6 : Int), .int .u16 (f 7 : Int), .int .u16 (f 8 : Int), .int .u16 (f 9 : Int), .int .u16 (f 10 : Int), .int .u16 (f 11 : Int)] 217)).drew := (Ext.alloc _ _).trans (Ext.drew _)
    have hX5 := hX4.ext x0
    have hNC : ∀ (j : Nat) u, (pcells f).toList[j]? = some u → (w6.alloc (.cells #[.int .u16 (f 0 : Int), .int .u16 (f 1 : Int), .int .u16 (f 2 : Int), .int .u16 (f 3 : Int), .int .u16 (f 4 : Int), .int .u16 (f 5 : Int), .int .u16 (f 6 : Int), .int .u16 (f 7 : Int), .int .u16 (f 8 : Int), .int .u16 (f 9 : Int), .int .u16 (f 10 : Int), .int .u16 (f 11 : Int)] 217)).drew.cell? ((⟨w6.heap.size, 0, none⟩ : Addr).add j) = some u := fun j u hu => by
      rw [add_none, Nat.zero_add]
      exact ((Blk.new w6 (pcells f) 217).ext (Ext.drew _)).cell j (by simpa using hu)
    have h1c : ∀ u ∈ (pcells f).toList, u.oneCell' = true := fun u hu => by
      obtain ⟨i, hi⟩ := List.getElem?_of_mem hu
      by_cases h12 : i < 12
      · rw [Array.getElem?_toList, pcells_at h12] at hi; cases hi; rfl
      · rw [Array.getElem?_toList, Array.getElem?_eq_none (by rw [pcells_size]; omega)] at hi; cases hi
    have hTx : TK K w0 (w6.alloc (.cells #[.int .u16 (f 0 : Int), .int .u16 (f 1 : Int), .int .u16 (f 2 : Int), .int .u16 (f 3 : Int), .int .u16 (f 4 : Int), .int .u16 (f 5 : Int), .int .u16 (f 6 : Int), .int .u16 (f 7 : Int), .int .u16 (f 8 : Int), .int .u16 (f 9 : Int), .int .u16 (f 10 : Int), .int .u16 (f 11 : Int)] 217)).drew := hT4.trans (TK.ext x0)
    go_region_law (first
      | (refine step_appPN (base := K.B) (l := [slX vx rows, slU vu us]) (news := (pcells f).toList) (by rfl) (by rfl) Tryz.underlying211 infoP (by rfl) (by decide) hX5.pool (by rfl) (by rfl) (by rfl) hNC h1c (by omega) (by decide) (Nat.le_of_lt hX5.box.lt) ?_; intro v1 w7 hP1 hg1 hb1; have hX6 := hX5.grown hP1 hg1; have g10 := hX6.c10; have q10 := hX6.fr 10; obtain ⟨a1, c1, rfl⟩ := own_any' (Pool.hd hP1)))
    all_goals
      have hX7 := hX6.put10 (.slice a1 (nodes.length + 1) c1)
      have hT7 : TK K w0 w7 := hTx.trans (TK.own hg1 hX5.pS rfl)
      have hT8 := hT7.trans (TK.put hX6.box 10 (.slice a1 (nodes.length + 1) c1))
      have B3x : PB w7 w.heap.size f := (hg1.block _ (Nat.lt_of_lt_of_le hw6B x0.size) (fun e => absurd (HVB.out _ e.symm) (Nat.lt_irrefl _))).trans (B3k.ext x0)
      have B37 := B3x.other (p := ⟨K.B, 10, none⟩) (by simp only []; omega) (.slice a1 (nodes.length + 1) c1)
      clear hX4 hX5 hX6 hT4 hTx hT7 B3k B3x r10 d10 g10 q10 hNC h1c hP1 hg1 hb1 x0
      clear k0 k1 k2 k3 k4 k5 k6 k7 k8 k9 k10 k11
      generalize w7.setCell ⟨K.B, 10, none⟩ (.slice a1 (nodes.length + 1) c1) = w8 at hX7 hT8 B37 ⊢
      clear w7
      have hX8 := hX7.perm (List.Perm.swap (slX vx rows) _ _)
      have hB8 : K.B ≤ w8.heap.size := Nat.le_of_lt hX8.box.lt
      have e12 := hX8.c12
      have hrl : rows.length ≤ 4294967296 := by have := HST.out.len; omega
      obtain ⟨aX, cX, rfl⟩ := own_any' hX7.pX0
      clear hX7
      go_wp2_with (at_builtin; refine appP (news := newRow.map (Value.int .i64)) rfl rfl Tryz.underlying147 infoTab rfl (by decide) hX8.pool rfl rfl rfl (by simp [newRow, Value.oneCell']) hrl (by decide) hB8 ?_; intro v2 w9 hP2 hg2 hb2; have hX9 := hX8.grown hP2 hg2; have g12 := hX9.c12; have q12 := hX9.fr 12; have B39 : PB w9 w.heap.size f := Blk.grown B37 hX8.pool.head hg2 (show 217 ≠ 135 by decide); obtain ⟨k0, k1, k2, k3, k4, k5, k6, k7, k8, k9, k10, k11⟩ := B39.all; obtain ⟨a2, c2, rfl⟩ := own_any' (Pool.hd hP2))
      have hXA := hX9.put12 (.slice a2 (rows.length + 1) c2)
      have hT9 : TK K w0 w9 := hT8.trans (TK.own hg2 hX8.pool.head rfl)
      have hTA := hT9.trans (TK.put hX9.box 12 (.slice a2 (rows.length + 1) c2))
      clear hX8 hX9 hT8 hT9 hP2 hg2 hb2 e12 g12 q12 B37 B39 hB8
      clear k0 k1 k2 k3 k4 k5 k6 k7 k8 k9 k10 k11
      generalize w9.setCell ⟨K.B, 12, none⟩ (.slice a2 (rows.length + 1) c2) = wA at hXA hTA ⊢
      have hXB := hXA.perm (pl' := [slU vu us, ⟨135, 6, .slice a2 (rows.length + 1) c2, rows.length + 1, rowCells rows ++ newRow.map (Value.int .i64)⟩, ⟨217, 12, .slice a1 (nodes.length + 1) c1, nodes.length + 1, setCells nodes ++ (pcells f).toList⟩]) (List.perm_append_comm (l₁ := [_, _]) (l₂ := [_]))
      have hn12 : t.prop.next.length ≤ 12 := (autoValid_facts hp).2.2.2.1
      have hal : t.prop.accept.length = t.prop.next.length := (autoValid_facts hp).2.2.2.2
      have HAL := Lib.hid hal
      clear hXA hal
      go_loopw [8, 54, 60, 61, 62, 63, 64, 65, 66, 67, 68, 69, 70, 71, 72, 73] (fun b i _ _ _ _ _ _ _ _ _ _ _ _ _ _ wr => ∃ k : Nat, k ≤ 12 ∧ i = .int .i64 k ∧ b = .bool (badTo t f k) ∧ wA = wr) (fun _ i _ _ _ _ _ _ _ _ _ _ _ _ _ _ _ => 12 - (intOf i).toNat)
      case atStart => exact ⟨0, by omega, rfl, rfl, rfl⟩
      case round =>
        obtain ⟨k, hk, rfl, rfl, rfl⟩ := hrel
        by_cases hlt : k < 12
        · have hix : ∀ w', (Instr.index 217 (.agg #[.int .u16 (f 0 : Int), .int .u16 (f 1 : Int), .int .u16 (f 2 : Int), .int .u16 (f 3 : Int), .int .u16 (f 4 : Int), .int .u16 (f 5 : Int), .int .u16 (f 6 : Int), .int .u16 (f 7 : Int), .int .u16 (f 8 : Int), .int .u16 (f 9 : Int), .int .u16 (f 10 : Int), .int .u16 (f 11 : Int)]) (.int .i64 (k : Int))).run Tryz.prog w' = .ok (.int .u16 (f k : Int)) w' := fun w' => index_p f hlt w'
          have HS := Lib.hid (badTo_succ t f k)
          cases hb : badTo t f k with
          | true =>
            rw [hb] at HS
            clear hb
            go_wp2_with fail
            exact ⟨⟨k + 1, by omega, by go_num, by rw [HS.out]; rfl, by first | rfl | trivial⟩, by simp [intOf]; omega⟩
          | false =>
            rw [hb] at HS
            clear hb
            by_cases hz : f k = 0
            · rw [hz] at hix
              have HS2 : Hid (badTo t f (k + 1) = false) := Lib.hid (by rw [HS.out, hz]; simp)
              clear hz HS
              go_wp2_with fail
              exact ⟨⟨k + 1, by omega, by go_num, by rw [HS2.out], by first | rfl | trivial⟩, by simp [intOf]; omega⟩
            · have hkn : k < t.prop.next.length := by
                by_cases h : k < t.prop.next.length
                · exact h
                · exact absurd (within_zero hf (by omega)) hz
              have hzi : ((f k : Int) != 0) = true := by simp; exact hz
              have d5 := hXB.c5
              have hat := accepts_at hp hkn
              have hacc := (HO.out _ hTA).acc
              obtain ⟨aA, cA, hva, -, hcell⟩ := hacc.open
              rw [hva] at d5
              obtain ⟨ba, offa, rfl, -, hc⟩ := hcell _ _ hat
              have hc := hc _ _ hat
              rw [Nat.mul_one] at hc
              unfold BoolAt at hc
              have hkl : (k : Int) < (t.prop.accept.length : Int) := by have := HAL.out; omega
              obtain ⟨ac, hace⟩ : ∃ ac, accepts t.prop k = ac := ⟨_, rfl⟩
              rw [hace] at hc
              have HS2 : Hid (badTo t f (k + 1) = !ac) := Lib.hid (by rw [HS.out, hace]; simp [hz])
              clear hz HS hace hcell hat hva
              go_wp2_with fail
              exact ⟨⟨k + 1, by omega, by go_num, by rw [HS2.out], by first | rfl | trivial⟩, by simp [intOf]; omega⟩
        · obtain rfl : k = 12 := by omega
          rw [badTo_12 hf hn12]
          obtain ⟨bd, hbd⟩ : ∃ bd, badM t f = bd := ⟨_, rfl⟩
          have HBD := Lib.hid hbd
          rw [hbd]
          have d13 := hXB.c13
          have hBB : K.B ≤ wA.heap.size := Nat.le_of_lt hXB.box.lt
          obtain ⟨aU, cU, rfl⟩ := own_any' (show wA.ownsRow K.B 4 1 vu us.length (us.map Value.bool) from hXB.pool.head)
          clear hbd
          go_wp2_with (at_builtin; refine appP (news := [Value.bool bd]) rfl rfl Tryz.underlying29 infoBool rfl (by decide) hXB.pool rfl rfl rfl (by simp [Value.oneCell']) (by omega) (by decide) hBB ?_; intro v3 wC hP3 hg3 hb3; have hXC := hXB.grown hP3 hg3; have g13 := hXC.c13; have q13 := hXC.fr 13; obtain ⟨a3, c3, rfl⟩ := own_any' (Pool.hd hP3))
          go_ret
          have hXD := hXC.put13 (.slice a3 (us.length + 1) c3)
          have hTC : TK K w0 wC := hTA.trans (TK.own hg3 hXB.pool.head rfl)
          have hTD := hTC.trans (TK.put hXC.box 13 (.slice a3 (us.length + 1) c3))
          have hlr := HST.out.len
          refine ⟨nodes.length, nodes ++ [f], rows ++ [newRow], rfl, List.getElem?_concat_length .., .inr ⟨hmem, rfl, rfl⟩, ⟨.slice a1 (nodes.length + 1) c1, .slice a2 (rows.length + 1) c2, .slice a3 (us.length + 1) c3, _, nm + 1, ?_, by rw [List.length_append]; simp; omega, HKP.out, HST.out.push hf hmem⟩, hTD⟩
          have hp9 := hXD.perm (pl' := [_, _, _]) (List.reverse_perm [_, _, _]).symm
          have e1 : slS (.slice a1 (nodes.length + 1) c1) (nodes ++ [f]) = ⟨217, 12, .slice a1 (nodes.length + 1) c1, nodes.length + 1, setCells nodes ++ (pcells f).toList⟩ := by unfold slS; rw [setCells_push, List.length_append]; rfl
          have e2 : slX (.slice a2 (rows.length + 1) c2) (rows ++ [newRow]) = ⟨135, 6, .slice a2 (rows.length + 1) c2, rows.length + 1, rowCells rows ++ newRow.map (Value.int .i64)⟩ := by unfold slX; rw [rowCells_push, List.length_append]; rfl
          have e3 : slU (.slice a3 (us.length + 1) c3) ((nodes ++ [f]).map (badM t)) = ⟨4, 1, .slice a3 (us.length + 1) c3, us.length + 1, us.map Value.bool ++ [Value.bool bd]⟩ := by unfold slU; rw [List.map_append, HUE.out, List.length_append, List.map_append]; simp [HBD.out]
          show SafY t K _ _ _ [slS _ _, slX _ _, slU _ _] _ _ _
          rw [e1, e2, e3]
          exact hp9
def AfterEndK (t : Task) (K : SK) (w0 : World) (nodes : List Sets) (g : Sets) (e : Ending) (w' : World) : Prop :=
  ∃ (k : Nat) (nodes' : List Sets) (rows' : List (List Int)), e = .returned (.int .i64 (k : Int)) ∧ nodes'[k]? = some g ∧ nodes <+: nodes' ∧ nodes'.length ≤ nodes.length + 1 ∧ (∀ f ∈ nodes', f ∈ nodes ∨ f = g) ∧ SafAt t K nodes' rows' w' ∧ TK K w0 w'
theorem after_k (t : Task) (K : SK) (f : Sets) (n l : Nat) (nodes : List Sets) (rows : List (List Int)) (w0 w : World) (hs : sysValid t.sys = true) (hp : autoValid t.prop = true) (hn : nodes[n]? = some f) (hl : l < 6) (hlen : nodes.length ≤ 100000000) (hO : ∀ w', TK K w0 w' → SafO t K w') (hDeb : ∀ w', TK K w0 w' → Deb w') (ht : TK K w0 w) (hS : SafAt t K nodes rows w) :
    Calls Tryz.prog 166 #[.pointer (some ⟨K.B, 0, none⟩), .int .i64 (n : Int), .int .i64 (l : Int)] w (AfterEndK t K w0 nodes (afterM t f (l : Nat))) := by
  have HO := Lib.hid hO
  have HDb := Lib.hid hDeb
  have HS := Lib.hid hS
  obtain ⟨vs, vx, vu, D, nm, hX, hnm, hKM, hst⟩ := hS
  have HST := Lib.hid hst
  have hf := hst.within f (List.mem_of_getElem? hn)
  have hnl := (List.getElem?_eq_some_iff.1 hn).1
  obtain ⟨r, hr⟩ : ∃ r, rows[n]? = some r := ⟨_, List.getElem?_eq_getElem (by rw [hst.len]; exact hnl)⟩
  have hr6 := hst.six r (List.mem_of_getElem? hr)
  obtain ⟨x, hx⟩ : ∃ x, r[l]? = some x := ⟨_, List.getElem?_eq_getElem (by omega)⟩
  obtain ⟨gX, cX, rfl, hcx⟩ := own_at hX.pX (rowCells_at hst.six hr hx)
  have d12 := hX.c12
  have hrow := hst.row n f r hn hr l x hx
  have hnr : (n : Int) < (rows.length : Int) := by have := hst.len; omega
  have hl6 : (l : Int) < 6 := by omega
  have HN := Lib.hid hn
  clear hO hDeb hKM hst hn hx
  rcases hrow with rfl | ⟨k, rfl, hk⟩
  case inr =>
    have hfin : AfterEndK t K w0 nodes (afterM t f (l : Nat)) (.returned (.int .i64 (k : Int))) w := ⟨k, nodes, rows, rfl, hk, List.prefix_refl _, Nat.le_succ _, fun g hg => .inl hg, HS.out, ht⟩
    have HF := Lib.hid hfin
    clear hfin hk hr
    go_enter Tryz.func166, Tryz.ntmps166
    go_wp2_with fail
    go_ret
    exact HF.out
  obtain ⟨gS, cS, rfl, -⟩ := own_at hX.pS (setCells_at HN.out (p := 0) (by omega))
  have hcs : ∀ p, p < 12 → w.cell? ⟨gS, n * 12 + p, none⟩ = some (.int .u16 (f p : Int)) := fun p hp => own_cell hX.pS (setCells_at HN.out hp)
  have s0 := hcs 0 (by omega); have s1 := hcs 1 (by omega); have s2 := hcs 2 (by omega); have s3 := hcs 3 (by omega); have s4 := hcs 4 (by omega); have s5 := hcs 5 (by omega); have s6 := hcs 6 (by omega); have s7 := hcs 7 (by omega); have s8 := hcs 8 (by omega); have s9 := hcs 9 (by omega); have s10 := hcs 10 (by omega); have s11 := hcs 11 (by omega)
  rw [Nat.add_zero] at s0
  have d10 := hX.c10
  have hnn : (n : Int) < (nodes.length : Int) := by omega
  have HM := Lib.hid (move_c K.B l t f w (hX.read (HO.out w ht)) hs hp hf hl (HDb.out w ht))
  have HC := Lib.hid (fun w' (h : Ext w w') => close_c K.B t (moveM t f (l : Nat)) w' ((hX.ext h).read (HO.out _ (ht.trans (TK.ext h)))) hs hp (move_within hs hp hf _) (HDb.out _ (ht.trans (TK.ext h))))
  have HA := Lib.hid (fun w' (h : Ext w w') => add_k t K (afterM t f (l : Nat)) nodes rows w0 w' hs hp (afterM_within hs hp hf _) hlen (Nat.le_of_lt (hX.ext h).box.lt) HO.out (ht.trans (TK.ext h)) (HS.out.ext h))
  unfold afterM at HA
  clear hcs hr hX
  go_enter Tryz.func166, Tryz.ntmps166
  go_wp2_with fail
  refine HM.out.mono ?_
  rintro e w1 ⟨rfl, he1⟩
  go_wp2_with fail
  refine (HC.out w1 he1).mono ?_
  rintro e w2 ⟨rfl, he2⟩
  go_wp2_with fail
  refine (HA.out w2 (he1.trans he2)).mono ?_
  rintro e w3 ⟨k, nodes', rows', rfl, hk, hcase, hS3, ht3⟩
  clear d12 hcx d10 HM HC HA he1 he2 s0 s1 s2 s3 s4 s5 s6 s7 s8 s9 s10 s11
  have hpre : nodes <+: nodes' := by
    rcases hcase with ⟨-, rfl, -⟩ | ⟨-, rfl, -⟩
    · exact List.prefix_refl _
    · exact List.prefix_append _ _
  have hle : nodes'.length ≤ nodes.length + 1 := by
    rcases hcase with ⟨-, rfl, -⟩ | ⟨-, rfl, -⟩
    · omega
    · simp
  have hmem : ∀ g ∈ nodes', g ∈ nodes ∨ g = closeM t (moveM t f (l : Nat)) := by
    rcases hcase with ⟨-, rfl, -⟩ | ⟨-, rfl, -⟩
    · exact fun g hg => .inl hg
    · intro g hg; simpa using hg
  obtain ⟨vs, vx, vu, D, nm, hX, hnm, hKM, hst⟩ := hS3
  have hn' := prefix_get hpre HN.out
  have hnl' := (List.getElem?_eq_some_iff.1 hn').1
  obtain ⟨r, hr⟩ : ∃ r, rows'[n]? = some r := ⟨_, List.getElem?_eq_getElem (by rw [hst.len]; exact hnl')⟩
  have hr6 := hst.six r (List.mem_of_getElem? hr)
  obtain ⟨x, hx⟩ : ∃ x, r[l]? = some x := ⟨_, List.getElem?_eq_getElem (by omega)⟩
  obtain ⟨gX, cX, rfl, hcx⟩ := own_at hX.pX (rowCells_at hst.six hr hx)
  have d12 := hX.c12
  have hfx := World.ownsRow.frozenAt hX.pX (n * 6 + l)
  have hnr' : (n : Int) < (rows'.length : Int) := by have := hst.len; omega
  have hX9 := hX.row hst.six hr hl (k : Int) rfl
  have hst9 := hst.put (l := l) hn' hr hk
  have hgK : gX ≠ K.B := own_ne_blk hX.pX hX.box (show 213 ≠ 135 by decide)
  have hT9 := ht3.trans (TK.cell hX.pX rfl rfl (n * 6 + l) (.int .i64 (k : Int)))
  have hfin : ∀ w9, w9 = w3.setCell ⟨gX, n * 6 + l, none⟩ (.int .i64 (k : Int)) → AfterEndK t K w0 nodes (closeM t (moveM t f (l : Nat))) (.returned (.int .i64 (k : Int))) w9 := fun w9 e => by
    subst e
    exact ⟨k, nodes', _, rfl, hk, hpre, hle, hmem, ⟨_, _, _, _, _, hX9, hnm, hKM, hst9⟩, hT9⟩
  have HF := Lib.hid hfin
  clear hfin hX9 hst9 hT9 hpre hle hmem hcase hk hr hx hn' hKM hst hX
  go_wp2_with fail
  go_ret
  exact HF.out _ rfl
end Go.Proofs.YtanekmfifmkbmaaGreatDoor

namespace Go.Proofs.YtanekmfifmkbmaaGreatDoor
open Go.RowKit Go.Maps
set_option linter.unusedVariables false
set_option linter.unusedSectionVars false
set_option linter.unusedSimpArgs false
set_option maxHeartbeats 4000000
set_option maxRecDepth 100000

section
variable {α : Type} [DecidableEq α] {R R' : Int → α → Prop}
end

def NoCells (w : World) (b : Nat) : Prop := ∀ cs T z, w.heap[b]? ≠ some (.cells cs T z)
theorem map_nc {P : Program} {k : TypeId} {R : Value → Option (DataW Unit × List MemPlace)} {b n : Nat} {D : DataW Unit} {w : World} (hm : w.ownsMap P k R b n D) : NoCells w b := fun cs T z e => by
  obtain ⟨es, clock, h1, -⟩ := hm
  rw [h1] at e; cases e
theorem out_nc {w : World} {b : Nat} (h : w.heap.size ≤ b) : NoCells w b := fun cs T z e => by
  have := (Array.getElem?_eq_some_iff.1 e).1
  omega
theorem Touch.keptN {E : TypeId → Bool} {m lo base : Nat} {w w' : World} {e : TypeId} {sz n : Nat} {v : Value} {xs : List Value} (h : Touch E m lo w w') (ho : w.ownsRow base e sz v n xs) (hE : E e = false) (hm : NoCells w m) : w'.ownsRow base e sz v n xs :=
  Tnd.own h ho fun g hg hS => by
    obtain ⟨h1, cs, h2⟩ := own_tag ho hg
    rcases hS with hS | ⟨-, cs', T, z, e', hT⟩
    · subst hS; exact hm _ _ _ h2
    · rw [h2] at e'
      cases e'
      rw [hE] at hT; cases hT
end Go.Proofs.YtanekmfifmkbmaaGreatDoor
