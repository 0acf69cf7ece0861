/- Walks: systems that run together: their moves, how many states together, what a letter leads to. -/
import Derived.Test.YtajafdblmphglaaGreatDoorWalkV
import Derived.Test.YtajafdblmphglaaGreatDoorWalkR
import Derived.Test.YtajafdblmphglaaGreatDoorWalkP
import Derived.Test.YtajafdblmphglaaGreatDoorPlain7
import Derived.Deep.Upon
import Derived.Maps.AppendAt
import Derived.Deep.DeepCutAuto
namespace Go.Proofs.YtajafdblmphglaaGreatDoor
set_option linter.unusedSimpArgs false
set_option linter.unusedVariables false
open Go.RowKit

set_option maxHeartbeats 1000000
set_option maxRecDepth 100000

section
variable {P : Program} {ops : Array Oper} {rest : List Oper} {o : Oper} {a : Act} {Q : Exit → Act → World → Prop}
/-- 'append(s, x...)': s is owned; x reads as a list of ints (nil too). -/
theorem appInts {wr : World} {s x : Operand} {t e : TypeId} {base bytes : Nat} {vx v : Value} {l m : List Int} (hgd : o.guard = none)
    (ho : o.op = .call { callee := .builtin .append, args := #[s, x], argTypes := #[t, t] })
    (ht : P.underlying t = some (.slice e)) (hinfo : (P.info? e).map (fun i => (i.zero, i.size, i.bytes)) = some (some (.int .i64 0), 1, bytes))
    (hown : IntsOwn e base wr v l) (hs : a.eval s = v) (hx : a.eval x = vx) (hvx : IntsV wr vx m) (hn : l.length + m.length ≤ 4294967296) (hb : bytes ≤ 1024) (hbase : base ≤ wr.heap.size)
    (h : ∀ v' w', IntsOwn e base w' v' (l ++ m) → wr.grownBy w' v.ownBlock → (v'.ownBlock = v.ownBlock ∨ v'.ownBlock = some wr.heap.size) → wpList P ops Q rest (a.put o.dst v') w') :
    wpList P ops Q (o :: rest) a wr := by
  obtain ⟨ao, c, rfl, hle, -⟩ := hvx.open
  cases ao with
  | some ad =>
    obtain ⟨i, hi, hz, hsize, hby⟩ := info_parts hinfo
    refine wpList_append_own_at _ hgd s x t ho base e i _ 1 bytes ht hi hz hsize hby rfl (by decide) v l.length _ hs hown.own ad m.length c (m.map (Value.int .i64)) hx (by simp) hvx.cells (by intro u hu; obtain ⟨b, _, rfl⟩ := List.mem_map.1 hu; rfl) (by unfold maxLen; omega) ?_ hbase ?_
    · have := Nat.mul_le_mul hn hb; omega
    · intro v' w' h1 h2 _ h4
      exact h v' w' (by unfold IntsOwn; rw [List.length_append, List.map_append]; exact h1) h2 h4
  | none =>
    have hnil := SlV.nil_of_none hvx
    subst hnil
    obtain ⟨i, hi, hz, hsize, hby⟩ := info_parts hinfo
    obtain ⟨ab, cc, rfl⟩ := hown.shape
    have hcap : l.length ≤ cc := by
      rcases own_shape hown with ⟨he, h0⟩ | ⟨g, cap, he, _, _, h1, _⟩
      · simp at he; omega
      · simp at he; omega
    have hr := run_append_nothing (P := P) wr t t o.type e i ht hi ab l.length cc hcap (.slice none 0 c) (Src.ofNil wr ht c)
    have hx' : a.eval x = .slice none 0 c := hx
    refine wpList_plain hgd fun K hK => ?_
    unfold Oper.wp execOp
    simp only [ho, resolve, invoke, builtin, Sem.run_bind, Sem.run_pure, Result.andThen_ok, List.map_toArray, List.map_cons, List.map_nil, hs, hx', hr]
    refine hK _ _ (h _ _ ?_ (World.grownBy.refl _ _) (.inl rfl))
    rw [List.append_nil]; exact hown
end

def PtrAt (w : World) (b o : Nat) (s : Sys) : Prop := ∃ p, w.cell? ⟨b, o, none⟩ = some p ∧ MovesV w p s
abbrev MovessV := SlV PtrAt 1
theorem PtrAt.mono {w w' : World} (h : Ext w w') {b o : Nat} {s : Sys} (k : PtrAt w b o s) : PtrAt w' b o s := let ⟨p, h1, h2⟩ := k; ⟨p, h.cell h1, h2.mono h⟩
theorem MovessV.mono {w w' : World} (h : Ext w w') {v : Value} {l : List Sys} (k : MovessV w v l) : MovessV w' v l := SlV.mono k (fun _ _ _ _ => PtrAt.mono h) h.size
def PartsV (w : World) (v : Value) (l : List Sys) : Prop := ∃ vs vm, v = .agg #[vs, vm] ∧ SyssV w vs l ∧ MovessV w vm l
theorem PartsV.mono {w w' : World} (h : Ext w w') {v : Value} {l : List Sys} (k : PartsV w v l) : PartsV w' v l := let ⟨vs, vm, e, h1, h2⟩ := k; ⟨vs, vm, e, h1.mono h, h2.mono h⟩

theorem infoMoves : (Tryz.prog.info? 93).map (fun i => (i.zero, i.size, i.bytes)) = some (some (.pointer none), 1, 8) := by kernel_rfl

/-- The moves of the first k systems. -/
structure MvsTo (base : Nat) (w : World) (v : Value) (l : List Sys) (k : Nat) (ps : List Value) : Prop where
  own : w.ownsRow base 93 1 v k ps
  each : ∀ j s, j < k → l[j]? = some s → ∃ p, ps[j]? = some p ∧ MovesV w p s
theorem MvsTo.ext {base : Nat} {w w' : World} {v : Value} {l : List Sys} {k : Nat} {ps : List Value} (h : MvsTo base w v l k ps) (he : Ext w w') : MvsTo base w' v l k ps :=
  ⟨own_ext h.own he, fun j s hj hs => let ⟨p, h1, h2⟩ := h.each j s hj hs; ⟨p, h1, h2.mono he⟩⟩
theorem MovesV.grown {w w' : World} {base' : Nat} {e' : TypeId} {size' n' : Nat} {u p : Value} {us : List Value} {s : Sys} (h : MovesV w p s) (hu : w.ownsRow base' e' size' u n' us) (hg : w.grownBy w' u.ownBlock) (hne : 214 ≠ e') : MovesV w' p s :=
  let ⟨b, cs, e, h1⟩ := h; ⟨b, cs, e, h1.blk.grown hu hg hne, h1.size, h1.cell⟩
theorem MovesV.other {w : World} {g : Nat} {cs' : Array Value} {T : TypeId} {p : Value} {s : Sys} (h : MovesV w p s) (hG : Blk w g cs' T) (hne : 214 ≠ T) (j : Nat) (u : Value) : MovesV (w.setCell ⟨g, j, none⟩ u) p s :=
  let ⟨b, cs, e, h1⟩ := h; ⟨b, cs, e, h1.blk.other (p := ⟨g, j, none⟩) (fun he => by
    simp only at he; subst he
    have h2 : w.heap[b]? = _ := h1.blk
    have h3 : w.heap[b]? = _ := hG
    rw [h2] at h3; cases h3; exact hne rfl) u, h1.size, h1.cell⟩
theorem MvsTo.movess {base : Nat} {w : World} {v : Value} {l : List Sys} {ps : List Value} (h : MvsTo base w v l l.length ps) : MovessV w v l :=
  SlV_of_own h.own fun g cap hv i s hs => by
    obtain ⟨p, h1, h2⟩ := h.each i s (List.getElem?_eq_some_iff.1 hs).1 hs
    subst hv
    rw [Nat.mul_one]
    exact ⟨p, own_cell h.own h1, h2⟩

theorem MvsTo.store {base : Nat} {w : World} {v : Value} {l : List Sys} {k : Nat} {ps : List Value} (h : MvsTo base w v l k ps) {g : Nat} {cs : Array Value} {T : TypeId} (hG : Blk w g cs T) (h1 : 93 ≠ T) (h2 : 214 ≠ T) (j : Nat) (u : Value) : MvsTo base (w.setCell ⟨g, j, none⟩ u) v l k ps :=
  ⟨own_store h.own hG h1.symm j u, fun i s hi hs => let ⟨p, h3, h4⟩ := h.each i s hi hs; ⟨p, h3, h4.other hG h2 j u⟩⟩

theorem newParts_o (v : Value) (l : List Sys) (w : World) (hv : SyssV w v l) (hl : l.length ≤ 1048576) (hs : ∀ s ∈ l, sysValid s = true) :
    Calls Tryz.prog 174 #[v] w (Gives (fun v' w' => ∃ vm ps, v' = .agg #[v, vm] ∧ MvsTo w.heap.size w' vm l l.length ps) w) := by
  have hv' := hv
  obtain ⟨a, c, rfl, h1, h2⟩ := hv.open
  obtain ⟨wo, hwo⟩ : ∃ wo, wo = (w.alloc (.cells #[.slice none 0 0, .slice none 0 0] 196)).alloc (.cells #[.slice a l.length c, .slice none 0 0] 196) := ⟨_, rfl⟩
  have he : Ext w wo := by rw [hwo]; exact (Ext.alloc _ _).trans (Ext.alloc _ _)
  have hR : Blk wo w.heap.size #[.slice none 0 0, .slice none 0 0] 196 := by rw [hwo]; exact (Blk.new _ _ _).ext (Ext.alloc _ _)
  have hG : Blk wo (w.heap.size + 1) #[.slice a l.length c, .slice none 0 0] 196 := by rw [hwo]; have := Blk.new (w.alloc (.cells #[.slice none 0 0, .slice none 0 0] 196)) #[.slice a l.length c, .slice none 0 0] 196; rwa [World.size_alloc] at this
  go_enter Tryz.func174, Tryz.ntmps174
  go_wp2_with fail
  rw [← hwo]
  clear hwo
  go_loopw [10] (fun i wr => ∃ (k : Nat) (vM : Value), k ≤ l.length ∧ i = .int .i64 k ∧ Blk wr (w.heap.size + 1) #[.slice a l.length c, vM] 196 ∧ Blk wr w.heap.size #[.slice none 0 0, .slice none 0 0] 196 ∧ (∃ ps, MvsTo w.heap.size wr vM l k ps) ∧ Ext w wr) (fun i _ => l.length - (intOf i).toNat)
  case atStart => exact ⟨0, .slice none 0 0, by omega, rfl, hG, hR, ⟨[], World.ownsRow_nil _ _ _ _, fun j s hj => by omega⟩, he⟩
  case round =>
    clear hG hR he
    obtain ⟨k, vM, hk, rfl, hG, hR, ⟨ps, hM⟩, hext⟩ := hrel
    by_cases hlt : k < l.length
    · obtain ⟨x, hx⟩ : ∃ x, l[k]? = some x := ⟨_, List.getElem?_eq_getElem hlt⟩
      obtain ⟨b, off, rfl, -, hc⟩ := h2 k x hx
      obtain ⟨ve, g1, g2, g3, hve⟩ := (hc k x hx).mono hext
      obtain ⟨va, vc, rfl, -, -⟩ := hve.open
      have hsx := hs x (List.mem_of_getElem? hx)
      have HX := Lib.hid hx
      obtain ⟨aM, cM, rfl⟩ := own_any' hM.own
      clear hc hx h2
      go_wp2_with fail
      obtain ⟨wo2, hwo2⟩ : ∃ wo2, wo2 = wr.alloc (.cells #[.int .i64 x.alphabet, .int .i64 x.states, .slice va x.edges.length vc] 25) := ⟨_, rfl⟩
      have hx2 : Ext wr wo2 := by rw [hwo2]; exact Ext.alloc _ _
      have hT : Blk wo2 wr.heap.size #[.int .i64 x.alphabet, .int .i64 x.states, .slice va x.edges.length vc] 25 := by rw [hwo2]; exact Blk.new _ _ _
      rw [← hwo2]
      clear hwo2 g1 g2 g3
      have hve2 := hve.mono hx2
      have D1 := fun d os => cell_regrown (hT.cell 0 rfl) d os
      have D2 := fun d os => cell_regrown (hT.cell 1 rfl) d os
      have D3 := fun d os => cell_regrown (hT.cell 2 rfl) d os
      have D0 := fun d os => cell_regrown ((hG.ext hx2).cell 1 rfl) d os
      obtain ⟨Kc, HKc⟩ : ∃ Kc : FuncId → Array Value → World → Value → World → Prop, Hid (Kc = fun (_ : FuncId) (args : Array Value) (w0 : World) (v : Value) (w' : World) => Ext w0 w' ∧ MovesV w' v x) := ⟨_, rfl⟩
      refine wp_region_ext (Kc := Kc) 5 (by kernel_rfl) (by kernel_rfl) ?_
      simp only [List.take_succ_cons, List.take_zero]
      repeat (refine WalkE.pure rfl (fun K hK => ?_); simp only [PureDo]; go_simp; refine hK _ ?_; clear hK K)
      refine WalkE.step (fun K hK wc hwc hdc => ?_)
      simp only [OpDo, OpSafe, OpOut]
      go_simp
      refine ⟨(movesOf_c _ x _ ⟨_, rfl, hve2.mono ((Ext.drew _).trans hwc)⟩ hsx).mono ?_, ?_⟩
      · rintro e w' ⟨v, rfl, he, hv⟩
        exact ⟨v, rfl, by rw [HKc.out]; exact ⟨he, hv⟩⟩
      intro u w4 hk4
      rw [HKc.out] at hk4
      refine ⟨hk4.1, hK _ _ ?_⟩
      clear hK K hdc
      obtain ⟨hk1, bm, cm, rfl, hmv⟩ := hk4
      repeat (refine WalkE.pure rfl (fun K hK => ?_); simp only [PureDo]; go_simp; refine hK _ ?_; clear hK K)
      refine WalkE.step (fun K hK wd hwd hdd => ?_)
      simp only [OpDo, OpSafe, OpOut]
      go_simp
      refine ⟨Ext.alloc _ _, hK _ _ ?_⟩
      clear hK K hdd
      refine WalkE.nil (fun wn hwn hmn => ?_)
      simp only [List.drop_succ_cons, List.drop_zero, List.drop_nil]
      have hx3 : Ext wr wn := hx2.trans ((Ext.drew _).trans hwn)
      have hM2 := hM.ext hx3
      have hG2 := hG.ext hx3
      have hR2 := hR.ext hx3
      have hext2 := hext.trans hx3
      have hsz := hext2.size
      have hmv2 := hmv.ext (hmn 3 (by omega))
      have hq : wn.cell? ⟨wd.heap.size, 0, none⟩ = some (.pointer (some ⟨bm, 0, none⟩)) := (hmn 4 (by omega)).new 0 rfl
      have hcell : ∀ (j : Nat) (u : Value), [Value.pointer (some ⟨bm, 0, none⟩)][j]? = some u → wn.cell? ((⟨wd.heap.size, 0, none⟩ : Addr).add j) = some u := fun j u hu => by
        rw [add_none]
        cases j with
        | zero => simp at hu; subst hu; exact hq
        | succ j => simp at hu
      clear hmn HKc D0 D1 D2 D3 hM hG hR hext hwn hwc hwd hq hve hve2 hT hx2 hmv hk1
      generalize wd.heap.size = q at hcell ⊢
      clear wd wc w4
      go_wp2_with (at_builtin; refine appN (news := [Value.pointer (some ⟨bm, 0, none⟩)]) rfl rfl Tryz.underlying194 infoMoves rfl (by decide) hM2.own rfl rfl (by simp) hcell (by simp [Value.oneCell']) (by omega) (by decide) hsz ?_; intro v1 w1 hown1 hgr1 hbl1; obtain ⟨a1, c1, rfl⟩ := own_any' hown1; have hG3 := hG2.grown hM2.own hgr1 (by decide); have gc1 := hG3.cell 1 rfl; have gf1 := hG3.fr 1)
      refine ⟨⟨k + 1, _, by omega, by go_num, hG3.set 1 _, (hR2.grown hM2.own hgr1 (by decide)).other (p := ⟨w.heap.size + 1, 1, none⟩) (by simp only []; omega) _, ⟨ps ++ [.pointer (some ⟨bm, 0, none⟩)], own_store hown1 hG3 (by decide) 1 _, fun j s hj hs => ?_⟩, (Below.trans hext2 hbl1).setCell (p := ⟨w.heap.size + 1, 1, none⟩) (by simp only []; omega) _⟩, by simp [intOf]; omega⟩
      have hpl := hM2.own.1
      by_cases hjk : j = k
      · subst hjk
        rw [HX.out] at hs; cases hs
        have hmv3 : MovesV wn (.pointer (some ⟨bm, 0, none⟩)) x := ⟨bm, cm, rfl, hmv2⟩
        exact ⟨_, by rw [List.getElem?_append_right (by omega)]; simp [hpl], (hmv3.grown hM2.own hgr1 (by decide)).other hG3 (by decide) 1 _⟩
      · obtain ⟨p, hp1, hp2⟩ := hM2.each j s (by omega) hs
        exact ⟨p, by rw [List.getElem?_append_left (by have := (List.getElem?_eq_some_iff.1 hp1).1; exact this)]; exact hp1, (hp2.grown hM2.own hgr1 (by decide)).other hG3 (by decide) 1 _⟩
    · obtain rfl : k = l.length := by omega
      obtain ⟨aM, cM, rfl⟩ := own_any' hM.own
      have c0 := hG.cell 0 rfl
      have c1 := hG.cell 1 rfl
      have rc0 := hR.cell 0 rfl; have rf0 := hR.fr 0; have rc1 := hR.cell 1 rfl; have rf1 := hR.fr 1
      go_wp2_with fail
      refine bodyPost_ret (v := .agg #[.slice a l.length c, .slice aM l.length cM]) (by simp [results, Tryz.results174, go_sem, rc0, rc1, rf0, rf1]) rfl ?_
      have hR1 := hR.set 0 (.slice a l.length c)
      have he : Ext w ((wr.setCell ⟨w.heap.size, 0, none⟩ (.slice a l.length c)).setCell ⟨w.heap.size, 1, none⟩ (.slice aM l.length cM)) := ((hext.setCell (p := ⟨w.heap.size, 0, none⟩) (by simp only []; omega) _).setCell (p := ⟨w.heap.size, 1, none⟩) (by simp only []; omega) _)
      exact ⟨_, rfl, he, _, ps, rfl, (hM.store hR (by decide) (by decide) 0 _).store hR1 (by decide) (by decide) 1 _⟩
theorem newParts_c (v : Value) (l : List Sys) (w : World) (hv : SyssV w v l) (hl : l.length ≤ 1048576) (hs : ∀ s ∈ l, sysValid s = true) :
    Calls Tryz.prog 174 #[v] w (Gives (fun v w' => PartsV w' v l) w) :=
  (newParts_o v l w hv hl hs).mono fun _ _ ⟨v', h1, h2, vm, ps, h3, h4⟩ => ⟨v', h1, h2, _, vm, h3, hv.mono h2, h4.movess⟩

theorem part_prod_succ {l : List Sys} {k : Nat} {s : Sys} (h : l[k]? = some s) : ((l.take (k + 1)).map fun s => s.states.toNat).prod = ((l.take k).map fun s => s.states.toNat).prod * s.states.toNat := by
  rw [List.take_add_one, h, List.map_append, List.prod_append]; simp
theorem part_prod_le {l : List Sys} (h : ∀ s ∈ l, sysValid s = true) : (l.map fun s => s.states.toNat).prod ≤ 16 ^ l.length := by
  induction l with
  | nil => simp
  | cons s l ih =>
    have h1 := ih fun t ht => h t (by simp [ht])
    have h2 := valid_alpha (h s (by simp))
    simp only [List.map_cons, List.prod_cons, List.length_cons, Nat.pow_succ]
    rw [Nat.mul_comm (16 ^ l.length)]
    exact Nat.mul_le_mul (by omega) h1

theorem size_c (v : Value) (l : List Sys) (w : World) (hv : PartsV w v l) (hp : areParts l = true) :
    Calls Tryz.prog 179 #[v] w (Grows (.int .i64 ((partSizes l).prod : Nat)) w) := by
  obtain ⟨vs, vm, rfl, hv1, hv2⟩ := hv
  obtain ⟨a, c, rfl, h1, h2⟩ := hv1.open
  obtain ⟨am, cm, rfl, -, -⟩ := hv2.open
  simp only [areParts, Bool.and_eq_true, decide_eq_true_eq, List.all_eq_true] at hp
  obtain ⟨⟨p1, p2⟩, p3⟩ := hp
  have P3 := Lib.hid p3
  clear p3 hv1 hv2
  go_enter Tryz.func179, Tryz.ntmps179
  go_wp2_with fail
  go_loopw [3, 9] (fun o i wr => ∃ k : Nat, k ≤ l.length ∧ i = .int .i64 k ∧ o = .int .i64 ((partSizes (l.take k)).prod : Nat) ∧ Ext w wr) (fun _ i _ => l.length - (intOf i).toNat)
  case atStart => exact ⟨0, by omega, rfl, by simp [partSizes], Ext.alloc _ _⟩
  case round =>
    obtain ⟨k, hk, rfl, rfl, hext⟩ := hrel
    by_cases hlt : k < l.length
    · obtain ⟨x, hx⟩ : ∃ x, l[k]? = some x := ⟨_, List.getElem?_eq_getElem hlt⟩
      obtain ⟨b, off, rfl, -, hc⟩ := h2 k x hx
      obtain ⟨ve, g1, g2, g3, hve⟩ := (hc k x hx).mono hext
      obtain ⟨va, vc, rfl, -, -⟩ := hve.open
      have HX := Lib.hid (part_prod_succ hx)
      have hal := valid_alpha (P3.out x (List.mem_of_getElem? hx))
      have hpr : (partSizes (l.take k)).prod ≤ 4096 := by
        have h3 := part_prod_le (l := l.take k) fun s hs => P3.out s (List.mem_of_mem_take hs)
        have h4 : 16 ^ (l.take k).length ≤ 16 ^ 3 := Nat.pow_le_pow_right (by omega) (by rw [List.length_take]; omega)
        exact Nat.le_trans h3 h4
      obtain ⟨n, hn⟩ := Int.eq_ofNat_of_zero_le (show 0 ≤ x.states by omega)
      rw [hn] at g2
      have hn16 : n ≤ 16 := by omega
      have HN := Lib.hid hn
      generalize hP : (partSizes (l.take k)).prod = pr at hpr ⊢
      have HP := Lib.hid hP
      have hmul : pr * n ≤ 4096 * 16 := Nat.mul_le_mul hpr hn16
      have hcast : ((pr * n : Nat) : Int) = (pr : Int) * (n : Int) := by simp
      have hb1 : 0 ≤ (pr : Int) * (n : Int) := by rw [← hcast]; omega
      have hb2 : (pr : Int) * (n : Int) ≤ 65536 := by rw [← hcast]; omega
      have HC := Lib.hid hcast
      clear hc hx h2 hn hP hcast hal
      go_wp2_with fail
      refine ⟨⟨k + 1, by omega, by go_num, ?_, hext.trans (Ext.alloc _ _)⟩, by simp [intOf]; omega⟩
      have e : (partSizes (l.take (k + 1))).prod = pr * n := by unfold partSizes at HP ⊢; rw [HX.out, HP.out, HN.out, Int.toNat_natCast]
      rw [e, HC.out]
    · obtain rfl : k = l.length := by omega
      go_wp2_with fail
      go_ret
      exact Grows.mk (by rw [List.take_length]; rfl) hext

theorem sysBits_lt {s : Sys} (h : sysValid s = true) {q : Nat} (hq : q < 16) (l : Int) : ∀ c ∈ sysBits s q l, c < 16 := by
  intro c hc
  unfold sysBits at hc
  by_cases hb : bit s.alphabet l = true
  · rw [if_pos hb] at hc; exact ((bitsOf_mem _ _).1 hc).1
  · rw [if_neg hb] at hc; simp at hc; omega
theorem sysBits_len (s : Sys) (q : Nat) (l : Int) : (sysBits s q l).length ≤ 16 := by
  unfold sysBits
  by_cases hb : bit s.alphabet l = true
  · rw [if_pos hb]; exact bitsOf_len _
  · rw [if_neg hb]; simp
/-- What is new by the first j choices. -/
def moreTo (ch R : List Nat) (ww j : Nat) : List Nat := (ch.take j).flatMap fun q => R.map fun r => q * ww + r
theorem moreTo_succ {ch R : List Nat} {ww j q : Nat} (h : ch[j]? = some q) : moreTo ch R ww (j + 1) = moreTo ch R ww j ++ R.map fun r => q * ww + r := by
  unfold moreTo; rw [List.take_add_one, h, List.flatMap_append]; simp
theorem moreTo_len (ch R : List Nat) (ww j : Nat) : (moreTo ch R ww j).length ≤ ch.length * R.length := by
  unfold moreTo
  rw [List.length_flatMap]
  simp only [List.length_map]
  have : ∀ m : List Nat, (m.map fun _ => R.length).sum = m.length * R.length := by
    intro m; induction m with
    | nil => simp
    | cons a m ih => simp [ih, Nat.add_mul]; omega
  rw [this]
  exact Nat.mul_le_mul_right _ (by rw [List.length_take]; omega)
theorem moreTo_full (ch R : List Nat) (ww : Nat) : moreTo ch R ww ch.length = ch.flatMap fun q => R.map fun r => q * ww + r := by unfold moreTo; rw [List.take_length]
theorem take_rev_succ {l : List Sys} {j : Nat} {x : Sys} (h : l[j]? = some x) : (l.take (j + 1)).reverse = x :: (l.take j).reverse := by
  rw [List.take_add_one, h, List.reverse_append]; rfl

/-- The end of a call that appends to a list of its caller's. -/
def Appends (base : Nat) (vo : Value) (l : List Int) (w : World) (e : Ending) (w' : World) : Prop := ∃ v, e = .returned v ∧ IntsOwn 3 base w' v l ∧ Tnd (SlB vo) w w' ∧ (∀ g, v.ownBlock = some g → vo.ownBlock = some g ∨ w.heap.size ≤ g)

theorem next_c (v : Value) (l : List Sys) (node lt : Nat) (vo : Value) (out : List Int) (base : Nat) (w : World) (hv : PartsV w v l) (hp : areParts l = true) (hn : node ≤ 1099511627776) (hl : lt < 6) (hT : Deb w)
    (ho : IntsOwn 3 base w vo out) (hout : out.length + 4096 ≤ 4294967296) (hbase : base ≤ w.heap.size) :
    Calls Tryz.prog 177 #[v, .int .i64 node, .int .i64 lt, vo] w (Appends base vo (out ++ ints (partsNext l node (lt : Nat))) w) := by
  obtain ⟨vs, vm, rfl, hv1, hv2⟩ := hv
  obtain ⟨a, c, rfl, h1, h2⟩ := hv1.open
  obtain ⟨am, cm, rfl, -, hm2⟩ := hv2.open
  simp only [areParts, Bool.and_eq_true, decide_eq_true_eq, List.all_eq_true] at hp
  obtain ⟨⟨p1, p2⟩, p3⟩ := hp
  have P3 := Lib.hid p3
  have hl' : (lt : Int) < 6 := by omega
  clear p3 hv1 hv2
  obtain ⟨wo, hwo⟩ : ∃ wo, wo = (w.alloc (.cells #[.slice a l.length c, .slice am l.length cm] 196)).alloc (.cells #[.int .i64 0] 3) := ⟨_, rfl⟩
  have he : Ext w wo := by rw [hwo]; exact (Ext.alloc _ _).trans (Ext.alloc _ _)
  have hB : Blk wo w.heap.size #[.slice a l.length c, .slice am l.length cm] 196 := by rw [hwo]; exact (Blk.new _ _ _).ext (Ext.alloc _ _)
  have hR0 : IntsV wo (.slice (some ⟨w.heap.size + 1, 0, none⟩) 1 1) (ints [0]) := by
    have hc : wo.cell? ⟨w.heap.size + 1, 0, none⟩ = some (.int .i64 0) := by
      have := Blk.new (w.alloc (.cells #[.slice a l.length c, .slice am l.length cm] 196)) #[.int .i64 0] 3
      rw [World.size_alloc, ← hwo] at this
      exact this.cell 0 rfl
    refine ⟨_, 1, rfl, by simp [ints], by unfold maxLen; omega, fun _ => ⟨_, _, rfl, by rw [hwo]; simp, fun i x hx => ?_⟩⟩
    cases i with
    | zero => simp [ints] at hx; subst hx; exact hc
    | succ i => simp [ints] at hx
  have HT := Lib.hid hT
  clear hT
  go_enter Tryz.func177, Tryz.ntmps177
  go_wp2_with fail
  rw [← hwo]
  clear hwo
  go_loopw [1, 9, 10, 11] (fun nd re wt i wr => ∃ (k nn ww : Nat) (R : List Nat), k ≤ l.length ∧ i = .int .i64 ((k : Int) - 1) ∧ nd = .int .i64 nn ∧ wt = .int .i64 ww ∧ nn ≤ 1099511627776 ∧ Hid (ww ≤ 16 ^ (l.length - k) ∧ R.length ≤ 16 ^ (l.length - k) ∧ ∀ r ∈ R, r < ww) ∧ Hid (partsGo (lt : Nat) (l.take k).reverse nn ww R = partsNext l node (lt : Nat)) ∧ IntsV wr re (ints R) ∧ Ext wo wr) (fun _ _ _ i _ => (intOf i + 1).toNat)
  case atStart => exact ⟨l.length, node, 1, [0], by omega, rfl, rfl, rfl, hn, by show _ ∧ _; simp, by show _ = _; rw [List.take_length]; rfl, hR0, Ext.refl _⟩
  case round =>
    obtain ⟨k, nn, ww, R, hk, rfl, rfl, rfl, hnn, HB, HP, hR, hext⟩ := hrel
    have hB2 := hB.ext hext
    by_cases hk0 : k = 0
    · subst hk0
      have b0 := hB2.cell 0 rfl
      have hx := he.trans hext
      have ho2 := IntsOwn.ext ho hx
      have hlR : (ints R).length ≤ 4096 := by
        rw [ints_len]
        have h3 := HB.out.2.1
        have h4 : 16 ^ (l.length - 0) ≤ 16 ^ 3 := Nat.pow_le_pow_right (by omega) (by omega)
        exact Nat.le_trans h3 h4
      go_wp2_with (at_builtin; refine appInts rfl rfl Tryz.underlying81 infoInt ho2 rfl rfl hR (by omega) (by decide) (Nat.le_trans hbase hx.size) ?_; intro v1 w1 hown1 hgr1 hloc1)
      go_ret
      refine ⟨_, rfl, ?_, (Tnd.ext hx).trans (Tnd.grown hgr1 fun g hg => hg), fun g hg => ?_⟩
      rotate_left
      · rcases hloc1 with h3 | h3
        · exact .inl (h3 ▸ hg)
        · have h4 : some wr.heap.size = some g := h3.symm.trans hg
          cases h4
          exact .inr hx.size
      have := HP.out
      rw [List.take_zero, List.reverse_nil] at this
      rw [← this]
      exact hown1
    · obtain ⟨j, rfl⟩ : ∃ j, k = j + 1 := ⟨k - 1, by omega⟩
      have e1 : ((j + 1 : Nat) : Int) - 1 = (j : Int) := by omega
      rw [e1]
      have hjl : j < l.length := by omega
      have hjl' : (j : Int) < l.length := by omega
      obtain ⟨x, hx⟩ : ∃ x, l[j]? = some x := ⟨_, List.getElem?_eq_getElem hjl⟩
      obtain ⟨b, off, rfl, -, hc⟩ := h2 j x hx
      obtain ⟨ve, g1, g2, g3, hve⟩ := (hc j x hx).mono (he.trans hext)
      obtain ⟨va, vc, rfl, -, -⟩ := hve.open
      obtain ⟨bm, offm, rfl, -, hcm⟩ := hm2 j x hx
      obtain ⟨pm, gm, bb, cs, rfl, hM⟩ := (hcm j x hx).mono (he.trans hext)
      rw [Nat.mul_one] at gm
      have hsx := P3.out x (List.mem_of_getElem? hx)
      have hal := valid_alpha hsx
      have HX := Lib.hid (take_rev_succ hx)
      obtain ⟨st, hst⟩ := Int.eq_ofNat_of_zero_le (show 0 ≤ x.states by omega)
      have hst1 : 1 ≤ st := by omega
      have hst16 : st ≤ 16 := by omega
      have hst1' : 1 ≤ (st : Int) := by omega
      have hst0 : ¬ st = 0 := by omega
      have HST := Lib.hid hst
      rw [hst] at g2
      obtain ⟨q, hq⟩ : ∃ q, Hid (q = nn % st) := ⟨_, rfl⟩
      obtain ⟨d, hd⟩ : ∃ d, Hid (d = nn / st) := ⟨_, rfl⟩
      have hq16 : q < 16 := by rw [hq.out]; have := Nat.mod_lt nn (show 0 < st by omega); omega
      have hq16' : (q : Int) < 16 := by omega
      have hdn : d ≤ 1099511627776 := by rw [hd.out]; exact Nat.le_trans (Nat.div_le_self _ _) hnn
      have em : (nn : Int) % (st : Int) = (q : Int) := by rw [hq.out]; simp
      have ed : (nn : Int) / (st : Int) = (d : Int) := by rw [hd.out]; simp
      have et : Int.tmod (nn : Int) (st : Int) = (q : Int) := by rw [hq.out]; simp [Int.tmod_eq_emod_of_nonneg]
      have hww : ww ≤ 4096 := by
        have h3 := HB.out.1
        have h4 : 16 ^ (l.length - (j + 1)) ≤ 16 ^ 3 := Nat.pow_le_pow_right (by omega) (by omega)
        exact Nat.le_trans h3 h4
      have b0 := hB2.cell 0 rfl
      have b1 := hB2.cell 1 rfl
      clear hc hcm hx h2 hm2 hst e1
      obtain ⟨TO, hTO⟩ : ∃ TO, Hid (TO = sysBits x q (lt : Nat)) := ⟨_, rfl⟩
      go_upto_if 41 with (go_at_call 49; refine (has_c _ _ _ (by omega) (by omega) (by omega)).mono ?_; rintro e w' ⟨rfl, rfl⟩)
      obtain ⟨w9, hw9⟩ : ∃ w9, w9 = (wr.alloc (.cells #[.int .i64 x.alphabet, .int .i64 st, .slice va x.edges.length vc] 25)).alloc (.cells #[.int .i64 q] 3) := ⟨_, rfl⟩
      have hx9 : Ext wr w9 := by rw [hw9]; exact (Ext.alloc _ _).trans (Ext.alloc _ _)
      have hT9 : Blk w9 wr.heap.size #[.int .i64 x.alphabet, .int .i64 st, .slice va x.edges.length vc] 25 := by rw [hw9]; exact (Blk.new _ _ _).ext (Ext.alloc _ _)
      have hQ9 : Blk w9 (wr.heap.size + 1) #[.int .i64 q] 3 := by rw [hw9]; have := Blk.new (wr.alloc (.cells #[.int .i64 x.alphabet, .int .i64 st, .slice va x.edges.length vc] 25)) #[.int .i64 q] 3; rwa [World.size_alloc] at this
      rw [← hw9]
      clear hw9
      go_cut [13] (fun v13 wc => ∃ aT cT, v13 = .slice aT (ints TO).length cT ∧ IntsV wc v13 (ints TO) ∧ Ext w9 wc)
      case first =>
        by_cases hb : bit x.alphabet (lt : Nat) = true
        · have HS := Lib.hid (show sysBits x q (lt : Nat) = bitsOf (stepM x (2 ^ q) (lt : Nat)) by unfold sysBits; rw [if_pos hb])
          have hlt16 := stepM_lt hsx (2 ^ q) (lt : Nat)
          rw [hb]
          go_wp2_with fail
          have B0 := fun d os => cell_regrown ((hB2.ext hx9).cell 1 rfl) d os
          have B1 := fun d os => cell_regrown (hT9.cell 1 rfl) d os
          have B2 := fun d os => cell_regrown (hx9.cell gm) d os
          have m0 := (hM.ext hx9).get hq16 hl
          rw [mv_all] at m0
          have B3 := fun d os => cell_regrown m0 d os
          clear m0
          have hTw := Lib.hid (HT.out.ext ((he.trans hext).trans hx9))
          obtain ⟨Kc, HKc⟩ : ∃ Kc : FuncId → Array Value → World → Value → World → Prop, Hid (Kc = fun (_ : FuncId) (_ : Array Value) (w0 : World) (v : Value) (w' : World) => Ext w0 w' ∧ IntsV w' v (ints (bitsOf (stepM x (2 ^ q) (lt : Nat))))) := ⟨_, rfl⟩
          refine wp_region_ext (Kc := Kc) 16 (by kernel_rfl) (by kernel_rfl) ?_
          simp only [List.take_succ_cons, List.take_zero]
          repeat (refine WalkE.pure rfl (fun K hK => ?_); simp only [PureDo]; go_simp; refine hK _ ?_; clear hK K)
          refine WalkE.step (fun K hK wc hwc hdc => ?_)
          simp only [OpDo, OpSafe, OpOut]
          go_simp
          refine ⟨(members_c _ _ hlt16 (hTw.out.ext ((Ext.drew _).trans hwc))).mono ?_, ?_⟩
          · rintro e w' ⟨v, rfl, he, hv⟩
            exact ⟨v, rfl, by rw [HKc.out]; exact ⟨he, hv.ints⟩⟩
          intro u w4 hk4
          rw [HKc.out] at hk4
          refine ⟨hk4.1, hK _ _ ?_⟩
          clear hK K hdc
          repeat (refine WalkE.pure rfl (fun K hK => ?_); simp only [PureDo]; go_simp; refine hK _ ?_; clear hK K)
          refine WalkE.nil (fun wn hwn hmn => ?_)
          simp only [List.drop_succ_cons, List.drop_zero, List.drop_nil]
          have hv4 := hk4.2.mono (hmn 14 (by omega))
          obtain ⟨aT, cT, rfl, -, -⟩ := hv4.open
          have hx10 := (Ext.drew w9).trans hwn
          clear hmn hwn hwc hk4 HKc B0 B1 B2 B3
          go_wp2_with fail
          go_meet
          case rel =>
            rw [hTO.out, HS.out]
            exact ⟨aT, cT, rfl, hv4, hx10⟩
        · have HS := Lib.hid (show sysBits x q (lt : Nat) = [q] by unfold sysBits; rw [if_neg hb])
          have hTV : IntsV w9 (.slice (some ⟨wr.heap.size + 1, 0, none⟩) 1 1) (ints [q]) := by
            refine ⟨_, 1, rfl, by simp [ints], by unfold maxLen; omega, fun _ => ⟨_, _, rfl, hQ9.lt, fun i y hy => ?_⟩⟩
            cases i with
            | zero => simp [ints] at hy; subst hy; exact hQ9.cell 0 rfl
            | succ i => simp [ints] at hy
          rw [show bit x.alphabet (lt : Nat) = false by simpa using hb]
          go_wp2_with fail
          go_meet
          case rel =>
            rw [hTO.out, HS.out]
            exact ⟨_, _, rfl, hTV, Ext.refl _⟩
      case rest =>
        obtain ⟨aT, cT, rfl, hTV, hcx⟩ := hcut
        have hTOl : TO.length ≤ 16 := by rw [hTO.out]; exact sysBits_len _ _ _
        have hTOb : Hid (∀ c ∈ TO, c < st) := by
          rw [hTO.out]
          intro c hc
          have h3 := ch_lt hsx (q := q) (by rw [HST.out, Int.toNat_natCast, hq.out]; exact Nat.mod_lt _ hst1) _ c ((ch_bits hsx _ _ _).2 hc)
          rw [HST.out, Int.toNat_natCast] at h3; exact h3
        have hRl : R.length ≤ 256 := by
          have h3 := HB.out.2.1
          have h4 : 16 ^ (l.length - (j + 1)) ≤ 16 ^ 2 := Nat.pow_le_pow_right (by omega) (by omega)
          exact Nat.le_trans h3 h4
        have hRb : Hid (∀ r ∈ R, r < ww) := HB.out.2.2
        have hRc := hR.mono (hx9.trans hcx)
        have hTc := hT9.ext hcx
        have hmul : TO.length * R.length ≤ 4096 := Nat.mul_le_mul hTOl hRl
        obtain ⟨aR, cR, rfl, -, hR2⟩ := hRc.open
        obtain ⟨aT', cT', heT, -, hT2⟩ := hTV.open
        cases heT
        simp only [ints_len] at hR2 hT2 ⊢
        clear em et b0 b1 g1 g2 g3 gm hst0 hq16' hTV hRc hR hM hve hT9 hQ9
        go_wp2_with fail
        go_loopw [14, 59] (fun v14 i wq => ∃ m : Nat, m ≤ TO.length ∧ i = .int .i64 m ∧ IntsOwn 3 wc.heap.size wq v14 (ints (moreTo TO R ww m)) ∧ Ext wc wq) (fun _ i _ => TO.length - (intOf i).toNat)
        case atStart => exact ⟨0, by omega, rfl, by simpa [moreTo, ints] using IntsOwn.nil _ _ _, Ext.refl _⟩
        case round =>
          obtain ⟨m, hm, rfl, hown, hext2⟩ := hrel
          by_cases hlt : m < TO.length
          · obtain ⟨c0, hc0⟩ : ∃ c0, TO[m]? = some c0 := ⟨_, List.getElem?_eq_getElem hlt⟩
            obtain ⟨b5, off5, rfl, -, hcc⟩ := hT2 m _ (ints_at hc0)
            have gT : wr.cell? ⟨b5, off5 + m, none⟩ = some (.int .i64 c0) := by have := hcc m _ (ints_at hc0); rw [Nat.mul_one] at this; exact hext2.cell this
            have hc16 : c0 < 16 := by have := hTOb.out c0 (List.mem_of_getElem? hc0); omega
            have HM := Lib.hid (moreTo_succ (R := R) (ww := ww) hc0)
            have hml := moreTo_len TO R ww m
            clear hcc hc0
            go_wp2_with fail
            go_loopw [14, 65] (fun v14 i wz => ∃ n : Nat, n ≤ R.length ∧ i = .int .i64 n ∧ IntsOwn 3 wc.heap.size wz v14 (ints (moreTo TO R ww m ++ (R.take n).map fun r => c0 * ww + r)) ∧ Ext wc wz) (fun _ i _ => R.length - (intOf i).toNat)
            case atStart => exact ⟨0, by omega, rfl, by simpa using hown, hext2⟩
            case round =>
              clear hown gT
              obtain ⟨n, hn2, rfl, hown, hext3⟩ := hrel
              by_cases hlt2 : n < R.length
              · obtain ⟨r0, hr0⟩ : ∃ r0, R[n]? = some r0 := ⟨_, List.getElem?_eq_getElem hlt2⟩
                obtain ⟨b6, off6, rfl, -, hcc⟩ := hR2 n _ (ints_at hr0)
                have gR : wr.cell? ⟨b6, off6 + n, none⟩ = some (.int .i64 r0) := by have := hcc n _ (ints_at hr0); rw [Nat.mul_one] at this; exact hext3.cell this
                have hrw : r0 < ww := hRb.out r0 (List.mem_of_getElem? hr0)
                have HR0 := Lib.hid hr0
                have hp1 : c0 * ww ≤ 16 * 4096 := Nat.mul_le_mul (by omega) hww
                have hcast : ((c0 * ww : Nat) : Int) = (c0 : Int) * (ww : Int) := by simp
                have hb1 : 0 ≤ (c0 : Int) * (ww : Int) := by rw [← hcast]; omega
                have hb2 : (c0 : Int) * (ww : Int) ≤ 65536 := by rw [← hcast]; omega
                have HC := Lib.hid hcast
                have hlen : (ints (moreTo TO R ww m ++ (R.take n).map fun r => c0 * ww + r)).length ≤ 8192 := by
                  rw [ints_len, List.length_append, List.length_map, List.length_take]; omega
                have hszz := hext3.size
                clear hcc hr0 hcast hR2
                go_wp2_with (at_builtin; refine app1 rfl rfl Tryz.underlying81 infoInt rfl (by decide) hown.own rfl rfl rfl (by simp [Value.oneCell']) (by omega) (by decide) (by omega) ?_; intro v1 w1 hown1 hgr1 hbl1)
                refine ⟨⟨n + 1, by omega, by go_num, IntsOwn.push hown1 ?_, Below.trans hext3 hbl1⟩, by simp [intOf]; omega⟩
                rw [List.take_add_one, HR0.out, List.map_append, ← List.append_assoc, ints_append]
                congr 1
              · obtain rfl : n = R.length := by omega
                go_wp2_with fail
                refine ⟨⟨m + 1, by omega, by go_num, ?_, hext3⟩, by simp [intOf]; omega⟩
                rw [HM.out]
                rw [List.take_length] at hown
                exact hown
          · obtain rfl : m = TO.length := by omega
            have hq1 := (hTc.ext hext2).cell 1 rfl
            have hmulw : ww * st ≤ 4096 * 16 := Nat.mul_le_mul hww hst16
            have hcast : ((ww * st : Nat) : Int) = (ww : Int) * (st : Int) := by simp
            have hb1 : 0 ≤ (ww : Int) * (st : Int) := by rw [← hcast]; omega
            have hb2 : (ww : Int) * (st : Int) ≤ 65536 := by rw [← hcast]; omega
            have HC := Lib.hid hcast
            clear hcast
            go_wp2_with fail
            refine ⟨⟨j, d, ww * st, moreTo TO R ww TO.length, by omega, by go_num, rfl, by rw [HC.out], hdn, ?_, ?_, hown.ints, (hext.trans (hx9.trans hcx)).trans hext2⟩, by simp [intOf]⟩
            · have h3 := HB.out.1
              have h4 := HB.out.2.1
              have e : 16 ^ (l.length - j) = 16 ^ (l.length - (j + 1)) * 16 := by rw [show l.length - j = (l.length - (j + 1)) + 1 by omega, Nat.pow_succ]
              refine ⟨by rw [e]; exact Nat.mul_le_mul h3 hst16, ?_, fun r hr => ?_⟩
              · rw [e, Nat.mul_comm]
                exact Nat.le_trans (moreTo_len _ _ _ _) (Nat.mul_le_mul hTOl h4)
              rw [moreTo_full] at hr
              obtain ⟨c0, h5, h6⟩ := List.mem_flatMap.1 hr
              obtain ⟨r0, h7, rfl⟩ := List.mem_map.1 h6
              have h8 := hTOb.out c0 h5
              have h9 := hRb.out r0 h7
              have h10 : (c0 + 1) * ww ≤ st * ww := Nat.mul_le_mul_right _ h8
              rw [Nat.add_mul, Nat.one_mul, Nat.mul_comm st] at h10
              omega
            · show _ = _
              rw [moreTo_full, hTO.out, hd.out, hq.out, ← HP.out, HX.out, partsGo, HST.out, Int.toNat_natCast]
end Go.Proofs.YtajafdblmphglaaGreatDoor
