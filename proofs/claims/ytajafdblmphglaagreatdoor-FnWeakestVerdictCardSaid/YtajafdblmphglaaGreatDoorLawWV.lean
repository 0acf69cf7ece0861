/- FnWeakestVerdict: for all bytes, two drawn systems keep a property together just if the second one keeps the weakest assumption of the first one's task, where there is one: the law answers true. -/
import Derived.Test.YtajafdblmphglaaGreatDoorDrawO
import Derived.Test.YtajafdblmphglaaGreatDoorTaskC
import Derived.Test.YtajafdblmphglaaGreatDoorAgD
import Derived.Test.YtajafdblmphglaaGreatDoorWalkWk
import Derived.Test.YtajafdblmphglaaGreatDoorDet
import Derived.Test.YtajafdblmphglaaGreatDoorDrawL
namespace Go.Proofs.YtajafdblmphglaaGreatDoor.lawFnWeakestVerdict
open Go.ChangeShapes Go.WideShapes Go.ChangeAt Go.RowKit
open Go.Proofs.YtajafdblmphglaaGreatDoor
open Go.ChangeMaps (open_string shut_string)
set_option linter.unusedVariables false
set_option linter.unusedSimpArgs false
set_option maxHeartbeats 1600000
set_option maxRecDepth 100000

theorem SyssV.two {w : World} {s t : Sys} {ve vf : Value} (h : EdgesV w ve s.edges) (k : EdgesV w vf t.edges) :
    SyssV (w.alloc (.cells #[.int .i64 s.alphabet, .int .i64 s.states, ve, .int .i64 t.alphabet, .int .i64 t.states, vf] 25)) (.slice (some ⟨w.heap.size, 0, none⟩) 2 2) [s, t] := by
  refine ⟨_, 2, rfl, Nat.le_refl _, by decide, fun _ => ⟨w.heap.size, 0, rfl, by simp, fun i x hi => ?_⟩⟩
  have hb := Blk.new w #[.int .i64 s.alphabet, .int .i64 s.states, ve, .int .i64 t.alphabet, .int .i64 t.states, vf] 25
  match i, hi with
  | 0, hi => simp at hi; subst hi; exact ⟨ve, hb.cell 0 rfl, hb.cell 1 rfl, hb.cell 2 rfl, h.mono (Ext.alloc _ _)⟩
  | 1, hi => simp at hi; subst hi; exact ⟨vf, hb.cell 3 rfl, hb.cell 4 rfl, hb.cell 5 rfl, k.mono (Ext.alloc _ _)⟩
  | i + 2, hi => simp at hi
/-- The weakest assumption decides. -/
theorem verdict {S O : Sys} {P B : Auto} {I : Int} (hneg : ¬ interfaceOf S P O < 0) (hIe : interfaceOf S P O = I) (hB : IsMin (lngW ⟨S, P, I⟩) I B) (h12 : B.next.length ≤ 12) : keepsB [S, O] P = keepsB [O] B := by
  obtain ⟨vS, vP, vO⟩ := interface_valid hneg
  obtain ⟨hI, hIa⟩ := interfaceOf_is vS vP vO
  rw [hIe] at hI hIa
  obtain ⟨a0, a63⟩ := alpha_facts hIa
  have hBv := hB.valid hIa h12
  have hacc : ∀ v, accepts B (run B 0 v) = true ↔ SafeV ⟨S, P, I⟩ (v.filter (bit I)) := fun v => by
    rw [hB.accepts a0 a63 (lngW_blind (⟨S, P, I⟩ : Task)) v]
    exact startW_safe (t := ⟨S, P, I⟩) v vS vP
  rw [Bool.eq_iff_iff]
  constructor
  · intro hk
    refine keepsB_iff.2 ⟨by rw [one_areParts]; exact vO, hBv, fun v h1 h2 => (hacc v).2 ?_⟩
    exact safe_trace hI hk (fun x hx => by obtain ⟨s, hs, hb⟩ := h1 x hx; rw [List.mem_singleton] at hs; rw [← hs]; exact hb) (h2 O (by simp))
  · intro hk
    obtain ⟨-, -, h⟩ := keepsB_iff.1 hk
    refine keepsB_iff.2 ⟨by simp [areParts, vS, vO], vP, fun w h1 h2 => ?_⟩
    cases hf : accepts P (run P 0 w) with
    | true => rfl
    | false =>
      exfalso
      have hno := viol_unsafe hI h1 (h2 S (by simp)) hf
      have hyes := (hacc _).1 (h (w.filter (bit O.alphabet)) (fun x hx => ⟨O, by simp, (List.mem_filter.1 hx).2⟩) (fun s hs => by rw [List.mem_singleton] at hs; subst hs; exact (trace_filter s w).2 (h2 s (by simp))))
      rw [List.filter_filter] at hyes
      apply hno
      rwa [show w.filter (bit I) = w.filter (fun x => bit I x && bit O.alphabet x) from List.filter_congr fun x _ => by rw [hI x]; cases bit O.alphabet x <;> simp]

theorem walk (v0 : Value) (t0 : List UInt8) (w : World) (hv0 : BytesV w v0 t0) (hD : Deb w) : Calls Tryz.prog 4 #[v0] w (Grows (.bool true) w) := by
  obtain ⟨aB, cB, rfl, hleB, -⟩ := hv0.open
  have HDb := Lib.hid hD
  clear hD
  by_cases hz0 : 1048576 < t0.length
  · go_enter Tryz.func4, Tryz.ntmps4
    go_wp2_with fail
    go_ret
    exact Grows.mk rfl (Ext.refl _)
  go_enter Tryz.func4, Tryz.ntmps4
  go_wp2_with fail
  refine (DrawTaskOf_t _ t0 _ hv0 (by omega)).mono ?_
  rintro e w1 ⟨r, D, rfl, he1, hD1, hT1, s, p, t, rfl, hS, hP, hO⟩
  obtain ⟨S, hSe1, hSV1⟩ := hS.sys hT1
  obtain ⟨vE1, rfl, hE1⟩ := hSV1
  obtain ⟨aE1, cE1, rfl, -, -⟩ := hE1.open
  obtain ⟨P, hPn2, hPa2, hPV2⟩ := hP.auto hT1
  obtain ⟨vN2, vA2, rfl, hN2, hA2⟩ := hPV2
  obtain ⟨aN2, cN2, rfl, -, -⟩ := hN2.open
  obtain ⟨aA2, cA2, rfl, -, -⟩ := hA2.open
  obtain ⟨O, hSe3, hSV3⟩ := hO.sys hT1
  obtain ⟨vE3, rfl, hE3⟩ := hSV3
  obtain ⟨aE3, cE3, rfl, -, -⟩ := hE3.open
  have HS := Lib.hid (show ∀ w', Ext w1 w' → SysV w' (.agg #[.int .i64 S.alphabet, .int .i64 S.states, .slice aE1 S.edges.length cE1]) S from fun w' h => ⟨_, rfl, hE1.mono h⟩)
  have HP := Lib.hid (show ∀ w', Ext w1 w' → AutoV w' (.agg #[.int .i64 P.alphabet, .slice aN2 P.next.length cN2, .slice aA2 P.accept.length cA2]) P from fun w' h => ⟨_, _, rfl, hN2.mono h, hA2.mono h⟩)
  have HO := Lib.hid (show ∀ w', Ext w1 w' → SysV w' (.agg #[.int .i64 O.alphabet, .int .i64 O.states, .slice aE3 O.edges.length cE3]) O from fun w' h => ⟨_, rfl, hE3.mono h⟩)
  have hSl : S.edges.length ≤ 1048576 := by omega
  clear hE1 hN2 hA2 hE3 hS hP hO hT1 hD1
  obtain ⟨T, hT⟩ : ∃ T, taskOf S P O = T := ⟨_, rfl⟩
  have HT := Lib.hid hT
  obtain ⟨n, hn⟩ : ∃ n, interfaceOf S P O = n := ⟨_, rfl⟩
  have HN := Lib.hid hn
  clear hn hT
  have hx : Ext w1 (((w1.alloc (.cells #[.int .i64 S.alphabet, .int .i64 S.states, .slice aE1 S.edges.length cE1] 25)).alloc (.cells #[.int .i64 P.alphabet, .slice aN2 P.next.length cN2, .slice aA2 P.accept.length cA2] 29)).alloc (.cells #[.int .i64 O.alphabet, .int .i64 O.states, .slice aE3 O.edges.length cE3] 25)) := ((Ext.alloc _ _).trans (Ext.alloc _ _)).trans (Ext.alloc _ _)
  have b3 : Blk (((w1.alloc (.cells #[.int .i64 S.alphabet, .int .i64 S.states, .slice aE1 S.edges.length cE1] 25)).alloc (.cells #[.int .i64 P.alphabet, .slice aN2 P.next.length cN2, .slice aA2 P.accept.length cA2] 29)).alloc (.cells #[.int .i64 O.alphabet, .int .i64 O.states, .slice aE3 O.edges.length cE3] 25)) w1.heap.size #[.int .i64 S.alphabet, .int .i64 S.states, .slice aE1 S.edges.length cE1] 25 := Ext.blk ((Ext.alloc _ _).trans (Ext.alloc _ _))
  have b4 : Blk (((w1.alloc (.cells #[.int .i64 S.alphabet, .int .i64 S.states, .slice aE1 S.edges.length cE1] 25)).alloc (.cells #[.int .i64 P.alphabet, .slice aN2 P.next.length cN2, .slice aA2 P.accept.length cA2] 29)).alloc (.cells #[.int .i64 O.alphabet, .int .i64 O.states, .slice aE3 O.edges.length cE3] 25)) (w1.heap.size + 1) #[.int .i64 P.alphabet, .slice aN2 P.next.length cN2, .slice aA2 P.accept.length cA2] 29 := Ext.blk1 (Ext.alloc _ _)
  have b5 : Blk (((w1.alloc (.cells #[.int .i64 S.alphabet, .int .i64 S.states, .slice aE1 S.edges.length cE1] 25)).alloc (.cells #[.int .i64 P.alphabet, .slice aN2 P.next.length cN2, .slice aA2 P.accept.length cA2] 29)).alloc (.cells #[.int .i64 O.alphabet, .int .i64 O.states, .slice aE3 O.edges.length cE3] 25)) (w1.heap.size + 1 + 1) #[.int .i64 O.alphabet, .int .i64 O.states, .slice aE3 O.edges.length cE3] 25 := Ext.blk2 (Ext.refl _)
  go_wp2_with fail
  generalize (((w1.alloc (.cells #[.int .i64 S.alphabet, .int .i64 S.states, .slice aE1 S.edges.length cE1] 25)).alloc (.cells #[.int .i64 P.alphabet, .slice aN2 P.next.length cN2, .slice aA2 P.accept.length cA2] 29)).alloc (.cells #[.int .i64 O.alphabet, .int .i64 O.states, .slice aE3 O.edges.length cE3] 25)) = w2 at hx b3 b4 b5 ⊢
  have b3_0 := b3.cell 0 rfl; have b3_1 := b3.cell 1 rfl; have b3_2 := b3.cell 2 rfl
  have b4_0 := b4.cell 0 rfl; have b4_1 := b4.cell 1 rfl; have b4_2 := b4.cell 2 rfl
  have b5_0 := b5.cell 0 rfl; have b5_1 := b5.cell 1 rfl; have b5_2 := b5.cell 2 rfl
  go_wp2_with fail
  refine (TaskOf_c2 _ _ _ S P O _ (HS.out _ hx) (HP.out _ hx) (HO.out _ hx) hSl).mono ?_
  rintro e w3 ⟨vt, rfl, he3, ho⟩
  rw [HT.out] at ho
  rw [HN.out]
  replace ho := ho.task
  obtain ⟨vE6, vN6, vA6, rfl, hE6, hN6, hA6⟩ := ho
  obtain ⟨aE6, cE6, rfl, -, -⟩ := hE6.open
  obtain ⟨aN6, cN6, rfl, -, -⟩ := hN6.open
  obtain ⟨aA6, cA6, rfl, -, -⟩ := hA6.open
  clear b3_0 b3_1 b3_2 b4_0 b4_1 b4_2 b5_0 b5_1 b5_2
  have hx3 := he3.trans (Ext.alloc w3 (.cells #[.int .i64 T.sys.alphabet, .int .i64 T.sys.states, .slice aE6 T.sys.edges.length cE6, .int .i64 T.prop.alphabet, .slice aN6 T.prop.next.length cN6, .slice aA6 T.prop.accept.length cA6, .int .i64 T.alphabet] 44))
  replace b3 := b3.ext hx3
  replace b4 := b4.ext hx3
  replace b5 := b5.ext hx3
  replace hx := hx.trans hx3
  have b6 : Blk (w3.alloc (.cells #[.int .i64 T.sys.alphabet, .int .i64 T.sys.states, .slice aE6 T.sys.edges.length cE6, .int .i64 T.prop.alphabet, .slice aN6 T.prop.next.length cN6, .slice aA6 T.prop.accept.length cA6, .int .i64 T.alphabet] 44)) w3.heap.size #[.int .i64 T.sys.alphabet, .int .i64 T.sys.states, .slice aE6 T.sys.edges.length cE6, .int .i64 T.prop.alphabet, .slice aN6 T.prop.next.length cN6, .slice aA6 T.prop.accept.length cA6, .int .i64 T.alphabet] 44 := Blk.new _ _ _
  have HT6 := Lib.hid (show ∀ w', Ext (w3.alloc (.cells #[.int .i64 T.sys.alphabet, .int .i64 T.sys.states, .slice aE6 T.sys.edges.length cE6, .int .i64 T.prop.alphabet, .slice aN6 T.prop.next.length cN6, .slice aA6 T.prop.accept.length cA6, .int .i64 T.alphabet] 44)) w' → TaskV w' (.agg #[.int .i64 T.sys.alphabet, .int .i64 T.sys.states, .slice aE6 T.sys.edges.length cE6, .int .i64 T.prop.alphabet, .slice aN6 T.prop.next.length cN6, .slice aA6 T.prop.accept.length cA6, .int .i64 T.alphabet]) T from fun w' h => ⟨_, _, _, rfl, (hE6.mono (Ext.alloc _ _)).mono h, (hN6.mono (Ext.alloc _ _)).mono h, (hA6.mono (Ext.alloc _ _)).mono h⟩)
  clear hE6 hN6 hA6 he3 hx3
  have b3_0 := b3.cell 0 rfl; have b3_1 := b3.cell 1 rfl; have b3_2 := b3.cell 2 rfl
  have b4_0 := b4.cell 0 rfl; have b4_1 := b4.cell 1 rfl; have b4_2 := b4.cell 2 rfl
  have b5_0 := b5.cell 0 rfl; have b5_1 := b5.cell 1 rfl; have b5_2 := b5.cell 2 rfl
  have b6_0 := b6.cell 0 rfl; have b6_1 := b6.cell 1 rfl; have b6_2 := b6.cell 2 rfl; have b6_3 := b6.cell 3 rfl; have b6_4 := b6.cell 4 rfl; have b6_5 := b6.cell 5 rfl; have b6_6 := b6.cell 6 rfl
  go_wp2_with fail
  clear b3_0 b3_1 b3_2 b4_0 b4_1 b4_2 b5_0 b5_1 b5_2 b6_0 b6_1 b6_2 b6_3 b6_4 b6_5 b6_6
  generalize w3.alloc (.cells #[.int .i64 T.sys.alphabet, .int .i64 T.sys.states, .slice aE6 T.sys.edges.length cE6, .int .i64 T.prop.alphabet, .slice aN6 T.prop.next.length cN6, .slice aA6 T.prop.accept.length cA6, .int .i64 T.alphabet] 44) = w4 at hx b3 b4 b5 b6 HT6 ⊢
  generalize w3.heap.size = G6 at b6 ⊢
  refine (TaskOf_s _ _ _ S P O _ (HS.out _ hx) (HP.out _ hx) (HO.out _ hx) hSl).mono ?_
  rintro e w5 ⟨vt, rfl, he5, ho⟩
  rw [HT.out] at ho
  rw [HN.out]
  replace ho := ho.task
  obtain ⟨vE8, vN8, vA8, rfl, hE8, hN8, hA8⟩ := ho
  obtain ⟨aE8, cE8, rfl, -, -⟩ := hE8.open
  obtain ⟨aN8, cN8, rfl, -, -⟩ := hN8.open
  obtain ⟨aA8, cA8, rfl, -, -⟩ := hA8.open
  have hx5 := he5.trans (Ext.alloc w5 (.cells #[.int .i64 T.sys.alphabet, .int .i64 T.sys.states, .slice aE8 T.sys.edges.length cE8, .int .i64 T.prop.alphabet, .slice aN8 T.prop.next.length cN8, .slice aA8 T.prop.accept.length cA8, .int .i64 T.alphabet] 44))
  replace b3 := b3.ext hx5
  replace b4 := b4.ext hx5
  replace b5 := b5.ext hx5
  replace b6 := b6.ext hx5
  replace hx := hx.trans hx5
  have b8 : Blk (w5.alloc (.cells #[.int .i64 T.sys.alphabet, .int .i64 T.sys.states, .slice aE8 T.sys.edges.length cE8, .int .i64 T.prop.alphabet, .slice aN8 T.prop.next.length cN8, .slice aA8 T.prop.accept.length cA8, .int .i64 T.alphabet] 44)) w5.heap.size #[.int .i64 T.sys.alphabet, .int .i64 T.sys.states, .slice aE8 T.sys.edges.length cE8, .int .i64 T.prop.alphabet, .slice aN8 T.prop.next.length cN8, .slice aA8 T.prop.accept.length cA8, .int .i64 T.alphabet] 44 := Blk.new _ _ _
  have HT8 := Lib.hid (show ∀ w', Ext (w5.alloc (.cells #[.int .i64 T.sys.alphabet, .int .i64 T.sys.states, .slice aE8 T.sys.edges.length cE8, .int .i64 T.prop.alphabet, .slice aN8 T.prop.next.length cN8, .slice aA8 T.prop.accept.length cA8, .int .i64 T.alphabet] 44)) w' → TaskV w' (.agg #[.int .i64 T.sys.alphabet, .int .i64 T.sys.states, .slice aE8 T.sys.edges.length cE8, .int .i64 T.prop.alphabet, .slice aN8 T.prop.next.length cN8, .slice aA8 T.prop.accept.length cA8, .int .i64 T.alphabet]) T from fun w' h => ⟨_, _, _, rfl, (hE8.mono (Ext.alloc _ _)).mono h, (hN8.mono (Ext.alloc _ _)).mono h, (hA8.mono (Ext.alloc _ _)).mono h⟩)
  replace HT6 := Lib.hid (show ∀ w', Ext (w5.alloc (.cells #[.int .i64 T.sys.alphabet, .int .i64 T.sys.states, .slice aE8 T.sys.edges.length cE8, .int .i64 T.prop.alphabet, .slice aN8 T.prop.next.length cN8, .slice aA8 T.prop.accept.length cA8, .int .i64 T.alphabet] 44)) w' → TaskV w' (.agg #[.int .i64 T.sys.alphabet, .int .i64 T.sys.states, .slice aE6 T.sys.edges.length cE6, .int .i64 T.prop.alphabet, .slice aN6 T.prop.next.length cN6, .slice aA6 T.prop.accept.length cA6, .int .i64 T.alphabet]) T from fun w' h => HT6.out _ (hx5.trans h))
  clear hE8 hN8 hA8 he5 hx5
  have b3_0 := b3.cell 0 rfl; have b3_1 := b3.cell 1 rfl; have b3_2 := b3.cell 2 rfl
  have b4_0 := b4.cell 0 rfl; have b4_1 := b4.cell 1 rfl; have b4_2 := b4.cell 2 rfl
  have b5_0 := b5.cell 0 rfl; have b5_1 := b5.cell 1 rfl; have b5_2 := b5.cell 2 rfl
  have b6_0 := b6.cell 0 rfl; have b6_1 := b6.cell 1 rfl; have b6_2 := b6.cell 2 rfl; have b6_3 := b6.cell 3 rfl; have b6_4 := b6.cell 4 rfl; have b6_5 := b6.cell 5 rfl; have b6_6 := b6.cell 6 rfl
  have b8_0 := b8.cell 0 rfl; have b8_1 := b8.cell 1 rfl; have b8_2 := b8.cell 2 rfl; have b8_3 := b8.cell 3 rfl; have b8_4 := b8.cell 4 rfl; have b8_5 := b8.cell 5 rfl; have b8_6 := b8.cell 6 rfl
  go_wp2_with fail
  clear b3_0 b3_1 b3_2 b4_0 b4_1 b4_2 b5_0 b5_1 b5_2 b6_0 b6_1 b6_2 b6_3 b6_4 b6_5 b6_6 b8_0 b8_1 b8_2 b8_3 b8_4 b8_5 b8_6
  generalize w5.alloc (.cells #[.int .i64 T.sys.alphabet, .int .i64 T.sys.states, .slice aE8 T.sys.edges.length cE8, .int .i64 T.prop.alphabet, .slice aN8 T.prop.next.length cN8, .slice aA8 T.prop.accept.length cA8, .int .i64 T.alphabet] 44) = w6 at hx b3 b4 b5 b6 b8 HT6 HT8 ⊢
  generalize w5.heap.size = G8 at b8 ⊢
  have hy : Ext w6 w6 := Ext.refl _
  have HD := Lib.hid (show ∀ w', Ext w1 w' → Deb w' from fun w' h => HDb.out.ext (he1.trans h))
  have b3_0 := b3.cell 0 rfl; have b3_1 := b3.cell 1 rfl; have b3_2 := b3.cell 2 rfl
  have b4_0 := b4.cell 0 rfl; have b4_1 := b4.cell 1 rfl; have b4_2 := b4.cell 2 rfl
  have b5_0 := b5.cell 0 rfl; have b5_1 := b5.cell 1 rfl; have b5_2 := b5.cell 2 rfl
  have b6_0 := b6.cell 0 rfl; have b6_1 := b6.cell 1 rfl; have b6_2 := b6.cell 2 rfl; have b6_3 := b6.cell 3 rfl; have b6_4 := b6.cell 4 rfl; have b6_5 := b6.cell 5 rfl; have b6_6 := b6.cell 6 rfl
  have b8_0 := b8.cell 0 rfl; have b8_1 := b8.cell 1 rfl; have b8_2 := b8.cell 2 rfl; have b8_3 := b8.cell 3 rfl; have b8_4 := b8.cell 4 rfl; have b8_5 := b8.cell 5 rfl; have b8_6 := b8.cell 6 rfl
  have CAG := Lib.hid (show ∀ w', Ext w6 w' → Calls Tryz.prog 21 #[.agg #[.int .i64 T.sys.alphabet, .int .i64 T.sys.states, .slice aE6 T.sys.edges.length cE6, .int .i64 T.prop.alphabet, .slice aN6 T.prop.next.length cN6, .slice aA6 T.prop.accept.length cA6, .int .i64 T.alphabet], .agg #[.int .i64 T.sys.alphabet, .int .i64 T.sys.states, .slice aE8 T.sys.edges.length cE8, .int .i64 T.prop.alphabet, .slice aN8 T.prop.next.length cN8, .slice aA8 T.prop.accept.length cA8, .int .i64 T.alphabet]] w' (Grows (.bool true) w') from fun w' h => by have := agTasks_c _ _ T T w' (HT6.out _ h) (HT8.out _ h); simpa using this)
  go_wp2_with fail
  refine (CAG.out _ hy).mono ?_
  rintro e w8 ⟨rfl, he8⟩
  clear b3_0 b3_1 b3_2 b4_0 b4_1 b4_2 b5_0 b5_1 b5_2 b6_0 b6_1 b6_2 b6_3 b6_4 b6_5 b6_6 b8_0 b8_1 b8_2 b8_3 b8_4 b8_5 b8_6
  replace b3 := b3.ext he8
  replace b4 := b4.ext he8
  replace b5 := b5.ext he8
  replace b6 := b6.ext he8
  replace b8 := b8.ext he8
  replace hx := hx.trans he8
  replace hy := hy.trans he8
  clear he8
  have b3_0 := b3.cell 0 rfl; have b3_1 := b3.cell 1 rfl; have b3_2 := b3.cell 2 rfl
  have b4_0 := b4.cell 0 rfl; have b4_1 := b4.cell 1 rfl; have b4_2 := b4.cell 2 rfl
  have b5_0 := b5.cell 0 rfl; have b5_1 := b5.cell 1 rfl; have b5_2 := b5.cell 2 rfl
  have b6_0 := b6.cell 0 rfl; have b6_1 := b6.cell 1 rfl; have b6_2 := b6.cell 2 rfl; have b6_3 := b6.cell 3 rfl; have b6_4 := b6.cell 4 rfl; have b6_5 := b6.cell 5 rfl; have b6_6 := b6.cell 6 rfl
  have b8_0 := b8.cell 0 rfl; have b8_1 := b8.cell 1 rfl; have b8_2 := b8.cell 2 rfl; have b8_3 := b8.cell 3 rfl; have b8_4 := b8.cell 4 rfl; have b8_5 := b8.cell 5 rfl; have b8_6 := b8.cell 6 rfl
  by_cases h0 : 0 ≤ n
  case neg =>
    rw [show decide (0 ≤ n) = false from decide_eq_false h0]
    go_wp2_with fail
    refine (CAG.out _ hy).mono ?_
    rintro e w9 ⟨rfl, he9⟩
    go_wp2_with fail
    go_ret
    exact Grows.mk rfl ((he1.trans hx).trans he9)
  rw [show decide (0 ≤ n) = true from decide_eq_true h0]
  have hneg : ¬ interfaceOf S P O < 0 := by rw [HN.out]; omega
  have hTe : T = ⟨S, P, n⟩ := by rw [← HT.out]; unfold taskOf; rw [if_neg hneg, HN.out]
  have HNEG := Lib.hid hneg
  have HTE := Lib.hid hTe
  clear CAG hneg hTe
  go_wp2_with fail
  refine (WeakestAssumption_c _ T _ (HT6.out _ hy) (HD.out _ hx)).mono ?_
  rintro e w9 ⟨r, hW, he9, hr⟩
  clear b3_0 b3_1 b3_2 b4_0 b4_1 b4_2 b5_0 b5_1 b5_2 b6_0 b6_1 b6_2 b6_3 b6_4 b6_5 b6_6 b8_0 b8_1 b8_2 b8_3 b8_4 b8_5 b8_6
  replace b3 := b3.ext he9
  replace b4 := b4.ext he9
  replace b5 := b5.ext he9
  replace b6 := b6.ext he9
  replace b8 := b8.ext he9
  replace hx := hx.trans he9
  replace hy := hy.trans he9
  rcases hr with ⟨rfl, rfl⟩ | ⟨B, v', rfl, rfl, hO⟩
  · clear he9
    have b3_0 := b3.cell 0 rfl; have b3_1 := b3.cell 1 rfl; have b3_2 := b3.cell 2 rfl
    have b4_0 := b4.cell 0 rfl; have b4_1 := b4.cell 1 rfl; have b4_2 := b4.cell 2 rfl
    have b5_0 := b5.cell 0 rfl; have b5_1 := b5.cell 1 rfl; have b5_2 := b5.cell 2 rfl
    have b6_0 := b6.cell 0 rfl; have b6_1 := b6.cell 1 rfl; have b6_2 := b6.cell 2 rfl; have b6_3 := b6.cell 3 rfl; have b6_4 := b6.cell 4 rfl; have b6_5 := b6.cell 5 rfl; have b6_6 := b6.cell 6 rfl
    have b8_0 := b8.cell 0 rfl; have b8_1 := b8.cell 1 rfl; have b8_2 := b8.cell 2 rfl; have b8_3 := b8.cell 3 rfl; have b8_4 := b8.cell 4 rfl; have b8_5 := b8.cell 5 rfl; have b8_6 := b8.cell 6 rfl
    go_upto_region 9 with fail
    have hxz := Ext.alloc w9 (.cells #[.int .i64 0, .slice none 0 0, .slice none 0 0] 29)
    generalize w9.alloc (.cells #[.int .i64 0, .slice none 0 0, .slice none 0 0] 29) = wz at hxz ⊢
    refine wp_region_quiet_below (by kernel_rfl) (by kernel_rfl) ?_
    repeat (go_big_quiet_step ((fail)))
    refine wpQuiet_nil ?_
    intro _ hw'
    obtain ⟨⟨dq, osq⟩, hw''⟩ := hw'
    subst hw''
    have hq2 : Ext wz (Go.Sort.grow (redrawn wz dq) osq) := below_regrown wz dq osq
    generalize Go.Sort.grow (redrawn wz dq) osq = wq at hq2 ⊢
    go_wp2_with fail
    go_ret
    exact Grows.mk rfl (((he1.trans hx).trans hxz).trans hq2)
  obtain ⟨vN', vA', rfl, hO'⟩ := hO
  obtain ⟨aN', cN', rfl⟩ := hO'.1.shape
  obtain ⟨aA', cA', rfl⟩ := hO'.2.shape
  have hkk : keepsB [S, O] P = keepsB [O] B := by
    rcases hW with ⟨e, -⟩ | ⟨B', e, -, -, h3, h4⟩
    · cases e
    · cases e
      rw [HTE.out] at h3
      exact verdict (by have := HNEG.out; omega) HN.out h3 h4
  obtain ⟨kk, hk⟩ : ∃ kk, keepsB [O] B = kk := ⟨_, rfl⟩
  rw [hk] at hkk
  have hN9 := hO'.1.intss
  have hA9 := hO'.2.bools
  have CKO := Lib.hid (show ∀ w', Ext w1 w' → Ext w9 w' → Calls Tryz.prog 24 #[.agg #[.int .i64 O.alphabet, .int .i64 O.states, .slice aE3 O.edges.length cE3], .agg #[.int .i64 B.alphabet, .slice aN' B.next.length cN', .slice aA' B.accept.length cA']] w' (Grows (.bool kk) w') from fun w' h h' => by have := KeepsProperty_cd _ _ O B _ (HO.out _ h) ⟨_, _, rfl, hN9.mono h', hA9.mono h'⟩ (HD.out _ h); rwa [hk] at this)
  have CKP := Lib.hid (show ∀ w' v, Ext w1 w' → SyssV w' v [S, O] → Calls Tryz.prog 23 #[v, .agg #[.int .i64 P.alphabet, .slice aN2 P.next.length cN2, .slice aA2 P.accept.length cA2]] w' (Grows (.bool kk) w') from fun w' v h h' => by have := PartsKeep_cd _ _ [S, O] P _ h' (by simp) (HP.out _ h) (HD.out _ h); rwa [hkk] at this)
  clear hk hkk hW he9 hO' hN9 hA9
  have b3_0 := b3.cell 0 rfl; have b3_1 := b3.cell 1 rfl; have b3_2 := b3.cell 2 rfl
  have b4_0 := b4.cell 0 rfl; have b4_1 := b4.cell 1 rfl; have b4_2 := b4.cell 2 rfl
  have b5_0 := b5.cell 0 rfl; have b5_1 := b5.cell 1 rfl; have b5_2 := b5.cell 2 rfl
  have b6_0 := b6.cell 0 rfl; have b6_1 := b6.cell 1 rfl; have b6_2 := b6.cell 2 rfl; have b6_3 := b6.cell 3 rfl; have b6_4 := b6.cell 4 rfl; have b6_5 := b6.cell 5 rfl; have b6_6 := b6.cell 6 rfl
  have b8_0 := b8.cell 0 rfl; have b8_1 := b8.cell 1 rfl; have b8_2 := b8.cell 2 rfl; have b8_3 := b8.cell 3 rfl; have b8_4 := b8.cell 4 rfl; have b8_5 := b8.cell 5 rfl; have b8_6 := b8.cell 6 rfl
  go_upto_region 9 with fail
  obtain ⟨wz, hwz⟩ : ∃ wz, wz = w9.alloc (.cells #[.int .i64 B.alphabet, .slice aN' B.next.length cN', .slice aA' B.accept.length cA'] 29) := ⟨_, rfl⟩
  have y9 : Ext w9 wz := by rw [hwz]; exact Ext.alloc _ _
  have b10 : Blk wz w9.heap.size #[.int .i64 B.alphabet, .slice aN' B.next.length cN', .slice aA' B.accept.length cA'] 29 := by rw [hwz]; exact Blk.new _ _ _
  rw [← hwz]
  clear hwz
  clear b3_0 b3_1 b3_2 b4_0 b4_1 b4_2 b5_0 b5_1 b5_2 b6_0 b6_1 b6_2 b6_3 b6_4 b6_5 b6_6 b8_0 b8_1 b8_2 b8_3 b8_4 b8_5 b8_6
  replace b3 := b3.ext y9
  replace b4 := b4.ext y9
  replace b5 := b5.ext y9
  replace b6 := b6.ext y9
  replace b8 := b8.ext y9
  replace hx := hx.trans y9
  have D30 := fun d os => cell_regrown (b3.cell 0 rfl) d os; have D31 := fun d os => cell_regrown (b3.cell 1 rfl) d os; have D32 := fun d os => cell_regrown (b3.cell 2 rfl) d os; have D40 := fun d os => cell_regrown (b4.cell 0 rfl) d os; have D41 := fun d os => cell_regrown (b4.cell 1 rfl) d os; have D42 := fun d os => cell_regrown (b4.cell 2 rfl) d os; have D50 := fun d os => cell_regrown (b5.cell 0 rfl) d os; have D51 := fun d os => cell_regrown (b5.cell 1 rfl) d os; have D52 := fun d os => cell_regrown (b5.cell 2 rfl) d os; have D90 := fun d os => cell_regrown (b10.cell 0 rfl) d os; have D91 := fun d os => cell_regrown (b10.cell 1 rfl) d os; have D92 := fun d os => cell_regrown (b10.cell 2 rfl) d os
  obtain ⟨Kc, HKc⟩ : ∃ Kc : FuncId → Array Value → World → Value → World → Prop, Hid (Kc = fun f args w0 v w' => Ext w0 w' ∧ (f = 23 → v = .bool kk) ∧ (f = 24 → v = .bool kk)) := ⟨_, rfl⟩
  refine wp_region_ext (Kc := Kc) 14 (by kernel_rfl) (by kernel_rfl) ?_
  simp only [List.take_succ_cons, List.take_zero]
  repeat (refine WalkE.pure rfl (fun K hK => ?_); simp only [PureDo]; go_simp; refine hK _ ?_; clear hK K)
  refine WalkE.step (fun K hK we hwe hde => ?_)
  simp only [OpDo, OpSafe, OpOut]
  go_simp
  refine ⟨Ext.alloc _ _, hK _ _ ?_⟩
  clear hK K hde
  repeat (refine WalkE.pure rfl (fun K hK => ?_); simp only [PureDo]; go_simp; refine hK _ ?_; clear hK K)
  refine WalkE.step (fun K hK wd hwd hdd => ?_)
  simp only [OpDo, OpSafe, OpOut]
  go_simp
  have xwe : Ext wz we := (Ext.drew _).trans hwe
  have xwd : Ext wz wd := (Ext.drew _).trans hwd
  obtain ⟨vf1, ef1, hf1⟩ := HS.out _ (hx.trans xwe)
  cases ef1
  obtain ⟨vf3, ef3, hf3⟩ := HO.out _ (hx.trans xwe)
  cases ef3
  have hSY := SyssV.mono (hdd ⟨5, .data⟩ (by simp) rfl) (SyssV.two hf1 hf3)
  refine ⟨(CKP.out _ _ (hx.trans xwd) hSY).mono ?_, ?_⟩
  · rintro e w' ⟨rfl, he'⟩
    exact ⟨_, rfl, by rw [HKc.out]; exact ⟨he', fun _ => rfl, fun h => absurd h (by decide)⟩⟩
  intro u4 w4' hk4
  rw [HKc.out] at hk4
  obtain ⟨hk41, hk42, -⟩ := hk4
  obtain rfl := hk42 rfl
  refine ⟨hk41, hK _ _ ?_⟩
  clear hK K hdd hk42 hk41 hSY hf1 hf3 xwd xwe hwd
  repeat (refine WalkE.pure rfl (fun K hK => ?_); simp only [PureDo]; go_simp; refine hK _ ?_; clear hK K)
  refine WalkE.step (fun K hK wf hwf hdf => ?_)
  simp only [OpDo, OpSafe, OpOut]
  go_simp
  refine ⟨(CKO.out _ (hx.trans ((Ext.drew _).trans hwf)) (y9.trans ((Ext.drew _).trans hwf))).mono ?_, ?_⟩
  · rintro e w' ⟨rfl, he'⟩
    exact ⟨_, rfl, by rw [HKc.out]; exact ⟨he', fun h => absurd h (by decide), fun _ => rfl⟩⟩
  intro u5 w5' hk5
  rw [HKc.out] at hk5
  obtain ⟨hk51, -, hk52⟩ := hk5
  obtain rfl := hk52 rfl
  refine ⟨hk51, hK _ _ ?_⟩
  clear hK K hdf hk52 hk51 hwf
  repeat (refine WalkE.pure rfl (fun K hK => ?_); simp only [PureDo]; go_simp; refine hK _ ?_; clear hK K)
  refine WalkE.nil (fun wn hwn hmn => ?_)
  simp only [List.drop_succ_cons, List.drop_zero, List.drop_nil]
  have xn : Ext wz wn := (Ext.drew _).trans hwn
  go_wp2_with fail
  go_ret
  exact Grows.mk (by simp) ((he1.trans hx).trans xn)

end Go.Proofs.YtajafdblmphglaaGreatDoor.lawFnWeakestVerdict
