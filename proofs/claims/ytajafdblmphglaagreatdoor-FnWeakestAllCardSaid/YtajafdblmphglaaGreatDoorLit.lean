/- Part of this seat's proofs, cut to what its law needs. -/

import Derived.Test.YtajafdblmphglaaGreatDoorSplit
import Derived.Test.YtajafdblmphglaaGreatDoorWalkK
import Derived.Test.YtajafdblmphglaaGreatDoorWalkY
import Derived.Test.YtajafdblmphglaaGreatDoorSubS

namespace Go.Proofs.YtajafdblmphglaaGreatDoor
open Go.RowKit
set_option linter.unusedVariables false
set_option linter.unusedSimpArgs false
set_option maxHeartbeats 1600000
set_option maxRecDepth 100000

theorem FormatAlphabet_zero (w : World) : Calls Tryz.prog 153 #[.int .i64 0] w (Same (.string ⟨#[45]⟩) w) := by
  have h := isAlphabet_c 0 w
  rw [show isAlpha 0 = true by decide] at h
  go_enter Tryz.func153, Tryz.ntmps153
  go_wp2_with fail
  refine h.mono ?_
  rintro e w' ⟨rfl, rfl⟩
  go_wp2_with fail
  go_ret
  exact ⟨rfl, rfl⟩

theorem letterAt_dash (w : World) : Calls Tryz.prog 147 #[.string ⟨#[45]⟩, .int .i64 0] w (Same (.int .i64 (-1)) w) := by
  have := letterAt_c ⟨#[45]⟩ 0 w (by decide) (by decide)
  rwa [show chOr ⟨#[45]⟩ 0 = -1 by decide] at this

theorem ParseAlphabet_dash (w : World) : Calls Tryz.prog 85 #[.string ⟨#[45]⟩] w (fun e w' => e = .returned (.tuple #[.int .i64 0, .bool true]) ∧ w' = w) := by
  go_enter Tryz.func85, Tryz.ntmps85
  go_wp2_with fail
  go_loop [4, 9] (fun a i => a = .int .i64 0 ∧ (i = .int .i64 0 ∨ i = .int .i64 1)) (fun _ i => 1 - (intOf i).toNat)
  case atStart => exact ⟨rfl, .inl rfl⟩
  case round =>
    obtain ⟨rfl, rfl | rfl⟩ := hrel
    · go_wp2_with fail
      refine (letterAt_dash _).mono ?_
      rintro e w' ⟨rfl, rfl⟩
      go_wp2_with fail
      exact ⟨⟨rfl, .inr rfl⟩, by decide⟩
    · go_wp2_with fail
      refine (FormatAlphabet_zero _).mono ?_
      rintro e w' ⟨rfl, rfl⟩
      go_wp2_with fail
      go_ret2
      exact ⟨rfl, rfl⟩

theorem Join_nil (v : Value) (sep : ByteArray) (w : World) (hv : ∃ a c, v = .slice a 0 c) : Calls Tryz.prog 157 #[v, .string sep] w (Same (.string ByteArray.empty) w) := by
  obtain ⟨a, c, rfl⟩ := hv
  go_enter Tryz.func157, Tryz.ntmps157
  go_wp2_with fail
  go_ret
  exact ⟨rfl, rfl⟩

theorem readEntries_nil (w : World) : Calls Tryz.prog 86 #[.string ⟨#[]⟩] w (fun e w' => e = .returned (.tuple #[.slice none 0 0, .bool true]) ∧ Ext w w') := by
  go_enter Tryz.func86, Tryz.ntmps86
  go_wp2_with fail
  exact bodyPost_ret (v := .tuple #[.slice none 0 0, .bool true]) (by simp [results, Tryz.results86, go_sem]) rfl ⟨rfl, (Ext.alloc _ _).trans (Ext.alloc _ _)⟩

theorem infoStr' : (Tryz.prog.info? 9).map (fun i => (i.zero, i.size, i.bytes)) = some (some (.string ByteArray.empty), 1, 16) := by kernel_rfl
def litText (b : Bool) : ByteArray := if b then ⟨#[45, 32, 43]⟩ else ⟨#[45, 32, 45]⟩
def litAuto (b : Bool) : Auto := ⟨0, [[]], [b]⟩
theorem litAuto_valid (b : Bool) : autoValid (litAuto b) = true := by cases b <;> decide

theorem FormatAutomaton_lit (b : Bool) (v : Value) (w : World) (hv : AutoV w v (litAuto b)) : Calls Tryz.prog 87 #[v] w (Grows (.string (litText b)) w) := by
  obtain ⟨vn, va, rfl, h2, h3⟩ := hv
  have HV := Lib.hid (show ∀ w', Ext w w' → AutoV w' (.agg #[.int .i64 (litAuto b).alphabet, vn, va]) (litAuto b) from fun w' h => ⟨_, _, rfl, h2.mono h, h3.mono h⟩)
  obtain ⟨an, cn, rfl, -, hn⟩ := h2.open
  obtain ⟨aa, ca, rfl, -, ha⟩ := h3.open
  obtain ⟨bn, on, rfl, -, hn1⟩ := hn 0 [] rfl
  obtain ⟨ba, oa, rfl, -, ha1⟩ := ha 0 b rfl
  obtain ⟨vr, gr, hr⟩ := hn1 0 [] rfl
  have ga := ha1 0 b rfl
  obtain ⟨ar, cr, rfl, -, -⟩ := hr.open
  have gr' : w.cell? ⟨bn, on, none⟩ = some (.slice ar 0 cr) := by simpa using gr
  have ga' : w.cell? ⟨ba, oa, none⟩ = some (.bool b) := ga
  clear h2 h3 hn ha hn1 ha1 hr gr ga
  simp only [litAuto, List.length_cons, List.length_nil, Nat.zero_add] at HV ⊢
  have he := Ext.alloc w (.cells #[.int .i64 0, .slice (some ⟨bn, on, none⟩) 1 cn, .slice (some ⟨ba, oa, none⟩) 1 ca] 29)
  have hB := Blk.new w #[.int .i64 0, .slice (some ⟨bn, on, none⟩) 1 cn, .slice (some ⟨ba, oa, none⟩) 1 ca] 29
  go_enter Tryz.func87, Tryz.ntmps87
  go_wp2_with fail
  generalize w.alloc (.cells #[.int .i64 0, .slice (some ⟨bn, on, none⟩) 1 cn, .slice (some ⟨ba, oa, none⟩) 1 ca] 29) = wo at he hB ⊢
  refine (AutomatonValid_b (litAuto_valid b) (HV.out _ he)).mono ?_
  rintro e w1 ⟨rfl, he1⟩
  replace he := he.trans he1
  replace hB := hB.ext he1
  clear he1
  have pc0 := hB.cell 0 rfl; have pc1 := hB.cell 1 rfl; have pc2 := hB.cell 2 rfl
  have gr1 := he.cell gr'
  have gr0 := gr'
  have ga0 := ga'
  have ga1 := he.cell ga'
  go_wp2_with fail
  refine (FormatAlphabet_zero _).mono ?_
  rintro e w' ⟨rfl, rfl⟩
  go_wp2_with fail
  clear pc0 pc1 pc2 gr1 ga1 gr' ga'
  go_loopw [3, 19] (fun a i wr => Ext w1 wr ∧ ((a = .string ⟨#[45]⟩ ∧ i = .int .i64 0) ∨ (a = .string (litText b) ∧ i = .int .i64 1))) (fun _ i _ => 1 - (intOf i).toNat)
  case atStart => exact ⟨Ext.refl _, .inl ⟨rfl, rfl⟩⟩
  case round =>
    obtain ⟨hx, ⟨rfl, rfl⟩ | ⟨rfl, rfl⟩⟩ := hrel
    · have hxw := he.trans hx
      have gr2 := hxw.cell gr0
      go_wp2_with (at_make; refine make1 (n := 0) (base := 0) rfl rfl Tryz.underlying113 infoStr' rfl rfl rfl rfl (by omega) (by decide) (by omega) ?_; intro w4 hown hext hlt)
      have hx4 := hx.trans hext
      clear hown
      go_loopw [29] (fun i wq => i = .int .i64 0 ∧ Ext w1 wq) (fun _ _ => 0)
      case atStart => exact ⟨rfl, hx4⟩
      case round =>
        obtain ⟨rfl, hx5⟩ := hrel
        have hxw5 := he.trans hx5
        have ga5 := hxw5.cell ga0
        have hB5 := hB.ext hx5
        have pc2 := hB5.cell 2 rfl
        clear hx4 hx hext hxw gr2 hlt hxw5
        cases b with
        | false =>
          go_wp2_with fail
          refine (Join_nil _ _ _ ⟨_, _, rfl⟩).mono ?_
          rintro e w' ⟨rfl, rfl⟩
          go_wp2_with fail
          exact ⟨⟨hx5, .inr ⟨congrArg Value.string (by first | rfl | decide), rfl⟩⟩, by decide⟩
        | true =>
          go_wp2_with fail
          refine (Join_nil _ _ _ ⟨_, _, rfl⟩).mono ?_
          rintro e w' ⟨rfl, rfl⟩
          go_wp2_with fail
          exact ⟨⟨hx5, .inr ⟨congrArg Value.string (by first | rfl | decide), rfl⟩⟩, by decide⟩
    · go_wp2_with fail
      go_ret
      exact Grows.mk rfl (he.trans hx)

theorem Split_lit (b : Bool) (w : World) : Calls Tryz.prog 84 #[.string (litText b), .string ⟨#[32]⟩] w fun e w' => e = .returned (.slice (some ⟨w.heap.size, 0, none⟩) 2 2) ∧ w' = w.alloc (.cells #[.string ⟨#[45]⟩, .string (if b then ⟨#[43]⟩ else ⟨#[45]⟩)] 9) := by
  have h := Split_one (litText b) 32 w (by cases b <;> decide)
  cases b
  · have e1 : Lib.countB (litText false) ⟨#[32]⟩ = 1 := by decide
    have e2 : Lib.splitB ⟨#[32]⟩ 0 1 (litText false) = [⟨#[45]⟩, ⟨#[45]⟩] := by first | rfl | decide
    rw [e1, e2] at h
    exact h
  · have e1 : Lib.countB (litText true) ⟨#[32]⟩ = 1 := by decide
    have e2 : Lib.splitB ⟨#[32]⟩ 0 1 (litText true) = [⟨#[45]⟩, ⟨#[43]⟩] := by first | rfl | decide
    rw [e1, e2] at h
    exact h

theorem ParseAutomaton_lit (b : Bool) (w : World) : Calls Tryz.prog 34 #[.string (litText b)] w (fun e w' => ∃ v', e = .returned (.tuple #[v', .bool true]) ∧ Ext w w' ∧ AutoOwn w.heap.size w' v' (litAuto b)) := by
  have he := Ext.alloc w (.cells #[.int .i64 0, .slice none 0 0, .slice none 0 0] 29)
  have hR := Blk.new w #[.int .i64 0, .slice none 0 0, .slice none 0 0] 29
  go_enter Tryz.func34, Tryz.ntmps34
  go_wp2_with fail
  have lwo : w.heap.size + 1 ≤ (w.alloc (.cells #[.int .i64 0, .slice none 0 0, .slice none 0 0] 29)).heap.size := by simp
  generalize w.alloc (.cells #[.int .i64 0, .slice none 0 0, .slice none 0 0] 29) = wo at he hR lwo ⊢
  refine (Split_lit b _).mono ?_
  rintro e w1 ⟨rfl, hw1⟩
  have he1 : Ext wo w1 := by rw [hw1]; exact Ext.alloc _ _
  have hS : Blk w1 wo.heap.size #[.string ⟨#[45]⟩, .string (if b then ⟨#[43]⟩ else ⟨#[45]⟩)] 9 := by rw [hw1]; exact Blk.new _ _ _
  clear hw1
  replace hR := hR.ext he1
  replace he := he.trans he1
  have ls := hS.lt
  have lr := hR.lt
  clear he1
  generalize wo.heap.size = bS at hS ls lwo ⊢
  have sc0 := hS.cell 0 rfl
  have sc1 := hS.cell 1 rfl
  go_wp2_with fail
  refine (ParseAlphabet_dash _).mono ?_
  rintro e w' ⟨rfl, rfl⟩
  go_upto_region 6 with fail
  obtain ⟨wg, hwg⟩ : ∃ wg, wg = w'.alloc (.cells #[.int .i64 0, .slice none 0 0, .slice none 0 0] 29) := ⟨_, rfl⟩
  have y : Ext w' wg := by rw [hwg]; exact Ext.alloc _ _
  have hG : Blk wg w'.heap.size #[.int .i64 0, .slice none 0 0, .slice none 0 0] 29 := by rw [hwg]; exact Blk.new _ _ _
  rw [← hwg]
  clear hwg sc0 sc1
  replace he := he.trans y
  replace hR := hR.ext y
  replace hS := hS.ext y
  clear y
  generalize w'.heap.size = b7 at hG ls lr ⊢
  have lg := hG.lt
  go_wp2_with fail
  go_loopw [34] (fun i wr => Ext w wr ∧ Blk wr w.heap.size #[.int .i64 0, .slice none 0 0, .slice none 0 0] 29 ∧ Blk wr bS #[.string ⟨#[45]⟩, .string (if b then ⟨#[43]⟩ else ⟨#[45]⟩)] 9 ∧ ((i = .int .i64 0 ∧ Blk wr b7 #[.int .i64 0, .slice none 0 0, .slice none 0 0] 29 ∧ wg.heap.size ≤ wr.heap.size) ∨ (i = .int .i64 1 ∧ ∃ vn va, Blk wr b7 #[.int .i64 0, vn, va] 29 ∧ Pool wg.heap.size wr [⟨81, 1, vn, 1, [.slice none 0 0]⟩, ⟨4, 1, va, 1, [.bool b]⟩, ⟨3, 1, .slice none 0 0, 0, []⟩]))) (fun i _ => 1 - (intOf i).toNat)
  case atStart => exact ⟨he, hR, hS, .inl ⟨rfl, hG, Nat.le_refl _⟩⟩
  case round =>
    clear hR hS hG he
    obtain ⟨he, hR, hS, ⟨rfl, hG, hsz⟩ | ⟨rfl, vn, va, hG, hP⟩⟩ := hrel
    · have sc1 := hS.cell 1 rfl
      cases b with
      | false =>
        go_wp2_with fail
        refine (readEntries_nil _).mono ?_
        rintro e w2 ⟨rfl, he2⟩
        replace he := he.trans he2
        replace hR := hR.ext he2
        replace hS := hS.ext he2
        replace hG := hG.ext he2
        have hsz2 := Nat.le_trans hsz he2.size
        have sc2 := hS.cell 1 rfl
        clear he2 hsz sc1
        have hP0 := (((Pool.nil wg.heap.size w2).addNil 3 1).addNil 4 1).addNil 81 1
        have gc1 := hG.cell 1 rfl
        go_wp2_with (at_builtin; refine appP (news := [Value.slice none 0 0]) rfl rfl Tryz.underlying26 infoInts rfl (by decide) hP0 rfl rfl rfl (by simp [Value.oneCell']) (by omega) (by decide) hsz2 ?_; intro v1 w3 hP1 hg1 hb1; obtain ⟨a1, c1, rfl⟩ := own_any' (Pool.hd hP1); have hG1 := hG.grown (Pool.hd hP0) hg1 (by decide); have gd1 := hG1.cell 1 rfl; have gf1 := hG1.fr 1)
        have hR1 := hR.grown (Pool.hd hP0) hg1 (by decide)
        have hS1 := hS.grown (Pool.hd hP0) hg1 (by decide)
        have hG2 := hG1.set 1 (.slice a1 1 c1)
        have hP2 := Pool.set hP1 hG1 (fun t ht => by
          rcases List.mem_cons.1 ht with e | ht
          · rw [e]; dsimp only; decide
          rcases List.mem_cons.1 ht with e | ht
          · rw [e]; dsimp only; decide
          rcases List.mem_cons.1 ht with e | ht
          · rw [e]; dsimp only; decide
          · cases ht) 1 (.slice a1 1 c1)
        have hx2 : Ext w (w3.setCell ⟨b7, 1, none⟩ (.slice a1 1 c1)) := (Below.trans he (hb1.mono (by omega))).setCell (p := ⟨b7, 1, none⟩) (by simp only []; omega) (.slice a1 1 c1)
        have hR2 := hR1.other (p := ⟨b7, 1, none⟩) (by simp only []; omega) (.slice a1 1 c1)
        have hS2 := hS1.other (p := ⟨b7, 1, none⟩) (by simp only []; omega) (.slice a1 1 c1)
        have hsz3 : wg.heap.size ≤ (w3.setCell ⟨b7, 1, none⟩ (.slice a1 1 c1)).heap.size := by simp; exact Nat.le_trans hsz2 hb1.size
        clear hP1 hP0 hG hG1 hR hR1 hS hS1 he gc1 gd1 gf1 hg1 hb1 sc2
        generalize w3.setCell ⟨b7, 1, none⟩ (.slice a1 1 c1) = w4 at hG2 hP2 hx2 hR2 hS2 hsz3 ⊢
        have D0 := fun d os => cell_regrown (hG2.cell 2 rfl) d os
        obtain ⟨Kc, HKc⟩ : ∃ Kc : FuncId → Array Value → World → Value → World → Prop, Hid (Kc = fun _ _ _ _ _ => True) := ⟨_, rfl⟩
        refine wp_region_ext (Kc := Kc) 6 (by kernel_rfl) (by kernel_rfl) ?_
        simp only [List.take_succ_cons, List.take_zero]
        repeat (refine WalkE.pure rfl (fun K hK => ?_); simp only [PureDo]; go_simp; refine hK _ ?_; clear hK K)
        refine WalkE.step (fun K hK we hwe hde => ?_)
        simp only [OpDo, OpSafe, OpOut]
        go_simp
        refine ⟨Ext.alloc _ _, hK _ _ ?_⟩
        clear hK K hde
        refine WalkE.nil (fun wn hwn hmn => ?_)
        simp only [List.drop_succ_cons, List.drop_zero, List.drop_nil]
        have hxn : Ext w4 wn := (Ext.drew _).trans hwn
        have l0 : wn.cell? ⟨we.heap.size, 0, none⟩ = some (.bool false) := (hmn 5 (by omega)).new 0 rfl
        have hcell : ∀ (j : Nat) (u : Value), [Value.bool false][j]? = some u → wn.cell? ((⟨we.heap.size, 0, none⟩ : Addr).add j) = some u := fun j u hu => by
          rw [add_none]
          cases j with
          | zero => simp at hu; subst hu; exact l0
          | succ j => simp at hu
        have hG3 := hG2.ext hxn
        have hP3 := (hP2.ext hxn).perm (List.Perm.swap _ _ _)
        have hR3 := hR2.ext hxn
        have hS3 := hS2.ext hxn
        have hx3 := hx2.trans hxn
        have hsz4 := Nat.le_trans hsz3 hxn.size
        clear l0 hmn HKc D0 hG2 hP2 hR2 hS2 hx2 hsz3 hwn hwe hxn
        generalize we.heap.size = p9 at hcell ⊢
        clear we
        go_wp2_with (at_builtin; refine appPN (news := [Value.bool false]) rfl rfl Tryz.underlying27 infoBool rfl (by decide) hP3 rfl rfl (by simp) hcell (by simp [Value.oneCell']) (by omega) (by decide) hsz4 ?_; intro v2 w6 hP4 hg2 hb2; obtain ⟨a2, c2, rfl⟩ := own_any' (Pool.hd hP4); have hG4 := hG3.grown (Pool.hd hP3) hg2 (by decide); have gc2 := hG4.cell 2 rfl; have gf2 := hG4.fr 2)
        have hP5 := Pool.set hP4 hG4 (fun t ht => by
          rcases List.mem_cons.1 ht with e | ht
          · rw [e]; dsimp only; decide
          rcases List.mem_cons.1 ht with e | ht
          · rw [e]; dsimp only; decide
          rcases List.mem_cons.1 ht with e | ht
          · rw [e]; dsimp only; decide
          · cases ht) 2 (.slice a2 1 c2)
        have hx5 : Ext w (w6.setCell ⟨b7, 2, none⟩ (.slice a2 1 c2)) := (Below.trans hx3 (hb2.mono (by omega))).setCell (p := ⟨b7, 2, none⟩) (by simp only []; omega) (.slice a2 1 c2)
        exact ⟨⟨hx5, (hR3.grown (Pool.hd hP3) hg2 (by decide)).other (p := ⟨b7, 2, none⟩) (by simp only []; omega) _, (hS3.grown (Pool.hd hP3) hg2 (by decide)).other (p := ⟨b7, 2, none⟩) (by simp only []; omega) _, .inr ⟨rfl, _, _, hG4.set 2 (.slice a2 1 c2), hP5.perm (List.Perm.swap _ _ _)⟩⟩, by decide⟩
      | true =>
        go_wp2_with fail
        refine (readEntries_nil _).mono ?_
        rintro e w2 ⟨rfl, he2⟩
        replace he := he.trans he2
        replace hR := hR.ext he2
        replace hS := hS.ext he2
        replace hG := hG.ext he2
        have hsz2 := Nat.le_trans hsz he2.size
        have sc2 := hS.cell 1 rfl
        clear he2 hsz sc1
        have hP0 := (((Pool.nil wg.heap.size w2).addNil 3 1).addNil 4 1).addNil 81 1
        have gc1 := hG.cell 1 rfl
        go_wp2_with (at_builtin; refine appP (news := [Value.slice none 0 0]) rfl rfl Tryz.underlying26 infoInts rfl (by decide) hP0 rfl rfl rfl (by simp [Value.oneCell']) (by omega) (by decide) hsz2 ?_; intro v1 w3 hP1 hg1 hb1; obtain ⟨a1, c1, rfl⟩ := own_any' (Pool.hd hP1); have hG1 := hG.grown (Pool.hd hP0) hg1 (by decide); have gd1 := hG1.cell 1 rfl; have gf1 := hG1.fr 1)
        have hR1 := hR.grown (Pool.hd hP0) hg1 (by decide)
        have hS1 := hS.grown (Pool.hd hP0) hg1 (by decide)
        have hG2 := hG1.set 1 (.slice a1 1 c1)
        have hP2 := Pool.set hP1 hG1 (fun t ht => by
          rcases List.mem_cons.1 ht with e | ht
          · rw [e]; dsimp only; decide
          rcases List.mem_cons.1 ht with e | ht
          · rw [e]; dsimp only; decide
          rcases List.mem_cons.1 ht with e | ht
          · rw [e]; dsimp only; decide
          · cases ht) 1 (.slice a1 1 c1)
        have hx2 : Ext w (w3.setCell ⟨b7, 1, none⟩ (.slice a1 1 c1)) := (Below.trans he (hb1.mono (by omega))).setCell (p := ⟨b7, 1, none⟩) (by simp only []; omega) (.slice a1 1 c1)
        have hR2 := hR1.other (p := ⟨b7, 1, none⟩) (by simp only []; omega) (.slice a1 1 c1)
        have hS2 := hS1.other (p := ⟨b7, 1, none⟩) (by simp only []; omega) (.slice a1 1 c1)
        have hsz3 : wg.heap.size ≤ (w3.setCell ⟨b7, 1, none⟩ (.slice a1 1 c1)).heap.size := by simp; exact Nat.le_trans hsz2 hb1.size
        clear hP1 hP0 hG hG1 hR hR1 hS hS1 he gc1 gd1 gf1 hg1 hb1 sc2
        generalize w3.setCell ⟨b7, 1, none⟩ (.slice a1 1 c1) = w4 at hG2 hP2 hx2 hR2 hS2 hsz3 ⊢
        have D0 := fun d os => cell_regrown (hG2.cell 2 rfl) d os
        obtain ⟨Kc, HKc⟩ : ∃ Kc : FuncId → Array Value → World → Value → World → Prop, Hid (Kc = fun _ _ _ _ _ => True) := ⟨_, rfl⟩
        refine wp_region_ext (Kc := Kc) 6 (by kernel_rfl) (by kernel_rfl) ?_
        simp only [List.take_succ_cons, List.take_zero]
        repeat (refine WalkE.pure rfl (fun K hK => ?_); simp only [PureDo]; go_simp; refine hK _ ?_; clear hK K)
        refine WalkE.step (fun K hK we hwe hde => ?_)
        simp only [OpDo, OpSafe, OpOut]
        go_simp
        refine ⟨Ext.alloc _ _, hK _ _ ?_⟩
        clear hK K hde
        refine WalkE.nil (fun wn hwn hmn => ?_)
        simp only [List.drop_succ_cons, List.drop_zero, List.drop_nil]
        have hxn : Ext w4 wn := (Ext.drew _).trans hwn
        have l0 : wn.cell? ⟨we.heap.size, 0, none⟩ = some (.bool true) := (hmn 5 (by omega)).new 0 rfl
        have hcell : ∀ (j : Nat) (u : Value), [Value.bool true][j]? = some u → wn.cell? ((⟨we.heap.size, 0, none⟩ : Addr).add j) = some u := fun j u hu => by
          rw [add_none]
          cases j with
          | zero => simp at hu; subst hu; exact l0
          | succ j => simp at hu
        have hG3 := hG2.ext hxn
        have hP3 := (hP2.ext hxn).perm (List.Perm.swap _ _ _)
        have hR3 := hR2.ext hxn
        have hS3 := hS2.ext hxn
        have hx3 := hx2.trans hxn
        have hsz4 := Nat.le_trans hsz3 hxn.size
        clear l0 hmn HKc D0 hG2 hP2 hR2 hS2 hx2 hsz3 hwn hwe hxn
        generalize we.heap.size = p9 at hcell ⊢
        clear we
        go_wp2_with (at_builtin; refine appPN (news := [Value.bool true]) rfl rfl Tryz.underlying27 infoBool rfl (by decide) hP3 rfl rfl (by simp) hcell (by simp [Value.oneCell']) (by omega) (by decide) hsz4 ?_; intro v2 w6 hP4 hg2 hb2; obtain ⟨a2, c2, rfl⟩ := own_any' (Pool.hd hP4); have hG4 := hG3.grown (Pool.hd hP3) hg2 (by decide); have gc2 := hG4.cell 2 rfl; have gf2 := hG4.fr 2)
        have hP5 := Pool.set hP4 hG4 (fun t ht => by
          rcases List.mem_cons.1 ht with e | ht
          · rw [e]; dsimp only; decide
          rcases List.mem_cons.1 ht with e | ht
          · rw [e]; dsimp only; decide
          rcases List.mem_cons.1 ht with e | ht
          · rw [e]; dsimp only; decide
          · cases ht) 2 (.slice a2 1 c2)
        have hx5 : Ext w (w6.setCell ⟨b7, 2, none⟩ (.slice a2 1 c2)) := (Below.trans hx3 (hb2.mono (by omega))).setCell (p := ⟨b7, 2, none⟩) (by simp only []; omega) (.slice a2 1 c2)
        exact ⟨⟨hx5, (hR3.grown (Pool.hd hP3) hg2 (by decide)).other (p := ⟨b7, 2, none⟩) (by simp only []; omega) _, (hS3.grown (Pool.hd hP3) hg2 (by decide)).other (p := ⟨b7, 2, none⟩) (by simp only []; omega) _, .inr ⟨rfl, _, _, hG4.set 2 (.slice a2 1 c2), hP5.perm (List.Perm.swap _ _ _)⟩⟩, by decide⟩
    · obtain ⟨a1, c1, rfl⟩ := own_any' (Pool.hd hP)
      obtain ⟨a2, c2, rfl⟩ := own_any' (Pool.hd2 hP)
      have hO : AutoOwn wg.heap.size wr (.agg #[.int .i64 0, .slice a1 1 c1, .slice a2 1 c2]) (litAuto b) := Pool.auto (x := litAuto b) (vs := [.slice none 0 0]) hP rfl
      have HO := Lib.hid hO
      have gc0 := hG.cell 0 rfl
      have gc1 := hG.cell 1 rfl
      have gc2 := hG.cell 2 rfl
      have hbb : (litText b != litText b) = false := by cases b <;> decide
      clear hP hO
      go_wp2_with fail
      refine (FormatAutomaton_lit b _ _ HO.out.auto).mono ?_
      rintro e w5 ⟨rfl, he5⟩
      replace he := he.trans he5
      replace hR := hR.ext he5
      replace hG := hG.ext he5
      have HO5 := Lib.hid (HO.out.ext he5)
      clear gc0 gc1 gc2
      have gc0 := hG.cell 0 rfl
      have gc1 := hG.cell 1 rfl
      have gc2 := hG.cell 2 rfl
      have rc0 := hR.cell 0 rfl; have rf0 := hR.fr 0; have rc1 := hR.cell 1 rfl; have rf1 := hR.fr 1; have rc2 := hR.cell 2 rfl; have rf2 := hR.fr 2
      go_wp2_with fail
      refine bodyPost_ret (v := .tuple #[.agg #[.int .i64 0, .slice a1 1 c1, .slice a2 1 c2], .bool true]) (by simp [results, Tryz.results34, go_sem, rc0, rc1, rc2, rf0, rf1, rf2]) rfl ?_
      refine ⟨_, rfl, (((he.setCell (p := ⟨w.heap.size, 0, none⟩) (by simp only []; omega) _).setCell (p := ⟨w.heap.size, 1, none⟩) (by simp only []; omega) _).setCell (p := ⟨w.heap.size, 2, none⟩) (by simp only []; omega) _), ?_⟩
      exact (auto_store (auto_store (auto_store HO5.out hR (by decide) (by decide) (by decide) 0 _) (hR.set 0 _) (by decide) (by decide) (by decide) 1 _) ((hR.set 0 _).set 1 _) (by decide) (by decide) (by decide) 2 _).low (by omega)
end Go.Proofs.YtajafdblmphglaaGreatDoor
