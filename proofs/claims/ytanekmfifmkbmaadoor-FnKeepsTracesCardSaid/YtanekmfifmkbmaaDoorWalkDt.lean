/- Part of this seat's proofs, cut to what its law needs. -/

import Derived.Test.YtanekmfifmkbmaaDoorWalkPj
import Derived.Test.YtanekmfifmkbmaaDoorWalkFB
import Derived.Test.YtanekmfifmkbmaaDoorSubS
import Derived.Deep.DeepCutAuto
namespace Go.Proofs.YtanekmfifmkbmaaDoor
open Go Go.RowKit
set_option linter.unusedVariables false
set_option linter.unusedSimpArgs false
set_option maxHeartbeats 4000000
set_option maxRecDepth 100000

theorem andNot_tab : ∀ a ∈ List.range 64, ∀ b ∈ List.range 64, bits .andNot .i64 (Int.ofNat a) (Int.ofNat b) = Int.ofNat (a - (a &&& b)) ∧ ((a - (a &&& b) = 0) ↔ b &&& a = a) := by decide +kernel
theorem hidS_not {s : Sys} (hs : sysValid s = true) {a : Int} (a0 : 0 ≤ a) (a63 : a ≤ 63) : bits .andNot .i64 s.alphabet a = hidS s a := by
  obtain ⟨h1, h2⟩ := sys_alpha hs
  obtain ⟨m, hm⟩ := Int.eq_ofNat_of_zero_le h1
  obtain ⟨n, hn⟩ := Int.eq_ofNat_of_zero_le a0
  have h3 : bits .and .i64 s.alphabet a = ((m &&& n : Nat) : Int) := by rw [hm, hn]; exact i64_and_nat m n (by omega) (by omega)
  have h4 : m &&& n ≤ m := Nat.and_le_left
  have h5 := (andNot_tab m (List.mem_range.2 (by omega)) n (List.mem_range.2 (by omega))).1
  unfold hidS
  rw [h3, hm, hn]
  rw [show ((m : Nat) : Int) = Int.ofNat m from rfl, show ((n : Nat) : Int) = Int.ofNat n from rfl, h5]
  show ((m - (m &&& n) : Nat) : Int) = (m : Int) - ((m &&& n : Nat) : Int)
  omega
theorem over_iff {s : Sys} (hs : sysValid s = true) {a : Int} (a0 : 0 ≤ a) (a63 : a ≤ 63) : bits .andNot .i64 a s.alphabet = 0 ↔ bits .and .i64 s.alphabet a = a := by
  obtain ⟨h1, h2⟩ := sys_alpha hs
  obtain ⟨m, hm⟩ := Int.eq_ofNat_of_zero_le h1
  obtain ⟨n, hn⟩ := Int.eq_ofNat_of_zero_le a0
  have h3 : bits .and .i64 s.alphabet a = ((m &&& n : Nat) : Int) := by rw [hm, hn]; exact i64_and_nat m n (by omega) (by omega)
  obtain ⟨h5, h6⟩ := andNot_tab n (List.mem_range.2 (by omega)) m (List.mem_range.2 (by omega))
  rw [h3, hm, hn, show ((m : Nat) : Int) = Int.ofNat m from rfl, show ((n : Nat) : Int) = Int.ofNat n from rfl, h5]
  show ((n - (n &&& m) : Nat) : Int) = 0 ↔ ((m &&& n : Nat) : Int) = (n : Int)
  omega
theorem hidS_self {s : Sys} (hs : sysValid s = true) : hidS s s.alphabet = 0 := by
  obtain ⟨h1, h2⟩ := sys_alpha hs
  obtain ⟨m, hm⟩ := Int.eq_ofNat_of_zero_le h1
  unfold hidS
  rw [hm, i64_and_nat m m (by omega) (by omega), Nat.and_self]; omega
theorem hidS_bit {s : Sys} (hs : sysValid s = true) {a : Int} (a0 : 0 ≤ a) (a63 : a ≤ 63) {l : Int} (h1 : bit s.alphabet l = true) (h2 : bit a l = false) : bit (hidS s a) l = true := by
  obtain ⟨k1, k2⟩ := sys_alpha hs
  obtain ⟨m, hm⟩ := Int.eq_ofNat_of_zero_le k1
  obtain ⟨n, hn⟩ := Int.eq_ofNat_of_zero_le a0
  have h0 := (letters_lt6 k2 l ((letters_iff l k2).2 h1))
  obtain ⟨t, rfl⟩ := Int.eq_ofNat_of_zero_le h0.1
  have h3 : bits .and .i64 s.alphabet a = ((m &&& n : Nat) : Int) := by rw [hm, hn]; exact i64_and_nat m n (by omega) (by omega)
  have tab : ∀ a ∈ List.range 64, ∀ b ∈ List.range 64, ∀ q ∈ List.range 6, a.testBit q = true → b.testBit q = false → (a - (a &&& b)).testBit q = true := by decide +kernel
  unfold hidS
  rw [h3]
  rw [hm] at h1 ⊢
  rw [hn] at h2
  rw [show ((m : Nat) : Int) - ((m &&& n : Nat) : Int) = ((m - (m &&& n) : Nat) : Int) by have : m &&& n ≤ m := Nat.and_le_left; omega]
  simp only [bit, Int.toNat_natCast, Int.natCast_nonneg, decide_true, Bool.true_and] at h1 h2 ⊢
  exact tab m (List.mem_range.2 (by omega)) n (List.mem_range.2 (by omega)) t (List.mem_range.2 (by omega)) h1 h2


theorem hidTo_lt {s : Sys} (hs : sysValid s = true) {f : Nat} (hf : f < 65536) (L : List Int) : ∀ k, hidTo s f L k < 65536
  | 0 => hf
  | k + 1 => by
    cases hk : L[k]? with
    | none =>
      have e : hidTo s f L (k + 1) = hidTo s f L k := by unfold hidTo; rw [List.take_add_one, hk]; simp
      rw [e]; exact hidTo_lt hs hf L k
    | some l => rw [hidTo_succ hk]; exact Nat.or_lt_two_pow (n := 16) (hidTo_lt hs hf L k) (stepM_lt hs f l)
theorem closure_c (v : Value) (s : Sys) (H : Int) (f0 : Nat) (vh : Value) (w : World) (hv : MovesV w v s) (hh : IntsV w vh (letters H)) (hs : sysValid s = true) (h63 : H ≤ 63) (hf0 : f0 < 65536) (hT : Deb w) :
    Calls Tryd.prog 40 #[v, .int .i64 f0, vh] w (Grows (.int .i64 (reachH s H f0 : Nat)) w) := by
  obtain ⟨al, cl, rfl, -, hlat⟩ := hh.open
  obtain ⟨mb, mcs, rfl, hMB⟩ := hv
  have HM := Lib.hid (show ∀ w', Ext w w' → MovesV w' (.pointer (some ⟨mb, 0, none⟩)) s from fun w' h => MovesV.mono ⟨mb, mcs, rfl, hMB⟩ h)
  have HDD := Lib.hid (show ∀ w', Ext w w' → Deb w' from fun w' h => hT.ext h)
  have HLAT := Lib.hid hlat
  have hL6 : (letters H).length ≤ 6 := lettersTo_len H 6
  have HST := Lib.hid (OnWay.start (H := H) hs hf0)
  obtain ⟨L, hL⟩ : ∃ L, letters H = L := ⟨_, rfl⟩
  have HL := Lib.hid hL
  rw [hL] at HLAT hL6 ⊢
  clear hMB hT hlat hh hL
  go_enter Tryd.func40, Tryd.ntmps40
  go_wp2_with fail
  go_loopw [1] (fun t wr => ∃ f : Nat, t = .int .i64 f ∧ f < 65536 ∧ Hid (OnWay s H f0 f) ∧ Ext w wr) (fun t _ => 65536 - (intOf t).toNat)
  case atStart => exact ⟨f0, rfl, hf0, HST, Ext.refl _⟩
  case round =>
    obtain ⟨f, rfl, hf, HF, hx⟩ := hrel
    go_wp2_with fail
    go_loopw [7, 13] (fun a i wr => ∃ m : Nat, m ≤ L.length ∧ i = .int .i64 m ∧ a = .int .i64 (hidTo s f L m) ∧ Ext w wr) (fun _ i _ => L.length - (intOf i).toNat)
    case atStart => exact ⟨0, by omega, rfl, rfl, hx⟩
    case round =>
      clear hx
      obtain ⟨m, hm, rfl, rfl, hx⟩ := hrel
      have hg := hidTo_lt hs hf L m
      by_cases hlt : m < L.length
      · obtain ⟨l, hl⟩ : ∃ l, L[m]? = some l := ⟨_, List.getElem?_eq_getElem hlt⟩
        have HSU := Lib.hid (hidTo_succ (s := s) (set := f) hl)
        have hl6 := letters_lt6 h63 l (by rw [HL.out]; exact List.mem_of_getElem? hl)
        obtain ⟨lt, hlt2⟩ := Int.eq_ofNat_of_zero_le hl6.1
        have hlt6 : lt < 6 := by omega
        obtain ⟨bl, ol, rfl, -, hcl⟩ := HLAT.out m l hl
        have cl := hcl m l hl
        unfold IntAt at cl
        rw [Nat.mul_one] at cl
        rw [hlt2] at cl HSU
        replace cl := hx.cell cl
        have hst := stepM_lt hs f (lt : Int)
        have HOR := Lib.hid (show bits .or .i64 (hidTo s f L m : Int) (stepM s f (lt : Int) : Nat) = (hidTo s f L (m + 1) : Int) from by rw [HSU.out]; exact i64_or_nat _ _ (by omega) (by omega))
        clear hl hcl hl6 hlt2
        go_wp2_with fail
        refine (step_c _ s f lt wr (HM.out _ hx) hs hf hlt6 (HDD.out _ hx)).mono ?_
        rintro e w4 ⟨rfl, he4⟩
        clear cl
        go_wp2_with fail
        exact ⟨⟨m + 1, by omega, by go_num, congrArg _ HOR.out, hx.trans he4⟩, by simp [intOf]; omega⟩
      · obtain rfl : m = L.length := by omega
        have hle := hid_ge s f L L.length
        by_cases hq : hidTo s f L L.length = f
        · have hdone := Lib.hid (HF.out.done hs hf0 h63 (by rw [HL.out]; exact hq))
          rw [hq]
          have hq2 : ((f : Int) == (f : Int)) = true := by simp
          clear hq hle
          go_wp2_with fail
          go_ret
          exact Grows.mk (by rw [hdone.out]; rfl) hx
        · have hq2 : ((hidTo s f L L.length : Int) == (f : Int)) = false := beq_eq_false_iff_ne.2 (by omega)
          have hgl : f < hidTo s f L L.length := by omega
          have HN := Lib.hid (show OnWay s H f0 (hidTo s f L L.length) from by have := HF.out.hid hs hf0 h63 (letters H).length; rwa [HL.out] at this)
          clear hq
          go_wp2_with fail
          exact ⟨⟨_, rfl, hg, HN, hx⟩, by simp [intOf]; omega⟩

structure GroundD (w : World) (bm bh : Nat) (s : Sys) (H : Int) : Prop where
  m : ∃ v, Blk w bm #[v] 49 ∧ MovesV w v s
  h : ∃ v, Blk w bh #[v] 51 ∧ IntsV w v (letters H)
theorem GroundD.ext {w w' : World} {bm bh : Nat} {s : Sys} {H : Int} (h : GroundD w bm bh s H) (he : Ext w w') : GroundD w' bm bh s H := by
  obtain ⟨⟨vm, h1, h2⟩, ⟨vh, h3, h4⟩⟩ := h
  exact ⟨⟨vm, h1.ext he, h2.mono he⟩, ⟨vh, h3.ext he, h4.mono he⟩⟩
theorem projNext_c (bm bh : Nat) (s : Sys) (H : Int) (node lt : Nat) (w : World) (h : GroundD w bm bh s H) (hs : sysValid s = true) (h63 : H ≤ 63) (hn : node < 65536) (hl : lt < 6) (hT : Deb w) :
    Calls Tryd.prog 41 #[.int .i64 node, .int .i64 lt, .pointer (some ⟨bm, 0, none⟩), .pointer (some ⟨bh, 0, none⟩)] w (Grows (.int .i64 (nextH s H node (lt : Nat) : Nat)) w) := by
  obtain ⟨⟨vm, hm1, hm2⟩, ⟨vh, hh1, hh2⟩⟩ := h
  obtain ⟨ah, ch, rfl, -, -⟩ := hh2.open
  obtain ⟨mb, mcs, rfl, hMB⟩ := hm2
  have HM := Lib.hid (show ∀ w', Ext w w' → MovesV w' (.pointer (some ⟨mb, 0, none⟩)) s from fun w' h => MovesV.mono ⟨mb, mcs, rfl, hMB⟩ h)
  have HH := Lib.hid (show ∀ w', Ext w w' → IntsV w' (.slice ah (letters H).length ch) (letters H) from fun w' h => hh2.mono h)
  have HDD := Lib.hid (show ∀ w', Ext w w' → Deb w' from fun w' h => hT.ext h)
  clear hMB hT hh2
  have D0 := fun d os => cell_regrown (hm1.cell 0 rfl) d os
  have D1 := fun d os => cell_regrown (hh1.cell 0 rfl) d os
  have hst := stepM_lt hs node (lt : Int)
  have HN : Hid (nextH s H node (lt : Int) = reachH s H (stepM s node (lt : Int))) := Lib.hid rfl
  rw [HN.out]
  obtain ⟨st, hse⟩ : ∃ st, stepM s node (lt : Int) = st := ⟨_, rfl⟩
  have HSE := Lib.hid hse
  rw [hse] at hst ⊢
  obtain ⟨r, hre⟩ : ∃ r, reachH s H st = r := ⟨_, rfl⟩
  have HRE := Lib.hid hre
  rw [hre]
  clear hse hre HN
  go_enter Tryd.func41, Tryd.ntmps41
  go_wp2_with fail
  obtain ⟨Kc, HKc⟩ : ∃ Kc : FuncId → Array Value → World → Value → World → Prop, Hid (Kc = fun (f : FuncId) (_ : Array Value) (w0 : World) (v : Value) (w' : World) => Ext w0 w' ∧ (f = 26 → v = .int .i64 (st : Nat)) ∧ (f = 40 → v = .int .i64 (r : Nat))) := ⟨_, rfl⟩
  refine wp_region_ext (Kc := Kc) 8 (by kernel_rfl) (by kernel_rfl) ?_
  simp only [List.take_succ_cons, List.take_zero]
  repeat (refine WalkE.pure rfl (fun K hK => ?_); simp only [PureDo]; go_simp; refine hK _ ?_; clear hK K)
  refine WalkE.step (fun K hK wd hwd hdd => ?_)
  simp only [OpDo, OpSafe, OpOut]
  go_simp
  refine ⟨(step_c _ s node lt _ (HM.out _ ((Ext.drew _).trans hwd)) hs hn hl (HDD.out _ ((Ext.drew _).trans hwd))).mono ?_, ?_⟩
  · rintro e w' ⟨rfl, he⟩
    exact ⟨_, rfl, by rw [HKc.out]; exact ⟨he, fun _ => by rw [HSE.out], fun h => absurd h (by decide)⟩⟩
  intro u1 w5 hk1
  rw [HKc.out] at hk1
  obtain ⟨hk1, hk2, -⟩ := hk1
  obtain rfl := hk2 rfl
  refine ⟨hk1, hK _ _ ?_⟩
  clear hK K hdd hk1 hk2
  repeat (refine WalkE.pure rfl (fun K hK => ?_); simp only [PureDo]; go_simp; refine hK _ ?_; clear hK K)
  refine WalkE.step (fun K hK we hwe hde => ?_)
  simp only [OpDo, OpSafe, OpOut]
  go_simp
  refine ⟨(closure_c _ s H st _ _ (HM.out _ ((Ext.drew _).trans hwe)) (HH.out _ ((Ext.drew _).trans hwe)) hs h63 hst (HDD.out _ ((Ext.drew _).trans hwe))).mono ?_, ?_⟩
  · rintro e w' ⟨rfl, he⟩
    exact ⟨_, rfl, by rw [HKc.out]; exact ⟨he, fun h => absurd h (by decide), fun _ => by rw [HRE.out]⟩⟩
  intro u2 w6 hk1
  rw [HKc.out] at hk1
  obtain ⟨hk1, -, hk2⟩ := hk1
  obtain rfl := hk2 rfl
  refine ⟨hk1, hK _ _ ?_⟩
  clear hK K hde hk1 hk2
  repeat (refine WalkE.pure rfl (fun K hK => ?_); simp only [PureDo]; go_simp; refine hK _ ?_; clear hK K)
  refine WalkE.nil (fun wn hwn hmn => ?_)
  simp only [List.drop_succ_cons, List.drop_zero, List.drop_nil]
  go_wp2_with fail
  go_ret
  exact Grows.mk rfl ((Ext.drew _).trans hwn)
theorem enter_proj (args : Array Value) (w : World) : (callFunc 41 args).run Tryd.prog w = .ok (.enter 41 args) w := rfl
theorem nx_proj {w0 : World} {bm bh : Nat} {s : Sys} {H a : Int} (h : GroundD w0 bm bh s H) (hs : sysValid s = true) (h63 : H ≤ 63) (a63 : a ≤ 63) (hT : Deb w0) :
    NxIs w0 65536 (letters a) (.func (.func 41) #[] #[.pointer (some ⟨bm, 0, none⟩), .pointer (some ⟨bh, 0, none⟩)]) (nextH s H) := by
  refine ⟨⟨_, _, rfl, enter_proj, fun w' k l hx hk hl => ?_⟩, fun k l _ _ => nextH_lt s H k l⟩
  obtain ⟨hl0, hl6⟩ := letters_lt6 a63 l hl
  obtain ⟨lt, rfl⟩ := Int.eq_ofNat_of_zero_le hl0
  exact projNext_c bm bh s H k lt w' (h.ext hx) hs h63 hk (by omega) (hT.ext hx)

def projOk (s : Sys) (a : Int) : Bool := sysValid s && isAlpha a && decide (bits .and .i64 s.alphabet a = a)
def ProjEnd (s : Sys) (a : Int) (base : Nat) (w' : World) (v' : Value) (b : Bool) : Prop :=
  (projOk s a = true ∧ SubEnd s a base w' v' b) ∨ (projOk s a = false ∧ b = false ∧ v' = .agg #[.int .i64 0, .slice none 0 0, .slice none 0 0])

theorem ProjectSystem_c (v : Value) (s : Sys) (a : Int) (w : World) (hv : SysV w v s) (hT : Deb w) :
    Calls Tryd.prog 14 #[v, .int .i64 a] w (fun e w' => ∃ v' b, e = .returned (.tuple #[v', .bool b]) ∧ Ext w w' ∧ ProjEnd s a w.heap.size w' v' b) := by
  have HV := Lib.hid hv
  obtain ⟨vE1, rfl, k1⟩ := hv
  obtain ⟨aE1, cE1, rfl, -, -⟩ := k1.open
  have HDb := Lib.hid hT
  clear k1 hT
  unfold ProjEnd SubEnd
  obtain ⟨H, hHe⟩ : ∃ H, hidS s a = H := ⟨_, rfl⟩
  have HHE := Lib.hid hHe
  rw [hHe]
  clear hHe
  obtain ⟨wo, hwo⟩ : ∃ wo, wo = (w.alloc (.cells #[.int .i64 s.alphabet, .int .i64 s.states, .slice aE1 s.edges.length cE1] 25)).alloc (.cells #[.int .i64 0, .slice none 0 0, .slice none 0 0] 32) := ⟨_, rfl⟩
  have he : Ext w wo := by rw [hwo]; exact (Ext.alloc _ _).trans (Ext.alloc _ _)
  have b1 : Blk wo w.heap.size #[.int .i64 s.alphabet, .int .i64 s.states, .slice aE1 s.edges.length cE1] 25 := by rw [hwo]; exact Ext.blk (Ext.alloc _ _)
  have b2 : Blk wo (w.heap.size + 1) #[.int .i64 0, .slice none 0 0, .slice none 0 0] 32 := by rw [hwo]; exact Ext.blk1 (Ext.refl _)
  go_enter Tryd.func14, Tryd.ntmps14
  go_upto_region 1 with fail
  rw [← hwo]
  clear hwo
  have b1_0 := b1.cell 0 rfl; have b1_1 := b1.cell 1 rfl; have b1_2 := b1.cell 2 rfl
  by_cases hs : sysValid s = true
  case neg =>
    have hs' : sysValid s = false := by simpa using hs
    go_wp2_with fail
    refine (SystemValid_b hs' (HV.out.mono he)).mono ?_
    rintro e w1 ⟨rfl, he1⟩
    replace he := he.trans he1
    replace b2 := b2.ext he1
    have rc0 := b2.cell 0 rfl; have rf0 := b2.fr 0; have rc1 := b2.cell 1 rfl; have rf1 := b2.fr 1; have rc2 := b2.cell 2 rfl; have rf2 := b2.fr 2
    go_wp2_with fail
    refine bodyPost_ret (v := .tuple #[.agg #[.int .i64 0, .slice none 0 0, .slice none 0 0], .bool false]) (by simp [results, Tryd.results14, go_sem, rc0, rc1, rc2, rf0, rf1, rf2]) rfl ?_
    exact ⟨_, false, rfl, (((he.setCell (p := ⟨(w.heap.size + 1), 0, none⟩) (by simp only []; omega) _).setCell (p := ⟨(w.heap.size + 1), 1, none⟩) (by simp only []; omega) _).setCell (p := ⟨(w.heap.size + 1), 2, none⟩) (by simp only []; omega) _), .inr ⟨by unfold projOk; rw [hs']; rfl, rfl, rfl⟩⟩
  have HS := Lib.hid hs
  go_wp2_with fail
  refine (SystemValid_b hs (HV.out.mono he)).mono ?_
  rintro e w1 ⟨rfl, he1⟩
  clear b1_0 b1_1 b1_2 hs
  replace he := he.trans he1
  replace b1 := b1.ext he1
  replace b2 := b2.ext he1
  clear he1
  by_cases ha : isAlpha a = true
  case neg =>
    have ha' : isAlpha a = false := by simpa using ha
    go_wp2_with fail
    refine (isAlphabet_c a w1).mono ?_
    rintro e w' ⟨rfl, rfl⟩
    rw [ha']
    have rc0 := b2.cell 0 rfl; have rf0 := b2.fr 0; have rc1 := b2.cell 1 rfl; have rf1 := b2.fr 1; have rc2 := b2.cell 2 rfl; have rf2 := b2.fr 2
    go_wp2_with fail
    refine bodyPost_ret (v := .tuple #[.agg #[.int .i64 0, .slice none 0 0, .slice none 0 0], .bool false]) (by simp [results, Tryd.results14, go_sem, rc0, rc1, rc2, rf0, rf1, rf2]) rfl ?_
    exact ⟨_, false, rfl, (((he.setCell (p := ⟨(w.heap.size + 1), 0, none⟩) (by simp only []; omega) _).setCell (p := ⟨(w.heap.size + 1), 1, none⟩) (by simp only []; omega) _).setCell (p := ⟨(w.heap.size + 1), 2, none⟩) (by simp only []; omega) _), .inr ⟨by unfold projOk; rw [ha']; simp, rfl, rfl⟩⟩
  have HA := Lib.hid ha
  obtain ⟨a0, a63⟩ := alpha_facts ha
  have hov := over_iff HS.out a0 a63
  go_wp2_with fail
  refine (isAlphabet_c a w1).mono ?_
  rintro e w' ⟨rfl, rfl⟩
  rw [ha]
  clear ha
  have b1_0 := b1.cell 0 rfl; have b1_1 := b1.cell 1 rfl; have b1_2 := b1.cell 2 rfl
  obtain ⟨z, hz⟩ : ∃ z, bits .andNot .i64 a s.alphabet = z := ⟨_, rfl⟩
  rw [hz] at hov
  by_cases hz0 : z = 0
  case neg =>
    have HNO := Lib.hid (show projOk s a = false from by unfold projOk; rw [HS.out, HA.out, decide_eq_false (fun h => hz0 (hov.2 h))]; rfl)
    have hzb : (z == 0) = false := beq_eq_false_iff_ne.2 hz0
    have rc0 := b2.cell 0 rfl; have rf0 := b2.fr 0; have rc1 := b2.cell 1 rfl; have rf1 := b2.fr 1; have rc2 := b2.cell 2 rfl; have rf2 := b2.fr 2
    clear hov
    go_wp2_with fail
    refine bodyPost_ret (v := .tuple #[.agg #[.int .i64 0, .slice none 0 0, .slice none 0 0], .bool false]) (by simp [results, Tryd.results14, go_sem, rc0, rc1, rc2, rf0, rf1, rf2]) rfl ?_
    exact ⟨_, false, rfl, (((he.setCell (p := ⟨(w.heap.size + 1), 0, none⟩) (by simp only []; omega) _).setCell (p := ⟨(w.heap.size + 1), 1, none⟩) (by simp only []; omega) _).setCell (p := ⟨(w.heap.size + 1), 2, none⟩) (by simp only []; omega) _), .inr ⟨HNO.out, rfl, rfl⟩⟩
  have HOK := Lib.hid (show projOk s a = true from by unfold projOk; rw [HS.out, HA.out, decide_eq_true (hov.1 hz0)]; rfl)
  subst hz0
  clear hov
  go_wp2_with fail
  refine (movesOf_c _ s _ (HV.out.mono he) HS.out).mono ?_
  rintro e w3 ⟨vm, rfl, he3, hM⟩
  clear b1_0 b1_1 b1_2 hz
  obtain ⟨mb, mcs, rfl, hMB⟩ := hM
  have hM : MovesV w3 (.pointer (some ⟨mb, 0, none⟩)) s := ⟨mb, mcs, rfl, hMB⟩
  replace he := he.trans he3
  replace b1 := b1.ext he3
  replace b2 := b2.ext he3
  clear he3 hMB
  go_upto_region 4 with fail
  obtain ⟨w4, hw4⟩ : ∃ w4, w4 = w3.alloc (.cells #[.pointer (some ⟨mb, 0, none⟩)] 49) := ⟨_, rfl⟩
  have y4 : Ext w3 w4 := by rw [hw4]; exact Ext.alloc _ _
  have bM : Blk w4 w3.heap.size #[.pointer (some ⟨mb, 0, none⟩)] 49 := by rw [hw4]; exact Blk.new _ _ _
  rw [← hw4]
  clear hw4
  generalize w3.heap.size = g6 at bM ⊢
  replace he := he.trans y4
  replace b1 := b1.ext y4
  replace b2 := b2.ext y4
  replace hM := hM.mono y4
  clear y4
  have hand := hidS_not HS.out a0 a63
  obtain ⟨hH0, hH63, -⟩ := hidS_facts HS.out a0 a63
  rw [HHE.out] at hand hH0 hH63
  have b1_0 := b1.cell 0 rfl; have b1_1 := b1.cell 1 rfl; have b1_2 := b1.cell 2 rfl
  go_wp2_with fail
  refine (lettersOf_c _ _ hH0 hH63).mono ?_
  rintro e w5 ⟨vl, rfl, he5, hl⟩
  obtain ⟨aL, cL, rfl, -, -⟩ := hl.open
  clear b1_0 b1_1 b1_2 hand
  replace he := he.trans he5
  replace b1 := b1.ext he5
  replace b2 := b2.ext he5
  replace bM := bM.ext he5
  replace hM := hM.mono he5
  clear he5
  go_upto_region 5 with fail
  obtain ⟨w6, hw6⟩ : ∃ w6, w6 = w5.alloc (.cells #[.slice aL (letters H).length cL] 51) := ⟨_, rfl⟩
  have y6 : Ext w5 w6 := by rw [hw6]; exact Ext.alloc _ _
  have bH : Blk w6 w5.heap.size #[.slice aL (letters H).length cL] 51 := by rw [hw6]; exact Blk.new _ _ _
  rw [← hw6]
  clear hw6
  generalize w5.heap.size = g7 at bH ⊢
  replace he := he.trans y6
  replace b1 := b1.ext y6
  replace b2 := b2.ext y6
  replace bM := bM.ext y6
  replace hM := hM.mono y6
  replace hl := hl.mono y6
  clear y6
  have HDE := Lib.hid (HDb.out.ext he)
  have HG := Lib.hid (show GroundD w6 g6 g7 s H from ⟨⟨_, bM, hM⟩, ⟨_, bH, hl⟩⟩)
  have m0 := bM.cell 0 rfl
  have h0 := bH.cell 0 rfl
  go_wp2_with fail
  refine (closure_c _ s H 1 _ _ hM hl HS.out hH63 (by omega) HDE.out).mono ?_
  rintro e w7 ⟨rfl, he7⟩
  clear m0 h0 hM hl
  obtain ⟨n0, hn0⟩ : ∃ n0, reachH s H 1 = n0 := ⟨_, rfl⟩
  rw [hn0]
  have HN0 : Hid (startH s H = n0) := Lib.hid hn0
  have hn0B : n0 < 65536 := by rw [← HN0.out]; exact startH_lt s H
  clear hn0
  have hx7 := he7
  go_wp2_with fail
  refine (lettersOf_c _ _ a0 a63).mono ?_
  rintro e w8 ⟨vl, rfl, he8, hl⟩
  obtain ⟨aA, cA, rfl, -, -⟩ := hl.open
  replace hx7 := hx7.trans he8
  clear he7 he8
  obtain ⟨nx, hnx⟩ : ∃ nx, nextH s H = nx := ⟨_, rfl⟩
  have HNX := Lib.hid hnx
  have HN := Lib.hid (show NxIs w8 65536 (letters a) _ nx from by have := nx_proj (a := a) (HG.out.ext hx7) HS.out hH63 a63 (HDE.out.ext hx7); rwa [hnx] at this)
  have hL6 := lettersTo_len a 6
  clear hnx
  go_wp2_with fail
  refine (numbered_c n0 12 65536 _ _ (letters a) nx _ hl hL6 (by omega) (by omega) (by omega) hn0B HN.out).mono ?_
  rintro e w9 ⟨he9, hres⟩
  have l8 : w.heap.size + 1 < w8.heap.size := Nat.lt_of_lt_of_le b2.lt hx7.size
  replace he := (he.trans hx7).trans he9
  replace b2 := (b2.ext hx7).ext he9
  have sN : w8.heap.size ≤ w9.heap.size := he9.size
  clear b1 bM bH hl HN HG he9 hx7
  generalize w8.heap.size = base at hres l8 sN
  rcases hres with ⟨nodes, vS, vR, vs, rows, rfl, hnum, hlen, hP, hrows, hvl⟩ | ⟨rfl, htm⟩
  case inr =>
    have HTM := Lib.hid htm
    clear htm
    have rc0 := b2.cell 0 rfl; have rf0 := b2.fr 0; have rc1 := b2.cell 1 rfl; have rf1 := b2.fr 1; have rc2 := b2.cell 2 rfl; have rf2 := b2.fr 2
    go_wp2_with fail
    refine bodyPost_ret (v := .tuple #[.agg #[.int .i64 0, .slice none 0 0, .slice none 0 0], .bool false]) (by simp [results, Tryd.results14, go_sem, rc0, rc1, rc2, rf0, rf1, rf2]) rfl ?_
    exact ⟨_, false, rfl, (((he.setCell (p := ⟨(w.heap.size + 1), 0, none⟩) (by simp only []; omega) _).setCell (p := ⟨(w.heap.size + 1), 1, none⟩) (by simp only []; omega) _).setCell (p := ⟨(w.heap.size + 1), 2, none⟩) (by simp only []; omega) _), .inl ⟨HOK.out, .inr ⟨rfl, rfl, by have := HTM.out; rw [← HNX.out, ← HN0.out] at this; exact this⟩⟩⟩
  obtain ⟨aR, cR, rfl⟩ := own_any' (Pool.hd2 hP)
  obtain ⟨aS, cS, rfl⟩ := own_any' (Pool.hd hP)
  have HNU := Lib.hid hnum
  have HRW := Lib.hid hrows
  have HVL := Lib.hid hvl
  clear hnum hrows hvl
  go_upto_region 9 with fail
  obtain ⟨wa, hwa⟩ : ∃ wa, wa = w9.alloc (.cells #[.int .i64 a, .slice aR nodes.length cR, .slice none 0 0] 32) := ⟨_, rfl⟩
  have ya : Ext w9 wa := by rw [hwa]; exact Ext.alloc _ _
  have b7 : Blk wa w9.heap.size #[.int .i64 a, .slice aR nodes.length cR, .slice none 0 0] 32 := by rw [hwa]; exact Blk.new _ _ _
  rw [← hwa]
  clear hwa
  replace he := he.trans ya
  replace b2 := b2.ext ya
  have hPn := (hP.ext ya).addNil 4 1
  have sN3 : base ≤ wa.heap.size := Nat.le_trans sN ya.size
  clear ya hP
  generalize w9.heap.size = G at b7 sN ⊢
  go_wp2_with fail
  go_loopw [56] (fun i wr => ∃ (k : Nat) (va : Value), k ≤ nodes.length ∧ i = .int .i64 k ∧ Blk wr G #[.int .i64 a, .slice aR nodes.length cR, va] 32 ∧ Pool base wr (⟨4, 1, va, k, ((nodes.take k).map (fun n => decide (n ≠ 0))).map Value.bool⟩ :: numPool (.slice aS nodes.length cS) (.slice aR nodes.length cR) nodes.length nodes nodes.length vs rows) ∧ Blk wr (w.heap.size + 1) #[.int .i64 0, .slice none 0 0, .slice none 0 0] 32 ∧ Ext w wr ∧ base ≤ wr.heap.size) (fun i _ => nodes.length - (intOf i).toNat)
  case atStart => exact ⟨0, _, by omega, rfl, b7, hPn, b2, he, sN3⟩
  case round =>
    clear b7 hPn b2 he sN3
    obtain ⟨k, va, hk, rfl, b7, hP, b2, he, hsz⟩ := hrel
    obtain ⟨aX, cX, rfl⟩ := own_any' (Pool.hd hP)
    by_cases hlt : k < nodes.length
    · obtain ⟨n, hnk⟩ : ∃ n, nodes[k]? = some n := ⟨_, List.getElem?_eq_getElem (by omega)⟩
      obtain ⟨gS, cS', e6, gs⟩ := own_at (Pool.hd2 hP) (j := k) (u := .int .i64 n) (by rw [List.getElem?_map, ints_at hnk]; rfl)
      cases e6
      have HNK := Lib.hid hnk
      have i2 : (k : Int) < (nodes.length : Int) := by omega
      have g2 := b7.cell 2 rfl
      have gal := fun o => (Ext.alloc wr o).cell g2
      have HZ := Lib.hid (show decide (n ≠ 0) = ((n : Int) != 0) from by rw [Bool.eq_iff_iff]; simp)
      clear hnk
      go_wp2_with (at_builtin; refine appP (news := [Value.bool ((n : Int) != 0)]) rfl rfl Tryd.underlying30 infoBool rfl (by decide) hP rfl rfl rfl (by simp [Value.oneCell']) (by omega) (by decide) hsz ?_; intro v1 w7 hP1 hg1 hb1; obtain ⟨a1, c1, rfl⟩ := own_any' (Pool.hd hP1); have b74 := b7.grown (Pool.hd hP) hg1 (by decide); have g2 := b74.cell 2 rfl; have f2 := b74.fr 2)
      have hd := Pool.hd hP
      refine ⟨⟨k + 1, _, by omega, by go_num, b74.set 2 (.slice a1 (k + 1) c1), ?_, (b2.grown hd hg1 (by decide)).other (p := ⟨G, 2, none⟩) (by simp only []; omega) _, (Below.trans he (hb1.mono (by omega))).setCell (p := ⟨G, 2, none⟩) (by simp only []; omega) _, by simp; exact Nat.le_trans hsz hg1.size⟩, by simp [intOf]; omega⟩
      rw [List.take_add_one, HNK.out, List.map_append, List.map_append, Option.toList_some, List.map_singleton, List.map_singleton, HZ.out]
      exact Pool.set hP1 b74 (fun t ht => by
        rcases List.mem_cons.1 ht with e | ht
        · rw [e]; dsimp only; decide
        rcases List.mem_cons.1 ht with e | ht
        · rw [e]; dsimp only; decide
        rcases List.mem_cons.1 ht with e | ht
        · rw [e]; dsimp only; decide
        · rw [slRows_e t ht]; decide) 2 (.slice a1 (k + 1) c1)
    · obtain rfl : k = nodes.length := by omega
      have hEND : AutoOwn base wr (.agg #[.int .i64 a, .slice aR nodes.length cR, .slice aX nodes.length cX]) (autoN nx a (fun n => decide (n ≠ 0)) nodes) := by
        have hp := (hP.perm (((List.Perm.swap _ _ _).trans ((List.Perm.swap _ _ _).cons _)))).tail
        rw [List.take_length] at hp
        refine Pool.auto (x := autoN nx a (fun n => decide (n ≠ 0)) nodes) (vs := vs) (vn := .slice aR nodes.length cR) (va := .slice aX nodes.length cX) (w := wr) (base := base) ?_ (by rw [HVL.out]; simp [autoN])
        have e1 : (autoN nx a (fun n => decide (n ≠ 0)) nodes).next = rows := by rw [HRW.out]; rfl
        have e2 : (autoN nx a (fun n => decide (n ≠ 0)) nodes).accept = nodes.map (fun n => decide (n ≠ 0)) := rfl
        rw [e1, e2, HRW.out, List.length_map, List.length_map, ← HRW.out]
        exact hp
      have HEND := Lib.hid hEND
      have hlB : w.heap.size ≤ base := by omega
      have gc0 := b7.cell 0 rfl; have gc1 := b7.cell 1 rfl; have gc2 := b7.cell 2 rfl
      have rc0 := b2.cell 0 rfl; have rf0 := b2.fr 0; have rc1 := b2.cell 1 rfl; have rf1 := b2.fr 1; have rc2 := b2.cell 2 rfl; have rf2 := b2.fr 2
      clear hEND hP
      go_wp2_with fail
      refine bodyPost_ret (v := .tuple #[.agg #[.int .i64 a, .slice aR nodes.length cR, .slice aX nodes.length cX], .bool true]) (by simp [results, Tryd.results14, go_sem, rc0, rc1, rc2, rf0, rf1, rf2]) rfl ?_
      refine ⟨_, true, rfl, (((he.setCell (p := ⟨(w.heap.size + 1), 0, none⟩) (by simp only []; omega) _).setCell (p := ⟨(w.heap.size + 1), 1, none⟩) (by simp only []; omega) _).setCell (p := ⟨(w.heap.size + 1), 2, none⟩) (by simp only []; omega) _), .inl ⟨HOK.out, .inl ⟨rfl, nodes, by have := HNU.out; rw [← HNX.out, ← HN0.out] at this; exact this, hlen, ?_⟩⟩⟩
      exact (auto_store (auto_store (auto_store (by have := HEND.out; rw [← HNX.out] at this; exact this) b2 (by decide) (by decide) (by decide) 0 _) (b2.set 0 _) (by decide) (by decide) (by decide) 1 _) ((b2.set 0 _).set 1 _) (by decide) (by decide) (by decide) 2 _).low hlB

theorem Determinize_c (v : Value) (s : Sys) (w : World) (hv : SysV w v s) (hT : Deb w) :
    Calls Tryd.prog 7 #[v] w (fun e w' => ∃ v' b, e = .returned (.tuple #[v', .bool b]) ∧ Ext w w' ∧ ((sysValid s = true ∧ SubEnd s s.alphabet w.heap.size w' v' b) ∨ (sysValid s = false ∧ b = false ∧ v' = .agg #[.int .i64 0, .slice none 0 0, .slice none 0 0]))) := by
  have HV := Lib.hid hv
  obtain ⟨vE1, rfl, k1⟩ := hv
  obtain ⟨aE1, cE1, rfl, -, -⟩ := k1.open
  have HDb := Lib.hid hT
  clear k1 hT
  obtain ⟨wo, hwo⟩ : ∃ wo, wo = (w.alloc (.cells #[.int .i64 s.alphabet, .int .i64 s.states, .slice aE1 s.edges.length cE1] 25)).alloc (.cells #[.int .i64 0, .slice none 0 0, .slice none 0 0] 32) := ⟨_, rfl⟩
  have he : Ext w wo := by rw [hwo]; exact (Ext.alloc _ _).trans (Ext.alloc _ _)
  have b1 : Blk wo w.heap.size #[.int .i64 s.alphabet, .int .i64 s.states, .slice aE1 s.edges.length cE1] 25 := by rw [hwo]; exact Ext.blk (Ext.alloc _ _)
  have b2 : Blk wo (w.heap.size + 1) #[.int .i64 0, .slice none 0 0, .slice none 0 0] 32 := by rw [hwo]; exact Ext.blk1 (Ext.refl _)
  go_enter Tryd.func7, Tryd.ntmps7
  go_upto_region 1 with fail
  rw [← hwo]
  clear hwo
  have b1_0 := b1.cell 0 rfl; have b1_1 := b1.cell 1 rfl; have b1_2 := b1.cell 2 rfl
  go_wp2_with fail
  refine (ProjectSystem_c _ s s.alphabet _ (HV.out.mono he) (HDb.out.ext he)).mono ?_
  rintro e w2 ⟨v', b, rfl, he2, hend⟩
  have hsh : ∃ (x : Int) (aN : Option Addr) (n cN : Nat) (aA : Option Addr) (m cA : Nat), v' = .agg #[.int .i64 x, .slice aN n cN, .slice aA m cA] := by
    rcases hend with ⟨-, ⟨-, _, -, -, vn, va, e, h4, h5⟩ | ⟨-, e, -⟩⟩ | ⟨-, -, e⟩
    · obtain ⟨a1, c1, rfl⟩ := h4.shape
      obtain ⟨a2, c2, rfl⟩ := h5.shape
      exact ⟨_, _, _, _, _, _, _, e⟩
    · exact ⟨_, _, _, _, _, _, _, e⟩
    · exact ⟨_, _, _, _, _, _, _, e⟩
  obtain ⟨xa, xN, xn, xc, xA, xm, xd, rfl⟩ := hsh
  have hoks : sysValid s = true → projOk s s.alphabet = true := fun h => by
    obtain ⟨a0, a63⟩ := sys_alpha h
    have e : bits .and .i64 s.alphabet s.alphabet = s.alphabet := by
      obtain ⟨m, hm⟩ := Int.eq_ofNat_of_zero_le a0
      rw [hm, i64_and_nat m m (by omega) (by omega), Nat.and_self]
    unfold projOk; rw [h, e]; simp [isAlpha, a0, a63]
  have hoks2 : projOk s s.alphabet = true → sysValid s = true := fun h => by
    unfold projOk at h; simp only [Bool.and_eq_true] at h; exact h.1.1
  have hgen : (sysValid s = true ∧ SubEnd s s.alphabet wo.heap.size w2 (.agg #[.int .i64 xa, .slice xN xn xc, .slice xA xm xd]) b) ∨ (sysValid s = false ∧ b = false ∧ Value.agg #[.int .i64 xa, .slice xN xn xc, .slice xA xm xd] = .agg #[.int .i64 0, .slice none 0 0, .slice none 0 0]) := by
    rcases hend with ⟨h1, h2⟩ | ⟨h1, h2, h3⟩
    · exact .inl ⟨hoks2 h1, h2⟩
    · refine .inr ⟨?_, h2, h3⟩
      cases hc : sysValid s with
      | false => rfl
      | true => rw [hoks hc] at h1; cases h1
  have HEND := Lib.hid hgen
  have lw := he.size
  clear hend hgen hoks hoks2 b1_0 b1_1 b1_2 b1
  replace b2 := b2.ext he2
  replace he := he.trans he2
  have rc0 := b2.cell 0 rfl; have rf0 := b2.fr 0; have rc1 := b2.cell 1 rfl; have rf1 := b2.fr 1; have rc2 := b2.cell 2 rfl; have rf2 := b2.fr 2
  go_wp2_with fail
  refine bodyPost_ret (v := .tuple #[.agg #[.int .i64 xa, .slice xN xn xc, .slice xA xm xd], .bool b]) (by simp [results, Tryd.results7, go_sem, rc0, rc1, rc2, rf0, rf1, rf2]) rfl ?_
  refine ⟨_, b, rfl, (((he.setCell (p := ⟨(w.heap.size + 1), 0, none⟩) (by simp only []; omega) _).setCell (p := ⟨(w.heap.size + 1), 1, none⟩) (by simp only []; omega) _).setCell (p := ⟨(w.heap.size + 1), 2, none⟩) (by simp only []; omega) _), ?_⟩
  rcases HEND.out with ⟨h1, ⟨h2, nodes, h3, h4, h5⟩ | h2⟩ | h1
  · exact .inl ⟨h1, .inl ⟨h2, nodes, h3, h4, (auto_store (auto_store (auto_store h5 b2 (by decide) (by decide) (by decide) 0 _) (b2.set 0 _) (by decide) (by decide) (by decide) 1 _) ((b2.set 0 _).set 1 _) (by decide) (by decide) (by decide) 2 _).low lw⟩⟩
  · exact .inl ⟨h1, .inr h2⟩
  · exact .inr h1

theorem agComparable_c (va vb : Value) (a b : Sys) (w : World) (hva : SysV w va a) (hvb : SysV w vb b) :
    Calls Tryd.prog 9 #[va, vb] w (Grows (.bool (same2 a b)) w) := by
  have HA := Lib.hid hva
  obtain ⟨vE1, rfl, k1⟩ := hva
  obtain ⟨aE1, cE1, rfl, -, -⟩ := k1.open
  have HB := Lib.hid hvb
  obtain ⟨vE2, rfl, k3⟩ := hvb
  obtain ⟨aE2, cE2, rfl, -, -⟩ := k3.open
  obtain ⟨wo, hwo⟩ : ∃ wo, wo = ((w.alloc (.cells #[.int .i64 a.alphabet, .int .i64 a.states, .slice aE1 a.edges.length cE1] 25)).alloc (.cells #[.int .i64 b.alphabet, .int .i64 b.states, .slice aE2 b.edges.length cE2] 25)) := ⟨_, rfl⟩
  have he : Ext w wo := by rw [hwo]; exact (Ext.alloc _ _).trans (Ext.alloc _ _)
  have b1 : Blk wo w.heap.size #[.int .i64 a.alphabet, .int .i64 a.states, .slice aE1 a.edges.length cE1] 25 := by rw [hwo]; exact Ext.blk (Ext.alloc _ _)
  have b2 : Blk wo (w.heap.size + 1) #[.int .i64 b.alphabet, .int .i64 b.states, .slice aE2 b.edges.length cE2] 25 := by rw [hwo]; exact Ext.blk1 (Ext.refl _)
  clear k1 k3
  go_enter Tryd.func9, Tryd.ntmps9
  go_wp2_with fail
  rw [← hwo]
  clear hwo
  have b1_0 := b1.cell 0 rfl; have b1_1 := b1.cell 1 rfl; have b1_2 := b1.cell 2 rfl
  go_wp2_with fail
  by_cases hA : sysValid a = true
  case neg =>
    have hA' : sysValid a = false := by simpa using hA
    refine (SystemValid_b hA' (HA.out.mono he)).mono ?_
    rintro e w1 ⟨rfl, he1⟩
    go_wp2_with fail
    go_ret
    exact Grows.mk (by simp [same2, hA']) (he.trans he1)
  refine (SystemValid_b hA (HA.out.mono he)).mono ?_
  rintro e w1 ⟨rfl, he1⟩
  clear b1_0 b1_1 b1_2
  replace b1 := b1.ext he1
  replace b2 := b2.ext he1
  replace he := he.trans he1
  have b2_0 := b2.cell 0 rfl; have b2_1 := b2.cell 1 rfl; have b2_2 := b2.cell 2 rfl
  go_wp2_with fail
  by_cases hB : sysValid b = true
  case neg =>
    have hB' : sysValid b = false := by simpa using hB
    refine (SystemValid_b hB' (HB.out.mono he)).mono ?_
    rintro e w2 ⟨rfl, he2⟩
    go_wp2_with fail
    go_ret
    exact Grows.mk (by simp [same2, hB']) (he.trans he2)
  refine (SystemValid_b hB (HB.out.mono he)).mono ?_
  rintro e w2 ⟨rfl, he2⟩
  clear b2_0 b2_1 b2_2
  replace b1 := b1.ext he2
  replace b2 := b2.ext he2
  replace he := he.trans he2
  have b1_0 := b1.cell 0 rfl; have b1_1 := b1.cell 1 rfl; have b1_2 := b1.cell 2 rfl
  have b2_0 := b2.cell 0 rfl; have b2_1 := b2.cell 1 rfl; have b2_2 := b2.cell 2 rfl
  have HX := Lib.hid (show same2 a b = decide (a.alphabet = b.alphabet) by unfold same2; rw [hA, hB]; rfl)
  clear hA hB
  go_wp2_with fail
  go_ret
  exact Grows.mk (by rw [HX.out]; first | rfl | simp) he
end Go.Proofs.YtanekmfifmkbmaaDoor
