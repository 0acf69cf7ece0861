/- Walks: the reference's checks. -/
import Derived.Test.YthpiihblmekijaaGreatDoorWalkSI
namespace Go.Proofs.YthpiihblmekijaaGreatDoor
set_option linter.unusedSimpArgs false
set_option linter.unusedVariables false
open Go.RowKit

set_option maxHeartbeats 1600000
set_option maxRecDepth 100000

theorem leads_congr {N N' : Nat → Int → List Nat} (h : ∀ node l r, r ∈ N node l ↔ r ∈ N' node l) (s : Nat) (v : List Int) (g : Nat) : Leads N s v g ↔ Leads N' s v g := by
  induction v generalizing s with
  | nil => exact Iff.rfl
  | cons l v ih =>
    show (∃ b, b ∈ N s l ∧ Leads N b v g) ↔ (∃ b, b ∈ N' s l ∧ Leads N' b v g)
    constructor
    · rintro ⟨b, h1, h2⟩; exact ⟨b, (h s l b).1 h1, (ih b).1 h2⟩
    · rintro ⟨b, h1, h2⟩; exact ⟨b, (h s l b).2 h1, (ih b).2 h2⟩
theorem wins_congr {N N' : Nat → Int → List Nat} {L : List Int} {S : List Nat} {G G' : Nat → Bool} (h : ∀ node l r, r ∈ N node l ↔ r ∈ N' node l) (hG : ∀ g, G g = G' g) (v : List Int) : Wins N L S G v ↔ Wins N' L S G' v := by
  unfold Wins Gets
  constructor
  · rintro ⟨n, ⟨h1, s, hs, h2⟩, h3⟩; exact ⟨n, ⟨h1, s, hs, (leads_congr h s v n).1 h2⟩, by rw [← hG]; exact h3⟩
  · rintro ⟨n, ⟨h1, s, hs, h2⟩, h3⟩; exact ⟨n, ⟨h1, s, hs, (leads_congr h s v n).2 h2⟩, by rw [hG]; exact h3⟩

theorem ok_one (parts : List Sys) (p : Auto) (al : Int) (node : Nat) : okAt ⟨parts, [p], al⟩ node 0 = accepts p (node % p.next.length) := by
  unfold okAt
  have e1 : sizesOf ⟨parts, [p], al⟩ = partSizes parts ++ [p.next.length] := by simp [sizesOf, partSizes]
  simp only [List.getElem?_cons_zero]
  rw [e1, decode_snoc, List.getD_eq_getElem?_getD, List.getElem?_append_right (by rw [decode_len]; simp [partSizes])]
  simp [decode_len, partSizes]
theorem ok_two (parts : List Sys) (a p : Auto) (al : Int) (node : Nat) : okAt ⟨parts, [a, p], al⟩ node 0 = accepts a (node / p.next.length % a.next.length) ∧ okAt ⟨parts, [a, p], al⟩ node 1 = accepts p (node % p.next.length) := by
  have e1 : sizesOf ⟨parts, [a, p], al⟩ = (partSizes parts ++ [a.next.length]) ++ [p.next.length] := by simp [sizesOf, partSizes]
  have hl : (decode (partSizes parts) (node / p.next.length / a.next.length)).length = parts.length := by rw [decode_len]; simp [partSizes]
  constructor
  · unfold okAt
    simp only [List.getElem?_cons_zero]
    rw [e1, decode_snoc, decode_snoc, List.getD_eq_getElem?_getD, List.getElem?_append_left (by simp [hl]), List.getElem?_append_right (by rw [hl]; simp)]
    simp [hl]
  · unfold okAt
    simp only [List.getElem?_cons_succ, List.getElem?_cons_zero]
    rw [e1, decode_snoc, decode_snoc, List.getD_eq_getElem?_getD, List.getElem?_append_right (by simp [hl])]
    simp [hl]
theorem pv_net {parts : List Sys} {p : Auto} {r : Option (List Int)} (hp : areParts parts = true) (ha : autoValid p = true) (al : Int) (hal : al = (orTo parts parts.length : Nat)) (h : FirstIs (Wins (netN ⟨parts, [p], al⟩) (letters al) [0] (fun node => !okAt ⟨parts, [p], al⟩ node 0)) r) : PV parts p r := by
  unfold PV
  rw [if_pos (by simp [hp, ha])]
  refine h.congr fun v => ?_
  unfold BrokenW
  have e : allLetters parts trivAuto = al := by unfold allLetters; rw [hal]; simp [trivAuto]
  rw [e]
  refine wins_congr (fun node l r => (brokenN_one parts (prod_4096 hp).2.2.2 p node l al r).symm) (fun g => ?_) v
  show (!okAt ⟨parts, [p], al⟩ g 0) = _
  rw [ok_one]
  unfold brokenG
  have : accepts trivAuto (g / p.next.length % trivAuto.next.length) = true := by
    have : g / p.next.length % trivAuto.next.length = 0 := by simp [trivAuto, Nat.mod_one]
    rw [this]; rfl
  rw [this, Bool.true_and]
theorem vu_net {s : Sys} {a p : Auto} {r : Option (List Int)} (hs : sysValid s = true) (hva : autoValid a = true) (hp : autoValid p = true) (al : Int) (hal : al = (s.alphabet.toNat ||| a.alphabet.toNat : Nat)) (h : FirstIs (Wins (netN ⟨[s], [a, p], al⟩) (letters al) [0] (fun node => okAt ⟨[s], [a, p], al⟩ node 0 && !okAt ⟨[s], [a, p], al⟩ node 1)) r) : VU s a p r := by
  unfold VU
  rw [if_pos (by simp [hs, hva, hp])]
  refine h.congr fun v => ?_
  unfold BrokenW
  have e : allLetters [s] a = al := by unfold allLetters orTo; rw [hal]; simp
  rw [e]
  refine wins_congr (fun node l r => (brokenN_two [s] (prod_4096 (one_parts hs)).2.2.2 a p node l al r).symm) (fun g => ?_) v
  show (okAt ⟨[s], [a, p], al⟩ g 0 && !okAt ⟨[s], [a, p], al⟩ g 1) = _
  rw [(ok_two _ _ _ _ _).1, (ok_two _ _ _ _ _).2]
  rfl
theorem AutosV.one {w : World} {a : Auto} {vn va : Value} (h1 : IntssV w vn a.next) (h2 : BoolsV w va a.accept) :
    AutosV (w.alloc (.cells #[.int .i64 a.alphabet, vn, va] 29)) (.slice (some ⟨w.heap.size, 0, none⟩) 1 1) [a] := by
  refine ⟨_, 1, rfl, Nat.le_refl _, by decide, fun _ => ⟨w.heap.size, 0, rfl, by simp, fun i x hi => ?_⟩⟩
  obtain rfl : i = 0 := by have := (List.getElem?_eq_some_iff.1 hi).1; simp at this; exact this
  simp at hi
  subst hi
  have hb := Blk.new w #[.int .i64 a.alphabet, vn, va] 29
  exact ⟨vn, va, hb.cell 0 rfl, hb.cell 1 rfl, hb.cell 2 rfl, h1.mono (Ext.alloc _ _), h2.mono (Ext.alloc _ _)⟩
theorem AutosV.two {w : World} {a p : Auto} {vn va vn' va' : Value} (h1 : IntssV w vn a.next) (h2 : BoolsV w va a.accept) (h3 : IntssV w vn' p.next) (h4 : BoolsV w va' p.accept) :
    AutosV (w.alloc (.cells #[.int .i64 a.alphabet, vn, va, .int .i64 p.alphabet, vn', va'] 29)) (.slice (some ⟨w.heap.size, 0, none⟩) 2 2) [a, p] := by
  have hb := Blk.new w #[.int .i64 a.alphabet, vn, va, .int .i64 p.alphabet, vn', va'] 29
  refine ⟨_, 2, rfl, Nat.le_refl _, by decide, fun _ => ⟨w.heap.size, 0, rfl, by simp, fun i x hi => ?_⟩⟩
  match i, hi with
  | 0, hi =>
    simp at hi; subst hi
    exact ⟨vn, va, hb.cell 0 rfl, hb.cell 1 rfl, hb.cell 2 rfl, h1.mono (Ext.alloc _ _), h2.mono (Ext.alloc _ _)⟩
  | 1, hi =>
    simp at hi; subst hi
    exact ⟨vn', va', hb.cell 3 rfl, hb.cell 4 rfl, hb.cell 5 rfl, h3.mono (Ext.alloc _ _), h4.mono (Ext.alloc _ _)⟩
  | i + 2, hi => simp at hi
theorem AutomatonValid_sb {v : Value} {x : Auto} {w : World} {b : Bool} (hb : autoValid x = b) (hv : AutoV w v x) :
    Calls Tryz.prog 63 #[v] w (Grows (.bool b) w) := hb ▸ AutomatonValid_s v x w hv
theorem SystemValid_sb {v : Value} {x : Sys} {w : World} {b : Bool} (hb : sysValid x = b) (hv : SysV w v x) :
    Calls Tryz.prog 94 #[v] w (Grows (.bool b) w) := hb ▸ SystemValid_s v x w hv

theorem make_zeros (w : World) (n : Nat) (hn : n ≤ 1048576) : ∃ w', (Instr.makeSlice 68 (.int .i64 (n : Int)) (.int .i64 (n : Int))).run Tryz.prog w = .ok (.slice (some ⟨w.heap.size, 0, none⟩) n n) w' ∧ Ext w w' ∧
    IntsOwn 3 w.heap.size w' (.slice (some ⟨w.heap.size, 0, none⟩) n n) (List.replicate n 0) := by
  obtain ⟨i, hi, hz, hsize, hby⟩ := info_parts infoInt
  obtain ⟨w', hr, h1, h2⟩ := run_make_full (P := Tryz.prog) w w.heap.size 68 3 i _ 1 Tryz.underlying68 hi hz hsize .i64 .i64 n (by rw [hby]; omega) (by unfold maxLen; omega) (Nat.le_refl _)
  refine ⟨w', hr, (Below.refl _ _).grown h2 (Nat.le_refl _) fun k hk => (by cases hk), ?_⟩
  unfold IntsOwn
  rw [List.length_replicate, List.map_replicate]
  simpa [toList_madeCells_one, Value.cells] using h1

theorem PartsViolation_s (v vp : Value) (parts : List Sys) (p : Auto) (w : World) (hv : SyssV w v parts) (hl : parts.length ≤ 1048576) (hel : ∀ s ∈ parts, s.edges.length ≤ 1048576) (hp : AutoV w vp p) :
    Calls Tryz.prog 61 #[v, vp] w (AnsEnd (PV parts p) w) := by
  have HV := Lib.hid hp
  obtain ⟨asy, csy, rfl, -, -⟩ := hv.open
  obtain ⟨vn, va, rfl, h2, h3⟩ := hp
  obtain ⟨an, cn, rfl, -, -⟩ := h2.open
  obtain ⟨aa, ca, rfl, -, -⟩ := h3.open
  go_enter Tryz.func61, Tryz.ntmps61
  go_wp2_with fail
  have he : Ext w (w.alloc (.cells #[.int .i64 p.alphabet, .slice an p.next.length cn, .slice aa p.accept.length ca] 29)) := Ext.alloc _ _
  have hB := Blk.new w #[.int .i64 p.alphabet, .slice an p.next.length cn, .slice aa p.accept.length ca] 29
  generalize w.alloc (.cells #[.int .i64 p.alphabet, .slice an p.next.length cn, .slice aa p.accept.length ca] 29) = wo at he hB ⊢
  refine (PartsAlphabet_s _ parts _ (hv.mono he) hl).mono ?_
  rintro e w1 ⟨rfl, he1⟩
  have hB1 := hB.ext he1
  have hx1 := he.trans he1
  have cc0 := hB1.cell 0 rfl; have cc1 := hB1.cell 1 rfl; have cc2 := hB1.cell 2 rfl
  by_cases hP : areParts parts = true
  case neg =>
    have hP' : areParts parts = false := by simpa using hP
    have e1 : partsAlphabet parts = -1 := by unfold partsAlphabet; rw [hP']; rfl
    rw [e1]
    go_wp2_with fail
    go_ret2
    exact ⟨none, by unfold PV; rw [hP']; simp, rfl, hx1⟩
  have HP := Lib.hid hP
  have e1 : partsAlphabet parts = (orTo parts parts.length : Nat) := by unfold partsAlphabet; rw [if_pos hP]
  obtain ⟨AL, hAL⟩ : ∃ AL, Hid (AL = orTo parts parts.length) := ⟨_, rfl⟩
  rw [e1, ← hAL.out]
  clear e1 hP
  go_wp2_with fail
  by_cases hA : autoValid p = true
  case neg =>
    have hA' : autoValid p = false := by simpa using hA
    refine (AutomatonValid_sb hA' (HV.out.mono hx1)).mono ?_
    rintro e w2 ⟨rfl, he2⟩
    go_wp2_with fail
    go_ret2
    exact ⟨none, by unfold PV; rw [hA']; simp, rfl, hx1.trans he2⟩
  refine (AutomatonValid_sb hA (HV.out.mono hx1)).mono ?_
  rintro e w2 ⟨rfl, he2⟩
  have HA := Lib.hid hA
  have hB2 := hB1.ext he2
  have hx2 := hx1.trans he2
  clear hA
  go_wp2_with fail
  have D0 := fun d os => cell_regrown (hB2.cell 0 rfl) d os
  have D1 := fun d os => cell_regrown (hB2.cell 1 rfl) d os
  have D2 := fun d os => cell_regrown (hB2.cell 2 rfl) d os
  have hl3 := (prod_4096 HP.out).2.2.1
  have e1 : IntKind.i64.wrap ((parts.length : Int) + 1) = (parts.length : Int) + 1 := by rw [IntKind.wrap_i64]; omega
  obtain ⟨Kc, HKc⟩ : ∃ Kc : FuncId → Array Value → World → Value → World → Prop, Hid (Kc = fun (_ : FuncId) (_ : Array Value) (w0 : World) (v : Value) (w' : World) => Ext w0 w' ∧ ∃ r, PV parts p r ∧ v = .tuple #[.string (rtext r), .bool r.isSome]) := ⟨_, rfl⟩
  refine wp_region_ext (Kc := Kc) 12 (by kernel_rfl) (by kernel_rfl) ?_
  simp only [List.take_succ_cons, List.take_zero]
  repeat (refine WalkE.pure rfl (fun K hK => ?_); simp only [PureDo]; go_simp; refine hK _ ?_; clear hK K)
  refine WalkE.step (fun K hK wc hwc hdc => ?_)
  simp only [OpDo, OpSafe, OpOut]
  go_simp
  refine ⟨Ext.alloc _ _, hK _ _ ?_⟩
  clear hK K hdc
  repeat (refine WalkE.pure rfl (fun K hK => ?_); simp only [PureDo]; go_simp; refine hK _ ?_; clear hK K)
  refine WalkE.step (fun K hK wd hwd hdd => ?_)
  simp only [OpDo, OpSafe, OpOut]
  go_simp
  obtain ⟨wm, hrun, hxm, hom⟩ := make_zeros wd (parts.length + 1) (by omega)
  rw [show ((parts.length : Int) + 1) = ((parts.length + 1 : Nat) : Int) by omega, hrun]
  simp only [Result.andThen]
  refine ⟨trivial, fun v2 w2' hvw => ?_⟩
  obtain ⟨rfl, rfl⟩ := hvw
  refine ⟨hxm, hK _ _ ?_⟩
  clear hK K hdd hrun
  refine WalkE.pure rfl (fun K hK => ?_); simp only [PureDo]; go_simp; refine hK _ ?_; clear hK K
  refine WalkE.step (fun K hK we hwe hde => ?_)
  simp only [OpDo, OpSafe, OpOut]
  go_simp
  have j2 : Ext (wc.alloc (.cells #[.int .i64 p.alphabet, .slice an p.next.length cn, .slice aa p.accept.length ca] 29)) we := hde _ (Array.mem_of_getElem? (i := 1) rfl) rfl
  have j6 : Ext w2' we := hde _ (Array.mem_of_getElem? (i := 2) rfl) rfl
  refine ⟨Ext.refl _, hK _ _ ?_⟩
  clear hK K hde
  refine WalkE.step (fun K hK wf hwf hdf => ?_)
  simp only [OpDo, OpSafe, OpOut]
  go_simp
  have j8 : Ext we wf := hdf _ (Array.mem_of_getElem? (i := 0) rfl) rfl
  clear hdf
  have hxf : Ext w wf := hx2.trans ((Ext.drew _).trans hwf)
  have hxc : Ext w wc := hx2.trans ((Ext.drew _).trans hwc)
  have HNO := Lib.hid (show NetOk ⟨parts, [p], (orTo parts parts.length : Nat)⟩ from ⟨(prod_4096 HP.out).2.2.2, by simpa using HA.out, hl3, by simp, ⟨by simp only []; omega, by have := orTo_lt (prod_4096 HP.out).2.2.2 parts.length; simp only []; omega⟩, hel⟩)
  have hsl : (sizesOf ⟨parts, [p], (orTo parts parts.length : Nat)⟩).length = parts.length + 1 := by simp [sizesOf]
  have HNV := Lib.hid (show NetV wf (.agg #[.slice asy parts.length csy, .slice (some ⟨wc.heap.size, 0, none⟩) 1 1, .slice (some ⟨wd.heap.size, 0, none⟩) (parts.length + 1 : Nat) (parts.length + 1 : Nat), .int .i64 (orTo parts parts.length : Nat), .int .i64 3, .int .i64 0]) ⟨parts, [p], (orTo parts parts.length : Nat)⟩ (List.replicate (sizesOf ⟨parts, [p], (orTo parts parts.length : Nat)⟩).length 0) 3 0 from
    ⟨_, _, _, rfl, hv.mono hxf, (AutosV.one (h2.mono hxc) (h3.mono hxc)).mono (j2.trans j8), by rw [hsl]; exact hom.ints.mono (j6.trans j8)⟩)
  have HFF := Lib.hid (fun (w' : World) (u vm v' : Value) (node : Nat) (_ : Ext wf w') (hn : NetV w' v' ⟨parts, [p], (orTo parts parts.length : Nat)⟩ (List.replicate (sizesOf ⟨parts, [p], (orTo parts parts.length : Nat)⟩).length 0) 3 0) (hu : IntsV w' u (ints (decode (sizesOf ⟨parts, [p], (orTo parts parts.length : Nat)⟩) node))) => l4Found_3 v' u vm _ _ 0 node w' hn HNO.out hu rfl)
  have HFI := Lib.hid (l4First_c _ _ 3 0 (fun node => !okAt ⟨parts, [p], (orTo parts parts.length : Nat)⟩ node 0) wf HNV.out HNO.out HFF.out)
  rw [hAL.out]
  refine ⟨(HFI.out).mono ?_, ?_⟩
  · rintro e w' ⟨r, hr, rfl, he⟩
    exact ⟨_, rfl, by rw [HKc.out]; exact ⟨he, r, pv_net HP.out HA.out _ rfl hr, rfl⟩⟩
  intro u3 w9 hk3
  rw [HKc.out] at hk3
  obtain ⟨hk3, r, hr, rfl⟩ := hk3
  refine ⟨hk3, hK _ _ ?_⟩
  clear hK K
  repeat (refine WalkE.pure rfl (fun K hK => ?_); simp only [PureDo]; go_simp; refine hK _ ?_; clear hK K)
  refine WalkE.nil (fun wn hwn hmn => ?_)
  simp only [List.drop_succ_cons, List.drop_zero, List.drop_nil]
  go_wp2_with fail
  go_ret2
  exact ⟨r, hr, rfl, hx2.trans ((Ext.drew _).trans hwn)⟩
end Go.Proofs.YthpiihblmekijaaGreatDoor
