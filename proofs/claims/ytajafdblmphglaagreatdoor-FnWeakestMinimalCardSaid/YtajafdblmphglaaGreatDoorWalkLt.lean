/- Part of this seat's proofs, cut to what its law needs. -/

import Derived.Test.YtajafdblmphglaaGreatDoorWalkMi
import Derived.Test.YtajafdblmphglaaGreatDoorPlainU
namespace Go.Proofs.YtajafdblmphglaaGreatDoor
set_option linter.unusedSimpArgs false
set_option linter.unusedVariables false
open Go Go.RowKit
set_option maxHeartbeats 2000000
set_option maxRecDepth 100000


def ltN (A : Auto) (k : Nat) (l : Int) : List Nat := [step A k l]
theorem lt_leads (A : Auto) (v : List Int) : ∀ q m, Leads (ltN A) q v m ↔ m = run A q v := by
  induction v with
  | nil => intro q m; exact ⟨fun h => h.symm, fun h => h.symm⟩
  | cons l v ih =>
    intro q m
    show (∃ b, b ∈ [step A q l] ∧ Leads (ltN A) b v m) ↔ m = run A (step A q l) v
    simp only [List.mem_singleton, exists_eq_left, ih]
def LeadsAcc (A : Auto) (q : Nat) : Prop := ∃ u, accepts A (run A q u) = true
theorem lt_wins {A : Auto} (ha : A.alphabet ≤ 63) (q : Nat) : (∃ u, Wins (ltN A) (letters A.alphabet) [q] (accepts A) u) ↔ LeadsAcc A q := by
  constructor
  · rintro ⟨u, n, ⟨-, s, hs, hl⟩, hg⟩
    simp at hs
    subst hs
    rw [lt_leads] at hl
    subst hl
    exact ⟨u, hg⟩
  · rintro ⟨u, hu⟩
    refine ⟨u.filter (bit A.alphabet), _, ⟨fun x hx => (letters_iff x ha).2 (List.mem_filter.1 hx).2, q, by simp, (lt_leads A _ q _).2 rfl⟩, ?_⟩
    rw [run_filter]; exact hu


theorem ltNext_c (b : Nat) (A : Auto) (k lt : Nat) (vo : Value) (out : List Int) (base : Nat) (w : World) (h : ∃ v, Blk w b #[v] 94 ∧ TabV w v (table A)) (hA : autoValid A = true) (hk : k < A.next.length) (hl : lt < 6)
    (ho : IntsOwn 3 base w vo out) (hout : out.length + 1 ≤ 4294967296) (hbase : base ≤ w.heap.size) :
    Calls Tryz.prog 150 #[.int .i64 k, .int .i64 lt, vo, .pointer (some ⟨b, 0, none⟩)] w (Appends base vo (out ++ ints (ltN A k (lt : Nat))) w) := by
  obtain ⟨vu, hu1, hu2⟩ := h
  obtain ⟨au, cu, rfl, -, hu3⟩ := hu2.open
  rw [table_len] at hu1
  obtain ⟨b1, o1, rfl, -, hc1⟩ := hu3 k _ (table_at A k hk)
  have g1 := hc1 k _ (table_at A k hk) lt hl
  simp only [tabRow] at g1
  have HE : Hid (ltN A k (lt : Nat) = [step A k (lt : Nat)]) := rfl
  obtain ⟨z, hz⟩ : ∃ z, step A k (lt : Int) = z := ⟨_, rfl⟩
  rw [hz] at g1 HE
  have i1 : (k : Int) < (A.next.length : Int) := by omega
  have i2 : (lt : Int) < 6 := by omega
  clear hu3 hc1 hu2 hz
  have D1 := hu1.cell 0 rfl
  obtain ⟨ao, co, rfl⟩ := ho.shape
  have hone := (IntsOwn.one 3 w (z : Int)).ints
  have ho2 := IntsOwn.ext ho (Ext.alloc w (.cells #[.int .i64 (z : Int)] 3))
  have hx := Ext.alloc w (.cells #[.int .i64 (z : Int)] 3)
  go_enter Tryz.func150, Tryz.ntmps150
  go_wp2_with (at_builtin; refine appInts rfl rfl Tryz.underlying81 infoInt ho2 rfl rfl hone (by simp; omega) (by decide) (Nat.le_trans hbase hx.size) ?_; intro v1 w1 hown1 hgr1 hloc1)
  go_ret
  refine ⟨_, rfl, ?_, (Tnd.ext hx).trans (Tnd.grown hgr1 fun g hg => hg), fun g hg => ?_⟩
  · rw [HE.out]; exact hown1
  · rcases hloc1 with h3 | h3
    · exact .inl (h3 ▸ hg)
    · have h4 := h3.symm.trans hg
      cases h4
      exact .inr hx.size
theorem ltGoal_c (b : Nat) (A : Auto) (k : Nat) (w : World) (h : ∃ al vn va, Blk w b #[al, vn, va] 29 ∧ BoolsV w va A.accept) (hA : autoValid A = true) (hk : k < A.next.length) :
    Calls Tryz.prog 151 #[.int .i64 k, .pointer (some ⟨b, 0, none⟩)] w (Grows (.bool (accepts A k)) w) := by
  obtain ⟨al, vn, va, hB, hv⟩ := h
  obtain ⟨aa, ca, rfl, -, hc⟩ := hv.open
  obtain ⟨b9, o9, rfl, -, hc9⟩ := hc k _ (accepts_at hA hk)
  have g9 : w.cell? ⟨b9, o9 + k, none⟩ = some (.bool (accepts A k)) := by have := hc9 k _ (accepts_at hA hk); rw [Nat.mul_one] at this; exact this
  have i1 : (k : Int) < (A.accept.length : Int) := by have := (autoValid_facts hA).2.2.2.2; omega
  generalize accepts A k = z at g9 ⊢
  clear hc hc9 hv
  have D1 := hB.cell 2 rfl
  go_enter Tryz.func151, Tryz.ntmps151
  go_wp2_with fail
  go_ret
  exact Grows.mk rfl (Ext.refl _)
theorem enter_lt1 (args : Array Value) (w : World) : (callFunc 150 args).run Tryz.prog w = .ok (.enter 150 args) w := rfl
theorem enter_lt2 (args : Array Value) (w : World) : (callFunc 151 args).run Tryz.prog w = .ok (.enter 151 args) w := rfl
theorem next_lt {w0 : World} {b : Nat} {A : Auto} (h : ∃ v, Blk w0 b #[v] 94 ∧ TabV w0 v (table A)) (hA : autoValid A = true) :
    NextIs w0 A.next.length 1 (letters A.alphabet) (.func (.func 150) #[] #[.pointer (some ⟨b, 0, none⟩)]) (ltN A) := by
  obtain ⟨-, a1, -⟩ := autoValid_facts hA
  refine ⟨⟨_, _, rfl, enter_lt1, fun w' k l vo out b' hx hk hl ho hb0 hb1 hout => ?_⟩, fun k l _ _ => by simp [ltN], fun k l hk _ m hm => by simp [ltN] at hm; subst hm; exact step_lt hA hk l⟩
  obtain ⟨hl0, hl6⟩ := letters_lt6 a1 l hl
  obtain ⟨lt, rfl⟩ := Int.eq_ofNat_of_zero_le hl0
  obtain ⟨v, h1, h2⟩ := h
  exact ltNext_c b A k lt vo out b' w' ⟨v, h1.ext hx, h2.mono hx⟩ hA hk (by omega) ho hout hb1
theorem goal_lt {w0 : World} {b : Nat} {A : Auto} (h : ∃ al vn va, Blk w0 b #[al, vn, va] 29 ∧ BoolsV w0 va A.accept) (hA : autoValid A = true) :
    GoalIs w0 A.next.length (.func (.func 151) #[] #[.pointer (some ⟨b, 0, none⟩)]) (accepts A) :=
  ⟨_, _, rfl, enter_lt2, fun w' k hx hk => let ⟨al, vn, va, h1, h2⟩ := h; ltGoal_c b A k w' ⟨al, vn, va, h1.ext hx, h2.mono hx⟩ hA hk⟩

theorem leadsToAccepting_c (v : Value) (A : Auto) (q : Nat) (w : World) (hv : AutoV w v A) (hA : autoValid A = true) (hq : q < A.next.length) :
    Calls Tryz.prog 82 #[v, .int .i64 q] w (fun e w' => ∃ b : Bool, e = .returned (.bool b) ∧ Ext w w' ∧ (b = true ↔ LeadsAcc A q)) := by
  obtain ⟨vn, va, rfl, hN1, hA1⟩ := hv
  obtain ⟨an, cn, rfl, -, -⟩ := hN1.open
  obtain ⟨aa, ca, rfl, -, -⟩ := hA1.open
  have HV := Lib.hid (show ∀ w', Ext w w' → AutoV w' (.agg #[.int .i64 A.alphabet, .slice an A.next.length cn, .slice aa A.accept.length ca]) A from fun w' h => ⟨_, _, rfl, hN1.mono h, hA1.mono h⟩)
  have HAC := Lib.hid (show ∀ w', Ext w w' → BoolsV w' (.slice aa A.accept.length ca) A.accept from fun w' h => hA1.mono h)
  have HX := Lib.hid hA
  clear hN1 hA1
  obtain ⟨ha0, ha63, hn1, hn12, -⟩ := autoValid_facts HX.out
  clear hA
  obtain ⟨wo, hwo⟩ : ∃ wo, wo = w.alloc (.cells #[.int .i64 A.alphabet, .slice an A.next.length cn, .slice aa A.accept.length ca] 29) := ⟨_, rfl⟩
  have he : Ext w wo := by rw [hwo]; exact Ext.alloc _ _
  have b1 : Blk wo w.heap.size #[.int .i64 A.alphabet, .slice an A.next.length cn, .slice aa A.accept.length ca] 29 := by rw [hwo]; exact Blk.new _ _ _
  go_enter Tryz.func82, Tryz.ntmps82
  go_upto_region 1 with fail
  rw [← hwo]
  clear hwo
  have c0 := b1.cell 0 rfl; have c1 := b1.cell 1 rfl; have c2 := b1.cell 2 rfl
  go_wp2_with fail
  refine (tableOf_o _ A _ (HV.out _ he) HX.out).mono ?_
  rintro e w1 ⟨vt, rfl, he1, htb⟩
  obtain ⟨aT, cT, rfl, -, -⟩ := htb.tab.open
  rw [table_len] at *
  clear c0 c1 c2
  go_upto_region 2 with fail
  obtain ⟨w2, hw2⟩ : ∃ w2, w2 = w1.alloc (.cells #[.slice aT A.next.length cT] 94) := ⟨_, rfl⟩
  have y2 : Ext w1 w2 := by rw [hw2]; exact Ext.alloc _ _
  have b3 : Blk w2 w1.heap.size #[.slice aT A.next.length cT] 94 := by rw [hw2]; exact Blk.new _ _ _
  rw [← hw2]
  clear hw2
  generalize w1.heap.size = p3 at b3 ⊢
  have HT := Lib.hid (show ∃ v, Blk w2 p3 #[v] 94 ∧ TabV w2 v (table A) from ⟨_, b3, htb.tab.mono y2⟩)
  replace he := (he.trans he1).trans y2
  replace b1 := (b1.ext he1).ext y2
  clear htb he1 y2
  have HG := Lib.hid (show ∃ al vn va, Blk w2 w.heap.size #[al, vn, va] 29 ∧ BoolsV w2 va A.accept from ⟨_, _, _, b1, HAC.out _ he⟩)
  have D0 := fun d os => cell_regrown (b1.cell 0 rfl) d os
  have D3 := fun d os => cell_regrown (b3.cell 0 rfl) d os
  obtain ⟨W, hW⟩ : ∃ W, Wins (ltN A) (letters A.alphabet) [q] (accepts A) = W := ⟨_, rfl⟩
  have HW := Lib.hid hW
  clear hW
  obtain ⟨Kc, HKc⟩ : ∃ Kc : FuncId → Array Value → World → Value → World → Prop, Hid (Kc = fun f args w0 v w' => Ext w0 w' ∧ (f = 51 → IntsV w' v (letters A.alphabet)) ∧ (f = 149 → ∃ r, FirstIs W r ∧ v = .tuple #[.string (rtext r), .bool r.isSome])) := ⟨_, rfl⟩
  refine wp_region_ext (Kc := Kc) 15 (by kernel_rfl) (by kernel_rfl) ?_
  simp only [List.take_succ_cons, List.take_zero]
  repeat (refine WalkE.pure rfl (fun K hK => ?_); simp only [PureDo]; go_simp; refine hK _ ?_; clear hK K)
  refine WalkE.step (fun K hK wb hwb hdb => ?_)
  simp only [OpDo, OpSafe, OpOut]
  go_simp
  refine ⟨Ext.alloc _ _, hK _ _ ?_⟩
  have hone := IntsOwn.one 3 wb (q : Int)
  clear hK K hdb
  repeat (refine WalkE.pure rfl (fun K hK => ?_); simp only [PureDo]; go_simp; refine hK _ ?_; clear hK K)
  refine WalkE.step (fun K hK wc hwc hdc => ?_)
  simp only [OpDo, OpSafe, OpOut]
  go_simp
  refine ⟨(lettersOf_c _ _ ha0 ha63).mono ?_, ?_⟩
  · rintro e w' ⟨v, rfl, he', hl⟩
    exact ⟨v, rfl, by rw [HKc.out]; exact ⟨he', fun _ => hl, fun h => absurd h (by decide)⟩⟩
  intro u4 w4 hk4
  rw [HKc.out] at hk4
  have hl4 := hk4.2.1 rfl
  refine ⟨hk4.1, hK _ _ ?_⟩
  clear hK K hdc hk4
  obtain ⟨aL, cL, rfl, -, -⟩ := hl4.open
  repeat (refine WalkE.pure rfl (fun K hK => ?_); simp only [PureDo]; go_simp; refine hK _ ?_; clear hK K)
  refine WalkE.step (fun K hK wd hwd hdd => ?_)
  simp only [OpDo, OpSafe, OpOut]
  go_simp
  have x2d : Ext w2 wd := (Ext.drew _).trans hwd
  have hN : NextIs wd A.next.length 1 (letters A.alphabet) (.func (.func 150) #[] #[.pointer (some ⟨p3, 0, none⟩)]) (ltN A) :=
    next_lt (let ⟨v, h1, h2⟩ := HT.out; ⟨v, h1.ext x2d, h2.mono x2d⟩) HX.out
  have hG : GoalIs wd A.next.length (.func (.func 151) #[] #[.pointer (some ⟨w.heap.size, 0, none⟩)]) (accepts A) :=
    goal_lt (let ⟨al, vn, va, h1, h2⟩ := HG.out; ⟨al, vn, va, h1.ext x2d, h2.mono x2d⟩) HX.out
  refine ⟨(firstPath_c A.next.length 1 _ _ _ _ [q] (letters A.alphabet) (ltN A) (accepts A) _ (IntsOwn.low (hone.ext (hdd ⟨3, .data⟩ (by simp) rfl)) (Nat.zero_le _)) (by simp) (by intro x hx; simp at hx; omega) (hl4.mono (hdd ⟨6, .data⟩ (by simp) rfl)) (letters_asc _) (letters_lt6 ha63) hN hG (by omega) (by omega)).mono ?_, ?_⟩
  · rintro e w' ⟨r, hr, rfl, he'⟩
    exact ⟨_, rfl, by rw [HKc.out]; exact ⟨he', fun h => absurd h (by decide), fun _ => ⟨r, HW.out ▸ hr, rfl⟩⟩⟩
  intro u6 w6 hk6
  rw [HKc.out] at hk6
  obtain ⟨r, hr, rfl⟩ := hk6.2.2 rfl
  refine ⟨hk6.1, hK _ _ ?_⟩
  clear hK K hdd hk6 hN hG hl4 hone
  repeat (refine WalkE.pure rfl (fun K hK => ?_); simp only [PureDo]; go_simp; refine hK _ ?_; clear hK K)
  refine WalkE.nil (fun wn hwn hmn => ?_)
  simp only [List.drop_succ_cons, List.drop_zero, List.drop_nil]
  have xn : Ext w wn := he.trans ((Ext.drew _).trans hwn)
  clear hmn HKc D0 D3 hwn hwd hwc hwb x2d
  go_wp2_with fail
  go_ret
  refine ⟨r.isSome, rfl, xn, ?_⟩
  rw [← lt_wins ha63, HW.out]
  cases r with
  | none => simp; exact hr
  | some u => simp; exact ⟨u, hr.1⟩

structure PcTo (B : Auto) (k m : Nat) : Prop where
  low : ∀ q, q < k → ∀ l ∈ letters B.alphabet, accepts B q = false → ¬ LeadsAcc B (step B q l)
  row : ∀ (j : Nat) l, j < m → (letters B.alphabet)[j]? = some l → accepts B k = false → ¬ LeadsAcc B (step B k l)
theorem PcTo.start (B : Auto) : PcTo B 0 0 := ⟨fun q h => absurd h (Nat.not_lt_zero _), fun j l h => absurd h (Nat.not_lt_zero _)⟩
theorem PcTo.next {B : Auto} {k : Nat} (h : PcTo B k (letters B.alphabet).length) : PcTo B (k + 1) 0 := by
  refine ⟨fun q hq l hl ha => ?_, fun j l h => absurd h (Nat.not_lt_zero _)⟩
  rcases Nat.lt_or_ge q k with h1 | h1
  · exact h.low q h1 l hl ha
  · obtain rfl : q = k := by omega
    obtain ⟨j, hj⟩ := List.getElem?_of_mem hl
    exact h.row j l (List.getElem?_eq_some_iff.1 hj).1 hj ha
theorem PcTo.push {B : Auto} {k m : Nat} {l : Int} (h : PcTo B k m) (hl : (letters B.alphabet)[m]? = some l) (hp : accepts B k = false → ¬ LeadsAcc B (step B k l)) : PcTo B k (m + 1) := by
  refine ⟨h.low, fun j l' hj hl' ha => ?_⟩
  rcases Nat.lt_or_ge j m with h1 | h1
  · exact h.row j l' h1 hl' ha
  · obtain rfl : j = m := by omega
    rw [hl] at hl'
    cases hl'
    exact hp ha
theorem PcTo.done {B : Auto} (hb : B.alphabet ≤ 63) (h : PcTo B B.next.length 0) : IsPC B := fun q l v hq hl ha => by
  have := h.low q hq l ((letters_iff l hb).2 hl) ha
  cases hc : accepts B (run B (step B q l) v) with
  | false => rfl
  | true => exact absurd ⟨v, hc⟩ this

theorem foldl_stepN {α : Type} {nx : α → Int → α} {a : Int} (v : List Int) : ∀ n, (∀ x ∈ v, bit a x = true) → v.foldl (stepN nx a) n = v.foldl nx n := by
  induction v with
  | nil => intro n _; rfl
  | cons l v ih =>
    intro n h
    show v.foldl (stepN nx a) (stepN nx a n l) = _
    rw [show stepN nx a n l = nx n l by unfold stepN; rw [if_pos (h l (by simp))]]
    exact ih _ fun x hx => h x (by simp [hx])
theorem IsTrim.reach {A B : Auto} (hA : autoValid A = true) (h : IsTrim A B) {k : Nat} (hk : k < B.next.length) : ∃ u, run B 0 u = k := by
  obtain ⟨nodes, h1, h2, rfl⟩ := h
  obtain ⟨a0, a1, -⟩ := autoValid_facts hA
  have hk' : k < nodes.length := by simpa [autoN] using hk
  obtain ⟨v, hv, e⟩ := h1.reach _ (List.getElem_mem hk')
  have hs : 0 ∈ nodes := List.mem_of_getElem? h1.head
  have h0 : nodes.idxOf 0 = 0 := by
    have h3 : nodes[0]'(by omega) = 0 := by
      have := h1.head
      rw [List.getElem?_eq_getElem (by omega)] at this
      exact Option.some.inj this
    have h4 := h1.nodup.idxOf_getElem 0 (by omega)
    rwa [h3] at h4
  have h3 := (autoN_run a0 a1 (acc := Go.Proofs.YtajafdblmphglaaGreatDoor.accepts A) h1 v 0 hs).1
  rw [h0, foldl_stepN v 0 fun x hx => (letters_iff x a1).1 (hv x hx), e, h1.nodup.idxOf_getElem k hk'] at h3
  exact ⟨v, h3⟩
theorem not_pref {A B : Auto} (hA : autoValid A = true) (hT : IsTrim A B) {k : Nat} {l : Int} (hk : k < B.next.length) (ha : accepts B k = false) (hl : LeadsAcc B (step B k l)) : ¬ PrefClosed A := fun h => by
  obtain ⟨u, hu⟩ := hT.reach hA hk
  obtain ⟨v, hv⟩ := hl
  have h1 := h u (l :: v) (by rw [hT.accepts hA, show run B 0 (u ++ l :: v) = run B (run B 0 u) (l :: v) from List.foldl_append .., hu]; exact hv)
  rw [hT.accepts hA, hu, ha] at h1
  cases h1

theorem IsPrefixClosed_x (v : Value) (A : Auto) (w : World) (hv : AutoV w v A) :
    Calls Tryz.prog 31 #[v] w (fun e w' => ∃ b : Bool, e = .returned (.bool b) ∧ Ext w w' ∧ (b = true → autoValid A = true ∧ PrefClosed A) ∧ (b = false → autoValid A = true → ¬ PrefClosed A)) := by
  obtain ⟨vn, va, rfl, hN1, hA1⟩ := hv
  obtain ⟨an, cn, rfl, -, -⟩ := hN1.open
  obtain ⟨aa, ca, rfl, -, -⟩ := hA1.open
  have HV := Lib.hid (show ∀ w', Ext w w' → AutoV w' (.agg #[.int .i64 A.alphabet, .slice an A.next.length cn, .slice aa A.accept.length ca]) A from fun w' h => ⟨_, _, rfl, hN1.mono h, hA1.mono h⟩)
  clear hN1 hA1
  obtain ⟨wo, hwo⟩ : ∃ wo, wo = w.alloc (.cells #[.int .i64 A.alphabet, .slice an A.next.length cn, .slice aa A.accept.length ca] 29) := ⟨_, rfl⟩
  have he : Ext w wo := by rw [hwo]; exact Ext.alloc _ _
  have b1 : Blk wo w.heap.size #[.int .i64 A.alphabet, .slice an A.next.length cn, .slice aa A.accept.length ca] 29 := by rw [hwo]; exact Blk.new _ _ _
  obtain ⟨vb, hvb⟩ : ∃ vb, autoValid A = vb := ⟨_, rfl⟩
  have HVB := Lib.hid hvb
  go_enter Tryz.func31, Tryz.ntmps31
  go_upto_region 1 with fail
  rw [← hwo]
  clear hwo
  have c0 := b1.cell 0 rfl; have c1 := b1.cell 1 rfl; have c2 := b1.cell 2 rfl
  go_wp2_with fail
  refine (AutomatonValid_b hvb (HV.out _ he)).mono ?_
  rintro e w1 ⟨rfl, he1⟩
  clear c0 c1 c2 hvb
  replace he := he.trans he1
  replace b1 := b1.ext he1
  cases vb with
  | false =>
    go_wp2_with fail
    go_ret
    exact ⟨false, rfl, he, (fun h => by cases h), fun _ h => by rw [HVB.out] at h; cases h⟩
  | true =>
    have c0 := b1.cell 0 rfl; have c1 := b1.cell 1 rfl; have c2 := b1.cell 2 rfl
    go_wp2_with fail
    refine (trim_c _ A _ (HV.out _ he) HVB.out).mono ?_
    rintro e w2 ⟨v2, B, rfl, he2, hT, hO⟩
    obtain ⟨vN, vA, rfl, hN, hA⟩ := hO
    have hBV := IsTrim.valid HVB.out hT
    have HTR := Lib.hid hT
    have HPC := Lib.hid (show IsPC B → PrefClosed A from fun h => prefClosed_of hBV h fun u => IsTrim.accepts HVB.out hT u)
    have HBV := Lib.hid hBV
    have hN' := hN.intss
    have hA' := hA.bools
    obtain ⟨aN, cN, rfl, -, hn2⟩ := hN'.open
    obtain ⟨aA, cA, rfl, -, ha2⟩ := hA'.open
    have HB := Lib.hid (show ∀ w', Ext w2 w' → AutoV w' (.agg #[.int .i64 B.alphabet, .slice aN B.next.length cN, .slice aA B.accept.length cA]) B from fun w' h => ⟨_, _, rfl, hN'.mono h, hA'.mono h⟩)
    have HN2 := Lib.hid hn2
    have HA2 := Lib.hid ha2
    replace he := he.trans he2
    clear c0 c1 c2 b1 he1 he2 hT hBV hN hA hN' hA' hn2 ha2
    obtain ⟨hb0, hb63, hbn1, hbn12, hbna⟩ := autoValid_facts HBV.out
    have HNA := Lib.hid hbna
    have hL6 : (letters B.alphabet).length ≤ 6 := lettersTo_len B.alphabet 6
    clear hbna
    go_upto_region 4 with fail
    obtain ⟨w3, hw3⟩ : ∃ w3, w3 = w2.alloc (.cells #[.int .i64 B.alphabet, .slice aN B.next.length cN, .slice aA B.accept.length cA] 29) := ⟨_, rfl⟩
    have y3 : Ext w2 w3 := by rw [hw3]; exact Ext.alloc _ _
    have b3 : Blk w3 w2.heap.size #[.int .i64 B.alphabet, .slice aN B.next.length cN, .slice aA B.accept.length cA] 29 := by rw [hw3]; exact Blk.new _ _ _
    rw [← hw3]
    clear hw3
    generalize w2.heap.size = p3 at b3 ⊢
    have d1 := b3.cell 1 rfl
    go_wp2_with fail
    clear d1
    go_loopw [16, 34, 35, 36] (fun i _ _ _ wr => ∃ k : Nat, k ≤ B.next.length ∧ i = .int .i64 k ∧ Ext w2 wr ∧ Blk wr p3 #[.int .i64 B.alphabet, .slice aN B.next.length cN, .slice aA B.accept.length cA] 29 ∧ Hid (PcTo B k 0)) (fun i _ _ _ _ => B.next.length - (intOf i).toNat)
    case atStart => exact ⟨0, by omega, rfl, y3, b3, Lib.hid (PcTo.start B)⟩
    case round =>
      clear y3 b3
      obtain ⟨k, hk, rfl, hx, b3, hPC⟩ := hrel
      by_cases hlt : k < B.next.length
      · obtain ⟨row, hr, hrl, -⟩ := autoValid_row HBV.out hlt
        have hlr : row.length = (letters B.alphabet).length := hrl
        clear hrl
        obtain ⟨br, offr, rfl, -, hc3⟩ := HN2.out k row hr
        obtain ⟨vr, g1, hvr⟩ := hc3 k row hr
        rw [Nat.mul_one] at g1
        have g1r := hx.cell g1
        obtain ⟨ar, cr, rfl, -, hrr⟩ := hvr.open
        have HR := Lib.hid hr
        have HRR := Lib.hid hrr
        have hki : (k : Int) < (B.next.length : Int) := by omega
        have hka : k < B.accept.length := by have := HNA.out; omega
        obtain ⟨y, hy⟩ : ∃ y, B.accept[k]? = some y := ⟨_, List.getElem?_eq_getElem hka⟩
        have hay : accepts B k = y := by unfold accepts; rw [hy]; rfl
        obtain ⟨ba, offa, rfl, -, hca⟩ := HA2.out k y hy
        have g2 : w2.cell? ⟨ba, offa + k, none⟩ = some (.bool y) := by have := hca k y hy; simpa [BoolAt] using this
        have hkai : (k : Int) < (B.accept.length : Int) := by omega
        have HAY := Lib.hid hay
        clear hc3 hr hvr hrr hy hay hca g1
        go_wp2_with fail
        clear g1r
        go_loopw [23, 34, 35, 36] (fun i _ _ _ wr => ∃ m : Nat, m ≤ (letters B.alphabet).length ∧ i = .int .i64 m ∧ Ext w2 wr ∧ Blk wr p3 #[.int .i64 B.alphabet, .slice (some ⟨br, offr, none⟩) B.next.length cN, .slice (some ⟨ba, offa, none⟩) B.accept.length cA] 29 ∧ Hid (PcTo B k m)) (fun i _ _ _ _ => (letters B.alphabet).length - (intOf i).toNat)
        case atStart => exact ⟨0, by omega, rfl, hx, b3, hPC⟩
        case round =>
          clear hx b3 hPC
          obtain ⟨m, hm, rfl, hx, b3, hPC⟩ := hrel
          by_cases hml : m < (letters B.alphabet).length
          · obtain ⟨l, hl⟩ : ∃ l, (letters B.alphabet)[m]? = some l := ⟨_, List.getElem?_eq_getElem hml⟩
            obtain ⟨hb, l0, l6, hm6⟩ := letters_mem _ _ _ hb63 hl
            have hp := ((letters_place _ _ m hb0 hb63 l0 l6 hm6).1 hl).2
            obtain ⟨row', z, hr', hz, rfl, hzn⟩ := step_facts HBV.out hlt hb
            rw [HR.out] at hr'
            cases hr'
            rw [hp] at hz
            obtain ⟨r, hrz⟩ : ∃ r, step B k l = r := ⟨_, rfl⟩
            rw [hrz] at hz hzn
            have HRZ := Lib.hid hrz
            have HL := Lib.hid hl
            obtain ⟨b5, off5, rfl, -, hc5⟩ := HRR.out m _ hz
            have g5 := hx.cell (hc5 m _ hz)
            rw [Nat.mul_one] at g5
            have g2r := hx.cell g2
            have hmi : (m : Int) < ((letters B.alphabet).length : Int) := by omega
            clear hc5 hz hb hp hrz hl
            have d0 := b3.cell 0 rfl; have d1 := b3.cell 1 rfl; have d2 := b3.cell 2 rfl
            cases y with
            | true =>
              go_wp2_with fail
              exact ⟨⟨m + 1, by omega, by go_num, hx, b3, Lib.hid (hPC.out.push HL.out fun h => by rw [HAY.out] at h; cases h)⟩, by simp [intOf]; omega⟩
            | false =>
              go_wp2_with fail
              refine (leadsToAccepting_c _ B r _ (HB.out _ hx) HBV.out hzn).mono ?_
              rintro e w6 ⟨b, rfl, he6, hbb⟩
              have HBB := Lib.hid hbb
              clear hbb
              cases b with
              | true =>
                go_wp2_with fail
                go_ret
                exact ⟨false, rfl, he.trans (hx.trans he6), (fun h => by cases h), fun _ _ => not_pref HVB.out HTR.out hlt HAY.out (by rw [HRZ.out]; exact HBB.out.1 trivial)⟩
              | false =>
                have hP2 := Lib.hid (hPC.out.push HL.out fun _ h => by rw [HRZ.out] at h; exact absurd (HBB.out.2 h) (by simp))
                clear d0 d1 d2 g5 g2r
                go_wp2_with fail
                exact ⟨⟨m + 1, by omega, by go_num, hx.trans he6, b3.ext he6, hP2⟩, by simp [intOf]; omega⟩
          · obtain rfl : m = (letters B.alphabet).length := by omega
            have hP2 := Lib.hid (PcTo.next hPC.out)
            go_wp2_with fail
            exact ⟨⟨k + 1, by omega, by go_num, hx, b3, hP2⟩, by simp [intOf]; omega⟩
      · obtain rfl : k = B.next.length := by omega
        have hP2 := Lib.hid (HPC.out (PcTo.done hb63 hPC.out))
        go_wp2_with fail
        go_ret
        exact ⟨true, rfl, he.trans hx, (fun _ => ⟨HVB.out, hP2.out⟩), fun h => by cases h⟩
end Go.Proofs.YtajafdblmphglaaGreatDoor
