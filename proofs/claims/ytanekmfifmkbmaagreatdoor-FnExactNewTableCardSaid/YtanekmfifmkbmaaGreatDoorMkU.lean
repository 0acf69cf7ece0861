/- Part of this seat's proofs, cut to what its law needs. -/

import Derived.Test.YtanekmfifmkbmaaGreatDoorMkT
import Derived.Test.YtanekmfifmkbmaaGreatDoorNtC
namespace Go.Proofs.YtanekmfifmkbmaaGreatDoor
set_option linter.unusedSimpArgs false
set_option linter.unusedVariables false
open Go Go.RowKit
set_option maxHeartbeats 2000000
set_option maxRecDepth 100000

def TabMk (base : Nat) (w : World) (v : Value) (kr kc : Nat) : Prop := ∃ vr vc, v = .agg #[vr, vc] ∧ Marked 9 1 base w vr kr (markS 1) ∧ Marked 9 1 base w vc kc (markS (1 + (kr : Int)))
theorem TabMk.ext {base : Nat} {w w' : World} {v : Value} {kr kc : Nat} (h : TabMk base w v kr kc) (he : Ext w w') : TabMk base w' v kr kc := let ⟨a, b, e, h1, h2⟩ := h; ⟨a, b, e, own_ext h1 he, own_ext h2 he⟩

theorem markTable_x (vr vc : Value) (T : Table) (base : Nat) (w : World) (hP : Pool base w [slT vr T.rows, slT vc T.cols]) (hsz : T.rows.length + T.cols.length ≤ 1000) :
    Calls Tryz.prog 19 #[.agg #[vr, vc], .int .i64 1] w (fun e w' => e = .returned (.int .i64 (1 + (T.rows.length : Nat) + (T.cols.length : Nat))) ∧ Tnd (fun b => SlB vr b ∨ SlB vc b) w w' ∧ TabMk base w' (.agg #[vr, vc]) T.rows.length T.cols.length) := by
  have hr := hP.own (slT vr T.rows) (by simp)
  have hc := hP.own (slT vc T.cols) (by simp)
  have hap : ∀ k, vr.ownBlock = some k → vc.ownBlock ≠ some k := fun k h1 h2 => (List.pairwise_cons.1 hP.apt).1 (slT vc T.cols) (by simp) k h1 h2
  have s1 := own_span hr
  have s2 := own_span hc
  obtain ⟨aR, cR, rfl⟩ : ∃ a c, vr = .slice a T.rows.length c := own_any' hr
  obtain ⟨aC, cC, rfl⟩ : ∃ a c, vc = .slice a T.cols.length c := own_any' hc
  obtain ⟨w0, hw0⟩ : ∃ w0, w0 = w.alloc (.cells #[.slice aR T.rows.length cR, .slice aC T.cols.length cC] 53) := ⟨_, rfl⟩
  have he0 : Ext w w0 := by rw [hw0]; exact Ext.alloc _ _
  have b2 : Blk w0 w.heap.size #[.slice aR T.rows.length cR, .slice aC T.cols.length cC] 53 := by rw [hw0]; exact Blk.new _ _ _
  have HM := Lib.hid (markStrS_x (n := 1) (own_ext hr he0) (by omega) (by show 1 + (T.rows.length : Int) ≤ 1000000; omega))
  go_enter Tryz.func19, Tryz.ntmps19
  go_upto_region 1 with fail
  rw [← hw0]
  clear hw0
  have b2_0 := b2.cell 0 rfl
  have b2_1 := b2.cell 1 rfl
  go_wp2_with fail
  refine HM.out.mono ?_
  rintro e w1 ⟨rfl, hg, hm⟩
  have hB := b2.tnd hg (fun h => by have := s1 _ h; unfold Span at this; omega)
  have hc1 : w1.ownsRow base 9 1 (.slice aC T.cols.length cC) T.cols.length (T.cols.map Value.string) := hg.own (own_ext hc he0) fun b hb hs => hap b hs hb
  have HM2 := Lib.hid (markStrS_x (n := 1 + (T.rows.length : Int)) hc1 (by omega) (by omega))
  have hT : Tnd (fun b => SlB (.slice aR T.rows.length cR) b ∨ SlB (.slice aC T.cols.length cC) b) w w1 := (Tnd.ext he0).trans (hg.imp fun b hb => .inl hb)
  clear b2_0 b2_1
  have b2_0 := hB.cell 0 rfl
  have b2_1 := hB.cell 1 rfl
  clear hg
  go_wp2_with fail
  refine HM2.out.mono ?_
  rintro e w2 ⟨rfl, hg2, hm2⟩
  go_wp2_with fail
  go_ret
  exact ⟨rfl, hT.trans (hg2.imp fun b hb => .inr hb), _, _, rfl, hg2.own hm fun b hb hs => hap b hb hs, hm2⟩

theorem heldTable_c (v : Value) (kr kc : Nat) (base : Nat) (w : World) (h : TabMk base w v kr kc) (hsz : kr + kc ≤ 1000) :
    Calls Tryz.prog 20 #[v, .int .i64 1] w (Grows (.int .i64 (1 + (kr : Nat) + (kc : Nat))) w) := by
  obtain ⟨vr, vc, rfl, h1, h2⟩ := h
  obtain ⟨aR, cR, rfl⟩ := own_any h1
  obtain ⟨aC, cC, rfl⟩ := own_any h2
  obtain ⟨w0, hw0⟩ : ∃ w0, w0 = w.alloc (.cells #[.slice aR kr cR, .slice aC kc cC] 53) := ⟨_, rfl⟩
  have he0 : Ext w w0 := by rw [hw0]; exact Ext.alloc _ _
  have b2 : Blk w0 w.heap.size #[.slice aR kr cR, .slice aC kc cC] 53 := by rw [hw0]; exact Blk.new _ _ _
  have H1 := Lib.hid (heldStrS_c _ 1 kr base w0 (own_ext h1 he0) (by omega) (by omega))
  have H2 := Lib.hid (fun w' (h : Ext w w') => heldStrS_c (.slice aC kc cC) (1 + (kr : Int)) kc base w' (own_ext h2 h) (by omega) (by omega))
  have hn1 : ¬ (1 : Int) + (kr : Int) < 0 := by omega
  have hn2 : ¬ (1 : Int) + (kr : Int) + (kc : Int) < 0 := by omega
  clear h1 h2
  go_enter Tryz.func20, Tryz.ntmps20
  go_upto_region 1 with fail
  rw [← hw0]
  clear hw0
  have b2_0 := b2.cell 0 rfl
  have b2_1 := b2.cell 1 rfl
  go_wp2_with fail
  refine H1.out.mono ?_
  rintro e w1 ⟨rfl, he1⟩
  clear b2_0 b2_1
  have b2_1 := (b2.ext he1).cell 1 rfl
  go_wp2_with fail
  refine (H2.out _ (he0.trans he1)).mono ?_
  rintro e w2 ⟨rfl, he2⟩
  go_wp2_with fail
  go_ret
  exact Grows.mk rfl ((he0.trans he1).trans he2)

theorem closeT_grown {f : ByteArray → Bool} {al : Int} : ∀ (n : Nat) {t T : Table}, Grown al t → closeT f al n t = some T → Grown al T ∧ T.cols = t.cols
  | 0, _, _, _, h => by cases h
  | n + 1, t, T, hg, h => by
    unfold closeT at h
    cases ho : openW f al t with
    | none => rw [ho] at h; simp only at h; cases h; exact ⟨hg, rfl⟩
    | some w =>
      rw [ho] at h
      simp only at h
      by_cases h12 : t.rows.length = 12
      · rw [if_pos h12] at h; cases h
      · rw [if_neg h12] at h
        obtain ⟨h1, h2⟩ := closeT_grown n (hg.push (f := f) (by have := hg.len; omega) ho) h
        exact ⟨h1, h2⟩
def zeroT : Table := ⟨[], []⟩
theorem zeroT_own (base : Nat) (w : World) : TabO base w (.agg #[.slice none 0 0, .slice none 0 0]) zeroT :=
  ⟨_, _, rfl, ((Pool.nil base w).addNil 9 1).addNil 9 1⟩
theorem newO_small (t : Teacher) : szTab ((newO t).getD zeroT) ≤ 1048576 ∧ ((newO t).getD zeroT).rows.length + ((newO t).getD zeroT).cols.length ≤ 1000 := by
  cases h : newO t with
  | none => exact ⟨by decide, by decide⟩
  | some T =>
    by_cases hn : teacherAlphabet t < 0
    · rw [newO_neg hn] at h; cases h
    · have h0 : 0 ≤ teacherAlphabet t := by omega
      rw [newO_pos h0] at h
      obtain ⟨h1, h2⟩ := closeT_grown _ ((startT_shape h0).grown (teacher_alpha h0)) h
      have h3 := h1.len
      have key : ∀ (l : List ByteArray) (m : Nat), (∀ x ∈ l, x.size ≤ m) → (l.map ByteArray.size).sum ≤ l.length * m := by
        intro l m
        induction l with
        | nil => intro _; simp
        | cons y l ih =>
          intro hl
          have a1 := hl y (by simp)
          have a2 := ih fun x hx => hl x (by simp [hx])
          simp only [List.map_cons, List.sum_cons, List.length_cons, Nat.add_mul, Nat.one_mul]
          omega
      have h4 := key T.rows 22 (fun x hx => by have := (h1.row x hx).1; omega)
      show szTab T ≤ 1048576 ∧ T.rows.length + T.cols.length ≤ 1000
      unfold szTab szStrs
      rw [h2]
      have e1 : startT.cols.length = 1 := rfl
      have e2 : (startT.cols.map ByteArray.size).sum = 0 := rfl
      omega
theorem tab_det {t : Teacher} {w w' : World} {e : Ending} (h : TabEnd (newO t) w e w') : ∃ v', e = .returned (.tuple #[v', .bool (newO t).isSome]) ∧ Ext w w' ∧ TabO w.heap.size w' v' ((newO t).getD zeroT) := by
  obtain ⟨he, (⟨hn, rfl⟩ | ⟨T, v', hn, rfl, hO⟩)⟩ := h
  · rw [hn]; exact ⟨_, rfl, he, zeroT_own _ _⟩
  · rw [hn]; exact ⟨_, rfl, he, hO⟩
theorem TabO.ext {base : Nat} {w w' : World} {v : Value} {t : Table} (h : TabO base w v t) (he : Ext w w') : TabO base w' v t := let ⟨a, b, e, h1⟩ := h; ⟨a, b, e, h1.ext he⟩
theorem TabO.up {S : Nat → Prop} {base : Nat} {w w' : World} {v : Value} {t : Table} (h : TabO base w v t) (ht : Tnd S w w') (hS : ∀ b, S b → b < base) : TabO base w' v t :=
  let ⟨a, b, e, h1⟩ := h; ⟨a, b, e, fun s hs => ht.own (h1.own s hs) fun g hg hs' => by have h2 := (own_lt (h1.own s hs) hg).1; have := hS g hs'; omega, h1.apt⟩
theorem TabO.tl {base : Nat} {w : World} {v : Value} {t : Table} (h : TabO base w v t) (hs : szTab t ≤ 1048576) : TableL w v t :=
  let ⟨a, b, e, h1⟩ := h
  ⟨a, b, e, .of (StrsOwn.strs (base := base) (h1.own (slT a t.rows) (by simp))) fun x hx => by have := (szTab_fit hs).rs x hx; unfold maxLen; omega, .of (StrsOwn.strs (base := base) (h1.own (slT b t.cols) (by simp))) fun x hx => by have := (szTab_fit hs).cs x hx; unfold maxLen; omega⟩
theorem eqTable_t {v u : Value} {x : Table} {w : World} (hv : TableL w v x) (hu : TableL w u x) : Calls Tryz.prog 16 #[v, u] w (Grows (.bool true) w) := by
  have := eqTable_c v u x x w hv hu
  simpa using this
end Go.Proofs.YtanekmfifmkbmaaGreatDoor
