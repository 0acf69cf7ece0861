/- Part of this seat's proofs, cut to what its law needs. -/

import Derived.Test.YtanekmfifmkbmaaGreatDoorBase
import Derived.StillTail

namespace Go.Proofs.YtanekmfifmkbmaaGreatDoor
set_option linter.unusedSimpArgs false
set_option linter.unusedVariables false
open Go.RowKit

section
variable (P : Program) (ops : Array Oper) (Kc : FuncId → Array Value → World → Value → World → Prop) (R : World → World → Prop)

def OpSafe (o : Oper) (a : Act) (w : World) : Prop :=
  Region.wanted o (yielded ops a.tmps) = true → match (execOp a.eval o).run P w with
    | .ok (.value _) _ => True
    | .ok (.enter f args) w1 => Calls P f args w1 fun e w' => ∃ v, e = .returned v ∧ Kc f args w1 v w'
    | _ => False
def OpOut (o : Oper) (a : Act) (w : World) (v : Value) (w' : World) : Prop :=
  if Region.wanted o (yielded ops a.tmps) = true then match (execOp a.eval o).run P w with
    | .ok (.value u) w1 => v = u ∧ w' = w1
    | .ok (.enter f args) w1 => Kc f args w1 v w'
    | _ => False
  else v = undef ∧ w' = w
def OpDo (o : Oper) (a : Act) (w : World) (K : Value → World → Prop) : Prop :=
  OpSafe P ops Kc o a w ∧ ∀ v w', OpOut P ops Kc o a w v w' → R w w' ∧ K v w'
def upd (ends : Nat → World) (i : Nat) (w : World) : Nat → World := fun j => if j = i then w else ends j

def WalkR (md : Region.Mode) (w0 : World) (Q : (Nat → World) → Act → Prop) : Nat → List Oper → (Nat → World) → Act → Prop
  | _, [], ends, a => Q ends a
  | k, o :: l, ends, a => ∀ w, R w0 w → (∀ e ∈ o.after, Region.binds md e = true → R (ends e.on) w) →
      OpDo P ops Kc R o a w fun v w' => WalkR md w0 Q (k + 1) l (upd ends k w') (a.put o.dst v)

def BoundR (w0 : World) (listed : Array Bool) (ends : Nat → World) : Prop := ∃ w, R w0 w ∧ ∀ m, listed.getD m false = true → R (ends m) w

def AnyR (md : Region.Mode) (w0 : World) (n : Nat) (L : Array Bool → (Nat → World) → Act → Prop) : Nat → Array Bool → (Nat → World) → Act → Prop
  | 0, listed, ends, a => BoundR R w0 listed ends → L listed ends a
  | f + 1, listed, ends, a => BoundR R w0 listed ends → Region.ready md ops listed ≠ [] ∧ ∀ i ∈ Region.ready md ops listed, i < n ∧ ∀ o, ops[i]? = some o →
      ∀ w, R w0 w → (∀ e ∈ o.after, Region.binds md e = true → R (ends e.on) w) →
        OpDo P ops Kc R o a w fun v w' => AnyR md w0 n L f (listed.setIfInBounds i true) (upd ends i w') (a.put o.dst v)
end

section
variable {P : Program} {ops : Array Oper} {Kc : FuncId → Array Value → World → Value → World → Prop} {R : World → World → Prop} {md : Region.Mode} {w0 : World} {n : Nat}

theorem OpSafe.out {o : Oper} {a : Act} {w : World} (h : OpSafe P ops Kc o a w) : ∃ v w', OpOut P ops Kc o a w v w' := by
  unfold OpSafe at h
  unfold OpOut
  by_cases hw : Region.wanted o (yielded ops a.tmps) = true
  · simp only [hw, if_true]
    have h1 := h hw
    cases hr : (execOp a.eval o).run P w with
    | ok x w1 =>
      rw [hr] at h1
      cases x with
      | value u => exact ⟨u, w1, rfl, rfl⟩
      | enter f args =>
        obtain ⟨e, w', fr, ⟨v, _, hk⟩, _⟩ := h1 []
        exact ⟨v, w', hk⟩
      | _ => exact h1.elim
    | halt x w1 => rw [hr] at h1; exact h1.elim
  · exact ⟨undef, w, by rw [if_neg hw]; exact ⟨rfl, rfl⟩⟩

theorem opSafe_put {x o : Oper} (hap : x.apart ops o = true) (hs : ∀ cs b, o.op ≠ .select cs b) (a : Act) (v : Value) (w : World) :
    OpSafe P ops Kc o (a.put x.dst v) w = OpSafe P ops Kc o a w := by
  obtain ⟨h1, _, _⟩ := Oper.apart_spec hap
  unfold OpSafe
  rw [execOp_put o hs a x.dst v h1, wanted_put o a x.dst v h1]
theorem opOut_put {x o : Oper} (hap : x.apart ops o = true) (hs : ∀ cs b, o.op ≠ .select cs b) (a : Act) (v : Value) (w : World) (u : Value) (w' : World) :
    OpOut P ops Kc o (a.put x.dst v) w u w' = OpOut P ops Kc o a w u w' := by
  obtain ⟨h1, _, _⟩ := Oper.apart_spec hap
  unfold OpOut
  rw [execOp_put o hs a x.dst v h1, wanted_put o a x.dst v h1]
theorem opSafe_put' {x o : Oper} (hap : o.apart ops x = true) (hs : ∀ cs b, o.op ≠ .select cs b) (a : Act) (v : Value) (w : World) :
    OpSafe P ops Kc o (a.put x.dst v) w = OpSafe P ops Kc o a w := by
  obtain ⟨_, _, h3⟩ := Oper.apart_spec hap
  unfold OpSafe
  rw [execOp_put o hs a x.dst v h3, wanted_put o a x.dst v h3]
theorem opOut_put' {x o : Oper} (hap : o.apart ops x = true) (hs : ∀ cs b, o.op ≠ .select cs b) (a : Act) (v : Value) (w : World) (u : Value) (w' : World) :
    OpOut P ops Kc o (a.put x.dst v) w u w' = OpOut P ops Kc o a w u w' := by
  obtain ⟨_, _, h3⟩ := Oper.apart_spec hap
  unfold OpOut
  rw [execOp_put o hs a x.dst v h3, wanted_put o a x.dst v h3]

theorem upd_same (ends : Nat → World) (i : Nat) (w : World) : upd ends i w i = w := by simp [upd]
theorem upd_ne (ends : Nat → World) {i j : Nat} (w : World) (h : j ≠ i) : upd ends i w j = ends j := by simp [upd, h]
theorem upd_comm (ends : Nat → World) {i j : Nat} (w w' : World) (h : i ≠ j) : upd (upd ends i w) j w' = upd (upd ends j w') i w := by
  funext k; unfold upd
  by_cases h1 : k = i
  · subst h1; simp [h]
  · simp [h1]

theorem BoundR.step (htr : ∀ a b c, R a b → R b c → R a c) {listed : Array Bool} {ends : Nat → World} {w w' : World} {i : Nat} (h0 : R w0 w) (h : ∀ m, listed.getD m false = true → R (ends m) w) (hw : R w w') (hr : R w' w') :
    BoundR R w0 (listed.setIfInBounds i true) (upd ends i w') :=
  ⟨w', htr _ _ _ h0 hw, fun m hm => by
    by_cases hmi : m = i
    · subst hmi; rw [upd_same]; exact hr
    · rw [upd_ne _ _ hmi]
      rw [getD_set_ne false (Ne.symm hmi)] at hm
      exact htr _ _ _ (h m hm) hw⟩

def HeadFirst (md : Region.Mode) (ops : Array Oper) (n : Nat) : Prop :=
  ∀ listed, HeadInv md ops n listed → ∀ i ∈ Region.ready md ops listed, i < n → ∀ j ∈ Region.ready md ops listed, j < n

theorem anyR_first {i : Nat} {oi : Oper} {L : Array Bool → (Nat → World) → Act → Prop} (hrf : ∀ a, R a a) (htr : ∀ a b c, R a b → R b c → R a c)
    (hi : ops[i]? = some oi) (hsel : ∀ (j : Nat) (o : Oper) cs b, ops[j]? = some o → o.op ≠ .select cs b) (hhead : HeadFirst md ops n) (hin : i < n)
    (hdone : ∀ listed ends a, L listed ends a → ∀ j ∈ Region.ready md ops listed, n ≤ j) :
    ∀ (f : Nat) (listed : Array Bool) (ends : Nat → World) (a : Act), HeadInv md ops n listed →
      (∀ j oj, ops[j]? = some oj → j ≠ i → listed.getD j true = false → (∀ e ∈ oj.after, Region.binds md e = true → e.on ≠ i) → oi.apart ops oj = true) →
      i ∈ Region.ready md ops listed →
      (∀ w, R w0 w → (∀ e ∈ oi.after, Region.binds md e = true → R (ends e.on) w) →
        OpDo P ops Kc R oi a w fun v w' => AnyR P ops Kc R md w0 n L f (listed.setIfInBounds i true) (upd ends i w') (a.put oi.dst v)) →
      AnyR P ops Kc R md w0 n L (f + 1) listed ends a := by
  intro f
  induction f with
  | zero =>
    intro listed ends a inv _ hr H hb
    refine ⟨fun h => (by rw [h] at hr; cases hr), fun j hj => ?_⟩
    have hjn := hhead listed inv i hr hin j hj
    refine ⟨hjn, fun o ho => ?_⟩
    by_cases hji : j = i
    · subst hji
      obtain rfl : o = oi := Option.some.inj (ho.symm.trans hi)
      exact H
    · exfalso
      obtain ⟨w, h0, hl⟩ := hb
      obtain ⟨_, o', ho', hall⟩ := mem_ready.1 hr
      obtain rfl : o' = oi := Option.some.inj (ho'.symm.trans hi)
      obtain ⟨hsafe, hout⟩ := H w h0 (fun e he hbd => hl _ (hall e he hbd))
      obtain ⟨v, w', ho⟩ := hsafe.out
      have := hdone _ _ _ ((hout v w' ho).2 (BoundR.step htr h0 hl (hout v w' ho).1 (hrf _))) j (ready_mono hj hji)
      omega
  | succ f ih =>
    intro listed ends a inv hfree hr H hb
    refine ⟨fun h => (by rw [h] at hr; cases hr), fun j hj => ?_⟩
    have hjn := hhead listed inv i hr hin j hj
    refine ⟨hjn, fun oj hoj => ?_⟩
    by_cases hji : j = i
    · subst hji
      obtain rfl : oj = oi := Option.some.inj (hoj.symm.trans hi)
      exact H
    · intro w h0w hdw
      obtain ⟨hiun, o', ho', halli⟩ := mem_ready.1 hr
      obtain rfl : o' = oi := Option.some.inj (ho'.symm.trans hi)
      obtain ⟨hjun, o'', ho'', hallj⟩ := mem_ready.1 hj
      obtain rfl : o'' = oj := Option.some.inj (ho''.symm.trans hoj)
      have hnot : ∀ e ∈ o''.after, Region.binds md e = true → e.on ≠ i := fun e he hbd heq => by
        have h1 := hallj e he hbd
        rw [heq, getD_both hiun] at h1
        cases h1
      have hnotj : ∀ e ∈ o'.after, Region.binds md e = true → e.on ≠ j := fun e he hbd heq => by
        have h1 := halli e he hbd
        rw [heq, getD_both hjun] at h1
        cases h1
      have hap := hfree j o'' hoj hji hjun hnot
      have hsi := fun cs b => hsel i o' cs b hi
      have hsj := fun cs b => hsel j o'' cs b hoj
      have hdst := (Oper.apart_spec hap).2.1
      -- what i's step gives of j, in whatever world i has ended
      have key : ∀ w1, R w0 w1 → (∀ e ∈ o'.after, Region.binds md e = true → R (ends e.on) w1) → ∀ v1 w1', OpOut P ops Kc o' a w1 v1 w1' →
          BoundR R w0 (listed.setIfInBounds i true) (upd ends i w1') →
          OpSafe P ops Kc o'' a w ∧ ∀ v w', OpOut P ops Kc o'' a w v w' → R w w' ∧
            AnyR P ops Kc R md w0 n L f ((listed.setIfInBounds i true).setIfInBounds j true) (upd (upd ends i w1') j w') ((a.put o'.dst v1).put o''.dst v) := by
        intro w1 h01 hd1 v1 w1' hout1 hbound
        have h2 := ((H w1 h01 hd1).2 v1 w1' hout1).2 hbound
        have h3 := (h2.2 j (ready_mono hj hji)).2 o'' hoj w h0w (fun e he hbd => by rw [upd_ne _ _ (hnot e he hbd)]; exact hdw e he hbd)
        refine ⟨by rw [← opSafe_put hap hsj a v1 w]; exact h3.1, fun v w' ho => ?_⟩
        rw [← opOut_put hap hsj a v1 w] at ho
        exact h3.2 v w' ho
      obtain ⟨wb, hb0, hbl⟩ := hb
      have hdi : ∀ e ∈ o'.after, Region.binds md e = true → R (ends e.on) wb := fun e he hbd => hbl _ (halli e he hbd)
      obtain ⟨hsafe, hall⟩ := H wb hb0 hdi
      obtain ⟨v1, w1', hout1⟩ := hsafe.out
      obtain ⟨hs, ho⟩ := key wb hb0 hdi v1 w1' hout1 (BoundR.step htr hb0 hbl (hall _ _ hout1).1 (hrf _))
      refine ⟨hs, fun v w' hov => ⟨(ho v w' hov).1, ?_⟩⟩
      refine ih (listed.setIfInBounds j true) (upd ends j w') (a.put o''.dst v) (inv.set hj hjn) ?_ (ready_mono hr (Ne.symm hji)) ?_
      · intro k ok hk hki hun hno
        refine hfree k ok hk hki ?_ hno
        by_cases hjk : j = k
        · subst hjk; exact hjun
        · rw [getD_set_ne true hjk] at hun; exact hun
      · intro w2 h02 hd2
        have hd2' : ∀ e ∈ o'.after, Region.binds md e = true → R (ends e.on) w2 := fun e he hbd => by
          have := hd2 e he hbd
          rwa [upd_ne _ _ (hnotj e he hbd)] at this
        obtain ⟨hs2, ho2⟩ := H w2 h02 hd2'
        refine ⟨by rw [opSafe_put' hap hsi a v w2]; exact hs2, fun u w2' hou => ?_⟩
        rw [opOut_put' hap hsi a v w2] at hou
        refine ⟨(ho2 u w2' hou).1, ?_⟩
        -- the guard of what follows is what 'key' asks
        have hfin : BoundR R w0 ((listed.setIfInBounds j true).setIfInBounds i true) (upd (upd ends j w') i w2') →
            AnyR P ops Kc R md w0 n L f ((listed.setIfInBounds j true).setIfInBounds i true) (upd (upd ends j w') i w2') ((a.put o''.dst v).put o'.dst u) := by
          intro hbd
          have hb1 : BoundR R w0 (listed.setIfInBounds i true) (upd ends i w2') := by
            obtain ⟨wz, hz0, hz⟩ := hbd
            refine ⟨wz, hz0, fun m hm => ?_⟩
            by_cases hmj : m = j
            · subst hmj
              rw [getD_set_ne false (Ne.symm hji), getD_both hjun] at hm
              cases hm
            · have := hz m (by rw [Array.setIfInBounds_comm _ _ hji, getD_set_ne false (Ne.symm hmj)]; exact hm)
              rwa [upd_comm _ _ _ hji, upd_ne _ _ hmj] at this
          have h4 := (key w2 h02 hd2' u w2' hou hb1).2 v w' hov
          rw [Array.setIfInBounds_comm _ _ hji, upd_comm _ _ _ hji, Act.put_comm a u v hdst] at *
          exact h4.2
        cases f <;> exact fun hbd => hfin hbd hbd

theorem anyR_lex {g : Nat} {Q : (Nat → World) → Act → Prop} (hrf : ∀ a, R a a) (htr : ∀ a b c, R a b → R b c → R a c) (hsel : Region.noSelect ops = true) (hhead : HeadFirst md ops n) :
    ∀ (l : List Oper) (k : Nat) (listed : Array Bool) (ends : Nat → World) (a : Act), (∀ j, j < l.length → l[j]? = ops[k + j]?) → k + l.length = n → HeadInv md ops n listed → (∀ m, m < k → listed.getD m false = true) →
    Region.lexHead md ops g l.length k listed = true → WalkR P ops Kc R md w0 Q k l ends a →
    AnyR P ops Kc R md w0 n (fun listed' ends' a' => Region.seqB md ops g n listed' = true ∧ (∀ m, m < n → listed'.getD m false = true) ∧ Q ends' a') l.length listed ends a
  | [], k, listed, ends, a, _, hk, _, hls, hB, h => by
    have : k = n := by simpa using hk
    subst this
    exact fun _ => ⟨by simpa [Region.lexHead] using hB, hls, h⟩
  | o :: l, k, listed, ends, a, hl, hk, inv, hls, hB, h => by
    have h0 : ops[k]? = some o := by simpa using (hl 0 (by simp)).symm
    simp only [List.length_cons, Region.lexHead, Bool.and_eq_true] at hB
    obtain ⟨⟨hr, hf⟩, hB'⟩ := hB
    have hkn : k < n := by simp only [List.length_cons] at hk; omega
    have hr' : k ∈ Region.ready md ops listed := by simpa using hr
    refine anyR_first hrf htr h0 (Region.noSelect_spec hsel) hhead hkn (fun listed' ends' a' hL => seqB_ready hL.1) l.length listed ends a inv (Region.free_spec h0 hf) hr' ?_
    intro w hw hd
    obtain ⟨hs, ho⟩ := h w hw hd
    refine ⟨hs, fun v w' hov => ⟨(ho v w' hov).1, ?_⟩⟩
    exact anyR_lex hrf htr hsel hhead l (k + 1) _ _ _ (fun j hj => by have := hl (j + 1) (by simp; omega); simpa [Nat.add_assoc, Nat.add_comm 1 j] using this) (by simp only [List.length_cons] at hk; omega) (inv.set hr' hkn) (fun m hm => by
      by_cases hmk : m = k
      · subst hmk
        have : m < listed.size := by rw [inv.size]; exact (Array.getElem?_eq_some_iff.1 h0).1
        simp [this]
      · exact getD_set_true (hls m (by omega))) hB' (ho v w' hov).2

theorem wpOp_of_do {i : Nat} {o : Oper} {a : Act} {w : World} {K : Value → World → Prop} {K' : Act → World → Prop} {Q' : Exit → Act → World → Prop} (hi : ops[i]? = some o) (h : OpDo P ops Kc R o a w K)
    (hK : ∀ v w', R w w' → K v w' → K' (a.put o.dst v) w') : wpOp P ops Q' i K' a w := by
  obtain ⟨hs, ho⟩ := h
  unfold wpOp
  rw [hi]
  simp only
  by_cases hw : Region.wanted o (yielded ops a.tmps) = true
  · rw [if_pos hw]
    refine .inl ?_
    have h1 := hs hw
    unfold Oper.wp
    have h2 : ∀ v w', OpOut P ops Kc o a w v w' → K' (a.put o.dst v) w' := fun v w' h => hK v w' (ho v w' h).1 (ho v w' h).2
    unfold OpOut at h2
    simp only [hw, if_true] at h2
    cases hr : (execOp a.eval o).run P w with
    | ok x w1 =>
      rw [hr] at h1 h2
      cases x with
      | value u => exact h2 u w1 ⟨rfl, rfl⟩
      | enter f args =>
        refine Calls.mono h1 ?_
        rintro e w' ⟨v, rfl, hk⟩
        exact h2 v w' hk
      | _ => exact h1.elim
    | halt x w1 => rw [hr] at h1; exact h1.elim
  · rw [if_neg hw]
    have := ho undef w (by unfold OpOut; rw [if_neg hw]; exact ⟨rfl, rfl⟩)
    exact hK _ _ this.1 this.2

theorem wpAny_of_anyR {g : Nat} {L : Array Bool → (Nat → World) → Act → Prop} {Q' : Exit → Act → World → Prop} (hrf : ∀ a, R a a) (htr : ∀ a b c, R a b → R b c → R a c)
    (hL : ∀ listed ends a w, R w0 w → (∀ m, listed.getD m false = true → R (ends m) w) → L listed ends a → wpAny P md ops Q' g listed a w) :
    ∀ (f : Nat) (listed : Array Bool) (ends : Nat → World) (a : Act) (w : World), R w0 w → (∀ m, listed.getD m false = true → R (ends m) w) →
      AnyR P ops Kc R md w0 n L f listed ends a → wpAny P md ops Q' (f + g) listed a w
  | 0, listed, ends, a, w, h0, hl, h => by rw [Nat.zero_add]; exact hL _ _ _ _ h0 hl (h ⟨w, h0, hl⟩)
  | f + 1, listed, ends, a, w, h0, hl, h => by
    rw [show f + 1 + g = (f + g) + 1 by omega]
    obtain ⟨hne, hall⟩ := h ⟨w, h0, hl⟩
    refine ⟨fun hn => absurd hn hne, fun i hi => ?_⟩
    obtain ⟨_, o, ho, hd⟩ := mem_ready.1 hi
    refine wpOp_of_do ho ((hall i hi).2 o ho w h0 fun e he hb => hl _ (hd e he hb)) ?_
    intro v w' hw hA
    refine wpAny_of_anyR hrf htr hL f _ _ _ w' (htr _ _ _ h0 hw) ?_ hA
    intro m hm
    by_cases hmi : m = i
    · subst hmi; rw [upd_same]; exact hrf _
    · rw [upd_ne _ _ hmi]
      rw [getD_set_ne false (Ne.symm hmi)] at hm
      exact htr _ _ _ (hl m hm) hw

def headB (ops : Array Oper) (n : Nat) : Bool :=
  Region.noSelect ops && (n == ops.size || (decide (n < ops.size) && Region.sinkB .any ops n && Region.chainB .any ops n)) && Region.lexHead .any ops (ops.size - n) n 0 (Array.replicate ops.size false)

theorem wp_region_rel {id : Nat} {Q : Exit → Act → World → Prop} {a : Act} {w : World} {l : List Oper} (n : Nat) (hm : P.follows .mixedOrders = true) (hB : headB l.toArray n = true)
    (hrf : ∀ a, R a a) (htr : ∀ a b c, R a b → R b c → R a c)
    (h : WalkR P l.toArray Kc R .any w.drew (fun ends a' => ∀ w', R w.drew w' → (∀ m, m < n → R (ends m) w') → wpList P l.toArray Q (l.drop n) a' w') 0 (l.take n) (fun _ => w.drew) a) :
    (Code.region id l.toArray true).wp P Q a w := by
  simp only [headB, Bool.and_eq_true, Bool.or_eq_true, decide_eq_true_eq, beq_iff_eq] at hB
  obtain ⟨⟨hsel, hor⟩, hlex⟩ := hB
  have hle : n ≤ l.length := by
    rcases hor with h1 | ⟨⟨h1, _⟩, _⟩
    · simp at h1; omega
    · simp at h1; omega
  have hhead : HeadFirst .any l.toArray n := by
    intro listed inv i hi hin j hj
    rcases hor with h1 | ⟨⟨h1, h2⟩, h3⟩
    · obtain ⟨_, o, ho, _⟩ := mem_ready.1 hj
      rw [h1]
      exact (Array.getElem?_eq_some_iff.1 ho).1
    · rcases Nat.lt_or_ge j n with h | h
      · exact h
      · exact absurd hj (tail_waits h2 h3 h1 inv _ i rfl hin (mem_ready.1 hi).1 j h)
  have htl : (l.take n).length = n := by simp; omega
  have hdl : (l.drop n).length = l.toArray.size - n := by simp
  have inv0 : HeadInv .any l.toArray n (Array.replicate l.toArray.size false) :=
    ⟨by simp, fun j oj _ hl => (by rw [getD_replicate_false] at hl; cases hl), fun t _ ht => getD_in (by simpa using ht) (getD_replicate_false _ _)⟩
  have H := anyR_lex (md := .any) (g := l.toArray.size - n) hrf htr hsel hhead (l.take n) 0 _ _ a (fun j hj => by
    have hj' : j < n := by rw [htl] at hj; exact hj
    simp [hj']) (by simpa using htl) inv0 (fun m hm => by omega) (by rw [htl]; exact hlex) h
  refine wp_region_any hm ?_
  have := wpAny_of_anyR (Q' := Q) (g := l.toArray.size - n) hrf htr (fun listed ends a' w' h0 hl hL => by
    have := wpAny_of_seq (md := .any) (Q' := Q) (l.drop n) n listed a' w' (fun j => by simp [List.getElem?_drop]) (by rw [hdl]; exact hL.1) (hL.2.2 w' h0 (fun m hm => hl m (hL.2.1 m hm)))
    rwa [hdl] at this) _ _ _ _ _ (hrf w.drew) (fun m hm => by rw [getD_replicate_false] at hm; cases hm) H
  rw [htl, show n + (l.toArray.size - n) = l.toArray.size by omega] at this
  exact this
end


section
variable {P : Program} {ops : Array Oper} {Kc : FuncId → Array Value → World → Value → World → Prop} {Q : (Nat → World) → Act → Prop} {k : Nat} {o : Oper} {l : List Oper} {ends : Nat → World} {a : Act} {w : World}

def PureDo (P : Program) (ops : Array Oper) (w : World) (o : Oper) (a : Act) (K : Act → Prop) : Prop :=
  if Region.wanted o (yielded ops a.tmps) = true then ∃ u, (∀ p : Regrown, (execOp a.eval o).run P (Go.Sort.grow (redrawn w p.d) p.os) = .ok (.value u) (Go.Sort.grow (redrawn w p.d) p.os)) ∧ K (a.put o.dst u)
  else K (a.put o.dst undef)

theorem upd_self (ends : Nat → World) (k : Nat) (w : World) (h : ends k = w) : upd ends k w = ends := by
  funext j; unfold upd; by_cases hj : j = k
  · subst hj; simp [h]
  · simp [hj]

theorem WalkR.ends_mono {R : World → World → Prop} {md : Region.Mode} {w0 : World} {n : Nat} (htr : ∀ a b c, R a b → R b c → R a c)
    (hQ : ∀ (e e' : Nat → World) a, (∀ j, R (e j) (e' j)) → Q e a → Q e' a) : ∀ (l : List Oper) (k : Nat) (e e' : Nat → World) (a : Act), (∀ j, R (e j) (e' j)) → (hrf : ∀ a, R a a) → WalkR P ops Kc R md w0 Q k l e a → WalkR P ops Kc R md w0 Q k l e' a
  | [], _, e, e', a, h, _, hw => hQ e e' a h hw
  | o :: l, k, e, e', a, h, hrf, hw => fun w h0 hd => by
    obtain ⟨hs, ho⟩ := hw w h0 (fun x hx hb => htr _ _ _ (h _) (hd x hx hb))
    exact ⟨hs, fun v w' hov => ⟨(ho v w' hov).1, WalkR.ends_mono (n := n) htr hQ l (k + 1) _ _ _ (fun j => by
      by_cases hj : j = k
      · subst hj; rw [upd_same, upd_same]; exact hrf _
      · rw [upd_ne _ _ hj, upd_ne _ _ hj]; exact h j) hrf (ho v w' hov).2⟩⟩

def AfterR (P : Program) (l : List Oper) (w : World) (n : Nat) (Q : Exit → Act → World → Prop) (ends : Nat → World) (a : Act) : Prop :=
  ∀ w', Ext w.drew w' → (∀ m, m < n → Ext (ends m) w') → wpList P l.toArray Q (l.drop n) a w'

theorem AfterR.mono {n : Nat} {L : List Oper} {Q : Exit → Act → World → Prop} (e e' : Nat → World) (a : Act) (h : ∀ j, Ext (e j) (e' j)) (hq : AfterR P L w n Q e a) : AfterR P L w n Q e' a :=
  fun w' h0 hm => hq w' h0 fun m hmn => (h m).trans (hm m hmn)

abbrev WalkE (P : Program) (L : List Oper) (Kc : FuncId → Array Value → World → Value → World → Prop) (w : World) (n : Nat) (Q : Exit → Act → World → Prop) (k : Nat) (l : List Oper) (ends : Nat → World) (a : Act) : Prop :=
  WalkR P L.toArray Kc Ext .any w.drew (AfterR P L w n Q) k l ends a

theorem wp_region_ext {id : Nat} {Q : Exit → Act → World → Prop} {l : List Oper} (n : Nat) (hm : P.follows .mixedOrders = true) (hB : headB l.toArray n = true)
    (h : WalkE P l Kc w n Q 0 (l.take n) (fun _ => w.drew) a) : (Code.region id l.toArray true).wp P Q a w :=
  wp_region_rel (Kc := Kc) (R := Ext) n hm hB (fun _ => Ext.refl _) (fun _ _ _ => Ext.trans) h

variable {L : List Oper} {n : Nat} {Q : Exit → Act → World → Prop}
theorem WalkE.pure (hk : ends k = w.drew) (h : ∀ K : Act → Prop, (∀ a', WalkE P L Kc w n Q (k + 1) l ends a' → K a') → PureDo P L.toArray w o a K) :
    WalkE P L Kc w n Q k (o :: l) ends a := by
  have h1 := h _ (fun _ h => h)
  intro w' h0 _
  obtain ⟨p, hp⟩ := regrown_of_below h0
  have hp' : w' = Go.Sort.grow (redrawn w p.d) p.os := hp
  have e1 : upd ends k w.drew = ends := upd_self _ _ _ hk
  have fin : ∀ u, WalkE P L Kc w n Q (k + 1) l ends (a.put o.dst u) → WalkE P L Kc w n Q (k + 1) l (upd ends k w') (a.put o.dst u) := fun u hu =>
    WalkR.ends_mono (R := Ext) (n := n) (fun _ _ _ => Ext.trans) (fun e e' a h hq => AfterR.mono e e' a h hq) l (k + 1) ends (upd ends k w') _ (fun j => by
      by_cases hj : j = k
      · subst hj; rw [upd_same, hk]; exact h0
      · rw [upd_ne _ _ hj]; exact Ext.refl _) (fun _ => Ext.refl _) hu
  unfold PureDo at h1
  by_cases hw : Region.wanted o (yielded L.toArray a.tmps) = true
  · rw [if_pos hw] at h1
    obtain ⟨u, hr, hK⟩ := h1
    have hr' := hr p
    rw [← hp'] at hr'
    refine ⟨fun _ => by rw [hr']; trivial, fun v w2 ho => ?_⟩
    unfold OpOut at ho
    rw [if_pos hw, hr'] at ho
    obtain ⟨rfl, rfl⟩ := ho
    exact ⟨Ext.refl _, fin _ hK⟩
  · rw [if_neg hw] at h1
    refine ⟨fun h => absurd h hw, fun v w2 ho => ?_⟩
    unfold OpOut at ho
    rw [if_neg hw] at ho
    obtain ⟨rfl, rfl⟩ := ho
    exact ⟨Ext.refl _, fin _ h1⟩

theorem WalkE.step (h : ∀ K : Value → World → Prop, (∀ v w', WalkE P L Kc w n Q (k + 1) l (upd ends k w') (a.put o.dst v) → K v w') → ∀ wc, Ext w.drew wc → (∀ e ∈ o.after, Region.binds .any e = true → Ext (ends e.on) wc) → OpDo P L.toArray Kc Ext o a wc K) :
    WalkE P L Kc w n Q k (o :: l) ends a := fun wc h0 hd => h _ (fun _ _ h => h) wc h0 hd

theorem WalkE.nil (h : ∀ w', Ext w.drew w' → (∀ m, m < n → Ext (ends m) w') → wpList P L.toArray Q (L.drop n) a w') : WalkE P L Kc w n Q k [] ends a := h
end

end Go.Proofs.YtanekmfifmkbmaaGreatDoor

namespace Go.Proofs.YtanekmfifmkbmaaGreatDoor
set_option linter.unusedSimpArgs false
set_option linter.unusedVariables false
open Go.RowKit

section
variable (P : Program) (ops : Array Oper) (Kc : FuncId → Array Value → World → Value → World → Prop) (R : World → World → Prop) (np : Nat → Bool)

abbrev WW := World × World
def upd2 (ends : Nat → WW) (i : Nat) (w : WW) : Nat → WW := fun j => if j = i then w else ends j
def WalkR2 (md : Region.Mode) (w0 : World) (Q : (Nat → WW) → Act → Prop) : Nat → List Oper → (Nat → WW) → Act → Prop
  | _, [], ends, a => Q ends a
  | k, o :: l, ends, a => ∀ w, R w0 w → (∀ e ∈ o.after, Region.binds md e = true → R (ends e.on).2 w) →
      OpDo P ops Kc R o a w fun v w' => WalkR2 md w0 Q (k + 1) l (upd2 ends k (w, w')) (a.put o.dst v)

def Tot (listed : Array Bool) (ends : Nat → WW) : Prop := ∀ i j, i ≠ j → np i = true → np j = true → listed.getD i false = true → listed.getD j false = true → R (ends i).2 (ends j).1 ∨ R (ends j).2 (ends i).1
def BoundR2 (w0 : World) (listed : Array Bool) (ends : Nat → WW) : Prop := ∃ w, R w0 w ∧ (∀ m, listed.getD m false = true → R (ends m).2 w) ∧ Tot R np listed ends

def AnyR2 (md : Region.Mode) (w0 : World) (n : Nat) (L : Array Bool → (Nat → WW) → Act → Prop) : Nat → Array Bool → (Nat → WW) → Act → Prop
  | 0, listed, ends, a => BoundR2 R np w0 listed ends → L listed ends a
  | f + 1, listed, ends, a => BoundR2 R np w0 listed ends → Region.ready md ops listed ≠ [] ∧ ∀ i ∈ Region.ready md ops listed, i < n ∧ ∀ o, ops[i]? = some o →
      ∀ w, R w0 w → (∀ e ∈ o.after, Region.binds md e = true → R (ends e.on).2 w) →
        OpDo P ops Kc R o a w fun v w' => AnyR2 md w0 n L f (listed.setIfInBounds i true) (upd2 ends i (w, w')) (a.put o.dst v)
end

section
variable {P : Program} {ops : Array Oper} {Kc : FuncId → Array Value → World → Value → World → Prop} {R : World → World → Prop} {md : Region.Mode} {w0 : World} {n : Nat} {np : Nat → Bool}

theorem upd2_same (ends : Nat → WW) (i : Nat) (w : WW) : upd2 ends i w i = w := by simp [upd2]
theorem upd2_ne (ends : Nat → WW) {i j : Nat} (w : WW) (h : j ≠ i) : upd2 ends i w j = ends j := by simp [upd2, h]
theorem upd2_comm (ends : Nat → WW) {i j : Nat} (w w' : WW) (h : i ≠ j) : upd2 (upd2 ends i w) j w' = upd2 (upd2 ends j w') i w := by
  funext k; unfold upd2
  by_cases h1 : k = i
  · subst h1; simp [h]
  · simp [h1]

theorem getD_put {listed : Array Bool} {i m : Nat} (h : (listed.setIfInBounds i true).getD m false = true) (hm : m ≠ i) : listed.getD m false = true := by
  rwa [getD_set_ne false (Ne.symm hm)] at h
theorem Tot.step {listed : Array Bool} {ends : Nat → WW} {w w' : World} {i : Nat} (h : ∀ m, listed.getD m false = true → R (ends m).2 w) (hT : Tot R np listed ends) : Tot R np (listed.setIfInBounds i true) (upd2 ends i (w, w')) := by
  intro p q hpq np1 np2 hp hq
  by_cases h1 : p = i
  · subst h1
    rw [upd2_same, upd2_ne _ _ (Ne.symm hpq)]
    exact .inr (h q (getD_put hq (Ne.symm hpq)))
  · by_cases h2 : q = i
    · subst h2
      rw [upd2_same, upd2_ne _ _ h1]
      exact .inl (h p (getD_put hp h1))
    · rw [upd2_ne _ _ h1, upd2_ne _ _ h2]
      exact hT p q hpq np1 np2 (getD_put hp h1) (getD_put hq h2)
theorem BoundR2.step (htr : ∀ a b c, R a b → R b c → R a c) {listed : Array Bool} {ends : Nat → WW} {w w' : World} {i : Nat} (h0 : R w0 w) (h : ∀ m, listed.getD m false = true → R (ends m).2 w) (hT : Tot R np listed ends) (hw : R w w') (hr : R w' w') :
    BoundR2 R np w0 (listed.setIfInBounds i true) (upd2 ends i (w, w')) :=
  ⟨w', htr _ _ _ h0 hw, fun m hm => by
    by_cases hmi : m = i
    · subst hmi; rw [upd2_same]; exact hr
    · rw [upd2_ne _ _ hmi]
      exact htr _ _ _ (h m (getD_put hm hmi)) hw, Tot.step h hT⟩

theorem anyR2_first {i : Nat} {oi : Oper} {L : Array Bool → (Nat → WW) → Act → Prop} (hrf : ∀ a, R a a) (htr : ∀ a b c, R a b → R b c → R a c)
    (hi : ops[i]? = some oi) (hsel : ∀ (j : Nat) (o : Oper) cs b, ops[j]? = some o → o.op ≠ .select cs b) (hhead : HeadFirst md ops n) (hin : i < n)
    (hdone : ∀ listed ends a, L listed ends a → ∀ j ∈ Region.ready md ops listed, n ≤ j) :
    ∀ (f : Nat) (listed : Array Bool) (ends : Nat → WW) (a : Act), HeadInv md ops n listed →
      (∀ j oj, ops[j]? = some oj → j ≠ i → listed.getD j true = false → (∀ e ∈ oj.after, Region.binds md e = true → e.on ≠ i) → oi.apart ops oj = true) →
      i ∈ Region.ready md ops listed →
      (∀ w, R w0 w → (∀ e ∈ oi.after, Region.binds md e = true → R (ends e.on).2 w) →
        OpDo P ops Kc R oi a w fun v w' => AnyR2 P ops Kc R np md w0 n L f (listed.setIfInBounds i true) (upd2 ends i (w, w')) (a.put oi.dst v)) →
      AnyR2 P ops Kc R np md w0 n L (f + 1) listed ends a := by
  intro f
  induction f with
  | zero =>
    intro listed ends a inv _ hr H hb
    refine ⟨fun h => (by rw [h] at hr; cases hr), fun j hj => ?_⟩
    have hjn := hhead listed inv i hr hin j hj
    refine ⟨hjn, fun o ho => ?_⟩
    by_cases hji : j = i
    · subst hji
      obtain rfl : o = oi := Option.some.inj (ho.symm.trans hi)
      exact H
    · exfalso
      obtain ⟨w, h0, hl, hT⟩ := hb
      obtain ⟨_, o', ho', hall⟩ := mem_ready.1 hr
      obtain rfl : o' = oi := Option.some.inj (ho'.symm.trans hi)
      obtain ⟨hsafe, hout⟩ := H w h0 (fun e he hbd => hl _ (hall e he hbd))
      obtain ⟨v, w', ho⟩ := hsafe.out
      have := hdone _ _ _ ((hout v w' ho).2 (BoundR2.step htr h0 hl hT (hout v w' ho).1 (hrf _))) j (ready_mono hj hji)
      omega
  | succ f ih =>
    intro listed ends a inv hfree hr H hb
    refine ⟨fun h => (by rw [h] at hr; cases hr), fun j hj => ?_⟩
    have hjn := hhead listed inv i hr hin j hj
    refine ⟨hjn, fun oj hoj => ?_⟩
    by_cases hji : j = i
    · subst hji
      obtain rfl : oj = oi := Option.some.inj (hoj.symm.trans hi)
      exact H
    · intro w h0w hdw
      obtain ⟨hiun, o', ho', halli⟩ := mem_ready.1 hr
      obtain rfl : o' = oi := Option.some.inj (ho'.symm.trans hi)
      obtain ⟨hjun, o'', ho'', hallj⟩ := mem_ready.1 hj
      obtain rfl : o'' = oj := Option.some.inj (ho''.symm.trans hoj)
      have hnot : ∀ e ∈ o''.after, Region.binds md e = true → e.on ≠ i := fun e he hbd heq => by
        have h1 := hallj e he hbd
        rw [heq, getD_both hiun] at h1
        cases h1
      have hnotj : ∀ e ∈ o'.after, Region.binds md e = true → e.on ≠ j := fun e he hbd heq => by
        have h1 := halli e he hbd
        rw [heq, getD_both hjun] at h1
        cases h1
      have hap := hfree j o'' hoj hji hjun hnot
      have hsi := fun cs b => hsel i o' cs b hi
      have hsj := fun cs b => hsel j o'' cs b hoj
      have hdst := (Oper.apart_spec hap).2.1
      -- what i's step gives of j, in whatever world i has ended
      have key : ∀ w1, R w0 w1 → (∀ e ∈ o'.after, Region.binds md e = true → R (ends e.on).2 w1) → ∀ v1 w1', OpOut P ops Kc o' a w1 v1 w1' →
          BoundR2 R np w0 (listed.setIfInBounds i true) (upd2 ends i (w1, w1')) →
          OpSafe P ops Kc o'' a w ∧ ∀ v w', OpOut P ops Kc o'' a w v w' → R w w' ∧
            AnyR2 P ops Kc R np md w0 n L f ((listed.setIfInBounds i true).setIfInBounds j true) (upd2 (upd2 ends i (w1, w1')) j (w, w')) ((a.put o'.dst v1).put o''.dst v) := by
        intro w1 h01 hd1 v1 w1' hout1 hbound
        have h2 := ((H w1 h01 hd1).2 v1 w1' hout1).2 hbound
        have h3 := (h2.2 j (ready_mono hj hji)).2 o'' hoj w h0w (fun e he hbd => by rw [upd2_ne _ _ (hnot e he hbd)]; exact hdw e he hbd)
        refine ⟨by rw [← opSafe_put hap hsj a v1 w]; exact h3.1, fun v w' ho => ?_⟩
        rw [← opOut_put hap hsj a v1 w] at ho
        exact h3.2 v w' ho
      obtain ⟨wb, hb0, hbl, hbT⟩ := hb
      have hdi : ∀ e ∈ o'.after, Region.binds md e = true → R (ends e.on).2 wb := fun e he hbd => hbl _ (halli e he hbd)
      obtain ⟨hsafe, hall⟩ := H wb hb0 hdi
      obtain ⟨v1, w1', hout1⟩ := hsafe.out
      obtain ⟨hs, ho⟩ := key wb hb0 hdi v1 w1' hout1 (BoundR2.step htr hb0 hbl hbT (hall _ _ hout1).1 (hrf _))
      refine ⟨hs, fun v w' hov => ⟨(ho v w' hov).1, ?_⟩⟩
      refine ih (listed.setIfInBounds j true) (upd2 ends j (w, w')) (a.put o''.dst v) (inv.set hj hjn) ?_ (ready_mono hr (Ne.symm hji)) ?_
      · intro k ok hk hki hun hno
        refine hfree k ok hk hki ?_ hno
        by_cases hjk : j = k
        · subst hjk; exact hjun
        · rw [getD_set_ne true hjk] at hun; exact hun
      · intro w2 h02 hd2
        have hd2' : ∀ e ∈ o'.after, Region.binds md e = true → R (ends e.on).2 w2 := fun e he hbd => by
          have := hd2 e he hbd
          rwa [upd2_ne _ _ (hnotj e he hbd)] at this
        obtain ⟨hs2, ho2⟩ := H w2 h02 hd2'
        refine ⟨by rw [opSafe_put' hap hsi a v w2]; exact hs2, fun u w2' hou => ?_⟩
        rw [opOut_put' hap hsi a v w2] at hou
        refine ⟨(ho2 u w2' hou).1, ?_⟩
        -- the guard of what follows is what 'key' asks
        have hfin : BoundR2 R np w0 ((listed.setIfInBounds j true).setIfInBounds i true) (upd2 (upd2 ends j (w, w')) i (w2, w2')) →
            AnyR2 P ops Kc R np md w0 n L f ((listed.setIfInBounds j true).setIfInBounds i true) (upd2 (upd2 ends j (w, w')) i (w2, w2')) ((a.put o''.dst v).put o'.dst u) := by
          intro hbd
          have hnj : ∀ m, (listed.setIfInBounds i true).getD m false = true → m ≠ j ∧ ((listed.setIfInBounds j true).setIfInBounds i true).getD m false = true := by
            intro m hm
            have hmj : m ≠ j := by
              intro e
              subst e
              rw [getD_set_ne false (Ne.symm hji), getD_both hjun] at hm
              cases hm
            exact ⟨hmj, by rw [Array.setIfInBounds_comm _ _ hji, getD_set_ne false (Ne.symm hmj)]; exact hm⟩
          have hue : ∀ m, m ≠ j → upd2 (upd2 ends j (w, w')) i (w2, w2') m = upd2 ends i (w2, w2') m := fun m hmj => by
            rw [upd2_comm _ _ _ hji, upd2_ne _ _ hmj]
          have hb1 : BoundR2 R np w0 (listed.setIfInBounds i true) (upd2 ends i (w2, w2')) := by
            obtain ⟨wz, hz0, hz, hzT⟩ := hbd
            refine ⟨wz, hz0, fun m hm => ?_, fun p q hpq n1 n2 hp hq => ?_⟩
            · obtain ⟨h5, h6⟩ := hnj m hm
              rw [← hue m h5]; exact hz m h6
            · obtain ⟨h5, h6⟩ := hnj p hp
              obtain ⟨h7, h8⟩ := hnj q hq
              have := hzT p q hpq n1 n2 h6 h8
              rwa [hue p h5, hue q h7] at this
          have h4 := (key w2 h02 hd2' u w2' hou hb1).2 v w' hov
          rw [Array.setIfInBounds_comm _ _ hji, upd2_comm _ _ _ hji, Act.put_comm a u v hdst] at *
          exact h4.2
        cases f <;> exact fun hbd => hfin hbd hbd

theorem anyR2_lex {g : Nat} {Q : (Nat → WW) → Act → Prop} (hrf : ∀ a, R a a) (htr : ∀ a b c, R a b → R b c → R a c) (hsel : Region.noSelect ops = true) (hhead : HeadFirst md ops n) :
    ∀ (l : List Oper) (k : Nat) (listed : Array Bool) (ends : Nat → WW) (a : Act), (∀ j, j < l.length → l[j]? = ops[k + j]?) → k + l.length = n → HeadInv md ops n listed → (∀ m, m < k → listed.getD m false = true) →
    Region.lexHead md ops g l.length k listed = true → WalkR2 P ops Kc R md w0 Q k l ends a →
    AnyR2 P ops Kc R np md w0 n (fun listed' ends' a' => Region.seqB md ops g n listed' = true ∧ (∀ m, m < n → listed'.getD m false = true) ∧ Tot R np listed' ends' ∧ Q ends' a') l.length listed ends a
  | [], k, listed, ends, a, _, hk, _, hls, hB, h => by
    have : k = n := by simpa using hk
    subst this
    exact fun hb => ⟨by simpa [Region.lexHead] using hB, hls, hb.choose_spec.2.2, h⟩
  | o :: l, k, listed, ends, a, hl, hk, inv, hls, hB, h => by
    have h0 : ops[k]? = some o := by simpa using (hl 0 (by simp)).symm
    simp only [List.length_cons, Region.lexHead, Bool.and_eq_true] at hB
    obtain ⟨⟨hr, hf⟩, hB'⟩ := hB
    have hkn : k < n := by simp only [List.length_cons] at hk; omega
    have hr' : k ∈ Region.ready md ops listed := by simpa using hr
    refine anyR2_first hrf htr h0 (Region.noSelect_spec hsel) hhead hkn (fun listed' ends' a' hL => seqB_ready hL.1) l.length listed ends a inv (Region.free_spec h0 hf) hr' ?_
    intro w hw hd
    obtain ⟨hs, ho⟩ := h w hw hd
    refine ⟨hs, fun v w' hov => ⟨(ho v w' hov).1, ?_⟩⟩
    exact anyR2_lex hrf htr hsel hhead l (k + 1) _ _ _ (fun j hj => by have := hl (j + 1) (by simp; omega); simpa [Nat.add_assoc, Nat.add_comm 1 j] using this) (by simp only [List.length_cons] at hk; omega) (inv.set hr' hkn) (fun m hm => by
      by_cases hmk : m = k
      · subst hmk
        have : m < listed.size := by rw [inv.size]; exact (Array.getElem?_eq_some_iff.1 h0).1
        simp [this]
      · exact getD_set_true (hls m (by omega))) hB' (ho v w' hov).2

theorem wpAny_of_anyR2 {g : Nat} {L : Array Bool → (Nat → WW) → Act → Prop} {Q' : Exit → Act → World → Prop} (hrf : ∀ a, R a a) (htr : ∀ a b c, R a b → R b c → R a c)
    (hL : ∀ listed ends a w, R w0 w → (∀ m, listed.getD m false = true → R (ends m).2 w) → L listed ends a → wpAny P md ops Q' g listed a w) :
    ∀ (f : Nat) (listed : Array Bool) (ends : Nat → WW) (a : Act) (w : World), R w0 w → (∀ m, listed.getD m false = true → R (ends m).2 w) → Tot R np listed ends →
      AnyR2 P ops Kc R np md w0 n L f listed ends a → wpAny P md ops Q' (f + g) listed a w
  | 0, listed, ends, a, w, h0, hl, hT, h => by rw [Nat.zero_add]; exact hL _ _ _ _ h0 hl (h ⟨w, h0, hl, hT⟩)
  | f + 1, listed, ends, a, w, h0, hl, hT, h => by
    rw [show f + 1 + g = (f + g) + 1 by omega]
    obtain ⟨hne, hall⟩ := h ⟨w, h0, hl, hT⟩
    refine ⟨fun hn => absurd hn hne, fun i hi => ?_⟩
    obtain ⟨_, o, ho, hd⟩ := mem_ready.1 hi
    refine wpOp_of_do ho ((hall i hi).2 o ho w h0 fun e he hb => hl _ (hd e he hb)) ?_
    intro v w' hw hA
    refine wpAny_of_anyR2 hrf htr hL f _ _ _ w' (htr _ _ _ h0 hw) ?_ (Tot.step hl hT) hA
    intro m hm
    by_cases hmi : m = i
    · subst hmi; rw [upd2_same]; exact hrf _
    · rw [upd2_ne _ _ hmi]
      rw [getD_set_ne false (Ne.symm hmi)] at hm
      exact htr _ _ _ (hl m hm) hw

theorem wp_region_rel2 {id : Nat} {Q : Exit → Act → World → Prop} {a : Act} {w : World} {l : List Oper} (n : Nat) (np : Nat → Bool) (hm : P.follows .mixedOrders = true) (hB : headB l.toArray n = true)
    (hrf : ∀ a, R a a) (htr : ∀ a b c, R a b → R b c → R a c)
    (h : WalkR2 P l.toArray Kc R .any w.drew (fun ends a' => ∀ w', R w.drew w' → (∀ m, m < n → R (ends m).2 w') → (∀ i j, i < n → j < n → i ≠ j → np i = true → np j = true → R (ends i).2 (ends j).1 ∨ R (ends j).2 (ends i).1) → wpList P l.toArray Q (l.drop n) a' w') 0 (l.take n) (fun _ => (w.drew, w.drew)) a) :
    (Code.region id l.toArray true).wp P Q a w := by
  simp only [headB, Bool.and_eq_true, Bool.or_eq_true, decide_eq_true_eq, beq_iff_eq] at hB
  obtain ⟨⟨hsel, hor⟩, hlex⟩ := hB
  have hle : n ≤ l.length := by
    rcases hor with h1 | ⟨⟨h1, _⟩, _⟩
    · simp at h1; omega
    · simp at h1; omega
  have hhead : HeadFirst .any l.toArray n := by
    intro listed inv i hi hin j hj
    rcases hor with h1 | ⟨⟨h1, h2⟩, h3⟩
    · obtain ⟨_, o, ho, _⟩ := mem_ready.1 hj
      rw [h1]
      exact (Array.getElem?_eq_some_iff.1 ho).1
    · rcases Nat.lt_or_ge j n with h | h
      · exact h
      · exact absurd hj (tail_waits h2 h3 h1 inv _ i rfl hin (mem_ready.1 hi).1 j h)
  have htl : (l.take n).length = n := by simp; omega
  have hdl : (l.drop n).length = l.toArray.size - n := by simp
  have inv0 : HeadInv .any l.toArray n (Array.replicate l.toArray.size false) :=
    ⟨by simp, fun j oj _ hl => (by rw [getD_replicate_false] at hl; cases hl), fun t _ ht => getD_in (by simpa using ht) (getD_replicate_false _ _)⟩
  have H := anyR2_lex (md := .any) (np := np) (g := l.toArray.size - n) hrf htr hsel hhead (l.take n) 0 _ _ a (fun j hj => by
    have hj' : j < n := by rw [htl] at hj; exact hj
    simp [hj']) (by simpa using htl) inv0 (fun m hm => by omega) (by rw [htl]; exact hlex) h
  refine wp_region_any hm ?_
  have := wpAny_of_anyR2 (np := np) (Q' := Q) (g := l.toArray.size - n) hrf htr (fun listed ends a' w' h0 hl hL => by
    have := wpAny_of_seq (md := .any) (Q' := Q) (l.drop n) n listed a' w' (fun j => by simp [List.getElem?_drop]) (by rw [hdl]; exact hL.1) (hL.2.2.2 w' h0 (fun m hm => hl m (hL.2.1 m hm)) fun i j hi hj hij n1 n2 => hL.2.2.1 i j hij n1 n2 (hL.2.1 i hi) (hL.2.1 j hj))
    rwa [hdl] at this) _ _ _ _ _ (hrf w.drew) (fun m hm => by rw [getD_replicate_false] at hm; cases hm) (fun i j _ _ _ hi => by rw [getD_replicate_false] at hi; cases hi) H
  rw [htl, show n + (l.toArray.size - n) = l.toArray.size by omega] at this
  exact this
end


section
variable {P : Program} {ops : Array Oper} {Kc : FuncId → Array Value → World → Value → World → Prop} {Q : (Nat → WW) → Act → Prop} {k : Nat} {o : Oper} {l : List Oper} {ends : Nat → WW} {a : Act} {w : World}

theorem WalkR2.ends_mono {R : World → World → Prop} {np : Nat → Bool} {md : Region.Mode} {w0 : World} {n : Nat} (htr : ∀ a b c, R a b → R b c → R a c)
    (hQ : ∀ (e e' : Nat → WW) a, (∀ j, R (e j).2 (e' j).2 ∧ (np j = true → e j = e' j)) → Q e a → Q e' a) : ∀ (l : List Oper) (k : Nat) (e e' : Nat → WW) (a : Act), (∀ j, R (e j).2 (e' j).2 ∧ (np j = true → e j = e' j)) → (hrf : ∀ a, R a a) → WalkR2 P ops Kc R md w0 Q k l e a → WalkR2 P ops Kc R md w0 Q k l e' a
  | [], _, e, e', a, h, _, hw => hQ e e' a h hw
  | o :: l, k, e, e', a, h, hrf, hw => fun w h0 hd => by
    obtain ⟨hs, ho⟩ := hw w h0 (fun x hx hb => htr _ _ _ (h _).1 (hd x hx hb))
    exact ⟨hs, fun v w' hov => ⟨(ho v w' hov).1, WalkR2.ends_mono (n := n) htr hQ l (k + 1) _ _ _ (fun j => by
      by_cases hj : j = k
      · subst hj; rw [upd2_same, upd2_same]; exact ⟨hrf _, fun _ => rfl⟩
      · rw [upd2_ne _ _ hj, upd2_ne _ _ hj]; exact h j) hrf (ho v w' hov).2⟩⟩

def AfterR2 (P : Program) (l : List Oper) (w : World) (n : Nat) (np : Nat → Bool) (Q : Exit → Act → World → Prop) (ends : Nat → WW) (a : Act) : Prop :=
  ∀ w', Ext w.drew w' → (∀ m, m < n → Ext (ends m).2 w') → (∀ i j, i < n → j < n → i ≠ j → np i = true → np j = true → Ext (ends i).2 (ends j).1 ∨ Ext (ends j).2 (ends i).1) → wpList P l.toArray Q (l.drop n) a w'

theorem AfterR2.mono {n : Nat} {np : Nat → Bool} {L : List Oper} {Q : Exit → Act → World → Prop} (e e' : Nat → WW) (a : Act) (h : ∀ j, Ext (e j).2 (e' j).2 ∧ (np j = true → e j = e' j)) (hq : AfterR2 P L w n np Q e a) : AfterR2 P L w n np Q e' a :=
  fun w' h0 hm ht => hq w' h0 (fun m hmn => (h m).1.trans (hm m hmn)) fun i j hi hj hij n1 n2 => by rw [(h i).2 n1, (h j).2 n2]; exact ht i j hi hj hij n1 n2

abbrev WalkE2 (P : Program) (L : List Oper) (Kc : FuncId → Array Value → World → Value → World → Prop) (w : World) (n : Nat) (np : Nat → Bool) (Q : Exit → Act → World → Prop) (k : Nat) (l : List Oper) (ends : Nat → WW) (a : Act) : Prop :=
  WalkR2 P L.toArray Kc Ext .any w.drew (AfterR2 P L w n np Q) k l ends a

theorem wp_region_ext2 {id : Nat} {Q : Exit → Act → World → Prop} {l : List Oper} (n : Nat) (np : Nat → Bool) (hm : P.follows .mixedOrders = true) (hB : headB l.toArray n = true)
    (h : WalkE2 P l Kc w n np Q 0 (l.take n) (fun _ => (w.drew, w.drew)) a) : (Code.region id l.toArray true).wp P Q a w :=
  wp_region_rel2 (Kc := Kc) (R := Ext) n np hm hB (fun _ => Ext.refl _) (fun _ _ _ => Ext.trans) h

variable {L : List Oper} {n : Nat} {np : Nat → Bool} {Q : Exit → Act → World → Prop}
theorem WalkE2.pure (hk : ends k = (w.drew, w.drew)) (hnp : np k = false) (h : ∀ K : Act → Prop, (∀ a', WalkE2 P L Kc w n np Q (k + 1) l ends a' → K a') → PureDo P L.toArray w o a K) :
    WalkE2 P L Kc w n np Q k (o :: l) ends a := by
  have h1 := h _ (fun _ h => h)
  intro w' h0 _
  obtain ⟨p, hp⟩ := regrown_of_below h0
  have hp' : w' = Go.Sort.grow (redrawn w p.d) p.os := hp
  have fin : ∀ u, WalkE2 P L Kc w n np Q (k + 1) l ends (a.put o.dst u) → WalkE2 P L Kc w n np Q (k + 1) l (upd2 ends k (w', w')) (a.put o.dst u) := fun u hu =>
    WalkR2.ends_mono (R := Ext) (np := np) (n := n) (fun _ _ _ => Ext.trans) (fun e e' a h hq => AfterR2.mono e e' a h hq) l (k + 1) ends (upd2 ends k (w', w')) _ (fun j => by
      by_cases hj : j = k
      · subst hj; rw [upd2_same, hk]; exact ⟨h0, fun h => by rw [hnp] at h; cases h⟩
      · rw [upd2_ne _ _ hj]; exact ⟨Ext.refl _, fun _ => rfl⟩) (fun _ => Ext.refl _) hu
  unfold PureDo at h1
  by_cases hw : Region.wanted o (yielded L.toArray a.tmps) = true
  · rw [if_pos hw] at h1
    obtain ⟨u, hr, hK⟩ := h1
    have hr' := hr p
    rw [← hp'] at hr'
    refine ⟨fun _ => by rw [hr']; trivial, fun v w2 ho => ?_⟩
    unfold OpOut at ho
    rw [if_pos hw, hr'] at ho
    obtain ⟨rfl, rfl⟩ := ho
    exact ⟨Ext.refl _, fin _ hK⟩
  · rw [if_neg hw] at h1
    refine ⟨fun h => absurd h hw, fun v w2 ho => ?_⟩
    unfold OpOut at ho
    rw [if_neg hw] at ho
    obtain ⟨rfl, rfl⟩ := ho
    exact ⟨Ext.refl _, fin _ h1⟩

theorem WalkE2.step (h : ∀ wc, Ext w.drew wc → (∀ e ∈ o.after, Region.binds .any e = true → Ext (ends e.on).2 wc) → ∀ K : Value → World → Prop, (∀ v w', WalkE2 P L Kc w n np Q (k + 1) l (upd2 ends k (wc, w')) (a.put o.dst v) → K v w') → OpDo P L.toArray Kc Ext o a wc K) :
    WalkE2 P L Kc w n np Q k (o :: l) ends a := fun wc h0 hd => h wc h0 hd _ (fun _ _ h => h)

theorem WalkE2.nil (h : ∀ w', Ext w.drew w' → (∀ m, m < n → Ext (ends m).2 w') → (∀ i j, i < n → j < n → i ≠ j → np i = true → np j = true → Ext (ends i).2 (ends j).1 ∨ Ext (ends j).2 (ends i).1) → wpList P L.toArray Q (L.drop n) a w') : WalkE2 P L Kc w n np Q k [] ends a := h
end

end Go.Proofs.YtanekmfifmkbmaaGreatDoor
