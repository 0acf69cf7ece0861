/- A region that draws its order, with a box that is filled late: one walk in the order of the text, the store and the operations beside it among them. -/
import Derived.Test.YtloampfmlhmlhaaRegion
import Derived.Test.YtloampfmlhmlhaaWalkR
import Derived.Test.YtloampfmlhmlhaaWalkP
import Derived.Test.YtloampfmlhmlhaaDrawA
namespace Go.Proofs.Ytloampfmlhmlhaa
set_option linter.unusedSimpArgs false
set_option linter.unusedVariables false
open Go Go.RowKit
set_option maxHeartbeats 1000000

/-- From w on only boxes of the kind τ at s and beyond have changed, and each holds what it held or what G says. -/
structure Late (s : Nat) (τ : TypeId) (G : World → Array Value → Prop) (w w' : World) : Prop where
  tnd : Tnd (fun b => s ≤ b ∧ ∃ cs, Blk w b cs τ) w w'
  box : ∀ b cs, s ≤ b → Blk w b cs τ → ∃ cs', Blk w' b cs' τ ∧ (cs' = cs ∨ G w' cs')

/-- Nothing that G tells lies in a box of the kind τ. -/
def Stays (τ : TypeId) (G : World → Array Value → Prop) : Prop := ∀ (S : Nat → Prop) (w w' : World) (cs : Array Value), Tnd S w w' → (∀ b, S b → ∃ cs, Blk w b cs τ) → G w cs → G w' cs

section
variable {s : Nat} {τ : TypeId} {G : World → Array Value → Prop} {w w' a b c : World}
theorem Late.refl (w : World) : Late s τ G w w := ⟨Tnd.refl _ _, fun _ cs _ h => ⟨cs, h, .inl rfl⟩⟩
theorem Late.of_ext (h : Ext w w') : Late s τ G w w' := ⟨Tnd.ext h, fun _ cs _ hb => ⟨cs, hb.ext h, .inl rfl⟩⟩
theorem Late.trans (hG : Stays τ G) (h : Late s τ G a b) (k : Late s τ G b c) : Late s τ G a c := by
  refine ⟨⟨k.tnd.os.trans h.tnd.os, k.tnd.tape.trans h.tnd.tape, k.tnd.output.trans h.tnd.output, Nat.le_trans h.tnd.size k.tnd.size, fun i hi hn => ?_⟩, fun i cs hs hb => ?_⟩
  · have h1 := h.tnd.block i hi hn
    refine (k.tnd.block i (Nat.lt_of_lt_of_le hi h.tnd.size) ?_).trans h1
    rintro ⟨hs, cs, hb⟩
    exact hn ⟨hs, cs, h1.symm.trans hb⟩
  · obtain ⟨cs1, hb1, h1⟩ := h.box i cs hs hb
    obtain ⟨cs2, hb2, h2⟩ := k.box i cs1 hs hb1
    refine ⟨cs2, hb2, ?_⟩
    rcases h2 with rfl | h2
    · rcases h1 with rfl | h1
      · exact .inl rfl
      · exact .inr (hG _ _ _ _ k.tnd (fun _ h => h.2) h1)
    · exact .inr h2
theorem Late.ext (h : Late s τ G w w') (hs : w.heap.size ≤ s) : Ext w w' := h.tnd.below (Nat.le_refl _) fun _ hb => Nat.le_trans hs hb.1
theorem Late.put {g : Nat} {cs cs' : Array Value} (ht : Tnd (fun b => b = g) w w') (hs : s ≤ g) (hb : Blk w g cs τ) (hb' : Blk w' g cs' τ) (hG : G w' cs') : Late s τ G w w' := by
  refine ⟨ht.imp fun b e => by subst e; exact ⟨hs, _, hb⟩, fun i cs1 _ h1 => ?_⟩
  by_cases hi : i = g
  · subst hi; exact ⟨cs', hb', .inr hG⟩
  · exact ⟨cs1, h1.tnd ht hi, .inl rfl⟩
theorem own_kept {S : Nat → Prop} {base : Nat} {e : TypeId} {size n : Nat} {v : Value} {xs : List Value} (ht : Tnd S w w') (hS : ∀ b, S b → ∃ cs, Blk w b cs τ) (hne : τ ≠ e) (ho : w.ownsRow base e size v n xs) : w'.ownsRow base e size v n xs := by
  refine ht.own ho fun g hg hs => ?_
  obtain ⟨cs, hb⟩ := hS g hs
  rcases ho.2 with ⟨rfl, _⟩ | ⟨g1, cap, cur, rfl, _, hw, _⟩
  · simp [Value.ownBlock] at hg
  · simp [Value.ownBlock] at hg
    subst hg
    rw [show w.heap[g1]? = _ from hb] at hw
    cases hw
    exact hne rfl
/-- A box of the kind τ is no part of what a system, an automaton, a task lies in. -/
structure Odd (τ : TypeId) : Prop where
  edge : τ ≠ 70
  ints : τ ≠ 82
  int : τ ≠ 3
  bool : τ ≠ 4
variable {S : Nat → Prop} {base : Nat} {v : Value}
theorem intss_kept {ll : List (List Int)} (hτ : Odd τ) (ht : Tnd S w w') (hS : ∀ b, S b → ∃ cs, Blk w b cs τ) (h : IntssOwn 82 3 base w v ll) : IntssOwn 82 3 base w' v ll :=
  let ⟨vs, h1, h2, h3⟩ := h; ⟨vs, own_kept ht hS hτ.ints h1, ⟨h2.len, fun j x l hx hl => own_kept ht hS hτ.int (h2.row j x l hx hl), h2.apart⟩, h3⟩
theorem SysOwn.kept {x : Sys} (hτ : Odd τ) (ht : Tnd S w w') (hS : ∀ b, S b → ∃ cs, Blk w b cs τ) (h : SysOwn base w v x) : SysOwn base w' v x :=
  let ⟨ve, e, h1⟩ := h; ⟨ve, e, own_kept ht hS hτ.edge h1⟩
theorem AutoOwn.kept {x : Auto} (hτ : Odd τ) (ht : Tnd S w w') (hS : ∀ b, S b → ∃ cs, Blk w b cs τ) (h : AutoOwn base w v x) : AutoOwn base w' v x :=
  let ⟨vn, va, e, h1, h2⟩ := h; ⟨vn, va, e, intss_kept hτ ht hS h1, own_kept ht hS hτ.bool h2⟩
theorem TaskOwn.kept {x : Task} (hτ : Odd τ) (ht : Tnd S w w') (hS : ∀ b, S b → ∃ cs, Blk w b cs τ) (h : TaskOwn base w v x) : TaskOwn base w' v x :=
  let ⟨ve, vn, va, e, h1, h2, h3⟩ := h; ⟨ve, vn, va, e, own_kept ht hS hτ.edge h1, intss_kept hτ ht hS h2, own_kept ht hS hτ.bool h3⟩
theorem SysOwn.late {x : Sys} (hτ : Odd τ) (h : SysOwn base w v x) (k : Late s τ G w w') : SysOwn base w' v x := h.kept hτ k.tnd fun _ h => h.2
theorem AutoOwn.late {x : Auto} (hτ : Odd τ) (h : AutoOwn base w v x) (k : Late s τ G w w') : AutoOwn base w' v x := h.kept hτ k.tnd fun _ h => h.2
theorem TaskOwn.late {x : Task} (hτ : Odd τ) (h : TaskOwn base w v x) (k : Late s τ G w w') : TaskOwn base w' v x := h.kept hτ k.tnd fun _ h => h.2
end

/-! ### The walk: as Region's, with stores among what is walked -/
namespace Sk
section
variable (P : Program) (ops : Array Oper) (Kc : FuncId → Array Value → World → Value → World → Prop) (R : World → World → Prop)

/-- The operation goes through: it yields a value, or calls a function that hands back what Kc says. -/
def OpSafe (o : Oper) (a : Act) (w : World) : Prop :=
  Region.wanted o (yielded ops a.tmps) = true → match (execOp a.eval o).run P w with
    | .ok (.value _) _ => True
    | .ok .skip _ => True
    | .ok (.enter f args) w1 => Calls P f args w1 fun e w' => ∃ v, e = .returned v ∧ Kc f args w1 v w'
    | _ => False
/-- What it may end with. -/
def OpOut (o : Oper) (a : Act) (w : World) (v : Value) (w' : World) : Prop :=
  if Region.wanted o (yielded ops a.tmps) = true then match (execOp a.eval o).run P w with
    | .ok (.value u) w1 => v = u ∧ w' = w1
    | .ok .skip w1 => v = undef ∧ w' = w1
    | .ok (.enter f args) w1 => Kc f args w1 v w'
    | _ => False
  else v = undef ∧ w' = w
def OpDo (o : Oper) (a : Act) (w : World) (K : Value → World → Prop) : Prop :=
  OpSafe P ops Kc o a w ∧ ∀ v w', OpOut P ops Kc o a w v w' → R w w' ∧ K v w'
def upd (ends : Nat → World) (i : Nat) (w : World) : Nat → World := fun j => if j = i then w else ends j

/-- The walk in the order of the text. -/
def WalkR (md : Region.Mode) (w0 : World) (Q : (Nat → World) → Act → Prop) : Nat → List Oper → (Nat → World) → Act → Prop
  | _, [], ends, a => Q ends a
  | k, o :: l, ends, a => ∀ w, R w0 w → (∀ e ∈ o.after, Region.binds md e = true → R (ends e.on) w) →
      OpDo P ops Kc R o a w fun v w' => WalkR md w0 Q (k + 1) l (upd ends k w') (a.put o.dst v)

def BoundR (w0 : World) (listed : Array Bool) (ends : Nat → World) : Prop := ∃ w, R w0 w ∧ ∀ m, listed.getD m false = true → R (ends m) w

/-- Whatever order: f operations, all of them below n, then L. -/
def AnyR (md : Region.Mode) (w0 : World) (n : Nat) (L : Array Bool → (Nat → World) → Act → Prop) : Nat → Array Bool → (Nat → World) → Act → Prop
  | 0, listed, ends, a => BoundR R w0 listed ends → L listed ends a
  | f + 1, listed, ends, a => BoundR R w0 listed ends → Region.ready md ops listed ≠ [] ∧ ∀ i ∈ Region.ready md ops listed, i < n ∧ ∀ o, ops[i]? = some o →
      ∀ w, R w0 w → (∀ e ∈ o.after, Region.binds md e = true → R (ends e.on) w) →
        OpDo P ops Kc R o a w fun v w' => AnyR md w0 n L f (listed.setIfInBounds i true) (upd ends i w') (a.put o.dst v)
end

section
variable {P : Program} {ops : Array Oper} {Kc : FuncId → Array Value → World → Value → World → Prop} {R : World → World → Prop} {md : Region.Mode} {w0 : World} {n : Nat}

theorem OpSafe.out {o : Oper} {a : Act} {w : World} (h : OpSafe P ops Kc o a w) : ∃ v w', OpOut P ops Kc o a w v w' := by
  unfold OpSafe at h
  unfold OpOut
  by_cases hw : Region.wanted o (yielded ops a.tmps) = true
  · simp only [hw, if_true]
    have h1 := h hw
    cases hr : (execOp a.eval o).run P w with
    | ok x w1 =>
      rw [hr] at h1
      cases x with
      | value u => exact ⟨u, w1, rfl, rfl⟩
      | skip => exact ⟨undef, w1, rfl, rfl⟩
      | enter f args =>
        obtain ⟨e, w', fr, ⟨v, _, hk⟩, _⟩ := h1 []
        exact ⟨v, w', hk⟩
      | _ => exact h1.elim
    | halt x w1 => rw [hr] at h1; exact h1.elim
  · exact ⟨undef, w, by rw [if_neg hw]; exact ⟨rfl, rfl⟩⟩

theorem opSafe_put {x o : Oper} (hap : x.apart ops o = true) (hs : ∀ cs b, o.op ≠ .select cs b) (a : Act) (v : Value) (w : World) :
    OpSafe P ops Kc o (a.put x.dst v) w = OpSafe P ops Kc o a w := by
  obtain ⟨h1, _, _⟩ := Oper.apart_spec hap
  unfold OpSafe
  rw [execOp_put o hs a x.dst v h1, wanted_put o a x.dst v h1]
theorem opOut_put {x o : Oper} (hap : x.apart ops o = true) (hs : ∀ cs b, o.op ≠ .select cs b) (a : Act) (v : Value) (w : World) (u : Value) (w' : World) :
    OpOut P ops Kc o (a.put x.dst v) w u w' = OpOut P ops Kc o a w u w' := by
  obtain ⟨h1, _, _⟩ := Oper.apart_spec hap
  unfold OpOut
  rw [execOp_put o hs a x.dst v h1, wanted_put o a x.dst v h1]
theorem opSafe_put' {x o : Oper} (hap : o.apart ops x = true) (hs : ∀ cs b, o.op ≠ .select cs b) (a : Act) (v : Value) (w : World) :
    OpSafe P ops Kc o (a.put x.dst v) w = OpSafe P ops Kc o a w := by
  obtain ⟨_, _, h3⟩ := Oper.apart_spec hap
  unfold OpSafe
  rw [execOp_put o hs a x.dst v h3, wanted_put o a x.dst v h3]
theorem opOut_put' {x o : Oper} (hap : o.apart ops x = true) (hs : ∀ cs b, o.op ≠ .select cs b) (a : Act) (v : Value) (w : World) (u : Value) (w' : World) :
    OpOut P ops Kc o (a.put x.dst v) w u w' = OpOut P ops Kc o a w u w' := by
  obtain ⟨_, _, h3⟩ := Oper.apart_spec hap
  unfold OpOut
  rw [execOp_put o hs a x.dst v h3, wanted_put o a x.dst v h3]

theorem upd_same (ends : Nat → World) (i : Nat) (w : World) : upd ends i w i = w := by simp [upd]
theorem upd_ne (ends : Nat → World) {i j : Nat} (w : World) (h : j ≠ i) : upd ends i w j = ends j := by simp [upd, h]
theorem upd_comm (ends : Nat → World) {i j : Nat} (w w' : World) (h : i ≠ j) : upd (upd ends i w) j w' = upd (upd ends j w') i w := by
  funext k; unfold upd
  by_cases h1 : k = i
  · subst h1; simp [h]
  · simp [h1]

theorem BoundR.step (htr : ∀ a b c, R a b → R b c → R a c) {listed : Array Bool} {ends : Nat → World} {w w' : World} {i : Nat} (h0 : R w0 w) (h : ∀ m, listed.getD m false = true → R (ends m) w) (hw : R w w') (hr : R w' w') :
    BoundR R w0 (listed.setIfInBounds i true) (upd ends i w') :=
  ⟨w', htr _ _ _ h0 hw, fun m hm => by
    by_cases hmi : m = i
    · subst hmi; rw [upd_same]; exact hr
    · rw [upd_ne _ _ hmi]
      rw [getD_set_ne false (Ne.symm hmi)] at hm
      exact htr _ _ _ (h m hm) hw⟩

/-- The operations below n come first. -/
def HeadFirst (md : Region.Mode) (ops : Array Oper) (n : Nat) : Prop :=
  ∀ listed, HeadInv md ops n listed → ∀ i ∈ Region.ready md ops listed, i < n → ∀ j ∈ Region.ready md ops listed, j < n

theorem anyR_first {i : Nat} {oi : Oper} {L : Array Bool → (Nat → World) → Act → Prop} (hrf : ∀ a, R a a) (htr : ∀ a b c, R a b → R b c → R a c)
    (hi : ops[i]? = some oi) (hsel : ∀ (j : Nat) (o : Oper) cs b, ops[j]? = some o → o.op ≠ .select cs b) (hhead : HeadFirst md ops n) (hin : i < n)
    (hdone : ∀ listed ends a, L listed ends a → ∀ j ∈ Region.ready md ops listed, n ≤ j) :
    ∀ (f : Nat) (listed : Array Bool) (ends : Nat → World) (a : Act), HeadInv md ops n listed →
      (∀ j oj, ops[j]? = some oj → j ≠ i → listed.getD j true = false → (∀ e ∈ oj.after, Region.binds md e = true → e.on ≠ i) → oi.apart ops oj = true) →
      i ∈ Region.ready md ops listed →
      (∀ w, R w0 w → (∀ e ∈ oi.after, Region.binds md e = true → R (ends e.on) w) →
        OpDo P ops Kc R oi a w fun v w' => AnyR P ops Kc R md w0 n L f (listed.setIfInBounds i true) (upd ends i w') (a.put oi.dst v)) →
      AnyR P ops Kc R md w0 n L (f + 1) listed ends a := by
  intro f
  induction f with
  | zero =>
    intro listed ends a inv _ hr H hb
    refine ⟨fun h => (by rw [h] at hr; cases hr), fun j hj => ?_⟩
    have hjn := hhead listed inv i hr hin j hj
    refine ⟨hjn, fun o ho => ?_⟩
    by_cases hji : j = i
    · subst hji
      obtain rfl : o = oi := Option.some.inj (ho.symm.trans hi)
      exact H
    · exfalso
      obtain ⟨w, h0, hl⟩ := hb
      obtain ⟨_, o', ho', hall⟩ := mem_ready.1 hr
      obtain rfl : o' = oi := Option.some.inj (ho'.symm.trans hi)
      obtain ⟨hsafe, hout⟩ := H w h0 (fun e he hbd => hl _ (hall e he hbd))
      obtain ⟨v, w', ho⟩ := hsafe.out
      have := hdone _ _ _ ((hout v w' ho).2 (BoundR.step htr h0 hl (hout v w' ho).1 (hrf _))) j (ready_mono hj hji)
      omega
  | succ f ih =>
    intro listed ends a inv hfree hr H hb
    refine ⟨fun h => (by rw [h] at hr; cases hr), fun j hj => ?_⟩
    have hjn := hhead listed inv i hr hin j hj
    refine ⟨hjn, fun oj hoj => ?_⟩
    by_cases hji : j = i
    · subst hji
      obtain rfl : oj = oi := Option.some.inj (hoj.symm.trans hi)
      exact H
    · intro w h0w hdw
      obtain ⟨hiun, o', ho', halli⟩ := mem_ready.1 hr
      obtain rfl : o' = oi := Option.some.inj (ho'.symm.trans hi)
      obtain ⟨hjun, o'', ho'', hallj⟩ := mem_ready.1 hj
      obtain rfl : o'' = oj := Option.some.inj (ho''.symm.trans hoj)
      have hnot : ∀ e ∈ o''.after, Region.binds md e = true → e.on ≠ i := fun e he hbd heq => by
        have h1 := hallj e he hbd
        rw [heq, getD_both hiun] at h1
        cases h1
      have hnotj : ∀ e ∈ o'.after, Region.binds md e = true → e.on ≠ j := fun e he hbd heq => by
        have h1 := halli e he hbd
        rw [heq, getD_both hjun] at h1
        cases h1
      have hap := hfree j o'' hoj hji hjun hnot
      have hsi := fun cs b => hsel i o' cs b hi
      have hsj := fun cs b => hsel j o'' cs b hoj
      have hdst := (Oper.apart_spec hap).2.1
      -- what i's step gives of j, in whatever world i has ended
      have key : ∀ w1, R w0 w1 → (∀ e ∈ o'.after, Region.binds md e = true → R (ends e.on) w1) → ∀ v1 w1', OpOut P ops Kc o' a w1 v1 w1' →
          BoundR R w0 (listed.setIfInBounds i true) (upd ends i w1') →
          OpSafe P ops Kc o'' a w ∧ ∀ v w', OpOut P ops Kc o'' a w v w' → R w w' ∧
            AnyR P ops Kc R md w0 n L f ((listed.setIfInBounds i true).setIfInBounds j true) (upd (upd ends i w1') j w') ((a.put o'.dst v1).put o''.dst v) := by
        intro w1 h01 hd1 v1 w1' hout1 hbound
        have h2 := ((H w1 h01 hd1).2 v1 w1' hout1).2 hbound
        have h3 := (h2.2 j (ready_mono hj hji)).2 o'' hoj w h0w (fun e he hbd => by rw [upd_ne _ _ (hnot e he hbd)]; exact hdw e he hbd)
        refine ⟨by rw [← opSafe_put hap hsj a v1 w]; exact h3.1, fun v w' ho => ?_⟩
        rw [← opOut_put hap hsj a v1 w] at ho
        exact h3.2 v w' ho
      obtain ⟨wb, hb0, hbl⟩ := hb
      have hdi : ∀ e ∈ o'.after, Region.binds md e = true → R (ends e.on) wb := fun e he hbd => hbl _ (halli e he hbd)
      obtain ⟨hsafe, hall⟩ := H wb hb0 hdi
      obtain ⟨v1, w1', hout1⟩ := hsafe.out
      obtain ⟨hs, ho⟩ := key wb hb0 hdi v1 w1' hout1 (BoundR.step htr hb0 hbl (hall _ _ hout1).1 (hrf _))
      refine ⟨hs, fun v w' hov => ⟨(ho v w' hov).1, ?_⟩⟩
      refine ih (listed.setIfInBounds j true) (upd ends j w') (a.put o''.dst v) (inv.set hj hjn) ?_ (ready_mono hr (Ne.symm hji)) ?_
      · intro k ok hk hki hun hno
        refine hfree k ok hk hki ?_ hno
        by_cases hjk : j = k
        · subst hjk; exact hjun
        · rw [getD_set_ne true hjk] at hun; exact hun
      · intro w2 h02 hd2
        have hd2' : ∀ e ∈ o'.after, Region.binds md e = true → R (ends e.on) w2 := fun e he hbd => by
          have := hd2 e he hbd
          rwa [upd_ne _ _ (hnotj e he hbd)] at this
        obtain ⟨hs2, ho2⟩ := H w2 h02 hd2'
        refine ⟨by rw [opSafe_put' hap hsi a v w2]; exact hs2, fun u w2' hou => ?_⟩
        rw [opOut_put' hap hsi a v w2] at hou
        refine ⟨(ho2 u w2' hou).1, ?_⟩
        -- the guard of what follows is what 'key' asks
        have hfin : BoundR R w0 ((listed.setIfInBounds j true).setIfInBounds i true) (upd (upd ends j w') i w2') →
            AnyR P ops Kc R md w0 n L f ((listed.setIfInBounds j true).setIfInBounds i true) (upd (upd ends j w') i w2') ((a.put o''.dst v).put o'.dst u) := by
          intro hbd
          have hb1 : BoundR R w0 (listed.setIfInBounds i true) (upd ends i w2') := by
            obtain ⟨wz, hz0, hz⟩ := hbd
            refine ⟨wz, hz0, fun m hm => ?_⟩
            by_cases hmj : m = j
            · subst hmj
              rw [getD_set_ne false (Ne.symm hji), getD_both hjun] at hm
              cases hm
            · have := hz m (by rw [Array.setIfInBounds_comm _ _ hji, getD_set_ne false (Ne.symm hmj)]; exact hm)
              rwa [upd_comm _ _ _ hji, upd_ne _ _ hmj] at this
          have h4 := (key w2 h02 hd2' u w2' hou hb1).2 v w' hov
          rw [Array.setIfInBounds_comm _ _ hji, upd_comm _ _ _ hji, Act.put_comm a u v hdst] at *
          exact h4.2
        cases f <;> exact fun hbd => hfin hbd hbd

theorem anyR_lex {g : Nat} {Q : (Nat → World) → Act → Prop} (hrf : ∀ a, R a a) (htr : ∀ a b c, R a b → R b c → R a c) (hsel : Region.noSelect ops = true) (hhead : HeadFirst md ops n) :
    ∀ (l : List Oper) (k : Nat) (listed : Array Bool) (ends : Nat → World) (a : Act), (∀ j, j < l.length → l[j]? = ops[k + j]?) → k + l.length = n → HeadInv md ops n listed → (∀ m, m < k → listed.getD m false = true) →
    Region.lexHead md ops g l.length k listed = true → WalkR P ops Kc R md w0 Q k l ends a →
    AnyR P ops Kc R md w0 n (fun listed' ends' a' => Region.seqB md ops g n listed' = true ∧ (∀ m, m < n → listed'.getD m false = true) ∧ Q ends' a') l.length listed ends a
  | [], k, listed, ends, a, _, hk, _, hls, hB, h => by
    have : k = n := by simpa using hk
    subst this
    exact fun _ => ⟨by simpa [Region.lexHead] using hB, hls, h⟩
  | o :: l, k, listed, ends, a, hl, hk, inv, hls, hB, h => by
    have h0 : ops[k]? = some o := by simpa using (hl 0 (by simp)).symm
    simp only [List.length_cons, Region.lexHead, Bool.and_eq_true] at hB
    obtain ⟨⟨hr, hf⟩, hB'⟩ := hB
    have hkn : k < n := by simp only [List.length_cons] at hk; omega
    have hr' : k ∈ Region.ready md ops listed := by simpa using hr
    refine anyR_first hrf htr h0 (Region.noSelect_spec hsel) hhead hkn (fun listed' ends' a' hL => seqB_ready hL.1) l.length listed ends a inv (Region.free_spec h0 hf) hr' ?_
    intro w hw hd
    obtain ⟨hs, ho⟩ := h w hw hd
    refine ⟨hs, fun v w' hov => ⟨(ho v w' hov).1, ?_⟩⟩
    exact anyR_lex hrf htr hsel hhead l (k + 1) _ _ _ (fun j hj => by have := hl (j + 1) (by simp; omega); simpa [Nat.add_assoc, Nat.add_comm 1 j] using this) (by simp only [List.length_cons] at hk; omega) (inv.set hr' hkn) (fun m hm => by
      by_cases hmk : m = k
      · subst hmk
        have : m < listed.size := by rw [inv.size]; exact (Array.getElem?_eq_some_iff.1 h0).1
        simp [this]
      · exact getD_set_true (hls m (by omega))) hB' (ho v w' hov).2

/-- An operation of the region, in the world at hand. -/
theorem wpOp_of_do {i : Nat} {o : Oper} {a : Act} {w : World} {K : Value → World → Prop} {K' : Act → World → Prop} {Q' : Exit → Act → World → Prop} (hi : ops[i]? = some o) (h : OpDo P ops Kc R o a w K)
    (hK : ∀ v w', R w w' → K v w' → K' (a.put o.dst v) w') : wpOp P ops Q' i K' a w := by
  obtain ⟨hs, ho⟩ := h
  unfold wpOp
  rw [hi]
  simp only
  by_cases hw : Region.wanted o (yielded ops a.tmps) = true
  · rw [if_pos hw]
    refine .inl ?_
    have h1 := hs hw
    unfold Oper.wp
    have h2 : ∀ v w', OpOut P ops Kc o a w v w' → K' (a.put o.dst v) w' := fun v w' h => hK v w' (ho v w' h).1 (ho v w' h).2
    unfold OpOut at h2
    simp only [hw, if_true] at h2
    cases hr : (execOp a.eval o).run P w with
    | ok x w1 =>
      rw [hr] at h1 h2
      cases x with
      | value u => exact h2 u w1 ⟨rfl, rfl⟩
      | skip => exact h2 undef w1 ⟨rfl, rfl⟩
      | enter f args =>
        refine Calls.mono h1 ?_
        rintro e w' ⟨v, rfl, hk⟩
        exact h2 v w' hk
      | _ => exact h1.elim
    | halt x w1 => rw [hr] at h1; exact h1.elim
  · rw [if_neg hw]
    have := ho undef w (by unfold OpOut; rw [if_neg hw]; exact ⟨rfl, rfl⟩)
    exact hK _ _ this.1 this.2

theorem wpAny_of_anyR {g : Nat} {L : Array Bool → (Nat → World) → Act → Prop} {Q' : Exit → Act → World → Prop} (hrf : ∀ a, R a a) (htr : ∀ a b c, R a b → R b c → R a c)
    (hL : ∀ listed ends a w, R w0 w → (∀ m, listed.getD m false = true → R (ends m) w) → L listed ends a → wpAny P md ops Q' g listed a w) :
    ∀ (f : Nat) (listed : Array Bool) (ends : Nat → World) (a : Act) (w : World), R w0 w → (∀ m, listed.getD m false = true → R (ends m) w) →
      AnyR P ops Kc R md w0 n L f listed ends a → wpAny P md ops Q' (f + g) listed a w
  | 0, listed, ends, a, w, h0, hl, h => by rw [Nat.zero_add]; exact hL _ _ _ _ h0 hl (h ⟨w, h0, hl⟩)
  | f + 1, listed, ends, a, w, h0, hl, h => by
    rw [show f + 1 + g = (f + g) + 1 by omega]
    obtain ⟨hne, hall⟩ := h ⟨w, h0, hl⟩
    refine ⟨fun hn => absurd hn hne, fun i hi => ?_⟩
    obtain ⟨_, o, ho, hd⟩ := mem_ready.1 hi
    refine wpOp_of_do ho ((hall i hi).2 o ho w h0 fun e he hb => hl _ (hd e he hb)) ?_
    intro v w' hw hA
    refine wpAny_of_anyR hrf htr hL f _ _ _ w' (htr _ _ _ h0 hw) ?_ hA
    intro m hm
    by_cases hmi : m = i
    · subst hmi; rw [upd_same]; exact hrf _
    · rw [upd_ne _ _ hmi]
      rw [getD_set_ne false (Ne.symm hmi)] at hm
      exact htr _ _ _ (hl m hm) hw

def headB (ops : Array Oper) (n : Nat) : Bool :=
  Region.noSelect ops && (n == ops.size || (decide (n < ops.size) && Region.sinkB .any ops n && Region.chainB .any ops n)) && Region.lexHead .any ops (ops.size - n) n 0 (Array.replicate ops.size false)

/-- One walk in the order of the text, of the first n operations; the rest stand in a forced order behind them. -/
theorem wp_region_rel {id : Nat} {Q : Exit → Act → World → Prop} {a : Act} {w : World} {l : List Oper} (n : Nat) (hm : P.follows .mixedOrders = true) (hB : headB l.toArray n = true)
    (hrf : ∀ a, R a a) (htr : ∀ a b c, R a b → R b c → R a c)
    (h : WalkR P l.toArray Kc R .any w.drew (fun ends a' => ∀ w', R w.drew w' → (∀ m, m < n → R (ends m) w') → wpList P l.toArray Q (l.drop n) a' w') 0 (l.take n) (fun _ => w.drew) a) :
    (Code.region id l.toArray true).wp P Q a w := by
  simp only [headB, Bool.and_eq_true, Bool.or_eq_true, decide_eq_true_eq, beq_iff_eq] at hB
  obtain ⟨⟨hsel, hor⟩, hlex⟩ := hB
  have hle : n ≤ l.length := by
    rcases hor with h1 | ⟨⟨h1, _⟩, _⟩
    · simp at h1; omega
    · simp at h1; omega
  have hhead : HeadFirst .any l.toArray n := by
    intro listed inv i hi hin j hj
    rcases hor with h1 | ⟨⟨h1, h2⟩, h3⟩
    · obtain ⟨_, o, ho, _⟩ := mem_ready.1 hj
      rw [h1]
      exact (Array.getElem?_eq_some_iff.1 ho).1
    · rcases Nat.lt_or_ge j n with h | h
      · exact h
      · exact absurd hj (tail_waits h2 h3 h1 inv _ i rfl hin (mem_ready.1 hi).1 j h)
  have htl : (l.take n).length = n := by simp; omega
  have hdl : (l.drop n).length = l.toArray.size - n := by simp
  have inv0 : HeadInv .any l.toArray n (Array.replicate l.toArray.size false) :=
    ⟨by simp, fun j oj _ hl => (by rw [getD_replicate_false] at hl; cases hl), fun t _ ht => getD_in (by simpa using ht) (getD_replicate_false _ _)⟩
  have H := anyR_lex (md := .any) (g := l.toArray.size - n) hrf htr hsel hhead (l.take n) 0 _ _ a (fun j hj => by
    have hj' : j < n := by rw [htl] at hj; exact hj
    simp [hj']) (by simpa using htl) inv0 (fun m hm => by omega) (by rw [htl]; exact hlex) h
  refine wp_region_any hm ?_
  have := wpAny_of_anyR (Q' := Q) (g := l.toArray.size - n) hrf htr (fun listed ends a' w' h0 hl hL => by
    have := wpAny_of_seq (md := .any) (Q' := Q) (l.drop n) n listed a' w' (fun j => by simp [List.getElem?_drop]) (by rw [hdl]; exact hL.1) (hL.2.2 w' h0 (fun m hm => hl m (hL.2.1 m hm)))
    rwa [hdl] at this) _ _ _ _ _ (hrf w.drew) (fun m hm => by rw [getD_replicate_false] at hm; cases hm) H
  rw [htl, show n + (l.toArray.size - n) = l.toArray.size by omega] at this
  exact this
end
section
variable {P : Program} {ops : Array Oper} {Kc : FuncId → Array Value → World → Value → World → Prop} {Q : (Nat → World) → Act → Prop} {k : Nat} {o : Oper} {l : List Oper} {ends : Nat → World} {a : Act} {w : World}

/-- An operation that only reads or reckons: one value, in every world of the class. -/
def PureDo (P : Program) (ops : Array Oper) (w : World) (o : Oper) (a : Act) (K : Act → Prop) : Prop :=
  if Region.wanted o (yielded ops a.tmps) = true then ∃ u, (∀ p : Regrown, (execOp a.eval o).run P (Go.Sort.grow (redrawn w p.d) p.os) = .ok (.value u) (Go.Sort.grow (redrawn w p.d) p.os)) ∧ K (a.put o.dst u)
  else K (a.put o.dst undef)

theorem upd_self (ends : Nat → World) (k : Nat) (w : World) (h : ends k = w) : upd ends k w = ends := by
  funext j; unfold upd; by_cases hj : j = k
  · subst hj; simp [h]
  · simp [hj]

theorem WalkR.ends_mono {R : World → World → Prop} {md : Region.Mode} {w0 : World} {n : Nat} (htr : ∀ a b c, R a b → R b c → R a c)
    (hQ : ∀ (e e' : Nat → World) a, (∀ j, R (e j) (e' j)) → Q e a → Q e' a) : ∀ (l : List Oper) (k : Nat) (e e' : Nat → World) (a : Act), (∀ j, R (e j) (e' j)) → (hrf : ∀ a, R a a) → WalkR P ops Kc R md w0 Q k l e a → WalkR P ops Kc R md w0 Q k l e' a
  | [], _, e, e', a, h, _, hw => hQ e e' a h hw
  | o :: l, k, e, e', a, h, hrf, hw => fun w h0 hd => by
    obtain ⟨hs, ho⟩ := hw w h0 (fun x hx hb => htr _ _ _ (h _) (hd x hx hb))
    exact ⟨hs, fun v w' hov => ⟨(ho v w' hov).1, WalkR.ends_mono (n := n) htr hQ l (k + 1) _ _ _ (fun j => by
      by_cases hj : j = k
      · subst hj; rw [upd_same, upd_same]; exact hrf _
      · rw [upd_ne _ _ hj, upd_ne _ _ hj]; exact h j) hrf (ho v w' hov).2⟩⟩

end
section
variable {P : Program} {R : World → World → Prop} {Kc : FuncId → Array Value → World → Value → World → Prop} {k : Nat} {o : Oper} {l : List Oper} {ends : Nat → World} {a : Act} {w : World}
def AfterL (P : Program) (R : World → World → Prop) (l : List Oper) (w : World) (n : Nat) (Q : Exit → Act → World → Prop) (ends : Nat → World) (a : Act) : Prop :=
  ∀ w', R w.drew w' → (∀ m, m < n → R (ends m) w') → wpList P l.toArray Q (l.drop n) a w'
theorem AfterL.mono (htr : ∀ a b c, R a b → R b c → R a c) {n : Nat} {L : List Oper} {Q : Exit → Act → World → Prop} (e e' : Nat → World) (a : Act) (h : ∀ j, R (e j) (e' j)) (hq : AfterL P R L w n Q e a) : AfterL P R L w n Q e' a :=
  fun w' h0 hm => hq w' h0 fun m hmn => htr _ _ _ (h m) (hm m hmn)
/-- What the walk asks of the relation. -/
structure Goes (R : World → World → Prop) (w : World) : Prop where
  refl : ∀ a, R a a
  trans : ∀ a b c, R a b → R b c → R a c
  ext : ∀ w', R w w' → Ext w w'
  of : ∀ a b, Ext a b → R a b
abbrev WalkL (P : Program) (R : World → World → Prop) (L : List Oper) (Kc : FuncId → Array Value → World → Value → World → Prop) (w : World) (n : Nat) (Q : Exit → Act → World → Prop) (k : Nat) (l : List Oper) (ends : Nat → World) (a : Act) : Prop :=
  WalkR P L.toArray Kc R .any w.drew (AfterL P R L w n Q) k l ends a

theorem wp_region_late {id : Nat} {Q : Exit → Act → World → Prop} {l : List Oper} (n : Nat) (hR : Hid (Goes R w.drew)) (hm : P.follows .mixedOrders = true) (hB : headB l.toArray n = true)
    (h : WalkL P R l Kc w n Q 0 (l.take n) (fun _ => w.drew) a) : (Code.region id l.toArray true).wp P Q a w :=
  wp_region_rel (Kc := Kc) (R := R) n hm hB hR.out.refl hR.out.trans h

variable {L : List Oper} {n : Nat} {Q : Exit → Act → World → Prop}
theorem WalkL.pure (hR : Hid (Goes R w.drew)) (hk : ends k = w.drew) (h : ∀ K : Act → Prop, (∀ a', WalkL P R L Kc w n Q (k + 1) l ends a' → K a') → PureDo P L.toArray w o a K) :
    WalkL P R L Kc w n Q k (o :: l) ends a := by
  have h1 := h _ (fun _ h => h)
  intro w' h0 _
  obtain ⟨p, hp⟩ := regrown_of_below (hR.out.ext _ h0)
  have hp' : w' = Go.Sort.grow (redrawn w p.d) p.os := hp
  have fin : ∀ u, WalkL P R L Kc w n Q (k + 1) l ends (a.put o.dst u) → WalkL P R L Kc w n Q (k + 1) l (upd ends k w') (a.put o.dst u) := fun u hu =>
    WalkR.ends_mono (R := R) (n := n) hR.out.trans (fun e e' a h hq => AfterL.mono hR.out.trans e e' a h hq) l (k + 1) ends (upd ends k w') _ (fun j => by
      by_cases hj : j = k
      · subst hj; rw [upd_same, hk]; exact h0
      · rw [upd_ne _ _ hj]; exact hR.out.refl _) hR.out.refl hu
  unfold PureDo at h1
  by_cases hw : Region.wanted o (yielded L.toArray a.tmps) = true
  · rw [if_pos hw] at h1
    obtain ⟨u, hr, hK⟩ := h1
    have hr' := hr p
    rw [← hp'] at hr'
    refine ⟨fun _ => by rw [hr']; trivial, fun v w2 ho => ?_⟩
    unfold OpOut at ho
    rw [if_pos hw, hr'] at ho
    obtain ⟨rfl, rfl⟩ := ho
    exact ⟨hR.out.refl _, fin _ hK⟩
  · rw [if_neg hw] at h1
    refine ⟨fun h => absurd h hw, fun v w2 ho => ?_⟩
    unfold OpOut at ho
    rw [if_neg hw] at ho
    obtain ⟨rfl, rfl⟩ := ho
    exact ⟨hR.out.refl _, fin _ h1⟩
theorem WalkL.step (h : ∀ wc, R w.drew wc → (∀ e ∈ o.after, Region.binds .any e = true → R (ends e.on) wc) → ∀ K : Value → World → Prop, (∀ v w', WalkL P R L Kc w n Q (k + 1) l (upd ends k w') (a.put o.dst v) → K v w') → OpDo P L.toArray Kc R o a wc K) :
    WalkL P R L Kc w n Q k (o :: l) ends a := fun wc h0 hd => h wc h0 hd _ (fun _ _ h => h)
theorem WalkL.nil (h : ∀ w', R w.drew w' → (∀ m, m < n → R (ends m) w') → wpList P L.toArray Q (L.drop n) a w') : WalkL P R L Kc w n Q k [] ends a := h
end

end Sk
open Sk (Goes)
/-- What a box holds that a task has been stored into. -/
def TaskBox (T : Task) (w : World) (cs : Array Value) : Prop := ∃ ve vn va, cs = #[.int .i64 T.sys.alphabet, .int .i64 T.sys.states, ve, .int .i64 T.prop.alphabet, vn, va, .int .i64 T.alphabet] ∧ TaskOwn 0 w (.agg cs) T
theorem odd_task : Odd 36 := ⟨by decide, by decide, by decide, by decide⟩
theorem stays_task (T : Task) : Stays 36 (TaskBox T) := fun _ _ _ _ ht hS ⟨ve, vn, va, e, h⟩ => ⟨ve, vn, va, e, h.kept odd_task ht hS⟩
theorem goes_task (T : Task) (w : World) : Goes (Late w.heap.size 36 (TaskBox T)) w.drew :=
  ⟨Late.refl, fun _ _ _ => Late.trans (stays_task T), fun _ h => h.ext (Nat.le_of_eq (by rfl)), fun _ _ => Late.of_ext⟩
/-- The box, wherever the walk is. -/
theorem Late.cells {s g : Nat} {T : Task} {w w' : World} (h : Late s 36 (TaskBox T) w w') (hs : s ≤ g) (hb : Blk w g #[.int .i64 0, .int .i64 0, .slice none 0 0, .int .i64 0, .slice none 0 0, .slice none 0 0, .int .i64 0] 36) : ∃ u0 u1 u2 u3 u4 u5 u6, Blk w' g #[u0, u1, u2, u3, u4, u5, u6] 36 := by
  obtain ⟨cs, h1, rfl | ⟨ve, vn, va, rfl, _⟩⟩ := h.box g _ hs hb
  · exact ⟨_, _, _, _, _, _, _, h1⟩
  · exact ⟨_, _, _, _, _, _, _, h1⟩
theorem Late.done {s g : Nat} {T : Task} {w w' : World} {cs : Array Value} (h : Late s 36 (TaskBox T) w w') (hs : s ≤ g) (hb : Blk w g cs 36) (hG : TaskBox T w cs) : ∃ ae ce an cn aa ca, Blk w' g #[.int .i64 T.sys.alphabet, .int .i64 T.sys.states, .slice ae T.sys.edges.length ce, .int .i64 T.prop.alphabet, .slice an T.prop.next.length cn, .slice aa T.prop.accept.length ca, .int .i64 T.alphabet] 36 ∧ TaskOwn 0 w' (.agg #[.int .i64 T.sys.alphabet, .int .i64 T.sys.states, .slice ae T.sys.edges.length ce, .int .i64 T.prop.alphabet, .slice an T.prop.next.length cn, .slice aa T.prop.accept.length ca, .int .i64 T.alphabet]) T := by
  obtain ⟨cs', h1, h2⟩ := h.box g _ hs hb
  obtain ⟨ve, vn, va, rfl, xe, xn, xa, e, h3, h4, h5⟩ : TaskBox T w' cs' := h2.elim (fun e => e ▸ stays_task T _ _ _ _ h.tnd (fun _ h => h.2) hG) id
  simp at e
  obtain ⟨rfl, rfl, rfl⟩ := e
  obtain ⟨ae, ce, rfl⟩ := h3.shape
  obtain ⟨an, cn, rfl⟩ := h4.shape
  obtain ⟨aa, ca, rfl⟩ := h5.shape
  exact ⟨ae, ce, an, cn, aa, ca, h1, _, _, _, rfl, h3, h4, h5⟩
theorem task_store {w : World} {base g : Nat} {v : Value} {t : Task} {cs : Array Value} (h : TaskOwn base w v t) (hG : Blk w g cs 36) (j : Nat) (u : Value) : TaskOwn base (w.setCell ⟨g, j, none⟩ u) v t :=
  let ⟨ve, vn, va, e, h1, h2, h3⟩ := h; ⟨ve, vn, va, e, own_store h1 hG (by decide) j u, intss_store h2 hG (by decide) (by decide) j u, own_store h3 hG (by decide) j u⟩
/-- A task stored into a box. -/
theorem task_put {w : World} {g : Nat} {T : Task} {ve vn va u0 u1 u2 u3 u4 u5 u6 : Value} (hb : Blk w g #[u0, u1, u2, u3, u4, u5, u6] 36) (h0 : TaskOwn 0 w (.agg #[.int .i64 T.sys.alphabet, .int .i64 T.sys.states, ve, .int .i64 T.prop.alphabet, vn, va, .int .i64 T.alphabet]) T) :
    Tnd (fun b => b = g) w (((((((w.setCell ⟨g, 0, none⟩ (.int .i64 T.sys.alphabet)).setCell ⟨g, 1, none⟩ (.int .i64 T.sys.states)).setCell ⟨g, 2, none⟩ ve).setCell ⟨g, 3, none⟩ (.int .i64 T.prop.alphabet)).setCell ⟨g, 4, none⟩ vn).setCell ⟨g, 5, none⟩ va).setCell ⟨g, 6, none⟩ (.int .i64 T.alphabet)) ∧ Blk (((((((w.setCell ⟨g, 0, none⟩ (.int .i64 T.sys.alphabet)).setCell ⟨g, 1, none⟩ (.int .i64 T.sys.states)).setCell ⟨g, 2, none⟩ ve).setCell ⟨g, 3, none⟩ (.int .i64 T.prop.alphabet)).setCell ⟨g, 4, none⟩ vn).setCell ⟨g, 5, none⟩ va).setCell ⟨g, 6, none⟩ (.int .i64 T.alphabet)) g #[.int .i64 T.sys.alphabet, .int .i64 T.sys.states, ve, .int .i64 T.prop.alphabet, vn, va, .int .i64 T.alphabet] 36 ∧ TaskBox T (((((((w.setCell ⟨g, 0, none⟩ (.int .i64 T.sys.alphabet)).setCell ⟨g, 1, none⟩ (.int .i64 T.sys.states)).setCell ⟨g, 2, none⟩ ve).setCell ⟨g, 3, none⟩ (.int .i64 T.prop.alphabet)).setCell ⟨g, 4, none⟩ vn).setCell ⟨g, 5, none⟩ va).setCell ⟨g, 6, none⟩ (.int .i64 T.alphabet)) #[.int .i64 T.sys.alphabet, .int .i64 T.sys.states, ve, .int .i64 T.prop.alphabet, vn, va, .int .i64 T.alphabet] :=
  ⟨(Kept.set w g 0 (.int .i64 T.sys.alphabet)) |>.trans (Kept.set (w.setCell ⟨g, 0, none⟩ (.int .i64 T.sys.alphabet)) g 1 (.int .i64 T.sys.states)) |>.trans (Kept.set ((w.setCell ⟨g, 0, none⟩ (.int .i64 T.sys.alphabet)).setCell ⟨g, 1, none⟩ (.int .i64 T.sys.states)) g 2 ve) |>.trans (Kept.set (((w.setCell ⟨g, 0, none⟩ (.int .i64 T.sys.alphabet)).setCell ⟨g, 1, none⟩ (.int .i64 T.sys.states)).setCell ⟨g, 2, none⟩ ve) g 3 (.int .i64 T.prop.alphabet)) |>.trans (Kept.set ((((w.setCell ⟨g, 0, none⟩ (.int .i64 T.sys.alphabet)).setCell ⟨g, 1, none⟩ (.int .i64 T.sys.states)).setCell ⟨g, 2, none⟩ ve).setCell ⟨g, 3, none⟩ (.int .i64 T.prop.alphabet)) g 4 vn) |>.trans (Kept.set (((((w.setCell ⟨g, 0, none⟩ (.int .i64 T.sys.alphabet)).setCell ⟨g, 1, none⟩ (.int .i64 T.sys.states)).setCell ⟨g, 2, none⟩ ve).setCell ⟨g, 3, none⟩ (.int .i64 T.prop.alphabet)).setCell ⟨g, 4, none⟩ vn) g 5 va) |>.trans (Kept.set ((((((w.setCell ⟨g, 0, none⟩ (.int .i64 T.sys.alphabet)).setCell ⟨g, 1, none⟩ (.int .i64 T.sys.states)).setCell ⟨g, 2, none⟩ ve).setCell ⟨g, 3, none⟩ (.int .i64 T.prop.alphabet)).setCell ⟨g, 4, none⟩ vn).setCell ⟨g, 5, none⟩ va) g 6 (.int .i64 T.alphabet)), (((((((hb.set 0 (.int .i64 T.sys.alphabet)).set 1 (.int .i64 T.sys.states)).set 2 ve).set 3 (.int .i64 T.prop.alphabet)).set 4 vn).set 5 va).set 6 (.int .i64 T.alphabet)), _, _, _, rfl, (task_store (task_store (task_store (task_store (task_store (task_store (task_store h0 hb 0 (.int .i64 T.sys.alphabet)) (hb.set 0 (.int .i64 T.sys.alphabet)) 1 (.int .i64 T.sys.states)) ((hb.set 0 (.int .i64 T.sys.alphabet)).set 1 (.int .i64 T.sys.states)) 2 ve) (((hb.set 0 (.int .i64 T.sys.alphabet)).set 1 (.int .i64 T.sys.states)).set 2 ve) 3 (.int .i64 T.prop.alphabet)) ((((hb.set 0 (.int .i64 T.sys.alphabet)).set 1 (.int .i64 T.sys.states)).set 2 ve).set 3 (.int .i64 T.prop.alphabet)) 4 vn) (((((hb.set 0 (.int .i64 T.sys.alphabet)).set 1 (.int .i64 T.sys.states)).set 2 ve).set 3 (.int .i64 T.prop.alphabet)).set 4 vn) 5 va) ((((((hb.set 0 (.int .i64 T.sys.alphabet)).set 1 (.int .i64 T.sys.states)).set 2 ve).set 3 (.int .i64 T.prop.alphabet)).set 4 vn).set 5 va) 6 (.int .i64 T.alphabet))⟩
end Go.Proofs.Ytloampfmlhmlhaa
