/- Walks: systems that run together: their moves, how many states together, what a letter leads to. -/
import Derived.Test.YtloampfmlhmlhaaDoorWalkV
import Derived.Test.YtloampfmlhmlhaaDoorWalkR
import Derived.Test.YtloampfmlhmlhaaDoorWalkP
import Derived.Test.YtloampfmlhmlhaaDoorPlain7
import Derived.Deep.Upon
import Derived.Maps.AppendAt
import Derived.Deep.DeepCutAuto
namespace Go.Proofs.YtloampfmlhmlhaaDoor
set_option linter.unusedSimpArgs false
set_option linter.unusedVariables false
open Go.RowKit

set_option maxHeartbeats 1000000
set_option maxRecDepth 100000

section
variable {P : Program} {ops : Array Oper} {rest : List Oper} {o : Oper} {a : Act} {Q : Exit → Act → World → Prop}
/-- 'append(s, x...)': s is owned; x reads as a list of ints (nil too). -/
theorem appInts {wr : World} {s x : Operand} {t e : TypeId} {base bytes : Nat} {vx v : Value} {l m : List Int} (hgd : o.guard = none)
    (ho : o.op = .call { callee := .builtin .append, args := #[s, x], argTypes := #[t, t] })
    (ht : P.underlying t = some (.slice e)) (hinfo : (P.info? e).map (fun i => (i.zero, i.size, i.bytes)) = some (some (.int .i64 0), 1, bytes))
    (hown : IntsOwn e base wr v l) (hs : a.eval s = v) (hx : a.eval x = vx) (hvx : IntsV wr vx m) (hn : l.length + m.length ≤ 4294967296) (hb : bytes ≤ 1024) (hbase : base ≤ wr.heap.size)
    (h : ∀ v' w', IntsOwn e base w' v' (l ++ m) → wr.grownBy w' v.ownBlock → (v'.ownBlock = v.ownBlock ∨ v'.ownBlock = some wr.heap.size) → wpList P ops Q rest (a.put o.dst v') w') :
    wpList P ops Q (o :: rest) a wr := by
  obtain ⟨ao, c, rfl, hle, -⟩ := hvx.open
  cases ao with
  | some ad =>
    obtain ⟨i, hi, hz, hsize, hby⟩ := info_parts hinfo
    refine wpList_append_own_at _ hgd s x t ho base e i _ 1 bytes ht hi hz hsize hby rfl (by decide) v l.length _ hs hown.own ad m.length c (m.map (Value.int .i64)) hx (by simp) hvx.cells (by intro u hu; obtain ⟨b, _, rfl⟩ := List.mem_map.1 hu; rfl) (by unfold maxLen; omega) ?_ hbase ?_
    · have := Nat.mul_le_mul hn hb; omega
    · intro v' w' h1 h2 _ h4
      exact h v' w' (by unfold IntsOwn; rw [List.length_append, List.map_append]; exact h1) h2 h4
  | none =>
    have hnil := SlV.nil_of_none hvx
    subst hnil
    obtain ⟨i, hi, hz, hsize, hby⟩ := info_parts hinfo
    obtain ⟨ab, cc, rfl⟩ := hown.shape
    have hcap : l.length ≤ cc := by
      rcases own_shape hown with ⟨he, h0⟩ | ⟨g, cap, he, _, _, h1, _⟩
      · simp at he; omega
      · simp at he; omega
    have hr := run_append_nothing (P := P) wr t t o.type e i ht hi ab l.length cc hcap (.slice none 0 c) (Src.ofNil wr ht c)
    have hx' : a.eval x = .slice none 0 c := hx
    refine wpList_plain hgd fun K hK => ?_
    unfold Oper.wp execOp
    simp only [ho, resolve, invoke, builtin, Sem.run_bind, Sem.run_pure, Result.andThen_ok, List.map_toArray, List.map_cons, List.map_nil, hs, hx', hr]
    refine hK _ _ (h _ _ ?_ (World.grownBy.refl _ _) (.inl rfl))
    rw [List.append_nil]; exact hown
end

def PtrAt (w : World) (b o : Nat) (s : Sys) : Prop := ∃ p, w.cell? ⟨b, o, none⟩ = some p ∧ MovesV w p s
abbrev MovessV := SlV PtrAt 1
theorem PtrAt.mono {w w' : World} (h : Ext w w') {b o : Nat} {s : Sys} (k : PtrAt w b o s) : PtrAt w' b o s := let ⟨p, h1, h2⟩ := k; ⟨p, h.cell h1, h2.mono h⟩
theorem MovessV.mono {w w' : World} (h : Ext w w') {v : Value} {l : List Sys} (k : MovessV w v l) : MovessV w' v l := SlV.mono k (fun _ _ _ _ => PtrAt.mono h) h.size
def PartsV (w : World) (v : Value) (l : List Sys) : Prop := ∃ vs vm, v = .agg #[vs, vm] ∧ SyssV w vs l ∧ MovessV w vm l
theorem PartsV.mono {w w' : World} (h : Ext w w') {v : Value} {l : List Sys} (k : PartsV w v l) : PartsV w' v l := let ⟨vs, vm, e, h1, h2⟩ := k; ⟨vs, vm, e, h1.mono h, h2.mono h⟩

theorem infoMoves : (Tryd.prog.info? 75).map (fun i => (i.zero, i.size, i.bytes)) = some (some (.pointer none), 1, 8) := by kernel_rfl

/-- The moves of the first k systems. -/
structure MvsTo (base : Nat) (w : World) (v : Value) (l : List Sys) (k : Nat) (ps : List Value) : Prop where
  own : w.ownsRow base 75 1 v k ps
  each : ∀ j s, j < k → l[j]? = some s → ∃ p, ps[j]? = some p ∧ MovesV w p s
theorem MvsTo.ext {base : Nat} {w w' : World} {v : Value} {l : List Sys} {k : Nat} {ps : List Value} (h : MvsTo base w v l k ps) (he : Ext w w') : MvsTo base w' v l k ps :=
  ⟨own_ext h.own he, fun j s hj hs => let ⟨p, h1, h2⟩ := h.each j s hj hs; ⟨p, h1, h2.mono he⟩⟩
theorem MovesV.grown {w w' : World} {base' : Nat} {e' : TypeId} {size' n' : Nat} {u p : Value} {us : List Value} {s : Sys} (h : MovesV w p s) (hu : w.ownsRow base' e' size' u n' us) (hg : w.grownBy w' u.ownBlock) (hne : 130 ≠ e') : MovesV w' p s :=
  let ⟨b, cs, e, h1⟩ := h; ⟨b, cs, e, h1.blk.grown hu hg hne, h1.size, h1.cell⟩
theorem MovesV.other {w : World} {g : Nat} {cs' : Array Value} {T : TypeId} {p : Value} {s : Sys} (h : MovesV w p s) (hG : Blk w g cs' T) (hne : 130 ≠ T) (j : Nat) (u : Value) : MovesV (w.setCell ⟨g, j, none⟩ u) p s :=
  let ⟨b, cs, e, h1⟩ := h; ⟨b, cs, e, h1.blk.other (p := ⟨g, j, none⟩) (fun he => by
    simp only at he; subst he
    have h2 : w.heap[b]? = _ := h1.blk
    have h3 : w.heap[b]? = _ := hG
    rw [h2] at h3; cases h3; exact hne rfl) u, h1.size, h1.cell⟩
theorem MvsTo.movess {base : Nat} {w : World} {v : Value} {l : List Sys} {ps : List Value} (h : MvsTo base w v l l.length ps) : MovessV w v l :=
  SlV_of_own h.own fun g cap hv i s hs => by
    obtain ⟨p, h1, h2⟩ := h.each i s (List.getElem?_eq_some_iff.1 hs).1 hs
    subst hv
    rw [Nat.mul_one]
    exact ⟨p, own_cell h.own h1, h2⟩

theorem MvsTo.store {base : Nat} {w : World} {v : Value} {l : List Sys} {k : Nat} {ps : List Value} (h : MvsTo base w v l k ps) {g : Nat} {cs : Array Value} {T : TypeId} (hG : Blk w g cs T) (h1 : 75 ≠ T) (h2 : 130 ≠ T) (j : Nat) (u : Value) : MvsTo base (w.setCell ⟨g, j, none⟩ u) v l k ps :=
  ⟨own_store h.own hG h1.symm j u, fun i s hi hs => let ⟨p, h3, h4⟩ := h.each i s hi hs; ⟨p, h3, h4.other hG h2 j u⟩⟩

theorem part_prod_succ {l : List Sys} {k : Nat} {s : Sys} (h : l[k]? = some s) : ((l.take (k + 1)).map fun s => s.states.toNat).prod = ((l.take k).map fun s => s.states.toNat).prod * s.states.toNat := by
  rw [List.take_add_one, h, List.map_append, List.prod_append]; simp
theorem part_prod_le {l : List Sys} (h : ∀ s ∈ l, sysValid s = true) : (l.map fun s => s.states.toNat).prod ≤ 16 ^ l.length := by
  induction l with
  | nil => simp
  | cons s l ih =>
    have h1 := ih fun t ht => h t (by simp [ht])
    have h2 := valid_alpha (h s (by simp))
    simp only [List.map_cons, List.prod_cons, List.length_cons, Nat.pow_succ]
    rw [Nat.mul_comm (16 ^ l.length)]
    exact Nat.mul_le_mul (by omega) h1

theorem sysBits_lt {s : Sys} (h : sysValid s = true) {q : Nat} (hq : q < 16) (l : Int) : ∀ c ∈ sysBits s q l, c < 16 := by
  intro c hc
  unfold sysBits at hc
  by_cases hb : bit s.alphabet l = true
  · rw [if_pos hb] at hc; exact ((bitsOf_mem _ _).1 hc).1
  · rw [if_neg hb] at hc; simp at hc; omega
theorem sysBits_len (s : Sys) (q : Nat) (l : Int) : (sysBits s q l).length ≤ 16 := by
  unfold sysBits
  by_cases hb : bit s.alphabet l = true
  · rw [if_pos hb]; exact bitsOf_len _
  · rw [if_neg hb]; simp
/-- What is new by the first j choices. -/
def moreTo (ch R : List Nat) (ww j : Nat) : List Nat := (ch.take j).flatMap fun q => R.map fun r => q * ww + r
theorem moreTo_succ {ch R : List Nat} {ww j q : Nat} (h : ch[j]? = some q) : moreTo ch R ww (j + 1) = moreTo ch R ww j ++ R.map fun r => q * ww + r := by
  unfold moreTo; rw [List.take_add_one, h, List.flatMap_append]; simp
theorem moreTo_len (ch R : List Nat) (ww j : Nat) : (moreTo ch R ww j).length ≤ ch.length * R.length := by
  unfold moreTo
  rw [List.length_flatMap]
  simp only [List.length_map]
  have : ∀ m : List Nat, (m.map fun _ => R.length).sum = m.length * R.length := by
    intro m; induction m with
    | nil => simp
    | cons a m ih => simp [ih, Nat.add_mul]; omega
  rw [this]
  exact Nat.mul_le_mul_right _ (by rw [List.length_take]; omega)
theorem moreTo_full (ch R : List Nat) (ww : Nat) : moreTo ch R ww ch.length = ch.flatMap fun q => R.map fun r => q * ww + r := by unfold moreTo; rw [List.take_length]
theorem take_rev_succ {l : List Sys} {j : Nat} {x : Sys} (h : l[j]? = some x) : (l.take (j + 1)).reverse = x :: (l.take j).reverse := by
  rw [List.take_add_one, h, List.reverse_append]; rfl

/-- The end of a call that appends to a list of its caller's. -/
def Appends (base : Nat) (vo : Value) (l : List Int) (w : World) (e : Ending) (w' : World) : Prop := ∃ v, e = .returned v ∧ IntsOwn 3 base w' v l ∧ Tnd (SlB vo) w w' ∧ (∀ g, v.ownBlock = some g → vo.ownBlock = some g ∨ w.heap.size ≤ g)

end Go.Proofs.YtloampfmlhmlhaaDoor
