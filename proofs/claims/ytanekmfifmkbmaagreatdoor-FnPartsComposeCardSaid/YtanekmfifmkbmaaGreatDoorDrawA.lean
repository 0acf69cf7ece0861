/- Part of this seat's proofs, cut to what its law needs. -/

import Derived.Test.YtanekmfifmkbmaaGreatDoorWalkP
import Derived.Test.YtanekmfifmkbmaaGreatDoorWalkR

namespace Go.Proofs.YtanekmfifmkbmaaGreatDoor
set_option linter.unusedSimpArgs false
set_option linter.unusedVariables false
open Go.RowKit

set_option maxHeartbeats 1000000
set_option maxRecDepth 100000

def ByteAt (w : World) (b o : Nat) (x : UInt8) : Prop := w.cell? ⟨b, o, none⟩ = some (.int .u8 (x.toNat : Int))

def Rd (g p : Nat) (w : World) : Prop := ∃ (a : Option Addr) (c : Nat) (l : List UInt8), Blk w g #[.slice a l.length c, .int .i64 (p : Int)] 119 ∧ l.length ≤ 2000 ∧
  (0 < l.length → ∃ b off, a = some ⟨b, off, none⟩ ∧ b < g ∧ ∀ (i : Nat) (x : UInt8), l[i]? = some x → w.cell? ⟨b, off + i, none⟩ = some (.int .u8 (x.toNat : Int)))

abbrev Kept (g : Nat) (w w' : World) : Prop := Tnd (fun b => b = g) w w'

theorem Kept.set (w : World) (g j : Nat) (u : Value) : Kept g w (w.setCell ⟨g, j, none⟩ u) :=
  ⟨rfl, rfl, rfl, by simp, fun b _ hb => Below.heap_setCell w ⟨g, j, none⟩ u b hb⟩
theorem Kept.cell {g : Nat} {w w' : World} (h : Kept g w w') {p : Addr} (hp : p.block ≠ g) {v : Value} (hv : w.cell? p = some v) : w'.cell? p = some v := by
  have hlt := World.block_lt_of_cell? w p hv
  rw [← hv]
  unfold World.cell?
  rw [h.block p.block hlt hp]

theorem Rd.lt {g p : Nat} {w : World} (h : Rd g p w) : g < w.heap.size := let ⟨_, _, _, hB, _⟩ := h; hB.lt
theorem Rd.tnd {S : Nat → Prop} {g p : Nat} {w w' : World} (h : Rd g p w) (ht : Tnd S w w') (hS : ∀ b, S b → g < b) : Rd g p w' := by
  obtain ⟨a, c, l, hB, hl, hv⟩ := h
  refine ⟨a, c, l, hB.tnd ht (fun h => by have := hS _ h; omega), hl, fun h0 => ?_⟩
  obtain ⟨b, off, e, h1, h3⟩ := hv h0
  refine ⟨b, off, e, h1, fun i x hx => ?_⟩
  rw [← h3 i x hx]
  unfold World.cell?
  rw [ht.block b (Nat.lt_trans h1 hB.lt) (fun h => by have := hS _ h; omega)]
theorem Rd.ext {g p : Nat} {w w' : World} (h : Rd g p w) (he : Ext w w') : Rd g p w' := h.tnd (S := fun _ => False) (Tnd.ext he) (fun _ h => h.elim)

theorem Rd.step {g p : Nat} {w : World} {a : Option Addr} {c : Nat} {l : List UInt8} (hB : Blk w g #[.slice a l.length c, .int .i64 (p : Int)] 119) (hl : l.length ≤ 2000)
    (hv : 0 < l.length → ∃ b off, a = some ⟨b, off, none⟩ ∧ b < g ∧ ∀ (i : Nat) (x : UInt8), l[i]? = some x → w.cell? ⟨b, off + i, none⟩ = some (.int .u8 (x.toNat : Int))) (u : Int) (hu : u = (p : Int) + 1) :
    Rd g (p + 1) (w.setCell ⟨g, 1, none⟩ (.int .i64 u)) := by
  subst hu
  refine ⟨a, c, l, hB.set 1 _, hl, fun h0 => ?_⟩
  obtain ⟨b, off, e, h1, h3⟩ := hv h0
  exact ⟨b, off, e, h1, fun i x hx => (Kept.set w g 1 _).cell (p := ⟨b, off + i, none⟩) (by simp only []; omega) (h3 i x hx)⟩

theorem i64_xor_nat (a b : Nat) (ha : a < 9223372036854775808) (hb : b < 9223372036854775808) : bits .xor .i64 (a : Int) (b : Int) = ((a ^^^ b : Nat) : Int) := by
  have hx : a ^^^ b < 2 ^ 63 := Nat.xor_lt_two_pow (by omega) (by omega)
  have h1 : (BitVec.ofInt 64 (a : Int)).toNat = a := by
    rw [BitVec.ofInt_natCast, BitVec.toNat_ofNat]; exact Nat.mod_eq_of_lt (by omega)
  have h2 : (BitVec.ofInt 64 (b : Int)).toNat = b := by
    rw [BitVec.ofInt_natCast, BitVec.toNat_ofNat]; exact Nat.mod_eq_of_lt (by omega)
  show IntKind.i64.wrap ((BitVec.ofInt 64 (a : Int) ^^^ BitVec.ofInt 64 (b : Int)).toNat : Int) = _
  rw [BitVec.toNat_xor, h1, h2, IntWalk.i64_in _ (by omega)]
theorem tmod_cast (a b : Nat) : Int.tmod (a : Int) (b : Int) = ((a % b : Nat) : Int) := by rw [Int.tmod_eq_emod_of_nonneg (by omega)]; rfl
theorem tdiv_cast (a b : Nat) : Int.tdiv (a : Int) (b : Int) = ((a / b : Nat) : Int) := by rw [Int.tdiv_eq_ediv_of_nonneg (by omega)]; rfl
theorem tmod_nat (a : Nat) (n : Int) (hn : 1 ≤ n) : ∃ x : Nat, Int.tmod (a : Int) n = (x : Int) ∧ (x : Int) < n := by
  obtain ⟨m, rfl⟩ := Int.eq_ofNat_of_zero_le (show 0 ≤ n by omega)
  exact ⟨a % m, by rw [Int.tmod_eq_emod_of_nonneg (by omega)]; rfl, by have := Nat.mod_lt a (show m > 0 by omega); omega⟩
theorem wrap64_byte' (n : Nat) (h : n < 256) : wrap64 (n : Int) = (n : Int) := IntWalk.wrap64_in _ (by omega)

def Picks (g p : Nat) (n : Int) (w : World) (e : Ending) (w' : World) : Prop := ∃ x : Nat, e = .returned (.int .i64 (x : Int)) ∧ (1 ≤ n → (x : Int) < n) ∧ (n < 1 → x = 0) ∧ Rd g (p + 1) w' ∧ Kept g w w'

theorem pick_c (g p : Nat) (n : Int) (w : World) (h : Rd g p w) (hp : p ≤ 1099511627776) (hn : n ≤ 1099511627776) :
    Calls Tryz.prog 23 #[.pointer (some ⟨g, 0, none⟩), .int .i64 n] w (Picks g p n w) := by
  obtain ⟨a, c, l, hB, hl, hv⟩ := h
  have HR := Lib.hid (fun u hu => Rd.step hB hl hv u hu)
  have c0 := hB.cell 0 rfl
  have c1 := hB.cell 1 rfl
  have f1 := hB.fr 1
  by_cases hn1 : n < 1
  · have hb : decide (n < 1) = true := by simpa using hn1
    go_enter Tryz.func23, Tryz.ntmps23
    go_wp2_with fail
    go_ret
    exact ⟨0, rfl, fun h => by omega, fun _ => rfl, HR.out _ rfl, Kept.set _ _ _ _⟩
  have hb : decide (n < 1) = false := by simpa using hn1
  by_cases h0 : l.length = 0
  · have hl0 : l = [] := List.eq_nil_of_length_eq_zero h0
    subst hl0
    go_enter Tryz.func23, Tryz.ntmps23
    go_wp2_with fail
    go_ret
    exact ⟨0, rfl, fun h => by omega, fun _ => rfl, HR.out _ rfl, Kept.set _ _ _ _⟩
  obtain ⟨b, off, rfl, hbg', hc⟩ := hv (by omega)
  have hbg : b ≠ g := by omega
  clear hv
  have hb2 : (((l.length : Int)) == 0) = false := beq_eq_false_iff_ne.2 (by omega)
  by_cases hk : p < l.length
  · obtain ⟨x, hx⟩ : ∃ x, l[p]? = some x := ⟨_, List.getElem?_eq_getElem hk⟩
    have c2 := hc p x hx
    have hx2 : x.toNat < 256 := x.toNat_lt
    have hk' : decide ((p : Int) < (l.length : Int)) = true := by simpa using hk
    go_enter Tryz.func23, Tryz.ntmps23
    go_wp2_with fail
    go_ret
    obtain ⟨y, hy, hy2⟩ := tmod_nat l[p].toNat n (by omega)
    exact ⟨y, by rw [wrap64_byte' l[p].toNat (by have := l[p].toNat_lt; omega), hy]; rfl, fun _ => hy2, fun h => by omega, HR.out _ rfl, Kept.set _ _ _ _⟩
  have hk' : decide ((p : Int) < (l.length : Int)) = false := by simpa using hk
  obtain ⟨q1, hq1, e1⟩ : ∃ q1 : Nat, q1 < l.length ∧ Int.tmod (p : Int) (l.length : Int) = (q1 : Int) := ⟨p % l.length, Nat.mod_lt _ (by omega), tmod_cast p l.length⟩
  obtain ⟨q2, hq2, e2⟩ : ∃ q2 : Nat, q2 < l.length ∧ Int.tmod ((p : Int) * 7 + 3) (l.length : Int) = (q2 : Int) := ⟨(p * 7 + 3) % l.length, Nat.mod_lt _ (by omega), tmod_cast (p * 7 + 3) l.length⟩
  obtain ⟨q3, hq3, e3⟩ : ∃ q3 : Nat, q3 ≤ p ∧ Int.tdiv (p : Int) (l.length : Int) = (q3 : Int) := ⟨p / l.length, Nat.div_le_self _ _, tdiv_cast p l.length⟩
  obtain ⟨x1, hx1⟩ : ∃ x, l[q1]? = some x := ⟨_, List.getElem?_eq_getElem hq1⟩
  obtain ⟨x2, hx2⟩ : ∃ x, l[q2]? = some x := ⟨_, List.getElem?_eq_getElem hq2⟩
  have H1 := hc q1 x1 hx1
  have H2 := hc q2 x2 hx2
  have hR := HR.out ((p : Int) + 1) rfl
  have hK := Kept.set w g 1 (.int .i64 ((p : Int) + 1))
  have G0 := (hB.set 1 (.int .i64 ((p : Int) + 1))).cell 0 rfl
  have G1 := (hB.set 1 (.int .i64 ((p : Int) + 1))).cell 1 rfl
  have H1' := hK.cell (p := ⟨b, off + q1, none⟩) hbg H1
  have H2' := hK.cell (p := ⟨b, off + q2, none⟩) hbg H2
  generalize hx1n : x1.toNat = y1 at H1'
  generalize hx2n : x2.toNat = y2 at H2'
  have hy1 : y1 < 256 := by rw [← hx1n]; exact x1.toNat_lt
  have hy2 : y2 < 256 := by rw [← hx2n]; exact x2.toNat_lt
  clear hx1n hx2n H1 H2 hx1 hx2
  go_enter Tryz.func23, Tryz.ntmps23
  go_wp2_with fail
  clear c0 c1 f1
  generalize w.setCell ⟨g, 1, none⟩ (.int .i64 ((p : Int) + 1)) = w1 at hR hK G0 G1 H1' H2' ⊢
  have D0 := fun d os => cell_regrown G0 d os
  have D1 := fun d os => cell_regrown H1' d os
  have D2 := fun d os => cell_regrown H2' d os
  have hw : ∀ m : Int, (-9223372036854775808 ≤ m ∧ m ≤ 9223372036854775807) → IntKind.i64.wrap m = m := fun m hm => IntWalk.i64_in m hm
  have r1 := hw ((p : Int) * 7) (by omega)
  have r2 := hw ((p : Int) * 7 + 3) (by omega)
  have r3 := hw ((y1 : Int) * 131) (by omega)
  have r4 := hw ((y2 : Int) * 1117) (by omega)
  have r5 := hw ((y1 : Int) * 131 + (y2 : Int) * 1117) (by omega)
  have r6 := hw ((p : Int) * 29) (by omega)
  have r7 := hw ((y1 : Int) * 131 + (y2 : Int) * 1117 + (p : Int) * 29) (by omega)
  have r8 := hw ((q3 : Int) * 53) (by omega)
  obtain ⟨X, hX1, hX⟩ : ∃ X : Nat, X ≤ 1125899906842624 ∧ (y1 : Int) * 131 + (y2 : Int) * 1117 + (p : Int) * 29 + (q3 : Int) * 53 = (X : Int) := ⟨y1 * 131 + y2 * 1117 + p * 29 + q3 * 53, by omega, by omega⟩
  have r9 : IntKind.i64.wrap ((y1 : Int) * 131 + (y2 : Int) * 1117 + (p : Int) * 29 + (q3 : Int) * 53) = (X : Int) := (hw _ (by omega)).trans hX
  clear hX
  have r10 := hw (q3 : Int) (by omega)
  have ry1 := hw (y1 : Int) (by omega)
  have ry2 := hw (y2 : Int) (by omega)
  clear hw
  obtain ⟨Kc, HKc⟩ : ∃ Kc : FuncId → Array Value → World → Value → World → Prop, Hid (Kc = fun _ _ _ _ _ => True) := ⟨_, rfl⟩
  refine wp_region_ext (Kc := Kc) 45 (by kernel_rfl) (by kernel_rfl) ?_
  simp only [List.take_succ_cons, List.take_zero]
  repeat (refine WalkE.pure rfl (fun K hK => ?_); simp only [PureDo]; go_simp; refine hK _ ?_; clear hK K)
  refine WalkE.nil (fun wn hwn hmn => ?_)
  simp only [List.drop_succ_cons, List.drop_zero, List.drop_nil]
  clear hmn HKc D0 D1 D2 r1 r2 r3 r4 r5 r6 r7 r8 r9 r10 ry1 ry2 e1 e2 e3 G0 G1 H1' H2' hB hc
  go_wp2_with fail
  go_ret
  obtain ⟨m, hm⟩ : ∃ m : Nat, bits .xor .i64 (X : Int) ((X : Int) / 64) = (m : Int) := ⟨X ^^^ X / 64, by
    have h1 : ((X : Int) / 64) = ((X / 64 : Nat) : Int) := by omega
    rw [h1]; exact i64_xor_nat _ _ (by omega) (by omega)⟩
  obtain ⟨y, hy, hy2⟩ := tmod_nat m n (by omega)
  exact ⟨y, by rw [hm, hy]; rfl, fun _ => hy2, fun h => by omega, hR.ext ((Ext.drew _).trans hwn), hK.trans (Tnd.ext ((Ext.drew _).trans hwn))⟩

theorem num_c (g p : Nat) (v : Value) (l : List Int) (w : World) (h : Rd g p w) (hp : p ≤ 1099511627776) (hv : IntsV w v l) (hg : ∀ b off c, v = .slice (some ⟨b, off, none⟩) l.length c → b ≠ g) (h0 : 0 < l.length) (hl : l.length ≤ 4294967296) :
    Calls Tryz.prog 63 #[.pointer (some ⟨g, 0, none⟩), v] w (fun e w' => ∃ x ∈ l, e = .returned (.int .i64 x) ∧ Rd g (p + 1) w' ∧ Kept g w w') := by
  obtain ⟨a, c, rfl, -, ho⟩ := hv.open
  obtain ⟨b, off, rfl, hb, hc⟩ := ho 0 l[0] (List.getElem?_eq_getElem h0)
  have hbg := hg b off c rfl
  have HC := Lib.hid hc
  clear hc ho hv hg
  go_enter Tryz.func63, Tryz.ntmps63
  go_wp2_with fail
  refine (pick_c g p l.length w h hp (by omega)).mono ?_
  rintro e w1 ⟨x, rfl, hx, -, hR, hK⟩
  have hx' : x < l.length := by have := hx (by omega); omega
  have hx1 : (0 : Int) ≤ (x : Int) := by omega
  have hx2 : (x : Int) < (l.length : Int) := by omega
  have c0 := hK.cell (p := ⟨b, off + x * 1, none⟩) hbg (HC.out x l[x] (List.getElem?_eq_getElem hx'))
  rw [Nat.mul_one] at c0
  generalize hy : l[x] = y at c0
  have hm : y ∈ l := by rw [← hy]; exact List.getElem_mem _
  clear hy hx
  go_wp2_with fail
  go_ret
  exact ⟨y, hm, rfl, hR, hK⟩

end Go.Proofs.YtanekmfifmkbmaaGreatDoor

namespace Go.Proofs.YtanekmfifmkbmaaGreatDoor
set_option linter.unusedSimpArgs false
set_option linter.unusedVariables false
open Go.RowKit

inductive CK where
  | int | bool | str
  | sl (e : TypeId) (sz : Nat)

def ck (t : TypeId) (i : Nat) : Option CK :=
  if t = 3 ∨ t = 87 then some .int
  else if t = 4 then some .bool
  else if t = 9 then some .str
  else if t = 80 then some (.sl 3 1)
  else if t = 25 then (if i % 3 = 2 then some (.sl 87 3) else some .int)
  else none

def SlOk (D : Nat → Prop) (w : World) (e : TypeId) (sz : Nat) (v : Value) (n : Nat) : Prop :=
  (v = .slice none 0 0 ∧ n = 0) ∨ ∃ b cap cs, v = .slice (some ⟨b, 0, none⟩) n cap ∧ D b ∧ w.heap[b]? = some (.cells cs e (0, 0)) ∧ n ≤ cap ∧ cap ≤ maxLen ∧ cs.size = cap * sz

def CellOk (D : Nat → Prop) (q : Nat) (w : World) (k : CK) (v : Value) : Prop :=
  match k with
  | .int => ∃ x, v = .int .i64 x
  | .bool => ∃ x, v = .bool x
  | .str => ∃ s, v = .string s ∧ s.size ≤ 1000
  | .sl e sz => ∃ n, n ≤ q ∧ SlOk D w e sz v n

def Typed (D : Nat → Prop) (q : Nat) (w : World) : Prop :=
  ∀ b, D b → ∃ cs t, w.heap[b]? = some (.cells cs t (0, 0)) ∧ ∀ (i : Nat) v, cs[i]? = some v → ∃ k, ck t i = some k ∧ CellOk D q w k v

def Shp (D : Nat → Prop) (w w' : World) : Prop :=
  ∀ b, D b → ∀ cs t, w.heap[b]? = some (.cells cs t (0, 0)) → ∃ cs' : Array Value, w'.heap[b]? = some (.cells cs' t (0, 0)) ∧ cs'.size = cs.size

structure Tr (D : Nat → Prop) (g : Nat) (w w' : World) : Prop where
  tnd : Tnd (fun b => D b ∨ b = g) w w'
  shp : Shp D w w'

structure Inc (D D' : Nat → Prop) (w : World) : Prop where
  sub : ∀ b, D b → D' b
  new : ∀ b, D' b → D b ∨ w.heap.size ≤ b

structure St (D : Nat → Prop) (g q : Nat) (w : World) : Prop where
  rd : ∃ p, p ≤ q ∧ Rd g p w
  dom : ∀ b, D b → g < b ∧ b < w.heap.size
  typ : Typed D q w

section
variable {D D' D'' : Nat → Prop} {g q q' : Nat} {w w' w'' : World} {e : TypeId} {sz n : Nat} {v : Value} {k : CK}

theorem SlOk.tr (h : SlOk D w e sz v n) (hi : ∀ b, D b → D' b) (hs : Shp D w w') : SlOk D' w' e sz v n := by
  rcases h with h | ⟨b, cap, cs, rfl, hb, hh, h1, h2, h3⟩
  · exact .inl h
  · obtain ⟨cs', h4, h5⟩ := hs b hb _ _ hh
    exact .inr ⟨b, cap, cs', rfl, hi b hb, h4, h1, h2, by rw [h5, h3]⟩
theorem CellOk.tr (h : CellOk D q w k v) (hi : ∀ b, D b → D' b) (hs : Shp D w w') (hq : q ≤ q') : CellOk D' q' w' k v := by
  cases k with
  | int => exact h
  | bool => exact h
  | str => exact h
  | sl e sz => obtain ⟨n, h1, h2⟩ := h; exact ⟨n, Nat.le_trans h1 hq, h2.tr hi hs⟩
theorem Shp.refl (D : Nat → Prop) (w : World) : Shp D w w := fun _ _ cs _ h => ⟨cs, h, rfl⟩
theorem Shp.trans (h : Shp D w w') (hi : ∀ b, D b → D' b) (h' : Shp D' w' w'') : Shp D w w'' := fun b hb cs t hc => by
  obtain ⟨cs1, h1, h2⟩ := h b hb cs t hc
  obtain ⟨cs2, h3, h4⟩ := h' b (hi b hb) cs1 t h1
  exact ⟨cs2, h3, h4.trans h2⟩
theorem Shp.tnd {S : Nat → Prop} (h : Tnd S w w') (hd : ∀ b, D b → ¬ S b) : Shp D w w' := fun b hb cs t hc =>
  ⟨cs, by rw [h.block b (Array.getElem?_eq_some_iff.1 hc).1 (hd b hb)]; exact hc, rfl⟩
theorem Inc.refl (D : Nat → Prop) (w : World) : Inc D D w := ⟨fun _ h => h, fun _ h => .inl h⟩
theorem Inc.trans (h : Inc D D' w) (hs : w.heap.size ≤ w'.heap.size) (h' : Inc D' D'' w') : Inc D D'' w :=
  ⟨fun b hb => h'.sub b (h.sub b hb), fun b hb => by
    rcases h'.new b hb with h1 | h1
    · exact h.new b h1
    · exact .inr (Nat.le_trans hs h1)⟩
theorem Tr.refl (D : Nat → Prop) (g : Nat) (w : World) : Tr D g w w := ⟨Tnd.refl _ _, Shp.refl _ _⟩
theorem Tr.size (h : Tr D g w w') : w.heap.size ≤ w'.heap.size := h.tnd.size
theorem Tr.trans (h : Tr D g w w') (hi : Inc D D' w) (h' : Tr D' g w' w'') : Tr D g w w'' :=
  ⟨⟨h'.tnd.os.trans h.tnd.os, h'.tnd.tape.trans h.tnd.tape, h'.tnd.output.trans h.tnd.output, Nat.le_trans h.size h'.size, fun b hb hn => by
    refine (h'.tnd.block b (Nat.lt_of_lt_of_le hb h.size) fun hc => hn ?_).trans (h.tnd.block b hb hn)
    rcases hc with hc | hc
    · rcases hi.new b hc with h1 | h1
      · exact .inl h1
      · omega
    · exact .inr hc⟩, h.shp.trans hi.sub h'.shp⟩
theorem Tr.of_tnd {S : Nat → Prop} (h : Tnd S w w') (hS : ∀ b, S b → w.heap.size ≤ b ∨ b = g) (hd : ∀ b, D b → g < b ∧ b < w.heap.size) : Tr D g w w' :=
  ⟨⟨h.os, h.tape, h.output, h.size, fun b hb hn => h.block b hb fun hs => by
    rcases hS b hs with h1 | h1
    · omega
    · exact hn (.inr h1)⟩, Shp.tnd h fun b hb hs => by
    have := hd b hb
    rcases hS b hs with h1 | h1 <;> omega⟩
theorem St.g_lt (h : St D g q w) : g < w.heap.size := let ⟨_, _, h1⟩ := h.rd; h1.lt
theorem St.up (h : St D g q w) (hq : q ≤ q') : St D g q' w :=
  ⟨let ⟨p, h1, h2⟩ := h.rd; ⟨p, Nat.le_trans h1 hq, h2⟩, h.dom, fun b hb => by
    obtain ⟨cs, t, h1, h2⟩ := h.typ b hb
    exact ⟨cs, t, h1, fun i v hv => let ⟨k, h3, h4⟩ := h2 i v hv; ⟨k, h3, h4.tr (fun _ h => h) (Shp.refl _ _) hq⟩⟩⟩
theorem St.tnd {S : Nat → Prop} (h : St D g q w) (ht : Tnd S w w') (hS : ∀ b, S b → g < b ∧ ¬ D b) : St D g q w' :=
  ⟨let ⟨p, h1, h2⟩ := h.rd; ⟨p, h1, h2.tnd ht fun b hb => (hS b hb).1⟩, fun b hb => ⟨(h.dom b hb).1, Nat.lt_of_lt_of_le (h.dom b hb).2 ht.size⟩, fun b hb => by
    obtain ⟨cs, t, h1, h2⟩ := h.typ b hb
    have hn : ¬ S b := fun hs => (hS b hs).2 hb
    have hsh : Shp D w w' := Shp.tnd ht fun b hb hs => (hS b hs).2 hb
    exact ⟨cs, t, by rw [ht.block b (h.dom b hb).2 hn]; exact h1, fun i v hv => let ⟨k, h3, h4⟩ := h2 i v hv; ⟨k, h3, h4.tr (fun _ h => h) hsh (Nat.le_refl _)⟩⟩⟩
theorem St.ext (h : St D g q w) (he : Ext w w') : St D g q w' := h.tnd (S := fun _ => False) (Tnd.ext he) fun _ h => h.elim
theorem Tr.ext (h : St D g q w) (he : Ext w w') : Tr D g w w' := Tr.of_tnd (S := fun _ => False) (Tnd.ext he) (fun _ h => h.elim) h.dom
theorem Tr.kept (h : St D g q w) (hk : Kept g w w') : Tr D g w w' := Tr.of_tnd hk (fun _ h => .inr h) h.dom
theorem St.asked {p : Nat} (h : St D g q w) (hk : Kept g w w') (hr : Rd g p w') (hp : p ≤ q') (hq : q ≤ q') : St D g q' w' :=
  ⟨⟨p, hp, hr⟩, fun b hb => ⟨(h.dom b hb).1, Nat.lt_of_lt_of_le (h.dom b hb).2 hk.size⟩, fun b hb => by
    obtain ⟨cs, t, h1, h2⟩ := h.typ b hb
    have hg := h.dom b hb
    have hsh : Shp D w w' := (Tr.kept h hk).shp
    exact ⟨cs, t, by rw [hk.block b hg.2 (by omega)]; exact h1, fun i v hv => let ⟨k, h3, h4⟩ := h2 i v hv; ⟨k, h3, h4.tr (fun _ h => h) hsh hq⟩⟩⟩

theorem St.set {b j : Nat} {cs : Array Value} {t : TypeId} {u : Value} (h : St D g q w) (hb : D b) (hc : w.heap[b]? = some (.cells cs t (0, 0))) (hk : ck t j = some k) (hu : CellOk D q w k u) :
    St D g q (w.setCell ⟨b, j, none⟩ u) ∧ Tr D g w (w.setCell ⟨b, j, none⟩ u) := by
  have ht : Tnd (fun x => x = b) w (w.setCell ⟨b, j, none⟩ u) := Kept.set w b j u
  have hB : Blk w b cs t := hc
  have hB' := hB.set j u
  have hsh : Shp D w (w.setCell ⟨b, j, none⟩ u) := fun x hx cs1 t1 h1 => by
    by_cases hxb : x = b
    · subst hxb; rw [hc] at h1; cases h1; exact ⟨_, hB', by simp⟩
    · exact ⟨cs1, by rw [ht.block x (Array.getElem?_eq_some_iff.1 h1).1 hxb]; exact h1, rfl⟩
  refine ⟨⟨let ⟨p, h1, h2⟩ := h.rd; ⟨p, h1, h2.tnd ht fun x hx => by subst hx; exact (h.dom _ hb).1⟩, fun x hx => ⟨(h.dom x hx).1, Nat.lt_of_lt_of_le (h.dom x hx).2 ht.size⟩, fun x hx => ?_⟩,
    ⟨ht.os, ht.tape, ht.output, ht.size, fun x hx hn => ht.block x hx fun he => hn (.inl (by subst he; exact hb))⟩, hsh⟩
  by_cases hxb : x = b
  · subst hxb
    obtain ⟨cs1, t1, h1, h2⟩ := h.typ x hx
    rw [hc] at h1; cases h1
    refine ⟨_, _, hB', fun i v hv => ?_⟩
    by_cases hij : i = j
    · subst hij
      have hlt : i < cs.size := by have := (Array.getElem?_eq_some_iff.1 hv).1; simpa using this
      rw [Array.getElem?_setIfInBounds_self, if_pos hlt] at hv
      cases hv
      exact ⟨k, hk, hu.tr (fun _ h => h) hsh (Nat.le_refl _)⟩
    · rw [Array.getElem?_setIfInBounds_ne (Ne.symm hij)] at hv
      obtain ⟨k', h3, h4⟩ := h2 i v hv
      exact ⟨k', h3, h4.tr (fun _ h => h) hsh (Nat.le_refl _)⟩
  · obtain ⟨cs1, t1, h1, h2⟩ := h.typ x hx
    exact ⟨cs1, t1, by rw [ht.block x (h.dom x hx).2 hxb]; exact h1, fun i v hv => let ⟨k', h3, h4⟩ := h2 i v hv; ⟨k', h3, h4.tr (fun _ h => h) hsh (Nat.le_refl _)⟩⟩

theorem SlOk.at (hs : SlOk D w e sz v n) (hT : Typed D q w) {i j : Nat} (hi : i < n) (hj : j < sz) :
    ∃ b cap cs u k, v = .slice (some ⟨b, 0, none⟩) n cap ∧ D b ∧ w.heap[b]? = some (.cells cs e (0, 0)) ∧ w.cell? ⟨b, i * sz + j, none⟩ = some u ∧ w.frozen? ⟨b, i * sz + j, none⟩ = false ∧ ck e (i * sz + j) = some k ∧ CellOk D q w k u := by
  rcases hs with ⟨rfl, rfl⟩ | ⟨b, cap, cs, rfl, hb, hh, h1, h2, h3⟩
  · omega
  · obtain ⟨cs1, t1, h4, h5⟩ := hT b hb
    rw [hh] at h4; cases h4
    have hlt : i * sz + j < cs.size := by
      rw [h3]
      have : (i + 1) * sz ≤ cap * sz := Nat.mul_le_mul_right _ (by omega)
      rw [Nat.add_mul] at this; omega
    have hu : cs[i * sz + j]? = some cs[i * sz + j] := Array.getElem?_eq_getElem hlt
    obtain ⟨k, h6, h7⟩ := h5 _ _ hu
    have hB : Blk w b cs e := hh
    exact ⟨b, cap, cs, _, k, rfl, hb, hh, hB.cell _ hu, hB.fr _, h6, h7⟩
theorem SlOk.shape (hs : SlOk D w e sz v n) : ∃ a c, v = .slice a n c := by
  rcases hs with ⟨rfl, rfl⟩ | ⟨b, cap, cs, rfl, _⟩
  · exact ⟨_, _, rfl⟩
  · exact ⟨_, _, rfl⟩
theorem SlOk.nil : SlOk D w e sz (.slice none 0 0) 0 := .inl ⟨rfl, rfl⟩
end

theorem exists_list {α : Type} (n : Nat) (P : Nat → α → Prop) (h : ∀ i, i < n → ∃ a, P i a) : ∃ l : List α, l.length = n ∧ ∀ (i : Nat) a, l[i]? = some a → P i a := by
  induction n with
  | zero => exact ⟨[], rfl, fun i a h => by simp at h⟩
  | succ n ih =>
    obtain ⟨l, h1, h2⟩ := ih fun i hi => h i (by omega)
    obtain ⟨a, ha⟩ := h n (by omega)
    refine ⟨l ++ [a], by simp [h1], fun i b hb => ?_⟩
    by_cases hi : i < n
    · rw [List.getElem?_append_left (by omega)] at hb; exact h2 i b hb
    · have := (List.getElem?_eq_some_iff.1 hb).1
      obtain rfl : i = n := by simp at this; omega
      rw [← h1, List.getElem?_concat_length] at hb
      cases hb; exact ha

section
variable {D : Nat → Prop} {g q : Nat} {w : World} {e : TypeId} {sz n : Nat} {v : Value}
theorem SlOk.list {α : Type} {E : World → Nat → Nat → α → Prop} (hs : SlOk D w e sz v n) (hT : Typed D q w) (hE : ∀ b cap cs i, v = .slice (some ⟨b, 0, none⟩) n cap → i < n → w.heap[b]? = some (.cells cs e (0, 0)) → ∃ x, E w b (0 + i * sz) x) :
    ∃ xs : List α, xs.length = n ∧ SlV E sz w v xs := by
  rcases hs with ⟨rfl, rfl⟩ | ⟨b, cap, cs, rfl, hb, hh, h1, h2, h3⟩
  · exact ⟨[], rfl, none, 0, rfl, by simp, by simp, fun h => by simp at h⟩
  · obtain ⟨l, h4, h5⟩ := exists_list n (fun i x => E w b (0 + i * sz) x) fun i hi => hE b cap cs i rfl hi hh
    subst h4
    exact ⟨l, rfl, _, cap, rfl, h1, h2, fun _ => ⟨b, 0, rfl, (Array.getElem?_eq_some_iff.1 hh).1, h5⟩⟩

theorem SlOk.ints (hs : SlOk D w 3 1 v n) (hT : Typed D q w) : ∃ xs : List Int, xs.length = n ∧ IntsV w v xs :=
  hs.list hT fun b cap cs i hv hi hh => by
    obtain ⟨b', cap', cs', u, k, hv', hb, hh', h1, -, h2, h3⟩ := hs.at hT hi (j := 0) (by omega)
    rw [hv] at hv'; cases hv'
    simp only [ck, true_or, if_true, Option.some.injEq] at h2
    subst h2
    obtain ⟨x, rfl⟩ := h3
    exact ⟨x, by rw [Nat.zero_add]; exact h1⟩
theorem SlOk.bools (hs : SlOk D w 4 1 v n) (hT : Typed D q w) : ∃ xs : List Bool, xs.length = n ∧ BoolsV w v xs :=
  hs.list hT fun b cap cs i hv hi hh => by
    obtain ⟨b', cap', cs', u, k, hv', hb, hh', h1, -, h2, h3⟩ := hs.at hT hi (j := 0) (by omega)
    rw [hv] at hv'; cases hv'
    have h2' : CK.bool = k := Option.some.inj h2
    subst h2'
    obtain ⟨x, rfl⟩ := h3
    exact ⟨x, by rw [Nat.zero_add]; exact h1⟩
theorem SlOk.edges (hs : SlOk D w 87 3 v n) (hT : Typed D q w) : ∃ xs : List Edge, xs.length = n ∧ EdgesV w v xs :=
  hs.list hT fun b cap cs i hv hi hh => by
    have hc : ∀ j, j < 3 → ∃ x : Int, w.cell? ⟨b, i * 3 + j, none⟩ = some (.int .i64 x) := fun j hj => by
      obtain ⟨b', cap', cs', u, k, hv', hb, hh', h1, -, h2, h3⟩ := hs.at hT hi hj
      rw [hv] at hv'; cases hv'
      have h2' : CK.int = k := Option.some.inj h2
      subst h2'
      obtain ⟨x, rfl⟩ := h3
      exact ⟨x, h1⟩
    obtain ⟨x, hx⟩ := hc 0 (by omega)
    obtain ⟨y, hy⟩ := hc 1 (by omega)
    obtain ⟨z, hz⟩ := hc 2 (by omega)
    exact ⟨⟨x, y, z⟩, by unfold EdgeAt; rw [Nat.zero_add]; exact ⟨hx, hy, hz⟩⟩
theorem SlOk.intss (hs : SlOk D w 80 1 v n) (hT : Typed D q w) : ∃ xs : List (List Int), xs.length = n ∧ IntssV w v xs :=
  hs.list hT fun b cap cs i hv hi hh => by
    obtain ⟨b', cap', cs', u, k, hv', hb, hh', h1, -, h2, h3⟩ := hs.at hT hi (j := 0) (by omega)
    rw [hv] at hv'; cases hv'
    have h2' : CK.sl 3 1 = k := Option.some.inj h2
    subst h2'
    obtain ⟨m, -, hm⟩ := h3
    obtain ⟨l, -, hl⟩ := hm.ints hT
    exact ⟨l, by rw [Nat.zero_add]; exact ⟨u, h1, hl⟩⟩

def SysT (D : Nat → Prop) (q : Nat) (w : World) (v : Value) : Prop := ∃ al st ve n, v = .agg #[.int .i64 al, .int .i64 st, ve] ∧ n ≤ q ∧ SlOk D w 87 3 ve n
def AutoT (D : Nat → Prop) (q : Nat) (w : World) (v : Value) : Prop := ∃ al vn va n m, v = .agg #[.int .i64 al, vn, va] ∧ n ≤ q ∧ m ≤ q ∧ SlOk D w 80 1 vn n ∧ SlOk D w 4 1 va m
theorem SysT.sys (h : SysT D q w v) (hT : Typed D q w) : ∃ s : Sys, s.edges.length ≤ q ∧ SysV w v s := by
  obtain ⟨al, st, ve, n, rfl, hn, hs⟩ := h
  obtain ⟨es, rfl, he⟩ := hs.edges hT
  exact ⟨⟨al, st, es⟩, hn, ve, rfl, he⟩
theorem AutoT.auto (h : AutoT D q w v) (hT : Typed D q w) : ∃ a : Auto, a.next.length ≤ q ∧ a.accept.length ≤ q ∧ AutoV w v a := by
  obtain ⟨al, vn, va, n, m, rfl, hn, hm, h1, h2⟩ := h
  obtain ⟨ll, rfl, hl⟩ := h1.intss hT
  obtain ⟨bs, rfl, hb⟩ := h2.bools hT
  exact ⟨⟨al, ll, bs⟩, hn, hm, vn, va, rfl, hl, hb⟩
end
end Go.Proofs.YtanekmfifmkbmaaGreatDoor

namespace Go.Proofs.YtanekmfifmkbmaaGreatDoor
set_option linter.unusedSimpArgs false
set_option linter.unusedVariables false
open Go.RowKit

section
variable {D D' : Nat → Prop} {g q q' : Nat} {w w' : World} {e : TypeId} {sz n m : Nat} {v : Value}

def Kin (D : Nat → Prop) (q : Nat) (w : World) (e : TypeId) (l : List Value) : Prop := ∀ (i : Nat) u, l[i]? = some u → ∃ k, ck e i = some k ∧ CellOk D q w k u
def Per (e : TypeId) (sz : Nat) : Prop := ∀ a b, ck e (a * sz + b) = ck e b

theorem Kin.append (hp : Per e sz) {l l' : List Value} (h : Kin D q w e l) (hl : l.length = n * sz) (h' : Kin D q w e l') : Kin D q w e (l ++ l') := fun i u hu => by
  by_cases hi : i < l.length
  · rw [List.getElem?_append_left hi] at hu; exact h i u hu
  · rw [List.getElem?_append_right (by omega)] at hu
    obtain ⟨k, h1, h2⟩ := h' _ u hu
    refine ⟨k, ?_, h2⟩
    rw [← h1, ← hp n (i - l.length), hl, show n * sz + (i - n * sz) = i by omega]
theorem Kin.take {l : List Value} (h : Kin D q w e l) (j : Nat) : Kin D q w e (l.take j) := fun i u hu => by
  rw [List.getElem?_take] at hu
  split at hu
  · exact h i u hu
  · cases hu
theorem Kin.drop (hp : Per e sz) {l : List Value} (h : Kin D q w e l) (j : Nat) : Kin D q w e (l.drop (j * sz)) := fun i u hu => by
  rw [List.getElem?_drop] at hu
  obtain ⟨k, h1, h2⟩ := h _ u hu
  exact ⟨k, by rw [← h1, hp], h2⟩
theorem Kin.tr {l : List Value} (h : Kin D q w e l) (hi : ∀ b, D b → D' b) (hs : Shp D w w') (hq : q ≤ q') : Kin D' q' w' e l := fun i u hu => let ⟨k, h1, h2⟩ := h i u hu; ⟨k, h1, h2.tr hi hs hq⟩
theorem Kin.zeros (hp : Per e sz) {z : Array Value} (hz : z.size = sz) (h0 : 0 < sz) (h : Kin D q w e z.toList) (c : Nat) : Kin D q w e (Builtin.zeroCells z c).toList := fun i u hu => by
  simp only [Builtin.zeroCells, Array.toList_map, Array.toList_range, List.getElem?_map, Option.map_eq_some_iff] at hu
  obtain ⟨j, hj, rfl⟩ := hu
  obtain ⟨h1, h2⟩ := List.getElem?_eq_some_iff.1 hj
  rw [List.getElem_range] at h2
  subst h2
  have hm : i % z.size < z.size := Nat.mod_lt _ (by omega)
  obtain ⟨k, h3, h4⟩ := h (i % z.size) z[i % z.size] (by rw [Array.getElem?_toList]; exact Array.getElem?_eq_getElem hm)
  refine ⟨k, ?_, by rw [getElem!_pos z _ hm]; exact h4⟩
  rw [← h3, ← hp (i / z.size) (i % z.size), hz, Nat.mul_comm, Nat.div_add_mod]

theorem St.new {b : Nat} {cs : Array Value} (h : St D g q w) (he : Ext w w') (hb : w.heap.size ≤ b) (hc : w'.heap[b]? = some (.cells cs e (0, 0))) (hk : Kin D q w' e cs.toList) :
    Inc D (fun x => D x ∨ x = b) w ∧ St (fun x => D x ∨ x = b) g q w' := by
  have h' := h.ext he
  refine ⟨⟨fun x hx => .inl hx, fun x hx => by rcases hx with hx | rfl; exact .inl hx; exact .inr hb⟩, h'.rd, fun x hx => ?_, fun x hx => ?_⟩
  · rcases hx with hx | rfl
    · exact h'.dom x hx
    · exact ⟨Nat.lt_of_lt_of_le h.g_lt hb, (Array.getElem?_eq_some_iff.1 hc).1⟩
  · rcases hx with hx | rfl
    · obtain ⟨cs1, t1, h1, h2⟩ := h'.typ x hx
      exact ⟨cs1, t1, h1, fun i v hv => let ⟨k, h3, h4⟩ := h2 i v hv; ⟨k, h3, h4.tr (fun _ h => .inl h) (Shp.refl _ _) (Nat.le_refl _)⟩⟩
    · exact ⟨cs, e, hc, fun i v hv => let ⟨k, h3, h4⟩ := hk i v (by rw [Array.getElem?_toList]; exact hv); ⟨k, h3, h4.tr (fun _ h => .inl h) (Shp.refl _ _) (Nat.le_refl _)⟩⟩

theorem SlOk.kin (hs : SlOk D w e sz v n) (hT : Typed D q w) : ∃ l, l.length = n * sz ∧ Kin D q w e l ∧ ∀ b off c, v = .slice (some ⟨b, off, none⟩) n c → off = 0 ∧ ∀ j u, l[j]? = some u → w.cell? ((⟨b, 0, none⟩ : Addr).add j) = some u := by
  rcases hs with ⟨rfl, rfl⟩ | ⟨b, cap, cs, rfl, hb, hh, h1, h2, h3⟩
  · exact ⟨[], by simp, fun i u h => by simp at h, fun b off c h => by cases h⟩
  · obtain ⟨cs1, t1, h4, h5⟩ := hT b hb
    rw [hh] at h4; cases h4
    refine ⟨cs.toList.take (n * sz), ?_, Kin.take (fun i u hu => h5 i u (by rw [← Array.getElem?_toList]; exact hu)) _, fun b' off c hv => ?_⟩
    · rw [List.length_take, Array.length_toList, h3]; have := Nat.mul_le_mul_right sz h1; omega
    · cases hv
      refine ⟨rfl, fun j u hu => ?_⟩
      rw [add_none, Nat.zero_add]
      have hB : Blk w b cs e := hh
      refine hB.cell j ?_
      rw [List.getElem?_take] at hu
      split at hu
      · rw [← Array.getElem?_toList]; exact hu
      · cases hu

variable {P : Program}
theorem run_app_t (t ty : TypeId) (i : TypeInfo) (z : Value) (ht : P.underlying t = some (.slice e)) (hi : P.info? e = some i) (hz : i.zero = some z) (hzs : z.cells.size = i.size) (hsz : 0 < i.size) (hp : Per e i.size)
    (hzk : ∀ D q w, Kin D q w e z.cells.toList) (h : St D g q w) (hs : SlOk D w e i.size v n) (a : Addr) (c : Nat) (news : List Value) (hl : news.length = m * i.size) (hnews : ∀ j u, news[j]? = some u → w.cell? (a.add j) = some u)
    (h1 : ∀ u ∈ news, u.oneCell' = true) (hk : Kin D q w e news) (h63 : n + m ≤ maxLen) (hby : (n + m) * i.bytes ≤ 140737488355328) (hqq : q ≤ q') :
    ∃ v' w' D', (Builtin.append_ #[t, t] ty #[v, .slice (some a) m c]).run P w = .ok v' w' ∧ Inc D D' w ∧ St D' g q' w' ∧ Tr D g w w' ∧ SlOk D' w' e i.size v' (n + m) := by
  have hsmall : n + m ≤ 9223372036854775807 := by simp only [maxLen] at h63; omega
  have grown : ∀ (old : Nat), old < n + m → ∀ (l : List Value), l.length = n * i.size → Kin D q w e l →
      let w' := w.drew.alloc (.cells (l.toArray ++ news.toArray ++ Builtin.zeroCells z.cells (grownCap w (n + m) old e - (n + m))) e)
      let D' := fun x => D x ∨ x = w.heap.size
      Inc D D' w ∧ St D' g q' w' ∧ Tr D g w w' ∧ SlOk D' w' e i.size (.slice (some ⟨w.heap.size, 0, none⟩) (n + m) (grownCap w (n + m) old e)) (n + m) := by
    intro old ho l hl' hkl w' D'
    have hge := grownCap_ge w (n + m) old e
    have hcm : grownCap w (n + m) old e ≤ maxLen := grownCap_le_maxLen w (n + m) old e h63
    have he : Ext w w' := (Ext.drew w).trans (Ext.alloc _ _)
    have hc : w'.heap[w.heap.size]? = some (.cells (l.toArray ++ news.toArray ++ Builtin.zeroCells z.cells (grownCap w (n + m) old e - (n + m))) e (0, 0)) := heap_alloc_new w.drew _
    have hsh := (Tr.ext h he).shp
    have hkk : Kin D q w' e (l.toArray ++ news.toArray ++ Builtin.zeroCells z.cells (grownCap w (n + m) old e - (n + m))).toList := by
      simp only [Array.toList_append]
      exact Kin.append (n := n + m) hp (Kin.append hp (hkl.tr (fun _ h => h) hsh (Nat.le_refl _)) hl' (hk.tr (fun _ h => h) hsh (Nat.le_refl _))) (by rw [List.length_append, hl', hl, Nat.add_mul]) (Kin.zeros hp hzs hsz (hzk _ _ _) _)
    obtain ⟨h2, h3⟩ := h.new he (Nat.le_refl _) hc hkk
    refine ⟨h2, h3.up hqq, Tr.ext h he, .inr ⟨w.heap.size, _, _, rfl, .inr rfl, hc, hge, hcm, ?_⟩⟩
    simp only [Array.size_append, List.size_toArray, size_zeroCells, hzs, hl', hl, ← Nat.add_mul]
    congr 1; omega
  rcases hs with ⟨rfl, rfl⟩ | ⟨b, cap, cs, rfl, hb, hh, hnc, hcm, hcs⟩
  · by_cases hm : m = 0
    · subst hm
      have hn : news = [] := List.eq_nil_of_length_eq_zero (by simpa using hl)
      subst hn
      refine ⟨.slice none 0 0, w, D, ?_, Inc.refl _ _, h.up hqq, Tr.refl _ _ _, .inl ⟨rfl, rfl⟩⟩
      simp [Builtin.append_, run_underlying ht, sizeOf, typeInfo, hi, Builtin.lenOf, Builtin.firstCells, loadCells, loadCellsFrom]
    · have hr := run_append_nil (P := P) w t ty e i z ht hi hz a m c news hl hnews (by omega) (by omega) (by have hb := hby; simp only [Nat.zero_add] at hb; omega)
      have hgr := grown 0 (by omega) [] (by simp) (fun i u h => by simp at h)
      simp only [Nat.zero_add, Array.empty_append] at hgr ⊢
      exact ⟨_, _, _, hr, hgr⟩
  · obtain ⟨cs1, t1, h4, h5⟩ := h.typ b hb
    rw [hh] at h4; cases h4
    have hkc : Kin D q w e cs.toList := fun i u hu => h5 i u (by rw [← Array.getElem?_toList]; exact hu)
    have hn1 : n * i.size ≤ cs.size := by rw [hcs]; exact Nat.mul_le_mul_right _ hnc
    by_cases hroom : n + m ≤ cap
    · have hfit : n * i.size + news.length ≤ cs.size := by rw [hl, hcs, ← Nat.add_mul]; exact Nat.mul_le_mul_right _ hroom
      have hr := run_append_room (P := P) w t ty e i ht hi b n cap cs hh a m c news hl hnews h1 hroom hfit
      have hkn : Kin D q w e (cs.toList.take (n * i.size) ++ news ++ cs.toList.drop (n * i.size + news.length)) := by
        rw [hl, ← Nat.add_mul]
        have hlt : (cs.toList.take (n * i.size)).length = n * i.size := by rw [List.length_take, Array.length_toList]; omega
        exact Kin.append (n := n + m) hp (Kin.append hp (hkc.take _) hlt hk) (by rw [List.length_append, hlt, hl, Nat.add_mul]) (hkc.drop hp _)
      have hlen : (cs.toList.take (n * i.size) ++ news ++ cs.toList.drop (n * i.size + news.length)).length = cs.size := by
        simp only [List.length_append, List.length_take, List.length_drop, Array.length_toList]; omega
      generalize hL : cs.toList.take (n * i.size) ++ news ++ cs.toList.drop (n * i.size + news.length) = L at hr hkn hlen
      have hnew := setRow_heap w b cs L.toArray e (0, 0) hh
      have hoth : ∀ k, k ≠ b → (w.setRow b L.toArray).heap[k]? = w.heap[k]? := fun k hk => setRow_other w b k _ hk
      have hsz' : (w.setRow b L.toArray).heap.size = w.heap.size := by simp [World.setRow]
      have hsh : Shp D w (w.setRow b L.toArray) := fun x hx cs1 t1 hx1 => by
        by_cases hxb : x = b
        · subst hxb; rw [hh] at hx1; cases hx1; exact ⟨_, hnew, by simpa using hlen⟩
        · exact ⟨cs1, by rw [hoth x hxb]; exact hx1, rfl⟩
      refine ⟨_, _, D, hr, Inc.refl _ _, St.up (q := q) ⟨?_, fun x hx => ⟨(h.dom x hx).1, by rw [hsz']; exact (h.dom x hx).2⟩, fun x hx => ?_⟩ hqq, ⟨⟨rfl, rfl, rfl, by rw [hsz']; exact Nat.le_refl _, fun x hx hn => hoth x fun hxb => hn (.inl (by subst hxb; exact hb))⟩, hsh⟩, .inr ⟨b, cap, _, rfl, hb, hnew, hroom, hcm, by rw [List.size_toArray, hlen, hcs]⟩⟩
      · obtain ⟨p, hp1, hp2⟩ := h.rd
        exact ⟨p, hp1, hp2.tnd (S := fun x => x = b) ⟨rfl, rfl, rfl, by rw [hsz']; exact Nat.le_refl _, fun x _ hn => hoth x hn⟩ fun x hx => by subst hx; exact (h.dom _ hb).1⟩
      · by_cases hxb : x = b
        · subst hxb
          exact ⟨_, _, hnew, fun i u hu => let ⟨k, h3, h4⟩ := hkn i u (by simpa using hu); ⟨k, h3, h4.tr (fun _ h => h) hsh (Nat.le_refl _)⟩⟩
        · obtain ⟨cs1, t1, h6, h7⟩ := h.typ x hx
          exact ⟨cs1, t1, by rw [hoth x hxb]; exact h6, fun i v hv => let ⟨k, h3, h4⟩ := h7 i v hv; ⟨k, h3, h4.tr (fun _ h => h) hsh (Nat.le_refl _)⟩⟩
    · have hB : Blk w b cs e := hh
      have hlt : (cs.toList.take (n * i.size)).length = n * i.size := by rw [List.length_take, Array.length_toList]; omega
      have holds : ∀ j u, (cs.toList.take (n * i.size))[j]? = some u → w.cell? ((⟨b, 0, none⟩ : Addr).add j) = some u := fun j u hu => by
        rw [add_none, Nat.zero_add]
        refine hB.cell j ?_
        rw [List.getElem?_take] at hu
        split at hu
        · rw [← Array.getElem?_toList]; exact hu
        · cases hu
      have hr := run_append_grow (P := P) w t ty e i z ht hi hz ⟨b, 0, none⟩ n cap _ hlt holds a m c news hl hnews (by omega) (by omega) (growslice_fits (by omega) hby)
      exact ⟨_, _, _, hr, grown cap (by omega) _ hlt (hkc.take _)⟩

theorem app_t {ops : Array Oper} {rest : List Oper} {o : Oper} {a : Act} {Q : Exit → Act → World → Prop} (hgd : o.guard = none) (s x : Operand) (t : TypeId) {size bytes : Nat} {z : Value}
    (ho : o.op = .call { callee := .builtin .append, args := #[s, x], argTypes := #[t, t] }) (ht : P.underlying t = some (.slice e)) (hinfo : (P.info? e).map (fun i => (i.zero, i.size, i.bytes)) = some (some z, size, bytes)) (hzs : z.cells.size = size) (hsz : 0 < size) (hp : Per e size)
    (hzk : ∀ D q w, Kin D q w e z.cells.toList) (h : St D g q w) (hs : SlOk D w e size v n) (hev : a.eval s = v) {ad : Addr} {c : Nat} {news : List Value} (hx : a.eval x = .slice (some ad) m c) (hl : news.length = m * size) (hnews : ∀ j u, news[j]? = some u → w.cell? (ad.add j) = some u)
    (h1 : ∀ u ∈ news, u.oneCell' = true) (hk : Kin D q w e news) (hnm : n + m ≤ 4294967296) (hby : bytes ≤ 1024) (hqq : q ≤ q')
    (hQ : ∀ v' w' D', Inc D D' w → St D' g q' w' → Tr D g w w' → SlOk D' w' e size v' (n + m) → wpList P ops Q rest (a.put o.dst v') w') : wpList P ops Q (o :: rest) a w := by
  obtain ⟨i, hi, hz, rfl, rfl⟩ := info_parts hinfo
  obtain ⟨v', w', D', hr, h2, h3, h4, h5⟩ := run_app_t (P := P) t o.type i z ht hi hz hzs hsz hp hzk h hs ad c news hl hnews h1 hk (by unfold maxLen; omega) (by have := Nat.mul_le_mul hnm hby; omega) hqq
  refine wpList_plain hgd fun _ hK => ?_
  unfold Oper.wp execOp
  simp only [ho, resolve, invoke, builtin, Sem.run_bind, Sem.run_pure, Result.andThen_ok, List.map_toArray, List.map_cons, List.map_nil, hev, hx, hr]
  exact hK _ _ (hQ v' w' D' h2 h3 h4 h5)

theorem Inc.low {w0 : World} (h : Inc D D' w) (hs : w0.heap.size ≤ w.heap.size) : Inc D D' w0 := ⟨h.sub, fun b hb => by
  rcases h.new b hb with h1 | h1
  · exact .inl h1
  · exact .inr (Nat.le_trans hs h1)⟩
theorem app1_t {ops : Array Oper} {rest : List Oper} {o : Oper} {a : Act} {Q : Exit → Act → World → Prop} {wr : World} {s x : Operand} {t e' : TypeId} {size bytes : Nat} {z : Value} {news : List Value} (q' : Nat) (hgd : o.guard = none)
    (ho : o.op = .call { callee := .builtin .append, args := #[s, x], argTypes := #[t, t] }) (ht : P.underlying t = some (.slice e)) (hinfo : (P.info? e).map (fun i => (i.zero, i.size, i.bytes)) = some (some z, size, bytes)) (hzs : z.cells.size = size) (hsz : 0 < size) (hp : Per e size)
    (hzk : ∀ D q w, Kin D q w e z.cells.toList) (h : St D g q wr) (hs : SlOk D wr e size v n) (hev : a.eval s = v) (hx : a.eval x = .slice (some ⟨wr.heap.size, 0, none⟩) 1 1) (hl : news.length = size)
    (h1 : ∀ u ∈ news, u.oneCell' = true) (hk : Kin D q wr e news) (hnm : n + 1 ≤ 4294967296) (hby : bytes ≤ 1024) (hqq : q ≤ q')
    (hQ : ∀ v' w' D', Inc D D' wr → St D' g q' w' → Tr D g wr w' → SlOk D' w' e size v' (n + 1) → wpList P ops Q rest (a.put o.dst v') w') : wpList P ops Q (o :: rest) a (wr.alloc (.cells news.toArray e')) := by
  have he := Ext.alloc wr (.cells news.toArray e')
  have htr := Tr.ext h he
  refine app_t (m := 1) (q' := q') hgd s x t ho ht hinfo hzs hsz hp hzk (h.ext he) (hs.tr (fun _ h => h) htr.shp) hev hx (by omega) (fun j u hu => ?_) h1 (hk.tr (fun _ h => h) htr.shp (Nat.le_refl _)) hnm hby hqq fun v' w' D' h2 h3 h4 h5 => hQ v' w' D' (h2.low he.size) h3 (htr.trans (Inc.refl _ _) h4) h5
  rw [add_none, Nat.zero_add]
  exact new_cell wr _ _ _ _ (by simpa using hu)

theorem step_app1_t {ops : Array Oper} {o : Oper} {a : Act} {K : Act → World → Prop} {Q : Exit → Act → World → Prop} {E : Prop} {wr : World} {s x : Operand} {t e' : TypeId} {size bytes : Nat} {z : Value} {news : List Value} (q' : Nat) (hgd : o.guard = none)
    (ho : o.op = .call { callee := .builtin .append, args := #[s, x], argTypes := #[t, t] }) (ht : P.underlying t = some (.slice e)) (hinfo : (P.info? e).map (fun i => (i.zero, i.size, i.bytes)) = some (some z, size, bytes)) (hzs : z.cells.size = size) (hsz : 0 < size) (hp : Per e size)
    (hzk : ∀ D q w, Kin D q w e z.cells.toList) (h : St D g q wr) (hs : SlOk D wr e size v n) (hev : a.eval s = v) (hx : a.eval x = .slice (some ⟨wr.heap.size, 0, none⟩) 1 1) (hl : news.length = size)
    (h1 : ∀ u ∈ news, u.oneCell' = true) (hk : Kin D q wr e news) (hnm : n + 1 ≤ 4294967296) (hby : bytes ≤ 1024) (hqq : q ≤ q')
    (hQ : ∀ v' w' D', Inc D D' wr → St D' g q' w' → Tr D g wr w' → SlOk D' w' e size v' (n + 1) → K (a.put o.dst v') w') :
    if Region.wanted o (yielded ops a.tmps) = true then Oper.wp P o a (wr.alloc (.cells news.toArray e')) K Q else E := by
  have hw : Region.wanted o (yielded ops a.tmps) = true := by simp [Region.wanted, hgd]
  rw [if_pos hw]
  obtain ⟨i, hi, hz, rfl, rfl⟩ := info_parts hinfo
  have he := Ext.alloc wr (.cells news.toArray e')
  have htr := Tr.ext h he
  obtain ⟨v', w', D', hr, h2, h3, h4, h5⟩ := run_app_t (P := P) (m := 1) t o.type i z ht hi hz hzs hsz hp hzk (h.ext he) (hs.tr (fun _ h => h) htr.shp) ⟨wr.heap.size, 0, none⟩ 1 news (by omega) (fun j u hu => by rw [add_none, Nat.zero_add]; exact new_cell wr _ _ _ _ (by simpa using hu)) h1 (hk.tr (fun _ h => h) htr.shp (Nat.le_refl _)) (by unfold maxLen; omega) (by have := Nat.mul_le_mul hnm hby; omega) hqq
  unfold Oper.wp execOp
  simp only [ho, resolve, invoke, builtin, Sem.run_bind, Sem.run_pure, Result.andThen_ok, List.map_toArray, List.map_cons, List.map_nil, hev, hx, hr]
  exact hQ v' w' D' (h2.low he.size) h3 (htr.trans (Inc.refl _ _) h4) h5

end
theorem per_int : Per 3 1 := fun a b => by simp [ck]
theorem per_bool : Per 4 1 := fun a b => by simp [ck]
theorem per_str : Per 9 1 := fun a b => by simp [ck]
theorem per_ints : Per 80 1 := fun a b => by simp [ck]
theorem per_edge : Per 87 3 := fun a b => by simp [ck]
end Go.Proofs.YtanekmfifmkbmaaGreatDoor

namespace Go.Proofs.YtanekmfifmkbmaaGreatDoor
set_option linter.unusedSimpArgs false
set_option linter.unusedVariables false
open Go.RowKit
set_option maxHeartbeats 1000000
set_option maxRecDepth 100000

def Drawn (D : Nat → Prop) (g q C : Nat) (w : World) (Φ : (Nat → Prop) → Nat → World → Value → Prop) (e : Ending) (w' : World) : Prop :=
  ∃ v D', e = .returned v ∧ Inc D D' w ∧ St D' g (q + C) w' ∧ Tr D g w w' ∧ Φ D' (q + C) w' v

variable {D D' : Nat → Prop} {g q q' : Nat} {w w' : World}

theorem Inc.out {b : Nat} (h : Inc D D' w) (hb : ¬ D b) (hlt : b < w.heap.size) : ¬ D' b := fun hd => by
  rcases h.new b hd with h1 | h1
  · exact hb h1
  · omega
theorem St.out (h : St D g q w) {b : Nat} (hb : w.heap.size ≤ b) : ¬ D b := fun hd => by have := (h.dom b hd).2; omega
theorem Blk.tr {b : Nat} {cs : Array Value} {t : TypeId} (h : Blk w b cs t) (ht : Tr D g w w') (hd : ¬ D b) (hg : b ≠ g) : Blk w' b cs t :=
  h.tnd ht.tnd (fun h => by rcases h with h | h; exact hd h; exact hg h)
theorem Blk.kept {b : Nat} {cs : Array Value} {t : TypeId} (h : Blk w b cs t) (ht : Kept g w w') (hg : b ≠ g) : Blk w' b cs t := h.tnd ht hg
theorem St.box {b j : Nat} {u : Value} (h : St D g q w) (hd : ¬ D b) (hg : g < b) : St D g q (w.setCell ⟨b, j, none⟩ u) := h.tnd (S := fun x => x = b) (Kept.set w b j u) (fun x hx => by subst hx; exact ⟨hg, hd⟩)
theorem Shp.box {b j : Nat} {u : Value} (hd : ¬ D b) : Shp D w (w.setCell ⟨b, j, none⟩ u) := Shp.tnd (S := fun x => x = b) (Kept.set w b j u) (fun x hx he => by subst he; exact hd hx)
theorem Tr.box {w0 : World} {b j : Nat} {u : Value} (h : Tr D g w0 w) (hi : Inc D D' w0) (hd : ∀ x, D x → x < w0.heap.size) (hb : w0.heap.size ≤ b) : Tr D g w0 (w.setCell ⟨b, j, none⟩ u) :=
  ⟨⟨h.tnd.os, h.tnd.tape, h.tnd.output, by simpa using h.size, fun x hx hn => by
    rw [Below.heap_setCell w ⟨b, j, none⟩ u x (by simp only []; omega)]; exact h.tnd.block x hx hn⟩, fun x hx cs t hc => by
    have h1 := h.shp x hx cs t hc
    rw [Below.heap_setCell w ⟨b, j, none⟩ u x (by have := hd x hx; simp only []; omega)]; exact h1⟩

theorem pick_t (n : Int) (h : St D g q w) (hq : q + 1 ≤ 1000000) (hn : n ≤ 1000000) :
    Calls Tryz.prog 23 #[.pointer (some ⟨g, 0, none⟩), .int .i64 n] w (fun e w' => ∃ x : Nat, e = .returned (.int .i64 (x : Int)) ∧ (1 ≤ n → (x : Int) < n) ∧ (n < 1 → x = 0) ∧ St D g (q + 1) w' ∧ Kept g w w') := by
  obtain ⟨p, hp, hr⟩ := h.rd
  refine (pick_c g p n w hr (by omega) (by omega)).mono ?_
  rintro e w' ⟨x, rfl, h1, h2, h3, h4⟩
  exact ⟨x, rfl, h1, h2, h.asked h4 h3 (by omega) (by omega), h4⟩

theorem ints_lit (w : World) (l : List Int) (hl : l.length ≤ 100) : IntsV (w.alloc (.cells (l.map (Value.int .i64)).toArray 3)) (.slice (some ⟨w.heap.size, 0, none⟩) l.length l.length) l :=
  ⟨_, _, rfl, Nat.le_refl _, by unfold maxLen; omega, fun _ => ⟨w.heap.size, 0, rfl, by simp, fun i x hx => by
    unfold IntAt
    refine new_cell w _ _ _ _ ?_
    simp [hx]⟩⟩
theorem num_t (l : List Int) {b : Nat} (hb : b = w.heap.size) (h : St D g q w) (hq : q + 1 ≤ 1000000) (h0 : 0 < l.length) (hl : l.length ≤ 100) :
    Calls Tryz.prog 63 #[.pointer (some ⟨g, 0, none⟩), .slice (some ⟨b, 0, none⟩) l.length l.length] (w.alloc (.cells (l.map (Value.int .i64)).toArray 3))
      (fun e w' => ∃ x ∈ l, e = .returned (.int .i64 x) ∧ St D g (q + 1) w' ∧ Kept g w w') := by
  subst hb
  have h' := h.ext (Ext.alloc w (.cells (l.map (Value.int .i64)).toArray 3))
  obtain ⟨p, hp, hr⟩ := h'.rd
  refine (num_c g p _ l _ hr (by omega) (ints_lit w l hl) (fun b off c hv => by cases hv; have := h.g_lt; omega) h0 (by omega)).mono ?_
  rintro e w' ⟨x, hx, rfl, h1, h2⟩
  exact ⟨x, hx, rfl, h'.asked h2 h1 (by omega) (by omega), (Tnd.ext (Ext.alloc _ _)).trans h2⟩

theorem l1Has_t (a : Int) (i : Nat) (w : World) (hi : i ≤ 60) : Calls Tryz.prog 85 #[.int .i64 a, .int .i64 i] w (fun e w' => ∃ b, e = .returned (.bool b) ∧ w = w') := by
  go_enter Tryz.func85, Tryz.ntmps85
  go_wp2_with fail
  go_ret
  exact ⟨_, rfl, rfl⟩

theorem zk_int : ∀ (D : Nat → Prop) q w, Kin D q w 3 (Value.int .i64 0).cells.toList := fun D q w i u hu => by
  match i, hu with
  | 0, hu => exact ⟨.int, rfl, 0, by simpa [Value.cells] using hu.symm⟩
  | i + 1, hu => simp [Value.cells] at hu
theorem kin_int (x : Int) : Kin D q w 3 [.int .i64 x] := fun i u hu => by
  match i, hu with
  | 0, hu => exact ⟨.int, rfl, x, by simpa using hu.symm⟩
  | i + 1, hu => simp at hu

theorem l1Letters_t (a : Int) (h : St D g q w) (hq : q + 6 ≤ 1000000) :
    Calls Tryz.prog 42 #[.int .i64 a] w (Drawn D g q 6 w fun D' _ w' v => ∃ n, n ≤ 6 ∧ SlOk D' w' 3 1 v n) := by
  have hlit : w.heap.size ≤ w.heap.size := Nat.le_refl _
  obtain ⟨hi0, hs0⟩ := h.new (Ext.alloc w (.cells #[] 3)) hlit (heap_alloc_new w _) (fun i u hu => by simp at hu)
  go_enter Tryz.func42, Tryz.ntmps42
  go_wp2_with fail
  go_loopw [3, 4] (fun v i wr => ∃ (k n : Nat) (D' : Nat → Prop), k ≤ 6 ∧ n ≤ k ∧ i = .int .i64 k ∧ SlOk D' wr 3 1 v n ∧ Inc D D' w ∧ St D' g (q + k) wr ∧ Tr D g w wr) (fun _ i _ => 6 - (intOf i).toNat)
  case atStart =>
    exact ⟨0, 0, _, by omega, by omega, rfl, .inr ⟨w.heap.size, 0, #[], rfl, .inr rfl, heap_alloc_new w _, by omega, by unfold maxLen; omega, by simp⟩, hi0, hs0, Tr.ext h (Ext.alloc _ _)⟩
  case round =>
    clear hi0 hs0 hlit
    obtain ⟨k, n, D1, hk, hnk, rfl, hs, hi, hst, htr⟩ := hrel
    obtain ⟨av, cv, rfl⟩ := hs.shape
    by_cases hlt : k < 6
    · go_wp2_with (first | (go_at_call 85; refine (l1Has_t _ _ _ (by omega)).mono ?_; rintro e w' ⟨b, rfl, rfl⟩) | (at_builtin; refine app1_t (q + (k + 1)) rfl rfl Tryz.underlying80 infoInt rfl (by decide) per_int zk_int hst hs rfl rfl rfl (by simp [Value.oneCell']) (kin_int _) (by omega) (by decide) (by omega) ?_; intro v1 w1 D2 hi1 hst1 htr1 hs1))
      all_goals first
        | exact ⟨⟨k + 1, n + 1, D2, by omega, by omega, by go_num, hs1, hi.trans htr.size hi1, hst1, htr.trans hi htr1⟩, by simp [intOf]; omega⟩
        | exact ⟨⟨k + 1, n, D1, by omega, by omega, by go_num, hs, hi, hst.up (by omega), htr⟩, by simp [intOf]; omega⟩
    · obtain rfl : k = 6 := by omega
      go_wp2_with fail
      go_ret
      exact ⟨_, D1, rfl, hi, hst, htr, n, by omega, hs⟩
end Go.Proofs.YtanekmfifmkbmaaGreatDoor
