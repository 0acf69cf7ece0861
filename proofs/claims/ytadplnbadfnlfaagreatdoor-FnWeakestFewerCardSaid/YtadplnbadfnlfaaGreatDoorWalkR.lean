/- Part of this seat's proofs, cut to what its law needs. -/

import Derived.Test.YtadplnbadfnlfaaGreatDoorWalkE
import Derived.Test.YtadplnbadfnlfaaGreatDoorRegion
import Derived.Test.YtadplnbadfnlfaaGreatDoorWalkH
import Derived.Test.YtadplnbadfnlfaaGreatDoorPlain2

namespace Go.Proofs.YtadplnbadfnlfaaGreatDoor
set_option linter.unusedSimpArgs false
set_option linter.unusedVariables false
open Go.RowKit

set_option maxHeartbeats 800000
set_option maxRecDepth 20000

section
variable {P : Program} {ops : Array Oper} {rest : List Oper} {o : Oper} {a : Act} {Q : Exit → Act → World → Prop}
theorem appN {wr : World} {s x : Operand} {t e : TypeId} {base size bytes n m c : Nat} {ad : Addr} {z v : Value} {xs news : List Value} (hgd : o.guard = none)
    (ho : o.op = .call { callee := .builtin .append, args := #[s, x], argTypes := #[t, t] })
    (ht : P.underlying t = some (.slice e)) (hinfo : (P.info? e).map (fun i => (i.zero, i.size, i.bytes)) = some (some z, size, bytes)) (hzs : z.cells.size = size) (hsz : 0 < size)
    (hown : wr.ownsRow base e size v n xs) (hs : a.eval s = v) (hx : a.eval x = .slice (some ad) m c) (hl : news.length = m * size) (hnews : ∀ j u, news[j]? = some u → wr.cell? (ad.add j) = some u) (h1 : ∀ u ∈ news, u.oneCell' = true)
    (hn : n + m ≤ 4294967296) (hb : bytes ≤ 1024) (hbase : base ≤ wr.heap.size)
    (h : ∀ v' w', w'.ownsRow base e size v' (n + m) (xs ++ news) → wr.grownBy w' v.ownBlock → Below base wr w' → wpList P ops Q rest (a.put o.dst v') w') :
    wpList P ops Q (o :: rest) a wr := by
  obtain ⟨i, hi, hz, hsize, hby⟩ := info_parts hinfo
  refine wpList_append_own _ hgd s x t ho base e i z size bytes ht hi hz hsize hby hzs hsz v n xs hs hown ad m c news hx hl hnews h1 (by unfold maxLen; omega) ?_ hbase ?_
  · have := Nat.mul_le_mul hn hb; omega
  · intro v' w' h1 h2 _
    exact h v' w' h1 h2 ((Below.refl _ _).grown h2 hbase fun k hk => (World.ownsRow.lt hown k hk).1)
end

theorem add_none (b off j : Nat) : (⟨b, off, none⟩ : Addr).add j = ⟨b, off + j, none⟩ := by unfold Addr.add; split <;> simp_all
theorem BoolsV.cells {w : World} {ad : Addr} {c : Nat} {l : List Bool} (h : BoolsV w (.slice (some ad) l.length c) l) : ∀ j u, (l.map Value.bool)[j]? = some u → w.cell? (ad.add j) = some u := fun j u hu => by
  obtain ⟨a, c', he, -, h2⟩ := h.open
  cases he
  rw [List.getElem?_map] at hu
  obtain ⟨x, hx, rfl⟩ := Option.map_eq_some_iff.1 hu
  obtain ⟨b, off, he, -, hc⟩ := h2 j x hx
  cases he
  have := hc j x hx
  rw [Nat.mul_one] at this
  rw [add_none]
  exact this
theorem IntsV.cells {w : World} {ad : Addr} {c : Nat} {l : List Int} (h : IntsV w (.slice (some ad) l.length c) l) : ∀ j u, (l.map (Value.int .i64))[j]? = some u → w.cell? (ad.add j) = some u := fun j u hu => by
  obtain ⟨a, c', he, -, h2⟩ := h.open
  cases he
  rw [List.getElem?_map] at hu
  obtain ⟨x, hx, rfl⟩ := Option.map_eq_some_iff.1 hu
  obtain ⟨b, off, he, -, hc⟩ := h2 j x hx
  cases he
  have := hc j x hx
  rw [Nat.mul_one] at this
  rw [add_none]
  exact this
theorem edgeCells_get {l : List Edge} {j : Nat} {u : Value} (h : (edgeCells l)[j]? = some u) : ∃ e, l[j / 3]? = some e ∧ ((j % 3 = 0 ∧ u = .int .i64 e.src) ∨ (j % 3 = 1 ∧ u = .int .i64 e.letter) ∨ (j % 3 = 2 ∧ u = .int .i64 e.dst)) := by
  have hl := edgeCells_len l
  have hj := (List.getElem?_eq_some_iff.1 h).1
  have hd : j / 3 < l.length := by omega
  obtain ⟨e, he⟩ : ∃ e, l[j / 3]? = some e := ⟨_, List.getElem?_eq_getElem hd⟩
  obtain ⟨h1, h2, h3⟩ := edgeCells_at l (j / 3) e he
  refine ⟨e, he, ?_⟩
  have hm : j % 3 = 0 ∨ j % 3 = 1 ∨ j % 3 = 2 := by omega
  rcases hm with hm | hm | hm
  · rw [show j / 3 * 3 = j by omega, h] at h1; cases h1; exact .inl ⟨hm, rfl⟩
  · rw [show j / 3 * 3 + 1 = j by omega, h] at h2; cases h2; exact .inr (.inl ⟨hm, rfl⟩)
  · rw [show j / 3 * 3 + 2 = j by omega, h] at h3; cases h3; exact .inr (.inr ⟨hm, rfl⟩)
theorem EdgesV.cells {w : World} {ad : Addr} {c : Nat} {l : List Edge} (h : EdgesV w (.slice (some ad) l.length c) l) : ∀ j u, (edgeCells l)[j]? = some u → w.cell? (ad.add j) = some u := fun j u hu => by
  obtain ⟨a, c', he, -, h2⟩ := h.open
  cases he
  obtain ⟨e, hx, hu⟩ := edgeCells_get hu
  obtain ⟨b, off, he, -, hc⟩ := h2 _ e hx
  cases he
  obtain ⟨q1, q2, q3⟩ := hc _ e hx
  rw [add_none]
  rcases hu with ⟨hm, rfl⟩ | ⟨hm, rfl⟩ | ⟨hm, rfl⟩
  · rw [show off + j = off + j / 3 * 3 by omega]; exact q1
  · rw [show off + j = off + j / 3 * 3 + 1 by omega]; exact q2
  · rw [show off + j = off + j / 3 * 3 + 2 by omega]; exact q3
theorem SlV.nil_of_none {α : Type} {E : World → Nat → Nat → α → Prop} {sz : Nat} {w : World} {n c : Nat} {xs : List α} (h : SlV E sz w (.slice none n c) xs) : xs = [] := by
  obtain ⟨a, c', he, -, -, h3⟩ := h
  cases he
  cases xs with
  | nil => rfl
  | cons x xs => obtain ⟨b, off, he, _⟩ := h3 (by simp); cases he

end Go.Proofs.YtadplnbadfnlfaaGreatDoor

namespace Go.Proofs.YtadplnbadfnlfaaGreatDoor
set_option linter.unusedSimpArgs false
set_option linter.unusedVariables false
open Go.RowKit

set_option maxHeartbeats 800000

theorem own_apart' {w : World} {base base' : Nat} {e e' : TypeId} {size size' n n' : Nat} {v v' : Value} {xs xs' : List Value} (h : w.ownsRow base e size v n xs) (h' : w.ownsRow base' e' size' v' n' xs') (hne : e ≠ e') : ∀ g, v.ownBlock = some g → v'.ownBlock ≠ some g := by
  intro g hg hg'
  rcases h.2 with ⟨rfl, _⟩ | ⟨g1, cap, cur, rfl, hb, hw, r⟩
  · simp [Value.ownBlock] at hg
  · rcases h'.2 with ⟨rfl, _⟩ | ⟨g2, cap', cur', rfl, hb', hw', r'⟩
    · simp [Value.ownBlock] at hg'
    · simp [Value.ownBlock] at hg hg'
      subst hg; subst hg'
      rw [hw] at hw'
      cases hw'
      exact hne rfl
theorem own_any' {w : World} {base : Nat} {e : TypeId} {size n : Nat} {v : Value} {xs : List Value} (h : w.ownsRow base e size v n xs) : ∃ a c, v = .slice a n c := by
  rcases own_shape h with ⟨rfl, rfl⟩ | ⟨g, cap, rfl, _⟩
  · exact ⟨_, _, rfl⟩
  · exact ⟨_, _, rfl⟩
theorem own_store {w : World} {base : Nat} {e T : TypeId} {size n g : Nat} {v : Value} {xs : List Value} {cs : Array Value} (h : w.ownsRow base e size v n xs) (hG : Blk w g cs T) (hne : T ≠ e) (j : Nat) (u : Value) : (w.setCell ⟨g, j, none⟩ u).ownsRow base e size v n xs := by
  refine ⟨h.1, ?_⟩
  rcases h.2 with h1 | ⟨g1, cap, cur, rfl, hb, hw, r⟩
  · exact .inl h1
  · refine .inr ⟨g1, cap, cur, rfl, hb, ?_, r⟩
    rw [Below.heap_setCell w ⟨g, j, none⟩ u g1 (fun he => by subst he; rw [show w.heap[g1]? = _ from hG] at hw; cases hw; exact hne rfl)]
    exact hw
theorem RowsAre.setOther {w : World} {e T : TypeId} {base g : Nat} {vs : List Value} {ll : List (List Int)} {cs : Array Value} (h : RowsAre e base w vs ll) (hG : Blk w g cs T) (hne : T ≠ e) (j : Nat) (u : Value) : RowsAre e base (w.setCell ⟨g, j, none⟩ u) vs ll :=
  ⟨h.len, fun i x l hx hl => own_store (h.row i x l hx hl) hG hne j u, h.apart⟩
theorem own_grown {w w' : World} {base base' : Nat} {e e' : TypeId} {size size' n n' : Nat} {v u : Value} {xs us : List Value} (h : w.ownsRow base e size v n xs) (hu : w.ownsRow base' e' size' u n' us) (hg : w.grownBy w' u.ownBlock) (hne : e ≠ e') : w'.ownsRow base e size v n xs := by
  refine World.ownsRow.kept h hg ?_
  cases hb : v.ownBlock with
  | none => exact .inl rfl
  | some q => exact .inr fun he => own_apart' h hu hne q hb he.symm
theorem RowsAre.grown {w w' : World} {e e' : TypeId} {base base' : Nat} {vs : List Value} {ll : List (List Int)} {size' n' : Nat} {u : Value} {us : List Value} (h : RowsAre e base w vs ll) (hu : w.ownsRow base' e' size' u n' us) (hg : w.grownBy w' u.ownBlock) (hne : e ≠ e') : RowsAre e base w' vs ll :=
  ⟨h.len, fun i x l hx hl => own_grown (h.row i x l hx hl) hu hg hne, h.apart⟩

theorem Blk.grown {w w' : World} {base' b : Nat} {T e' : TypeId} {size' n' : Nat} {u : Value} {us : List Value} {cs : Array Value} (h : Blk w b cs T) (hu : w.ownsRow base' e' size' u n' us) (hg : w.grownBy w' u.ownBlock) (hne : T ≠ e') : Blk w' b cs T := by
  refine (hg.block b h.lt fun he => ?_).trans h
  rcases hu.2 with ⟨rfl, _⟩ | ⟨g1, cap, cur, rfl, _, hw, _⟩
  · simp [Value.ownBlock] at he
  · simp [Value.ownBlock] at he
    subst he
    rw [show w.heap[b]? = _ from h] at hw
    cases hw
    exact hne rfl

end Go.Proofs.YtadplnbadfnlfaaGreatDoor

namespace Go.Proofs.YtadplnbadfnlfaaGreatDoor
set_option linter.unusedSimpArgs false
set_option linter.unusedVariables false
open Go.RowKit

set_option maxHeartbeats 1000000

def zeroTask : Task := ⟨⟨0, 0, []⟩, ⟨0, [], []⟩, 0⟩
def taskOf (S : Sys) (A : Auto) (O : Sys) : Task := if interfaceOf S A O < 0 then zeroTask else ⟨S, A, interfaceOf S A O⟩
def TaskOfEnd (S : Sys) (A : Auto) (O : Sys) (w : World) (e : Ending) (w' : World) : Prop := ∃ vt, e = .returned (.tuple #[vt, .bool (decide (0 ≤ interfaceOf S A O))]) ∧ Ext w w' ∧ TaskOwn w.heap.size w' vt (taskOf S A O)

theorem intss_store {w : World} {base : Nat} {e2 e1 T : TypeId} {g : Nat} {v : Value} {ll : List (List Int)} {cs : Array Value} (h : IntssOwn e2 e1 base w v ll) (hG : Blk w g cs T) (hne : T ≠ e2) (hne1 : T ≠ e1) (j : Nat) (u : Value) : IntssOwn e2 e1 base (w.setCell ⟨g, j, none⟩ u) v ll :=
  let ⟨vs, h1, h2, h3⟩ := h; ⟨vs, own_store h1 hG hne j u, h2.setOther hG hne1 j u, h3⟩

end Go.Proofs.YtadplnbadfnlfaaGreatDoor

namespace Go.Proofs.YtadplnbadfnlfaaGreatDoor
set_option linter.unusedSimpArgs false
set_option linter.unusedVariables false
open Go.RowKit

set_option maxHeartbeats 1000000

def fullSet (n : Nat) : Int := ((2 ^ n : Nat) : Int) - 1
theorem fullSet_all : ∀ n ∈ List.range 17, ∀ i ∈ List.range n, bit (fullSet n) (Int.ofNat i) = true := by decide +kernel
theorem fullSet_bit {n i : Nat} (hn : n ≤ 16) (hi : i < n) : bit (fullSet n) i = true := fullSet_all n (List.mem_range.2 (by omega)) i (List.mem_range.2 hi)

theorem l1Bit_c (n : Nat) (w : World) (hn : n ≤ 16) : Calls Tryz.prog 267 #[.int .i64 n] w (Same (.int .i64 ((2 ^ n : Nat) : Int)) w) := by
  have hc : n = 0 ∨ n = 1 ∨ n = 2 ∨ n = 3 ∨ n = 4 ∨ n = 5 ∨ n = 6 ∨ n = 7 ∨ n = 8 ∨ n = 9 ∨ n = 10 ∨ n = 11 ∨ n = 12 ∨ n = 13 ∨ n = 14 ∨ n = 15 ∨ n = 16 := by omega
  go_enter Tryz.func267, Tryz.ntmps267
  go_wp2_with fail
  go_ret
  refine Same.mk ?_
  show Value.int .i64 (wrap64 (2 ^ n)) = _
  rcases hc with rfl | rfl | rfl | rfl | rfl | rfl | rfl | rfl | rfl | rfl | rfl | rfl | rfl | rfl | rfl | rfl | rfl <;> (refine congrArg _ ?_; unfold wrap64; decide)

theorem l2Rank_c (set : Int) (n : Nat) (w : World) (hs : 0 ≤ set) (hs2 : set ≤ 9223372036854775807) (hn : n ≤ 16) (hb : ∀ i : Nat, i < n → bit set i = true) :
    Calls Tryz.prog 312 #[.int .i64 set, .int .i64 n] w (Same (.int .i64 n) w) := by
  have HB := Lib.hid hb
  clear hb
  go_enter Tryz.func312, Tryz.ntmps312
  go_wp2_with fail
  go_loop [5, 6] (fun p i => ∃ k : Nat, k ≤ n ∧ i = .int .i64 k ∧ p = .int .i64 k) (fun _ i => n - (intOf i).toNat)
  case atStart => exact ⟨0, by omega, rfl, rfl⟩
  case round =>
    obtain ⟨k, hk, rfl, rfl⟩ := hrel
    by_cases hlt : k < n
    · have hb := HB.out k hlt
      go_wp2_with (go_at_call 147; refine (l1Has_c _ _ _ (by omega) (by omega) (by omega) (by omega)).mono ?_; rintro e w' ⟨rfl, rfl⟩)
      exact ⟨⟨k + 1, by omega, by go_num, by go_num⟩, by simp [intOf]; omega⟩
    · obtain rfl : k = n := by omega
      go_wp2_with fail
      go_ret
      exact Same.mk rfl

theorem l2Rank_x (set y : Int) (w : World) (hs : 0 ≤ set) (hs2 : set ≤ 9223372036854775807) (hy : 0 ≤ y) (hn : y ≤ 16) (hb : ∀ i : Nat, (i : Int) < y → bit set i = true) :
    Calls Tryz.prog 312 #[.int .i64 set, .int .i64 y] w (Same (.int .i64 y) w) := by
  obtain ⟨n, rfl⟩ := Int.eq_ofNat_of_zero_le hy
  exact l2Rank_c set n w hs hs2 (by omega) fun i hi => hb i (by omega)

theorem l2Keep_c (v : Value) (al : Int) (ns : Nat) (es : List Edge) (w : World) (hv : SysV w v ⟨al, ns, es⟩) (hns : ns ≤ 16) (hes : es.length ≤ 1048576) (hin : ∀ e ∈ es, 0 ≤ e.src ∧ e.src < ns ∧ 0 ≤ e.dst ∧ e.dst < ns) :
    Calls Tryz.prog 304 #[v, .int .i64 (fullSet ns)] w (Gives (fun v w' => SysOwn w.heap.size w' v ⟨al, ns, es⟩) w) := by
  obtain ⟨ve, rfl, h1⟩ := hv
  have h1 : EdgesV w ve es := h1
  obtain ⟨ae, ce, rfl, -, hn⟩ := h1.open
  have hfs : 0 ≤ fullSet ns ∧ fullSet ns ≤ 65535 := by
    unfold fullSet
    have h1 : 2 ^ ns ≤ 2 ^ 16 := Nat.pow_le_pow_right (by omega) hns
    have h2 : 0 < 2 ^ ns := Nat.two_pow_pos ns
    omega
  have HF := Lib.hid (fun i (h : i < ns) => fullSet_bit hns h)
  generalize fullSet ns = fs at hfs HF ⊢
  obtain ⟨hf1, hf2⟩ := hfs
  obtain ⟨wo, hwo⟩ : ∃ wo, wo = (w.alloc (.cells #[.int .i64 al, .int .i64 ns, .slice ae es.length ce] 25)).alloc (.cells #[.int .i64 0, .int .i64 0, .slice none 0 0] 25) := ⟨_, rfl⟩
  have he : Ext w wo := by rw [hwo]; exact (Ext.alloc _ _).trans (Ext.alloc _ _)
  have hB : Blk wo w.heap.size #[.int .i64 al, .int .i64 ns, .slice ae es.length ce] 25 := by rw [hwo]; exact (Blk.new _ _ _).ext (Ext.alloc _ _)
  have hR : Blk wo (w.heap.size + 1) #[.int .i64 0, .int .i64 0, .slice none 0 0] 25 := by rw [hwo]; have := Blk.new (w.alloc (.cells #[.int .i64 al, .int .i64 ns, .slice ae es.length ce] 25)) #[.int .i64 0, .int .i64 0, .slice none 0 0] 25; rwa [World.size_alloc] at this
  have hwos : w.heap.size + 2 ≤ wo.heap.size := by rw [hwo]; simp
  go_enter Tryz.func304, Tryz.ntmps304
  go_wp2_with fail
  rw [← hwo]
  clear hwo
  have D0 := fun d os => cell_regrown (hB.cell 0 rfl) d os
  have D1 := fun d os => cell_regrown (hB.cell 1 rfl) d os
  obtain ⟨Kc, HKc⟩ : ∃ Kc : FuncId → Array Value → World → Value → World → Prop, Hid (Kc = fun _ _ w0 v w' => Ext w0 w' ∧ v = .int .i64 ns) := ⟨_, rfl⟩
  refine wp_region_ext (Kc := Kc) 8 (by kernel_rfl) (by kernel_rfl) ?_
  simp only [List.take_succ_cons, List.take_zero]
  repeat (refine WalkE.pure rfl (fun K hK => ?_); simp only [PureDo]; go_simp; refine hK _ ?_; clear hK K)
  refine WalkE.step (fun K hK wc hwc hdc => ?_)
  simp only [OpDo, OpSafe, OpOut]
  go_simp
  refine ⟨(l2Rank_c _ ns _ hf1 (by omega) hns (HF.out)).mono ?_, ?_⟩
  · rintro e w' ⟨rfl, rfl⟩
    exact ⟨_, rfl, by rw [HKc.out]; exact ⟨Ext.refl _, rfl⟩⟩
  intro u w4 hk
  rw [HKc.out] at hk
  obtain ⟨hk1, rfl⟩ := hk
  refine ⟨hk1, hK _ _ ?_⟩
  clear hK K hdc hk1
  repeat (refine WalkE.pure rfl (fun K hK => ?_); simp only [PureDo]; go_simp; refine hK _ ?_; clear hK K)
  refine WalkE.step (fun K hK wd hwd hdd => ?_)
  simp only [OpDo, OpSafe, OpOut]
  go_simp
  refine ⟨Ext.alloc _ _, hK _ _ ?_⟩
  clear hK K hdd
  refine WalkE.nil (fun wn hwn hmn => ?_)
  simp only [List.drop_succ_cons, List.drop_zero, List.drop_nil]
  have hge : w.heap.size + 2 ≤ wd.heap.size := Nat.le_trans hwos hwd.size
  have hG := (Blk.new wd _ _).ext (hmn 7 (by omega))
  have hBn := hB.ext ((Ext.drew _).trans hwn)
  have hRn := hR.ext ((Ext.drew _).trans hwn)
  have hwn' := he.trans ((Ext.drew _).trans hwn)
  clear hmn hwd hwc HKc D0 D1 hB hR hwn
  generalize wd.heap.size = g at hG hge ⊢
  clear wd wc w4
  have gc0 := hG.cell 0 rfl; have gf0 := hG.fr 0; have gc1 := hG.cell 1 rfl; have gf1 := hG.fr 1; have gc2 := hG.cell 2 rfl; have gf2 := hG.fr 2
  go_wp2_with fail
  have hG1 := ((hG.set 0 (.int .i64 al)).set 1 (.int .i64 ns)).set 2 (.slice none 0 0)
  generalize hW1 : ((wn.setCell ⟨g, 0, none⟩ (.int .i64 al)).setCell ⟨g, 1, none⟩ (.int .i64 ns)).setCell ⟨g, 2, none⟩ (.slice none 0 0) = w1 at hG1 ⊢
  have hR1 : Blk w1 (w.heap.size + 1) #[.int .i64 0, .int .i64 0, .slice none 0 0] 25 := by rw [← hW1]; exact (((hRn.other (p := ⟨g, 0, none⟩) (by simp only []; omega) _).other (p := ⟨g, 1, none⟩) (by simp only []; omega) _).other (p := ⟨g, 2, none⟩) (by simp only []; omega) _)
  have hB1 : Blk w1 w.heap.size #[.int .i64 al, .int .i64 ns, .slice ae es.length ce] 25 := by rw [← hW1]; exact (((hBn.other (p := ⟨g, 0, none⟩) (by simp only []; omega) _).other (p := ⟨g, 1, none⟩) (by simp only []; omega) _).other (p := ⟨g, 2, none⟩) (by simp only []; omega) _)
  have hw1 : Ext w w1 := by rw [← hW1]; exact (((hwn'.setCell (p := ⟨g, 0, none⟩) (by simp only []; omega) _).setCell (p := ⟨g, 1, none⟩) (by simp only []; omega) _).setCell (p := ⟨g, 2, none⟩) (by simp only []; omega) _)
  clear hW1 hG hBn hRn gc0 gc1 gc2 gf0 gf1 gf2
  go_loopw [6, 32, 33, 34, 35] (fun i _ _ _ _ wr => ∃ (k : Nat) (vE : Value), k ≤ es.length ∧ i = .int .i64 k ∧ Blk wr g #[.int .i64 al, .int .i64 ns, vE] 25 ∧ wr.ownsRow w.heap.size 103 3 vE k (edgeCells (es.take k)) ∧ Blk wr w.heap.size #[.int .i64 al, .int .i64 ns, .slice ae es.length ce] 25 ∧ Blk wr (w.heap.size + 1) #[.int .i64 0, .int .i64 0, .slice none 0 0] 25 ∧ Ext w wr) (fun i _ _ _ _ _ => es.length - (intOf i).toNat)
  case atStart => exact ⟨0, .slice none 0 0, by omega, rfl, hG1, World.ownsRow_nil _ _ _ _, hB1, hR1, hw1⟩
  case round =>
    clear hG1 hB1 hR1 hw1
    obtain ⟨k, vE, hk, rfl, hG, hE, hB, hR, hext⟩ := hrel
    have b2 : wr.cell? ⟨w.heap.size, 2, none⟩ = some (.slice ae es.length ce) := hB.cell 2 rfl
    obtain ⟨aE, cE, rfl⟩ := own_any' hE
    by_cases hlt : k < es.length
    · obtain ⟨x, hx⟩ : ∃ x, es[k]? = some x := ⟨_, List.getElem?_eq_getElem hlt⟩
      obtain ⟨b, off, rfl, -, hc⟩ := hn k x hx
      obtain ⟨q1, q2, q3⟩ := (hc k x hx).mono hext
      obtain ⟨i1, i2, i3, i4⟩ := hin x (List.mem_of_getElem? hx)
      have HX := Lib.hid hx
      have hs1 := HF.out x.src.toNat (by omega)
      have hs2 := HF.out x.dst.toNat (by omega)
      rw [Int.toNat_of_nonneg i1] at hs1
      rw [Int.toNat_of_nonneg i3] at hs2
      clear hc hn hx
      go_wp2_with (go_at_call 147; refine (l1Has_c _ _ _ (by omega) (by omega) (by omega) (by omega)).mono ?_; rintro e w' ⟨rfl, rfl⟩)
      obtain ⟨wo2, hwo2⟩ : ∃ wo2, wo2 = wr.alloc (.cells #[.int .i64 x.src, .int .i64 x.letter, .int .i64 x.dst] 103) := ⟨_, rfl⟩
      have hx2 : Ext wr wo2 := by rw [hwo2]; exact Ext.alloc _ _
      have hT : Blk wo2 wr.heap.size #[.int .i64 x.src, .int .i64 x.letter, .int .i64 x.dst] 103 := by rw [hwo2]; exact Blk.new _ _ _
      rw [← hwo2]
      clear hwo2 q1 q2 q3 b2 hs1 hs2
      have D0 := fun d os => cell_regrown ((hG.ext hx2).cell 2 rfl) d os
      have D1 := fun d os => cell_regrown (hT.cell 0 rfl) d os
      have D2 := fun d os => cell_regrown (hT.cell 1 rfl) d os
      have D3 := fun d os => cell_regrown (hT.cell 2 rfl) d os
      obtain ⟨Kc, HKc⟩ : ∃ Kc : FuncId → Array Value → World → Value → World → Prop, Hid (Kc = fun (_ : FuncId) (args : Array Value) (w0 : World) (v : Value) (w' : World) => Ext w0 w' ∧ args.getD 1 undef = v) := ⟨_, rfl⟩
      refine wp_region_ext (Kc := Kc) 14 (by kernel_rfl) (by kernel_rfl) ?_
      simp only [List.take_succ_cons, List.take_zero]
      repeat (refine WalkE.pure rfl (fun K hK => ?_); simp only [PureDo]; go_simp; refine hK _ ?_; clear hK K)
      refine WalkE.step (fun K hK wc hwc hdc => ?_)
      simp only [OpDo, OpSafe, OpOut]
      go_simp
      refine ⟨(l2Rank_x fs x.src _ hf1 (by omega) i1 (by omega) (fun i hi => HF.out i (by omega))).mono ?_, ?_⟩
      · rintro e w' ⟨rfl, rfl⟩
        exact ⟨_, rfl, by rw [HKc.out]; exact ⟨Ext.refl _, rfl⟩⟩
      intro u w4 hk
      rw [HKc.out] at hk
      obtain ⟨hk1, hk2⟩ := hk
      simp only [Array.getD] at hk2; simp at hk2
      subst hk2
      refine ⟨hk1, hK _ _ ?_⟩
      clear hK K hdc hk1
      repeat (refine WalkE.pure rfl (fun K hK => ?_); simp only [PureDo]; go_simp; refine hK _ ?_; clear hK K)
      refine WalkE.step (fun K hK wd hwd hdd => ?_)
      simp only [OpDo, OpSafe, OpOut]
      go_simp
      refine ⟨(l2Rank_x fs x.dst _ hf1 (by omega) i3 (by omega) (fun i hi => HF.out i (by omega))).mono ?_, ?_⟩
      · rintro e w' ⟨rfl, rfl⟩
        exact ⟨_, rfl, by rw [HKc.out]; exact ⟨Ext.refl _, rfl⟩⟩
      intro u w5 hk
      rw [HKc.out] at hk
      obtain ⟨hk1, hk2⟩ := hk
      simp only [Array.getD] at hk2; simp at hk2
      subst hk2
      refine ⟨hk1, hK _ _ ?_⟩
      clear hK K hdd hk1
      repeat (refine WalkE.pure rfl (fun K hK => ?_); simp only [PureDo]; go_simp; refine hK _ ?_; clear hK K)
      refine WalkE.step (fun K hK we hwe hde => ?_)
      simp only [OpDo, OpSafe, OpOut]
      go_simp
      refine ⟨Ext.alloc _ _, hK _ _ ?_⟩
      clear hK K hde
      refine WalkE.nil (fun wn hwn hmn => ?_)
      simp only [List.drop_succ_cons, List.drop_zero, List.drop_nil]
      have hx : Ext wr wn := hx2.trans ((Ext.drew _).trans hwn)
      have hE2 := own_ext hE hx
      have hG2 := hG.ext hx
      have hR2 := hR.ext hx
      have hB2 := hB.ext hx
      have hext2 := hext.trans hx
      have hsz := hext2.size
      have hl := (hmn 13 (by omega))
      have l0 := hl.new 0 rfl
      have l1 := hl.new 1 rfl
      have l2 := hl.new 2 rfl
      have hkl : (es.take k).length ≤ 1048576 := by rw [List.length_take]; omega
      have hcell : ∀ (j : Nat) (u : Value), [Value.int .i64 x.src, Value.int .i64 x.letter, Value.int .i64 x.dst][j]? = some u → wn.cell? ((⟨we.heap.size, 0, none⟩ : Addr).add j) = some u := fun j u hu => by
        rw [add_none, Nat.zero_add]
        match j, hu with
        | 0, hu => simp at hu; subst hu; exact l0
        | 1, hu => simp at hu; subst hu; exact l1
        | 2, hu => simp at hu; subst hu; exact l2
        | j + 3, hu => simp at hu
      clear l0 l1 l2 hl hmn HKc D0 D1 D2 D3 hE hG hR hB hext hT hwn hwc hwd hwe hx2
      generalize we.heap.size = q at hcell ⊢
      clear we wd wc w4 w5
      go_wp2_with (at_builtin; refine appN (news := [Value.int .i64 x.src, Value.int .i64 x.letter, Value.int .i64 x.dst]) rfl rfl Tryz.underlying23 infoEdge rfl (by decide) hE2 rfl rfl (by simp) hcell (by simp [Value.oneCell']) (by omega) (by decide) hsz ?_; intro v1 w1 hown1 hgr1 hbl1; obtain ⟨a1, c1, rfl⟩ := own_any' hown1; have hG3 := hG2.grown hE2 hgr1 (by decide); have gc2 := hG3.cell 2 rfl; have gf2 := hG3.fr 2)
      have hcs : edgeCells (es.take (k + 1)) = edgeCells (es.take k) ++ [.int .i64 x.src, .int .i64 x.letter, .int .i64 x.dst] := by
        rw [List.take_add_one, HX.out, edgeCells_append]; simp [edgeCells]
      refine ⟨⟨k + 1, _, by omega, by go_num, hG3.set 2 _, ?_, (hB2.grown hE2 hgr1 (by decide)).other (p := ⟨g, 2, none⟩) (by simp only []; omega) _, (hR2.grown hE2 hgr1 (by decide)).other (p := ⟨g, 2, none⟩) (by simp only []; omega) _, (Below.trans hext2 hbl1).setCell (p := ⟨g, 2, none⟩) (by simp only []; omega) _⟩, by simp [intOf]; omega⟩
      rw [hcs]
      exact own_store hown1 hG3 (by decide) 2 _
    · obtain rfl : k = es.length := by omega
      have c0 := hG.cell 0 rfl
      have c1 := hG.cell 1 rfl
      have c2 := hG.cell 2 rfl
      have rc0 := hR.cell 0 rfl; have rf0 := hR.fr 0; have rc1 := hR.cell 1 rfl; have rf1 := hR.fr 1; have rc2 := hR.cell 2 rfl; have rf2 := hR.fr 2
      go_wp2_with fail
      refine bodyPost_ret (v := .agg #[.int .i64 al, .int .i64 ns, .slice aE es.length cE]) (by simp [results, Tryz.results304, go_sem, rc0, rc1, rc2, rf0, rf1, rf2]) rfl ?_
      rw [List.take_length] at hE
      have hR1 := hR.set 0 (.int .i64 al)
      have hR2 := hR1.set 1 (.int .i64 ns)
      exact ⟨_, rfl, (((hext.setCell (p := ⟨(w.heap.size + 1), 0, none⟩) (by simp only []; omega) _).setCell (p := ⟨(w.heap.size + 1), 1, none⟩) (by simp only []; omega) _).setCell (p := ⟨(w.heap.size + 1), 2, none⟩) (by simp only []; omega) _), _, rfl, own_store (own_store (own_store hE hR (by decide) 0 _) hR1 (by decide) 1 _) hR2 (by decide) 2 _⟩
end Go.Proofs.YtadplnbadfnlfaaGreatDoor
