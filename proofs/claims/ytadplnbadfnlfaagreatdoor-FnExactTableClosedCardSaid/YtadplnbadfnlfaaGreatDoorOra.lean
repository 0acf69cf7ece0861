/- Part of this seat's proofs, cut to what its law needs. -/

import Derived.Test.YtadplnbadfnlfaaGreatDoorTabR
import Derived.Test.YtadplnbadfnlfaaGreatDoorSafeK
import Derived.Test.YtadplnbadfnlfaaGreatDoorOrC
namespace Go.Proofs.YtadplnbadfnlfaaGreatDoor
set_option linter.unusedSimpArgs false
set_option linter.unusedVariables false
open Go Go.RowKit Go.Maps
set_option maxHeartbeats 2000000
set_option maxRecDepth 100000

def AskEnd (f : ByteArray → Bool) (m lo : Nat) (J : Nat → World → Prop) (c : Nat) (s : ByteArray) (w : World) (e : Ending) (w' : World) : Prop := e = .returned (.bool (f s)) ∧ J (c + s.size) w' ∧ Touch eK m lo w w'
def eT (T : TypeId) : Bool := !eK T
structure Ora (al : Int) (f : ByteArray → Bool) (m lo bs : Nat) (vo : Value) (J : Nat → World → Prop) : Prop where
  fn : (∃ ff p1 p2, vo = .func (.func ff) #[] #[p1, p2] ∧ (∀ args w, (callFunc ff args).run Tryz.prog w = .ok (.enter ff args) w) ∧
      ∀ c w s, J c w → c ≤ 90000000 → wordIn s al = true → s.size ≤ 10000 → Calls Tryz.prog ff #[.string s, p1, p2] w (AskEnd f m lo J c s w)) ∨
    (∃ ff p, vo = .func (.func ff) #[p] #[] ∧ (∀ args w, (callFunc ff args).run Tryz.prog w = .ok (.enter ff args) w) ∧
      ∀ c w s, J c w → c ≤ 90000000 → wordIn s al = true → s.size ≤ 10000 → Calls Tryz.prog ff #[p, .string s] w (AskEnd f m lo J c s w))
  keep : ∀ c w w' mN, bs ≤ mN → NoCells w mN → J c w → Touch eT mN bs w w' → J c w'
  mlt : m < bs
  llt : lo ≤ bs

section
variable {al : Int} {f : ByteArray → Bool} {m lo bs : Nat} {vo : Value} {J : Nat → World → Prop}
theorem Ora.ext (h : Ora al f m lo bs vo J) {c : Nat} {w w' : World} (hb : bs ≤ w.heap.size) (hJ : J c w) (he : Ext w w') : J c w' := h.keep c w w' w.heap.size hb (out_nc (Nat.le_refl _)) hJ (Touch.ext he)
theorem Ora.cell (h : Ora al f m lo bs vo J) {c : Nat} {w : World} (hb : bs ≤ w.heap.size) (hJ : J c w) {base g n sz : Nat} {e : TypeId} {v : Value} {xs : List Value} (ho : w.ownsRow base e sz v n xs) (hg : v.ownBlock = some g) (hE : eK e = false) (hl : bs ≤ base) (j : Nat) (u : Value) : J c (w.setCell ⟨g, j, none⟩ u) :=
  h.keep c w _ w.heap.size hb (out_nc (Nat.le_refl _)) hJ (Touch.cell ho hg (by unfold eT; rw [hE]; rfl) hl j u)

theorem marks_c (hO : Ora al f m lo bs vo J) (vr vc : Value) (cols : List ByteArray) (s : ByteArray) (c : Nat) (w : World) (hJ : J c w) (hc : c + 200000 ≤ 90000000) (hA : Asks al cols) (hws : wordIn s al = true) (hs : s.size ≤ 4000) (hC : ∀ w', Touch eK m lo w w' → StrsV w' vc cols) (hbs : bs ≤ w.heap.size) :
    Calls Tryz.prog 87 #[.agg #[.int .i64 al, vo], .agg #[vr, vc], .string s] w (fun e w' => e = .returned (.string (rowB f cols s)) ∧ (∃ c', c' ≤ c + 200000 ∧ J c' w') ∧ Touch eK m lo w w') := by
  have hC0 := hC w (Touch.refl _ _ _ _)
  obtain ⟨aC, cC, rfl, -, -⟩ := SlV.open hC0
  have HCV := Lib.hid hC
  have HO := Lib.hid hO
  have hm := hO.mlt
  have hlo := hO.llt
  have hc20 := hA.len
  have HA := Lib.hid hA
  have HWS := Lib.hid hws
  have HRB : Hid (rowB f cols s = ⟨(marksL f cols s).toArray⟩) := Lib.hid rfl
  have hml : (marksL f cols s).length = cols.length := by simp [marksL]
  obtain ⟨ro, hro⟩ : ∃ ro, rowB f cols s = ro := ⟨_, rfl⟩
  rw [hro] at HRB ⊢
  obtain ⟨wo, hwo⟩ : ∃ wo, wo = (w.alloc (.cells #[.int .i64 al, vo] 126)).alloc (.cells #[vr, .slice aC cols.length cC] 61) := ⟨_, rfl⟩
  have he : Ext w wo := by rw [hwo]; exact (Ext.alloc _ _).trans (Ext.alloc _ _)
  have b1 : Blk wo w.heap.size #[.int .i64 al, vo] 126 := by rw [hwo]; exact Ext.blk (Ext.alloc _ _)
  have b2 : Blk wo (w.heap.size + 1) #[vr, .slice aC cols.length cC] 61 := by rw [hwo]; exact Ext.blk1 (Ext.refl _)
  have hsz : w.heap.size + 2 ≤ wo.heap.size := by rw [hwo]; simp
  have hJ0 := hO.ext hbs hJ he
  have hbo : bs ≤ wo.heap.size := by omega
  clear hC hC0 hO hA hws hro hJ
  rcases HO.out.fn with ⟨ff, p1, p2, rfl, hent, hcall⟩ | ⟨ff, p1, rfl, hent, hcall⟩
  all_goals
    have HC := Lib.hid hcall
    clear hcall
    go_enter Tryz.func87, Tryz.ntmps87
    have b2_1 := b2.cell 1 rfl
    go_upto_region 1 with fail
    rw [← hwo]
    clear hwo
    go_wp2_with (at_make; refine make1 rfl rfl Tryz.underlying22 infoByte rfl rfl rfl rfl (by omega) (by decide) (Nat.le_refl _) ?_; intro w1 hown hext hlt; have b2_1' := (b2.ext hext).cell 1 rfl)
    clear b2_1 b2_1'
    have hown0 : w1.ownsRow wo.heap.size 5 1 (.slice (some ⟨wo.heap.size, 0, none⟩) cols.length cols.length) cols.length (filled ((marksL f cols s).map byteVal) 0 (.int .u8 0)) := by
      rw [filled_zero, List.length_map, hml]; simpa [toList_madeCells_one, Value.cells] using hown
    have hJ1 := HO.out.ext hbo hJ0 hext
    have b11 := b1.ext hext
    have b21 := b2.ext hext
    have ht1 : Touch eK m lo w w1 := Touch.ext (he.trans hext)
    generalize wo.heap.size = g at hown0 hsz hbo ⊢
    clear hown hext hJ0 he b1 b2 hlt
    clear wo
    go_loopw [17] (fun i wr => ∃ (k c' : Nat), k ≤ cols.length ∧ i = .int .i64 k ∧ c' ≤ c + k * 10000 ∧ J c' wr ∧ wr.ownsRow g 5 1 (.slice (some ⟨g, 0, none⟩) cols.length cols.length) cols.length (filled ((marksL f cols s).map byteVal) k (.int .u8 0)) ∧ Touch eK m lo w wr ∧ Blk wr w.heap.size _ 126 ∧ Blk wr (w.heap.size + 1) #[vr, .slice aC cols.length cC] 61) (fun i _ => cols.length - (intOf i).toNat)
    case atStart => exact ⟨0, c, by omega, rfl, by omega, hJ1, hown0, ht1, b11, b21⟩
    case round =>
      clear hJ1 hown0 ht1 b11 b21
      obtain ⟨k, c', hk, rfl, hc', hJ, hown, ht, b1, b2⟩ := hrel
      by_cases hlt : k < cols.length
      · obtain ⟨x, hx⟩ : ∃ x, cols[k]? = some x := ⟨_, List.getElem?_eq_getElem hlt⟩
        obtain ⟨aC', cC', eC, -, hat⟩ := SlV.open (HCV.out wr ht)
        cases eC
        obtain ⟨bc, oc, rfl, -, hcc⟩ := hat k x hx
        have q1 : wr.cell? ⟨bc, oc + k, none⟩ = some (.string x) := by have := hcc k x hx; unfold StrAt' at this; rwa [Nat.mul_one] at this
        have hxm := List.mem_of_getElem? hx
        have hxz := (HA.out.col x hxm).1
        have HW := Lib.hid (HA.out.word HWS.out hs hxm)
        have hov : ¬ 9223372036854775807 < s.size + x.size := by omega
        have hxs : (s ++ x).size ≤ 10000 := by rw [ByteArray.size_append]; omega
        have hks : (k : Int) < (cols.length : Int) := by omega
        have g2 := own_cell hown (filled_at ((marksL f cols s).map byteVal) k (.int .u8 0) (by simpa [hml] using hlt))
        have g3 := hown.frozenAt k
        have c1 := b1.cell 1 rfl
        have hng1 : w.heap.size ≠ g := by omega
        have hng2 : w.heap.size + 1 ≠ g := by omega
        have b1' := b1.other (p := ⟨g, k, none⟩) hng1 (.int .u8 45)
        have b2' := b2.other (p := ⟨g, k, none⟩) hng2 (.int .u8 45)
        have hszr : bs ≤ wr.heap.size := by have := ht.size; omega
        have hJ' := HO.out.cell hszr hJ hown rfl (by decide) (by omega) k (.int .u8 45)
        obtain ⟨o1, o2⟩ := hown.stored k (.int .u8 45)
        have ht' : Touch eK m lo w (wr.setCell ⟨g, k, none⟩ (.int .u8 45)) := ht.low ((Below.refl _ _).grown o2 ht.size (fun j hj => by cases hj; omega))
        have hmk : Hid (((marksL f cols s).map byteVal)[k]? = some (byteVal (mark (f (s ++ x))))) := Lib.hid (by simp [marksL, hx])
        have HCX := Lib.hid (HC.out c' _ (s ++ x) hJ' (by omega) HW.out hxs)
        have c1' := b1'.cell 1 rfl
        clear hx hat hcc hxm
        go_wp2_with fail
        refine HCX.out.mono ?_
        rintro e w3 ⟨rfl, hJ3, ht3⟩
        have o3 := ht3.kept o1 (by decide) (by omega)
        have b13 := ht3.blk b1' (by decide) (by omega)
        have b23 := ht3.blk b2' (by decide) (by omega)
        have t3 := ht'.trans ht3
        have h3 : c' + (s ++ x).size ≤ c + (k + 1) * 10000 := by omega
        cases hb : f (s ++ x) with
        | false =>
          rw [hb] at hmk
          have e4 : (filled ((marksL f cols s).map byteVal) k (.int .u8 0)).set k (.int .u8 45) = filled ((marksL f cols s).map byteVal) (k + 1) (.int .u8 0) := filled_set _ _ _ _ hmk.out
          rw [e4] at o3
          go_wp2_with fail
          exact ⟨⟨k + 1, _, by omega, by go_num, h3, hJ3, o3, t3, b13, b23⟩, by simp [intOf]; omega⟩
        | true =>
          rw [hb] at hmk
          have g4 := own_cell o3 (j := k) (u := .int .u8 45) (by rw [List.getElem?_set_self]; rw [filled_len _ _ _ (by simp [hml]; omega)]; simp [hml]; omega)
          have g5 := o3.frozenAt k
          obtain ⟨o5, o6⟩ := o3.stored k (.int .u8 43)
          have e4 : ((filled ((marksL f cols s).map byteVal) k (.int .u8 0)).set k (.int .u8 45)).set k (.int .u8 43) = filled ((marksL f cols s).map byteVal) (k + 1) (.int .u8 0) := by rw [List.set_set]; exact filled_set _ _ _ _ hmk.out
          rw [e4] at o5
          have hsz3 : bs ≤ w3.heap.size := by have := t3.size; omega
          have hJ5 := HO.out.cell hsz3 hJ3 o3 rfl (by decide) (by omega) k (.int .u8 43)
          have t5 : Touch eK m lo w (w3.setCell ⟨g, k, none⟩ (.int .u8 43)) := t3.low ((Below.refl _ _).grown o6 t3.size (fun j hj => by cases hj; omega))
          go_wp2_with fail
          exact ⟨⟨k + 1, _, by omega, by go_num, h3, hJ5, o5, t5, b13.other (p := ⟨g, k, none⟩) hng1 _, b23.other (p := ⟨g, k, none⟩) hng2 _⟩, by simp [intOf]; omega⟩
      · obtain rfl : k = cols.length := by omega
        have hfull := filled_full ((marksL f cols s).map byteVal) (.int .u8 0)
        rw [List.length_map, hml] at hfull
        rw [hfull] at hown
        have hbo : BytesOwn 5 g wr (.slice (some ⟨g, 0, none⟩) cols.length cols.length) (marksL f cols s) := by unfold BytesOwn; rw [hml]; exact hown
        have hst := hbo.string
        rw [← HRB.out] at hst
        clear hbo hown hfull
        go_wp2_with fail
        go_ret
        exact ⟨rfl, ⟨c', by omega, hJ⟩, ht⟩
end
--CUT--
end Go.Proofs.YtadplnbadfnlfaaGreatDoor
