/- Walks: copies of arguments. -/
import Derived.Test.YtdaafbjgjjhklaaWalkC
namespace Go.Proofs.Ytdaafbjgjjhklaa
set_option linter.unusedSimpArgs false
set_option linter.unusedVariables false
open Go.RowKit

set_option maxHeartbeats 400000

theorem infoBool : (Try.prog.info? 4).map (fun i => (i.zero, i.size, i.bytes)) = some (some (.bool false), 1, 1) := by kernel_rfl
theorem infoInts : (Try.prog.info? 94).map (fun i => (i.zero, i.size, i.bytes)) = some (some (.slice none 0 0), 1, 24) := by kernel_rfl

theorem toIntS_c (v : Value) (l : List Int) (w : World) (hv : IntsV w v l) (hn : l.length ≤ 1048576) :
    Calls Try.prog 90 #[v] w (Gives (fun v w' => IntsOwn 3 w.heap.size w' v l) w) := by
  obtain ⟨a, c, rfl, h1, h2⟩ := hv.open
  go_enter Try.func90, Try.ntmps90
  go_wp2_with (at_make; refine make1 rfl rfl Try.underlying94 infoInt rfl rfl rfl rfl (by omega) (by decide) (Nat.le_refl _) ?_; intro w1 hown hext hlt)
  go_loopw [4] (fun i wr => ∃ k : Nat, k ≤ l.length ∧ i = .int .i64 k ∧ wr.ownsRow w.heap.size 3 1 (.slice (some ⟨w.heap.size, 0, none⟩) l.length l.length) l.length (filled (l.map (Value.int .i64)) k (.int .i64 0)) ∧ Ext w wr) (fun i _ => l.length - (intOf i).toNat)
  case atStart => exact ⟨0, by omega, rfl, by rw [filled_zero]; simpa [toList_madeCells_one, Value.cells] using hown, hext⟩
  case round =>
    obtain ⟨k, hk, rfl, hown, hext⟩ := hrel
    by_cases hlt : k < l.length
    · obtain ⟨x, hx⟩ : ∃ x, l[k]? = some x := ⟨_, List.getElem?_eq_getElem hlt⟩
      obtain ⟨b, off, rfl, -, hc⟩ := h2 k x hx
      have g1 : wr.cell? ⟨b, off + k, none⟩ = some (.int .i64 x) := by have := hc k x hx; rw [Nat.mul_one] at this; exact hext.cell this
      have g2 := own_cell hown (filled_at (l.map (Value.int .i64)) k (.int .i64 0) (by simpa using hlt))
      have g3 := hown.frozenAt k
      have HX := Lib.hid hx
      clear hc hx h2
      go_wp2_with fail
      obtain ⟨o1, o2⟩ := hown.stored k (.int .i64 x)
      rw [filled_set _ _ _ _ (by simp [HX.out])] at o1
      exact ⟨⟨k + 1, by omega, by go_num, o1, hext.grown o2 hext.size fun j hj => by cases hj; exact Nat.le_refl _⟩, by simp [intOf]; omega⟩
    · obtain rfl : k = l.length := by omega
      go_wp2_with fail
      go_ret
      refine Gives.mk rfl hext ?_
      have := filled_full (l.map (Value.int .i64)) (.int .i64 0)
      rw [List.length_map] at this
      rw [this] at hown
      exact hown

theorem toBoolS_c (v : Value) (l : List Bool) (w : World) (hv : BoolsV w v l) (hn : l.length ≤ 1048576) :
    Calls Try.prog 52 #[v] w (Gives (fun v w' => BoolsOwn 4 w.heap.size w' v l) w) := by
  obtain ⟨a, c, rfl, h1, h2⟩ := hv.open
  go_enter Try.func52, Try.ntmps52
  go_wp2_with (at_make; refine make1 rfl rfl Try.underlying23 infoBool rfl rfl rfl rfl (by omega) (by decide) (Nat.le_refl _) ?_; intro w1 hown hext hlt)
  go_loopw [4] (fun i wr => ∃ k : Nat, k ≤ l.length ∧ i = .int .i64 k ∧ wr.ownsRow w.heap.size 4 1 (.slice (some ⟨w.heap.size, 0, none⟩) l.length l.length) l.length (filled (l.map (Value.bool)) k (.bool false)) ∧ Ext w wr) (fun i _ => l.length - (intOf i).toNat)
  case atStart => exact ⟨0, by omega, rfl, by rw [filled_zero]; simpa [toList_madeCells_one, Value.cells] using hown, hext⟩
  case round =>
    obtain ⟨k, hk, rfl, hown, hext⟩ := hrel
    by_cases hlt : k < l.length
    · obtain ⟨x, hx⟩ : ∃ x, l[k]? = some x := ⟨_, List.getElem?_eq_getElem hlt⟩
      obtain ⟨b, off, rfl, -, hc⟩ := h2 k x hx
      have g1 : wr.cell? ⟨b, off + k, none⟩ = some (.bool x) := by have := hc k x hx; rw [Nat.mul_one] at this; exact hext.cell this
      have g2 := own_cell hown (filled_at (l.map (Value.bool)) k (.bool false) (by simpa using hlt))
      have g3 := hown.frozenAt k
      have HX := Lib.hid hx
      clear hc hx h2
      go_wp2_with fail
      obtain ⟨o1, o2⟩ := hown.stored k (.bool x)
      rw [filled_set _ _ _ _ (by simp [HX.out])] at o1
      exact ⟨⟨k + 1, by omega, by go_num, o1, hext.grown o2 hext.size fun j hj => by cases hj; exact Nat.le_refl _⟩, by simp [intOf]; omega⟩
    · obtain rfl : k = l.length := by omega
      go_wp2_with fail
      go_ret
      refine Gives.mk rfl hext ?_
      have := filled_full (l.map (Value.bool)) (.bool false)
      rw [List.length_map] at this
      rw [this] at hown
      exact hown

theorem toIntSS_c (v : Value) (ll : List (List Int)) (w : World) (hv : IntssV w v ll) (hn : szss ll ≤ 1048576) :
    Calls Try.prog 51 #[v] w (Gives (fun v w' => IntssOwn 94 3 w.heap.size w' v ll) w) := by
  obtain ⟨a, c, rfl, h1, h2⟩ := hv.open
  have hlen : ll.length ≤ 1048576 := by unfold szss at hn; omega
  go_enter Try.func51, Try.ntmps51
  go_wp2_with (at_make; refine make1 rfl rfl Try.underlying22 infoInts rfl rfl rfl rfl (by omega) (by decide) (Nat.le_refl _) ?_; intro w1 hown hext hlt)
  go_loopw [4] (fun i wr => ∃ (k : Nat) (vs : List Value), k ≤ ll.length ∧ i = .int .i64 k ∧ wr.ownsRow w.heap.size 94 1 (.slice (some ⟨w.heap.size, 0, none⟩) ll.length ll.length) ll.length (vs ++ List.replicate (ll.length - k) (.slice none 0 0)) ∧ RowsAre 3 (w.heap.size + 1) wr vs (ll.take k) ∧ w.heap.size < wr.heap.size ∧ Ext w wr) (fun i _ => ll.length - (intOf i).toNat)
  case atStart => exact ⟨0, [], by omega, rfl, by simpa [toList_madeCells_one, Value.cells] using hown, RowsAre.nil _ _ _, hlt, hext⟩
  case round =>
    obtain ⟨k, vs, hk, rfl, hown, hrows, hsz, hext⟩ := hrel
    by_cases hlt : k < ll.length
    · obtain ⟨x, hx⟩ : ∃ x, ll[k]? = some x := ⟨_, List.getElem?_eq_getElem hlt⟩
      obtain ⟨b, off, rfl, -, hc⟩ := h2 k x hx
      obtain ⟨vx, g1, hvx⟩ := (hc k x hx).mono hext
      rw [Nat.mul_one] at g1
      have HX := Lib.hid hx
      have hxl : x.length ≤ 1048576 := by
        have h3 : x.length ≤ (ll.map List.length).sum := le_sum_of_mem (List.mem_map_of_mem (List.mem_of_getElem? hx))
        unfold szss at hn; omega
      have hvl := hrows.len
      rw [List.length_take, Nat.min_eq_left hk] at hvl
      have HVL := Lib.hid hvl
      clear hc hx h2 hvl
      go_wp2_with fail
      refine (toIntS_c _ x _ hvx hxl).mono ?_
      rintro e w2 ⟨vy, rfl, he2, hy⟩
      obtain ⟨ay, cy, rfl⟩ := hy.shape
      have hown2 := own_ext hown he2
      have g2 := own_cell hown2 (j := k) (u := .slice none 0 0) (by rw [List.getElem?_append_right (by rw [HVL.out]; exact Nat.le_refl _), HVL.out, Nat.sub_self, List.getElem?_replicate, if_pos (by omega)])
      have g3 := hown2.frozenAt k
      go_wp2_with fail
      obtain ⟨o1, o2⟩ := hown2.stored k (.slice ay x.length cy)
      have hp := (hrows.push (ll' := ll.take (k + 1)) he2 hy (by omega) (by rw [List.take_add_one, HX.out]; rfl)).kept o2 (by omega)
      refine ⟨⟨k + 1, vs ++ [.slice ay x.length cy], by omega, by go_num, ?_, hp, ?_, (hext.trans he2).grown o2 (hext.trans he2).size fun j hj => by cases hj; exact Nat.le_refl _⟩, by simp [intOf]; omega⟩
      · obtain ⟨m, hm⟩ : ∃ m, ll.length - k = m + 1 := ⟨ll.length - k - 1, by omega⟩
        rw [List.set_append_right _ _ (by rw [HVL.out]; exact Nat.le_refl _), HVL.out, Nat.sub_self, hm, List.replicate_succ, List.set_cons_zero] at o1
        rw [show ll.length - (k + 1) = m by omega, List.append_assoc]
        exact o1
      · have := o2.size; have := he2.size; omega
    · obtain rfl : k = ll.length := by omega
      go_wp2_with fail
      go_ret
      refine Gives.mk rfl hext ⟨vs, ?_, ?_, ?_⟩
      · simpa using hown
      · have h3 := hrows
        rw [List.take_length] at h3
        exact ⟨h3.len, fun j x l hx hl => (h3.row j x l hx hl).low (by omega), h3.apart⟩
      · intro j x hx
        rw [List.take_length] at hrows
        obtain ⟨l, hl⟩ : ∃ l, ll[j]? = some l := ⟨_, List.getElem?_eq_getElem (by rw [← hrows.len]; exact (List.getElem?_eq_some_iff.1 hx).1)⟩
        have h3 := hrows.row j x l hx hl
        cases hb : x.ownBlock with
        | none => exact .inl rfl
        | some g => have := (World.ownsRow.lt h3 g hb).1; exact .inr (fun h => by simp [Value.ownBlock] at h; omega)

end Go.Proofs.Ytdaafbjgjjhklaa
