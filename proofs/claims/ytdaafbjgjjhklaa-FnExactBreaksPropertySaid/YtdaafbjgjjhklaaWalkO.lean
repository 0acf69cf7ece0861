/- Walks: a word restricted to an alphabet; words that break a property (the program). -/
import Derived.Test.YtdaafbjgjjhklaaWalkN
import Derived.Laws.IdiomStrings
namespace Go.Proofs.Ytdaafbjgjjhklaa
set_option linter.unusedSimpArgs false
set_option linter.unusedVariables false
open Go.RowKit

set_option maxHeartbeats 800000

theorem infoByte : (Try.prog.info? 5).map (fun i => (i.zero, i.size, i.bytes)) = some (some (.int .u8 0), 1, 1) := by kernel_rfl

/-- Bytes of the call's own. -/
def byteVal (b : UInt8) : Value := .int .u8 (b.toNat : Int)
def BytesOwn (e : TypeId) (base : Nat) (w : World) (v : Value) (l : List UInt8) : Prop := w.ownsRow base e 1 v l.length (l.map byteVal)
theorem BytesOwn.nil (e : TypeId) (base : Nat) (w : World) : BytesOwn e base w (.slice none 0 0) [] := World.ownsRow_nil _ _ _ _
theorem BytesOwn.own {e : TypeId} {base : Nat} {w : World} {v : Value} {l : List UInt8} (h : BytesOwn e base w v l) : w.ownsRow base e 1 v l.length (l.map byteVal) := h
theorem BytesOwn.push {e : TypeId} {base : Nat} {w : World} {v : Value} {l l' : List UInt8} {x : UInt8} {u : Value} (h : w.ownsRow base e 1 v (l.length + 1) (l.map byteVal ++ [u])) (hu : u = byteVal x) (hl : l' = l ++ [x]) : BytesOwn e base w v l' := by
  subst hl; subst hu; unfold BytesOwn; simpa using h
theorem BytesOwn.shape {e : TypeId} {base : Nat} {w : World} {v : Value} {l : List UInt8} (h : BytesOwn e base w v l) : (v = .slice none 0 0 ∧ l = []) ∨ ∃ g c, v = .slice (some ⟨g, 0, none⟩) l.length c ∧ ∀ j (hj : j < l.length), w.cell? ⟨g, j, none⟩ = some (.int .u8 (l[j].toNat : Int)) := by
  rcases own_shape h with ⟨rfl, h0⟩ | ⟨g, cap, rfl, _⟩
  · exact .inl ⟨rfl, List.length_eq_zero_iff.1 h0⟩
  · exact .inr ⟨g, cap, rfl, fun j hj => own_cell h (by simp [hj, byteVal])⟩
/-- 'string(b)'. -/
theorem BytesOwn.string {e : TypeId} {base : Nat} {w : World} {v : Value} {l : List UInt8} (h : BytesOwn e base w v l) :
    (convert 61 9 v).run Try.prog w = .ok (.string ⟨l.toArray⟩) w := by
  rcases h.shape with ⟨rfl, rfl⟩ | ⟨g, c, rfl, hc⟩
  · rw [run_convert_bytes_string w _ _ 5 none 0 0 Try.underlying61 Try.underlying5 Try.underlying9]; rfl
  · refine run_convert_bytes_back w _ _ 5 ⟨g, 0, none⟩ c l Try.underlying61 Try.underlying5 Try.underlying9 fun j hj => ?_
    rw [Addr.add_lit, Nat.zero_add]
    exact hc j hj

/-- The bytes of the first k letters that stay. -/
def keptTo (s : ByteArray) (a : Int) (k : Nat) : List UInt8 := (s.data.toList.take k).filter fun b => bit a ((b.toNat : Int) - 97)
theorem keptTo_succ (s : ByteArray) (a : Int) (k : Nat) (h : k < s.size) : keptTo s a (k + 1) = keptTo s a k ++ (if bit a (chAt s k) then [s[k]] else []) := by
  have h' : k < s.data.size := h
  have e : s[k] = s.data[k] := ByteArray.getElem_eq_getElem_data
  have e2 : s.data.toList[k]? = some s[k] := by rw [Array.getElem?_toList, Array.getElem?_eq_getElem h', e]
  unfold keptTo
  rw [List.take_add_one, e2, List.filter_append]
  congr 1
  have := chAt_get s k h
  have e3 : ((s[k]).toNat : Int) - 97 = chAt s k := by omega
  by_cases hb : bit a (chAt s k) = true
  · rw [if_pos hb]
    exact List.filter_cons_of_pos (by rw [e3]; exact hb)
  · rw [if_neg hb]
    exact List.filter_cons_of_neg (by rw [e3]; exact hb)
theorem keptTo_len (s : ByteArray) (a : Int) (k : Nat) : (keptTo s a k).length ≤ k := by
  unfold keptTo; exact Nat.le_trans (List.length_filter_le _ _) (by rw [List.length_take]; omega)
theorem keptTo_full (s : ByteArray) (a : Int) : (⟨(keptTo s a s.size).toArray⟩ : ByteArray) = restrict s a := by
  unfold keptTo restrict
  rw [List.take_of_length_le (by rw [Array.length_toList]; exact Nat.le_refl _)]

theorem restrict_c (s : ByteArray) (a : Int) (w : World) (ha : 0 ≤ a) (ha2 : a ≤ 63) (hs : s.size ≤ 1048576) :
    Calls Try.prog 53 #[.string s, .int .i64 a] w (Grows (.string (restrict s a)) w) := by
  go_enter Try.func53, Try.ntmps53
  go_wp2_with fail
  go_loopw [5, 9] (fun v i wr => ∃ k : Nat, k ≤ s.size ∧ i = .int .i64 k ∧ BytesOwn 5 w.heap.size wr v (keptTo s a k) ∧ Ext w wr) (fun _ i _ => s.size - (intOf i).toNat)
  case atStart => exact ⟨0, by omega, rfl, BytesOwn.nil _ _ _, Ext.refl _⟩
  case round =>
    obtain ⟨k, hk, rfl, hown, hext⟩ := hrel
    have hsz := hext.size
    by_cases hlt : k < s.size
    · have HS := Lib.hid (keptTo_succ s a k hlt)
      have hlen := keptTo_len s a k
      have HB := Lib.hid (bit_chOr a s k ha2)
      have h4 : chOr s k < 64 := by unfold chOr; split <;> omega
      have HG := Lib.hid (chAt_get s k hlt)
      by_cases hb : bit a (chOr s k) = true
      · have hget := chAt_get s k hlt
        have hlo := chAt_lo s k
        have hhi := chAt_hi s k
        go_wp2_with (first | (go_at_call 92; refine (letterAt_c s k _ hlt (by omega)).mono ?_; rintro e w' ⟨rfl, rfl⟩) | (go_at_call 91; refine (has_c _ _ _ (by omega) (by omega) (by omega)).mono ?_; rintro e w' ⟨rfl, rfl⟩) | (at_builtin; refine app1 rfl rfl Try.underlying61 infoByte rfl (by decide) hown.own rfl rfl rfl (by simp [Value.oneCell']) (by omega) (by decide) (by omega) ?_; intro v1 w1 hown1 hgr1 hbl1))
        exact ⟨⟨k + 1, by omega, by go_num, BytesOwn.push hown1 (x := s[k]) (by unfold byteVal; rw [HG.out]) (by rw [HS.out, if_pos (by rw [← HB.out]; exact hb)]), Below.trans hext hbl1⟩, by simp [intOf]; omega⟩
      · have hb : bit a (chOr s k) = false := by simpa using hb
        go_wp2_with (first | (go_at_call 92; refine (letterAt_c s k _ hlt (by omega)).mono ?_; rintro e w' ⟨rfl, rfl⟩) | (go_at_call 91; refine (has_c _ _ _ (by omega) (by omega) (by omega)).mono ?_; rintro e w' ⟨rfl, rfl⟩))
        exact ⟨⟨k + 1, by omega, by go_num, by rw [HS.out, if_neg (by rw [← HB.out, hb]; decide), List.append_nil]; exact hown, hext⟩, by simp [intOf]; omega⟩
    · obtain rfl : k = s.size := by omega
      have hcv := hown.string
      go_wp2_with fail
      go_ret
      exact Grows.mk (by rw [← keptTo_full]; rfl) hext

theorem AutomatonValid_b {v : Value} {x : Auto} {w : World} {b : Bool} (hb : autoValid x = b) (hv : AutoV w v x) :
    Calls Try.prog 31 #[v] w (Grows (.bool b) w) := hb ▸ AutomatonValid_c v x w hv
theorem WordValid_b {s : ByteArray} {w : World} {b : Bool} (hb : wordValid s = b) (hs : s.size ≤ 1048576) : Calls Try.prog 32 #[.string s] w (Same (.bool b) w) := hb ▸ WordValid_c s w hs

theorem BreaksProperty_c (v : Value) (x : Auto) (s : ByteArray) (w : World) (hv : AutoV w v x) (hs : s.size ≤ 1048576) :
    Calls Try.prog 13 #[v, .string s] w (Grows (.bool (breaks x s)) w) := by
  have HV := Lib.hid hv
  obtain ⟨vn, va, rfl, h2, h3⟩ := hv
  obtain ⟨an, cn, rfl, -, -⟩ := h2.open
  obtain ⟨aa, ca, rfl, -, -⟩ := h3.open
  clear h2 h3
  obtain ⟨wo, hwo⟩ : ∃ wo, wo = w.alloc (.cells #[.int .i64 x.alphabet, .slice an x.next.length cn, .slice aa x.accept.length ca] 28) := ⟨_, rfl⟩
  have he : Ext w wo := by rw [hwo]; exact Ext.alloc _ _
  have hB : Blk wo w.heap.size #[.int .i64 x.alphabet, .slice an x.next.length cn, .slice aa x.accept.length ca] 28 := by rw [hwo]; exact Blk.new _ _ _
  have D0 := fun d os => cell_regrown (hB.cell 0 rfl) d os
  have D1 := fun d os => cell_regrown (hB.cell 1 rfl) d os
  have D2 := fun d os => cell_regrown (hB.cell 2 rfl) d os
  have HE := Lib.hid (fun d os => HV.out.mono (he.trans (below_regrown wo d os)))
  clear hB
  by_cases hx : autoValid x = true
  case neg =>
    have hx : autoValid x = false := by simpa using hx
    go_enter Try.func13, Try.ntmps13
    go_wp2_with fail
    rw [← hwo]
    clear hwo
    refine wp_region_quiet_below (by kernel_rfl) (by kernel_rfl) ?_
    repeat (go_big_quiet_step ((go_at_call 31; exact Grows.quiet (AutomatonValid_b hx (HE.out _ _)))))
    refine wpQuiet_nil ?_
    intro _ hw'
    obtain ⟨⟨dq, osq⟩, hw''⟩ := hw'
    subst hw''
    have hq2 : Ext wo (Go.Sort.grow (redrawn wo dq) osq) := below_regrown wo dq osq
    generalize Go.Sort.grow (redrawn wo dq) osq = wq at hq2 ⊢
    go_wp2_with fail
    go_ret
    exact Grows.mk (by simp [breaks, hx]) (he.trans hq2)
  by_cases hw : wordValid s = true
  case neg =>
    have hw : wordValid s = false := by simpa using hw
    go_enter Try.func13, Try.ntmps13
    go_wp2_with fail
    rw [← hwo]
    clear hwo
    refine wp_region_quiet_below (by kernel_rfl) (by kernel_rfl) ?_
    repeat (go_big_quiet_step (first | (go_at_call 31; exact Grows.quiet (AutomatonValid_b hx (HE.out _ _))) | (go_at_call 32; exact Same.quiet (WordValid_b hw hs))))
    refine wpQuiet_nil ?_
    intro _ hw'
    obtain ⟨⟨dq, osq⟩, hw''⟩ := hw'
    subst hw''
    have hq2 : Ext wo (Go.Sort.grow (redrawn wo dq) osq) := below_regrown wo dq osq
    generalize Go.Sort.grow (redrawn wo dq) osq = wq at hq2 ⊢
    go_wp2_with fail
    go_ret
    exact Grows.mk (by simp [breaks, hw]) (he.trans hq2)
  have HX := Lib.hid hx
  have HW := Lib.hid hw
  have HA := Lib.hid (acceptsWord_restrict hx hw)
  obtain ⟨ha, ha2, -, -, -⟩ := autoValid_facts hx
  have hrs : (restrict s x.alphabet).size ≤ 1048576 := by
    have := wordIn_restrict ha ha2 (wordValid_size hw)
    simp only [wordIn, Bool.and_eq_true, decide_eq_true_eq] at this
    omega
  go_enter Try.func13, Try.ntmps13
  go_wp2_with fail
  rw [← hwo]
  clear hwo
  refine wp_region_quiet_below (by kernel_rfl) (by kernel_rfl) ?_
  repeat (go_big_quiet_step (first | (go_at_call 31; exact Grows.quiet (AutomatonValid_b hx (HE.out _ _))) | (go_at_call 32; exact Same.quiet (WordValid_b hw hs)) | (go_at_call 53; exact Grows.quiet (restrict_c s _ _ ha ha2 hs)) | (go_at_call 34; exact Grows.quiet (AcceptsWord_c _ x _ _ (HE.out _ _) hrs))))
  refine wpQuiet_nil ?_
  intro _ hw'
  obtain ⟨⟨dq, osq⟩, hw''⟩ := hw'
  subst hw''
  have hq2 : Ext wo (Go.Sort.grow (redrawn wo dq) osq) := below_regrown wo dq osq
  generalize Go.Sort.grow (redrawn wo dq) osq = wq at hq2 ⊢
  go_wp2_with fail
  go_ret
  exact Grows.mk (by simp [breaks, hx, hw, HA.out]) (he.trans hq2)

end Go.Proofs.Ytdaafbjgjjhklaa
