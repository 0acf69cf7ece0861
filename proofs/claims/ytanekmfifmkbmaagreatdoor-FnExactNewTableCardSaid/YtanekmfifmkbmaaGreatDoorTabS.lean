/- Part of this seat's proofs, cut to what its law needs. -/

import Derived.Test.YtanekmfifmkbmaaGreatDoorPlainTb
import Derived.Test.YtanekmfifmkbmaaGreatDoorAskT
import Derived.Test.YtanekmfifmkbmaaGreatDoorSubS
import Derived.Test.YtanekmfifmkbmaaGreatDoorWalkSI
namespace Go.Proofs.YtanekmfifmkbmaaGreatDoor
set_option linter.unusedSimpArgs false
set_option linter.unusedVariables false
open Go Go.RowKit
set_option maxHeartbeats 2000000
set_option maxRecDepth 100000

def StrAt' (w : World) (b o : Nat) (x : ByteArray) : Prop := w.cell? ⟨b, o, none⟩ = some (.string x)
def StrsV (w : World) (v : Value) (l : List ByteArray) : Prop := SlV StrAt' 1 w v l
theorem StrsV.mono {w w' : World} (h : Ext w w') {v : Value} {l : List ByteArray} (k : StrsV w v l) : StrsV w' v l := SlV.mono k (fun _ _ _ _ k => h.cell k) h.size
def StrsOwn (base : Nat) (w : World) (v : Value) (l : List ByteArray) : Prop := w.ownsRow base 9 1 v l.length (l.map Value.string)
theorem StrsOwn.strs {base : Nat} {w : World} {v : Value} {l : List ByteArray} (h : StrsOwn base w v l) : StrsV w v l :=
  SlV_of_own h fun g cap hv i x hi => by subst hv; rw [Nat.mul_one]; exact own_cell h (by simp [hi])
theorem infoStrT : (Tryz.prog.info? 9).map (fun i => (i.zero, i.size, i.bytes)) = some (some (.string ByteArray.empty), 1, 16) := by kernel_rfl
def TableV (w : World) (v : Value) (t : Table) : Prop := ∃ vr vc, v = .agg #[vr, vc] ∧ StrsV w vr t.rows ∧ StrsV w vc t.cols
theorem ba_beq (a b : ByteArray) : (a == b) = decide (a = b) := by
  rw [Bool.eq_iff_iff, decide_eq_true_eq]
  cases a with | mk x => cases b with | mk y =>
    show (x == y) = true ↔ _
    rw [beq_iff_eq]
    exact ⟨fun h => by rw [h], fun h => by injection h⟩
theorem StrsV.cap {w : World} {a : Option Addr} {c n : Nat} {l : List ByteArray} (h : StrsV w (.slice a n c) l) : n ≤ c := by
  obtain ⟨a', c', e, h1, _⟩ := h
  cases e
  exact h1
theorem StrsV.take {w : World} {a : Option Addr} {c n k : Nat} {l : List ByteArray} (h : StrsV w (.slice a n c) l) (hn : n = l.length) (hk : k ≤ n) : StrsV w (.slice a k c) (l.take k) := by
  subst hn
  obtain ⟨a', c', e, h1, h2, h3⟩ := h
  cases e
  have hl : (l.take k).length = k := by rw [List.length_take]; omega
  refine ⟨_, _, by rw [hl], by omega, h2, fun h0 => ?_⟩
  obtain ⟨b, o, e, h5, h6⟩ := h3 (by omega)
  refine ⟨b, o, e, h5, fun i x hx => h6 i x ?_⟩
  rw [List.getElem?_take] at hx
  split at hx
  · exact hx
  · cases hx

theorem cells1T {wn wd : World} {x : Value} {t : TypeId} (h : Ext (wd.alloc (.cells #[x] t)) wn) : ∀ (j' : Nat) (u : Value), [x][j']? = some u → wn.cell? ((⟨wd.heap.size, 0, none⟩ : Addr).add j') = some u := fun j' u hu => by
  have e : (⟨wd.heap.size, 0, none⟩ : Addr).add j' = ⟨wd.heap.size, j', none⟩ := by unfold Addr.add; split <;> simp_all
  rw [e]
  match j', hu with
  | 0, hu => simp at hu; subst hu; exact h.new 0 rfl
  | j' + 1, hu => simp at hu
theorem l10In_s (v : Value) (xs : List ByteArray) (x : ByteArray) (w : World) (hv : StrsV w v xs) (hl : xs.length ≤ 1048576) {b : Bool} (hb : decide (x ∈ xs) = b) :
    Calls Tryz.prog 158 #[v, .string x] w (Same (.bool b) w) := by
  obtain ⟨al, cl, rfl, -, hat⟩ := SlV.open hv
  have HAT := Lib.hid hat
  have HB := Lib.hid hb
  clear hat hv hb
  go_enter Tryz.func158, Tryz.ntmps158
  go_wp2_with fail
  go_loopw [5] (fun i wr => ∃ k : Nat, k ≤ xs.length ∧ i = .int .i64 k ∧ Hid (x ∉ xs.take k) ∧ w = wr) (fun i _ => xs.length - (intOf i).toNat)
  case atStart => exact ⟨0, by omega, rfl, Lib.hid (by simp), rfl⟩
  case round =>
    obtain ⟨k, hk, rfl, HN, rfl⟩ := hrel
    by_cases hlt : k < xs.length
    · obtain ⟨y, hy⟩ : ∃ y, xs[k]? = some y := ⟨_, List.getElem?_eq_getElem hlt⟩
      obtain ⟨bk, off, rfl, -, hc⟩ := HAT.out k _ hy
      have q1 : w.cell? ⟨bk, off + k, none⟩ = some (.string y) := by have := hc k _ hy; unfold StrAt' at this; rw [Nat.mul_one] at this; exact this
      have HY := Lib.hid hy
      have hks : (k : Int) < (xs.length : Int) := by omega
      clear hc hy
      by_cases h1 : y = x
      · have e1 : (y == x) = true := by rw [ba_beq]; exact decide_eq_true h1
        have e2 : (y.toList == x.toList) = true := by rw [h1]; simp
        have HM : Hid (x ∈ xs) := Lib.hid (by rw [← h1]; exact List.mem_of_getElem? HY.out)
        clear h1
        go_wp2_with fail
        go_ret
        exact Same.mk (by rw [← HB.out, decide_eq_true HM.out]; rfl)
      · have e1 : (y == x) = false := by rw [ba_beq]; exact decide_eq_false h1
        have e2 : (y.toList == x.toList) = false := by rw [← beq_toListBytes]; exact e1
        have HN2 : Hid (x ∉ xs.take (k + 1)) := Lib.hid (by
          rw [List.take_add_one, HY.out]
          intro h
          rcases List.mem_append.1 h with h | h
          · exact HN.out h
          · simp at h; exact h1 h.symm)
        clear h1
        go_wp2_with fail
        exact ⟨⟨k + 1, by omega, by go_num, HN2, by first | rfl | trivial⟩, by simp [intOf]; omega⟩
    · obtain rfl : k = xs.length := by omega
      have hn := HN.out
      rw [List.take_length] at hn
      have HN2 := Lib.hid hn
      clear hn
      go_wp2_with fail
      go_ret
      exact Same.mk (by rw [← HB.out, decide_eq_false HN2.out]; rfl)

theorem rowB_snoc (f : ByteArray → Bool) (cols : List ByteArray) (c w : ByteArray) : rowB f (cols ++ [c]) w = rowB f cols w ++ ByteArray.mk #[mark (f (w ++ c))] := by
  refine ByteArray.ext ?_
  rw [ByteArray.data_append]
  simp [rowB, marksL]

theorem l10Row_s (v : Value) (t : Teacher) (vc : Value) (cols : List ByteArray) (s : ByteArray) (w : World) (hT : TeacherV w v t) (hC : StrsV w vc cols) (hs : s.size ≤ 50000) (hcs : ∀ c ∈ cols, c.size ≤ 50000) (hel : t.task.sys.edges.length ≤ 1048576) (hcl : cols.length ≤ 20) :
    Calls Tryz.prog 160 #[v, vc, .string s] w (Grows (.string (rowB (askTeacher t) cols s)) w) := by
  obtain ⟨ax1, ax2, ax3, ax4, ax5, rfl, ah1, ah2, ah3, ah4, ah5⟩ := hT
  obtain ⟨aa1, ac1, rfl, -, -⟩ := ah1.open
  obtain ⟨aa2, ac2, rfl, -, -⟩ := ah2.open
  obtain ⟨aa3, ac3, rfl, -, -⟩ := ah3.open
  obtain ⟨aa4, ac4, rfl, -, -⟩ := ah4.open
  obtain ⟨aa5, ac5, rfl, -, -⟩ := ah5.open
  have HT := Lib.hid (show ∀ w', Ext w w' → TeacherV w' (.agg #[.bool t.known, .int .i64 t.target.alphabet, .slice aa1 t.target.next.length ac1, .slice aa2 t.target.accept.length ac2, .int .i64 t.task.sys.alphabet, .int .i64 t.task.sys.states, .slice aa3 t.task.sys.edges.length ac3, .int .i64 t.task.prop.alphabet, .slice aa4 t.task.prop.next.length ac4, .slice aa5 t.task.prop.accept.length ac5, .int .i64 t.task.alphabet]) t from fun w' h => ⟨_, _, _, _, _, rfl, ah1.mono h, ah2.mono h, ah3.mono h, ah4.mono h, ah5.mono h⟩)
  clear ah1 ah2 ah3 ah4 ah5
  obtain ⟨ac, cc, rfl, -, hat⟩ := SlV.open hC
  have HAT := Lib.hid hat
  have HCS := Lib.hid hcs
  clear hat hC hcs
  have b3 := Blk.new w #[.bool t.known, .int .i64 t.target.alphabet, .slice aa1 t.target.next.length ac1, .slice aa2 t.target.accept.length ac2, .int .i64 t.task.sys.alphabet, .int .i64 t.task.sys.states, .slice aa3 t.task.sys.edges.length ac3, .int .i64 t.task.prop.alphabet, .slice aa4 t.task.prop.next.length ac4, .slice aa5 t.task.prop.accept.length ac5, .int .i64 t.task.alphabet] 59
  have he := Ext.alloc w (.cells #[.bool t.known, .int .i64 t.target.alphabet, .slice aa1 t.target.next.length ac1, .slice aa2 t.target.accept.length ac2, .int .i64 t.task.sys.alphabet, .int .i64 t.task.sys.states, .slice aa3 t.task.sys.edges.length ac3, .int .i64 t.task.prop.alphabet, .slice aa4 t.task.prop.next.length ac4, .slice aa5 t.task.prop.accept.length ac5, .int .i64 t.task.alphabet] 59)
  go_enter Tryz.func160, Tryz.ntmps160
  go_wp2_with fail
  generalize w.alloc (.cells #[.bool t.known, .int .i64 t.target.alphabet, .slice aa1 t.target.next.length ac1, .slice aa2 t.target.accept.length ac2, .int .i64 t.task.sys.alphabet, .int .i64 t.task.sys.states, .slice aa3 t.task.sys.edges.length ac3, .int .i64 t.task.prop.alphabet, .slice aa4 t.task.prop.next.length ac4, .slice aa5 t.task.prop.accept.length ac5, .int .i64 t.task.alphabet] 59) = w0 at b3 he ⊢
  go_loopw [7, 8] (fun o i wr => ∃ (k : Nat) (q : ByteArray), k ≤ cols.length ∧ i = .int .i64 k ∧ o = .string q ∧ q.size ≤ k ∧ Hid (q = rowB (askTeacher t) (cols.take k) s) ∧ Ext w wr ∧ Blk wr w.heap.size #[.bool t.known, .int .i64 t.target.alphabet, .slice aa1 t.target.next.length ac1, .slice aa2 t.target.accept.length ac2, .int .i64 t.task.sys.alphabet, .int .i64 t.task.sys.states, .slice aa3 t.task.sys.edges.length ac3, .int .i64 t.task.prop.alphabet, .slice aa4 t.task.prop.next.length ac4, .slice aa5 t.task.prop.accept.length ac5, .int .i64 t.task.alphabet] 59) (fun _ i _ => cols.length - (intOf i).toNat)
  case atStart => exact ⟨0, _, by omega, rfl, rfl, by decide, Lib.hid rfl, he, b3⟩
  case round =>
    clear he b3
    obtain ⟨k, q, hk, rfl, rfl, hqs, HQ, he, b3⟩ := hrel
    by_cases hlt : k < cols.length
    · obtain ⟨c, hc⟩ : ∃ c, cols[k]? = some c := ⟨_, List.getElem?_eq_getElem hlt⟩
      obtain ⟨bk, off, rfl, -, hcc⟩ := HAT.out k _ hc
      have q1 : wr.cell? ⟨bk, off + k, none⟩ = some (.string c) := by have := hcc k _ hc; unfold StrAt' at this; rw [Nat.mul_one] at this; exact he.cell this
      have hcz := HCS.out c (List.mem_of_getElem? hc)
      have hov : ¬ 9223372036854775807 < s.size + c.size := by omega
      have hov2 : ¬ 9223372036854775807 < q.size + 1 := by omega
      obtain ⟨x, hx⟩ : ∃ x, askTeacher t (s ++ c) = x := ⟨_, rfl⟩
      have HASK := Lib.hid (fun w' (h : Ext w w') => (show Calls Tryz.prog 194 #[.agg #[.bool t.known, .int .i64 t.target.alphabet, .slice aa1 t.target.next.length ac1, .slice aa2 t.target.accept.length ac2, .int .i64 t.task.sys.alphabet, .int .i64 t.task.sys.states, .slice aa3 t.task.sys.edges.length ac3, .int .i64 t.task.prop.alphabet, .slice aa4 t.task.prop.next.length ac4, .slice aa5 t.task.prop.accept.length ac5, .int .i64 t.task.alphabet], .string (s ++ c)] w' (Grows (.bool x) w') from by have := AskTeacher_s _ t (s ++ c) w' (HT.out _ h) (by rw [ByteArray.size_append]; omega) hel; rwa [hx] at this))
      have HQ2 : Hid (q ++ ByteArray.mk #[mark x] = rowB (askTeacher t) (cols.take (k + 1)) s) := Lib.hid (by rw [List.take_add_one, hc, Option.toList_some, rowB_snoc, ← HQ.out, hx])
      have hq2 : (q ++ ByteArray.mk #[mark x]).size ≤ k + 1 := by rw [ByteArray.size_append]; show q.size + 1 ≤ _; omega
      have hks : (k : Int) < (cols.length : Int) := by omega
      have D0 := fun d os => cell_regrown (b3.cell 0 rfl) d os; have D1 := fun d os => cell_regrown (b3.cell 1 rfl) d os; have D2 := fun d os => cell_regrown (b3.cell 2 rfl) d os; have D3 := fun d os => cell_regrown (b3.cell 3 rfl) d os; have D4 := fun d os => cell_regrown (b3.cell 4 rfl) d os; have D5 := fun d os => cell_regrown (b3.cell 5 rfl) d os; have D6 := fun d os => cell_regrown (b3.cell 6 rfl) d os; have D7 := fun d os => cell_regrown (b3.cell 7 rfl) d os; have D8 := fun d os => cell_regrown (b3.cell 8 rfl) d os; have D9 := fun d os => cell_regrown (b3.cell 9 rfl) d os; have D10 := fun d os => cell_regrown (b3.cell 10 rfl) d os
      have D11 := fun d os => cell_regrown q1 d os
      clear hc hcc q1 hx
      go_wp2_with fail
      refine wp_region_quiet_below (by kernel_rfl) (by kernel_rfl) ?_
      repeat (go_big_quiet_step ((go_at_call 194; exact Grows.quiet (HASK.out _ (he.trans (below_regrown _ _ _))))))
      refine wpQuiet_nil ?_
      intro _ hw'
      obtain ⟨⟨dq, osq⟩, hw''⟩ := hw'
      subst hw''
      have hq3 : Ext wr (Go.Sort.grow (redrawn wr dq) osq) := below_regrown wr dq osq
      generalize Go.Sort.grow (redrawn wr dq) osq = wq at hq3 ⊢
      cases x with
      | true =>
        go_wp2_with fail
        exact ⟨⟨k + 1, _, by omega, by go_num, rfl, hq2, HQ2, he.trans hq3, b3.ext hq3⟩, by simp [intOf]; omega⟩
      | false =>
        go_wp2_with fail
        exact ⟨⟨k + 1, _, by omega, by go_num, rfl, hq2, HQ2, he.trans hq3, b3.ext hq3⟩, by simp [intOf]; omega⟩
    · obtain rfl : k = cols.length := by omega
      go_wp2_with fail
      go_ret
      exact Grows.mk (by rw [HQ.out, List.take_length]; rfl) he

theorem l10Rows_s (v : Value) (t : Teacher) (vc : Value) (cols : List ByteArray) (vw : Value) (words : List ByteArray) (w : World) (hT : TeacherV w v t) (hC : StrsV w vc cols) (hW : StrsV w vw words) (hws : ∀ s ∈ words, s.size ≤ 50000) (hcs : ∀ c ∈ cols, c.size ≤ 50000) (hel : t.task.sys.edges.length ≤ 1048576) (hcl : cols.length ≤ 20) (hwl : words.length ≤ 100) :
    Calls Tryz.prog 157 #[v, vc, vw] w (Gives (fun u w' => StrsOwn w.heap.size w' u (words.map (rowB (askTeacher t) cols))) w) := by
  obtain ⟨ax1, ax2, ax3, ax4, ax5, rfl, ah1, ah2, ah3, ah4, ah5⟩ := hT
  obtain ⟨aa1, ac1, rfl, -, -⟩ := ah1.open
  obtain ⟨aa2, ac2, rfl, -, -⟩ := ah2.open
  obtain ⟨aa3, ac3, rfl, -, -⟩ := ah3.open
  obtain ⟨aa4, ac4, rfl, -, -⟩ := ah4.open
  obtain ⟨aa5, ac5, rfl, -, -⟩ := ah5.open
  have HT := Lib.hid (show ∀ w', Ext w w' → TeacherV w' (.agg #[.bool t.known, .int .i64 t.target.alphabet, .slice aa1 t.target.next.length ac1, .slice aa2 t.target.accept.length ac2, .int .i64 t.task.sys.alphabet, .int .i64 t.task.sys.states, .slice aa3 t.task.sys.edges.length ac3, .int .i64 t.task.prop.alphabet, .slice aa4 t.task.prop.next.length ac4, .slice aa5 t.task.prop.accept.length ac5, .int .i64 t.task.alphabet]) t from fun w' h => ⟨_, _, _, _, _, rfl, ah1.mono h, ah2.mono h, ah3.mono h, ah4.mono h, ah5.mono h⟩)
  clear ah1 ah2 ah3 ah4 ah5
  obtain ⟨ac, cc, rfl, -, -⟩ := SlV.open hC
  have HC := Lib.hid (show ∀ w', Ext w w' → StrsV w' (.slice ac cols.length cc) cols from fun w' h => hC.mono h)
  obtain ⟨aw, cw, rfl, -, hat⟩ := SlV.open hW
  have HAT := Lib.hid hat
  have HWS := Lib.hid hws
  clear hat hC hW hws
  have b3 := (Blk.new w #[.bool t.known, .int .i64 t.target.alphabet, .slice aa1 t.target.next.length ac1, .slice aa2 t.target.accept.length ac2, .int .i64 t.task.sys.alphabet, .int .i64 t.task.sys.states, .slice aa3 t.task.sys.edges.length ac3, .int .i64 t.task.prop.alphabet, .slice aa4 t.task.prop.next.length ac4, .slice aa5 t.task.prop.accept.length ac5, .int .i64 t.task.alphabet] 59).ext (Ext.alloc _ (.cells #[] 9))
  have he : Ext w ((w.alloc (.cells #[.bool t.known, .int .i64 t.target.alphabet, .slice aa1 t.target.next.length ac1, .slice aa2 t.target.accept.length ac2, .int .i64 t.task.sys.alphabet, .int .i64 t.task.sys.states, .slice aa3 t.task.sys.edges.length ac3, .int .i64 t.task.prop.alphabet, .slice aa4 t.task.prop.next.length ac4, .slice aa5 t.task.prop.accept.length ac5, .int .i64 t.task.alphabet] 59)).alloc (.cells #[] 9)) := (Ext.alloc _ _).trans (Ext.alloc _ _)
  have hP0 : Pool w.heap.size ((w.alloc (.cells #[.bool t.known, .int .i64 t.target.alphabet, .slice aa1 t.target.next.length ac1, .slice aa2 t.target.accept.length ac2, .int .i64 t.task.sys.alphabet, .int .i64 t.task.sys.states, .slice aa3 t.task.sys.edges.length ac3, .int .i64 t.task.prop.alphabet, .slice aa4 t.task.prop.next.length ac4, .slice aa5 t.task.prop.accept.length ac5, .int .i64 t.task.alphabet] 59)).alloc (.cells #[] 9)) [⟨9, 1, .slice (some ⟨w.heap.size + 1, 0, none⟩) 0 0, 0, []⟩] := by
    refine Pool.addLit (b := w.heap.size + 1) (w := w.alloc (.cells #[.bool t.known, .int .i64 t.target.alphabet, .slice aa1 t.target.next.length ac1, .slice aa2 t.target.accept.length ac2, .int .i64 t.task.sys.alphabet, .int .i64 t.task.sys.states, .slice aa3 t.task.sys.edges.length ac3, .int .i64 t.task.prop.alphabet, .slice aa4 t.task.prop.next.length ac4, .slice aa5 t.task.prop.accept.length ac5, .int .i64 t.task.alphabet] 59)) (Pool.nil _ _) 9 1 (by simp) (by omega) (Ext.alloc _ _) ?_
    have := Blk.new (w.alloc (.cells #[.bool t.known, .int .i64 t.target.alphabet, .slice aa1 t.target.next.length ac1, .slice aa2 t.target.accept.length ac2, .int .i64 t.task.sys.alphabet, .int .i64 t.task.sys.states, .slice aa3 t.task.sys.edges.length ac3, .int .i64 t.task.prop.alphabet, .slice aa4 t.task.prop.next.length ac4, .slice aa5 t.task.prop.accept.length ac5, .int .i64 t.task.alphabet] 59)) #[] 9
    rwa [World.size_alloc] at this
  go_enter Tryz.func157, Tryz.ntmps157
  go_wp2_with fail
  generalize (w.alloc (.cells #[.bool t.known, .int .i64 t.target.alphabet, .slice aa1 t.target.next.length ac1, .slice aa2 t.target.accept.length ac2, .int .i64 t.task.sys.alphabet, .int .i64 t.task.sys.states, .slice aa3 t.task.sys.edges.length ac3, .int .i64 t.task.prop.alphabet, .slice aa4 t.task.prop.next.length ac4, .slice aa5 t.task.prop.accept.length ac5, .int .i64 t.task.alphabet] 59)).alloc (.cells #[] 9) = w0 at b3 he hP0 ⊢
  go_loopw [7, 8] (fun o i wr => ∃ (k : Nat) (vo : Value), k ≤ words.length ∧ i = .int .i64 k ∧ o = vo ∧ Pool w.heap.size wr [⟨9, 1, vo, k, ((words.take k).map (rowB (askTeacher t) cols)).map Value.string⟩] ∧ Ext w wr ∧ Blk wr w.heap.size #[.bool t.known, .int .i64 t.target.alphabet, .slice aa1 t.target.next.length ac1, .slice aa2 t.target.accept.length ac2, .int .i64 t.task.sys.alphabet, .int .i64 t.task.sys.states, .slice aa3 t.task.sys.edges.length ac3, .int .i64 t.task.prop.alphabet, .slice aa4 t.task.prop.next.length ac4, .slice aa5 t.task.prop.accept.length ac5, .int .i64 t.task.alphabet] 59) (fun _ i _ => words.length - (intOf i).toNat)
  case atStart => exact ⟨0, _, by omega, rfl, rfl, hP0, he, b3⟩
  case round =>
    clear he b3 hP0
    obtain ⟨k, vo, hk, rfl, rfl, hP, he, b3⟩ := hrel
    obtain ⟨ao, co, rfl⟩ := own_any' (Pool.hd hP)
    by_cases hlt : k < words.length
    · obtain ⟨s, hs⟩ : ∃ s, words[k]? = some s := ⟨_, List.getElem?_eq_getElem hlt⟩
      obtain ⟨bk, off, rfl, -, hcc⟩ := HAT.out k _ hs
      have q1 : wr.cell? ⟨bk, off + k, none⟩ = some (.string s) := by have := hcc k _ hs; unfold StrAt' at this; rw [Nat.mul_one] at this; exact he.cell this
      have hsz := HWS.out s (List.mem_of_getElem? hs)
      obtain ⟨x, hx⟩ : ∃ x, rowB (askTeacher t) cols s = x := ⟨_, rfl⟩
      have HROW := Lib.hid (fun w' (h : Ext w w') => (show Calls Tryz.prog 160 #[.agg #[.bool t.known, .int .i64 t.target.alphabet, .slice aa1 t.target.next.length ac1, .slice aa2 t.target.accept.length ac2, .int .i64 t.task.sys.alphabet, .int .i64 t.task.sys.states, .slice aa3 t.task.sys.edges.length ac3, .int .i64 t.task.prop.alphabet, .slice aa4 t.task.prop.next.length ac4, .slice aa5 t.task.prop.accept.length ac5, .int .i64 t.task.alphabet], .slice ac cols.length cc, .string s] w' (Grows (.string x) w') from by have := l10Row_s _ t _ cols s w' (HT.out _ h) (HC.out _ h) hsz hcs hel hcl; rwa [hx] at this))
      have HX : Hid (((words.take k).map (rowB (askTeacher t) cols)).map Value.string ++ [.string x] = ((words.take (k + 1)).map (rowB (askTeacher t) cols)).map Value.string) := Lib.hid (by rw [List.take_add_one, hs, ← hx]; simp)
      have hks : (k : Int) < (words.length : Int) := by omega
      have D0 := fun d os => cell_regrown (b3.cell 0 rfl) d os; have D1 := fun d os => cell_regrown (b3.cell 1 rfl) d os; have D2 := fun d os => cell_regrown (b3.cell 2 rfl) d os; have D3 := fun d os => cell_regrown (b3.cell 3 rfl) d os; have D4 := fun d os => cell_regrown (b3.cell 4 rfl) d os; have D5 := fun d os => cell_regrown (b3.cell 5 rfl) d os; have D6 := fun d os => cell_regrown (b3.cell 6 rfl) d os; have D7 := fun d os => cell_regrown (b3.cell 7 rfl) d os; have D8 := fun d os => cell_regrown (b3.cell 8 rfl) d os; have D9 := fun d os => cell_regrown (b3.cell 9 rfl) d os; have D10 := fun d os => cell_regrown (b3.cell 10 rfl) d os
      have D11 := fun d os => cell_regrown q1 d os
      clear hs hcc q1 hx
      go_wp2_with fail
      obtain ⟨Kc, HKc⟩ : ∃ Kc : FuncId → Array Value → World → Value → World → Prop, Hid (Kc = fun (_ : FuncId) (_ : Array Value) (w0 : World) (v : Value) (w' : World) => Ext w0 w' ∧ v = .string x) := ⟨_, rfl⟩
      refine wp_region_ext (Kc := Kc) 9 (by kernel_rfl) (by kernel_rfl) ?_
      simp only [List.take_succ_cons, List.take_zero]
      repeat (refine WalkE.pure rfl (fun K hK => ?_); simp only [PureDo]; go_simp; refine hK _ ?_; clear hK K)
      refine WalkE.step (fun K hK wc hwc hdc => ?_)
      simp only [OpDo, OpSafe, OpOut]
      go_simp
      refine ⟨(HROW.out _ (he.trans ((Ext.drew _).trans hwc))).mono ?_, ?_⟩
      · rintro e w' ⟨rfl, he9⟩
        exact ⟨_, rfl, by rw [HKc.out]; exact ⟨he9, rfl⟩⟩
      intro u1 w5 hk1
      rw [HKc.out] at hk1
      obtain ⟨hk1, rfl⟩ := hk1
      refine ⟨hk1, hK _ _ ?_⟩
      clear hK K hdc hk1
      repeat (refine WalkE.pure rfl (fun K hK => ?_); simp only [PureDo]; go_simp; refine hK _ ?_; clear hK K)
      refine WalkE.step (fun K hK wd hwd hdd => ?_)
      simp only [OpDo, OpSafe, OpOut]
      go_simp
      refine ⟨Ext.alloc _ _, hK _ _ ?_⟩
      clear hK K hdd
      refine WalkE.nil (fun wn hwn hmn => ?_)
      simp only [List.drop_succ_cons, List.drop_zero, List.drop_nil]
      have hcell := cells1T (hmn 8 (by omega))
      have hxn : Ext wr wn := (Ext.drew _).trans hwn
      have HPn := hP.ext hxn
      have hen := he.trans hxn
      have b3n := b3.ext hxn
      have hbz : w.heap.size ≤ wn.heap.size := hen.size
      clear D0 D1 D2 D3 D4 D5 D6 D7 D8 D9 D10 D11
      clear hmn HKc hwc hwd hwn hxn hP he b3
      generalize wd.heap.size = rr at hcell ⊢
      go_wp2_with (at_builtin; refine appPN (m := 1) (news := [.string x]) rfl rfl Tryz.underlying51 infoStrT rfl (by decide) HPn rfl rfl rfl hcell (by simp [Value.oneCell']) (by omega) (by decide) hbz ?_; intro v2 w10 hP10 hg10 hb10; obtain ⟨a10, c10, rfl⟩ := own_any' (Pool.hd hP10); have b10 := b3n.grown (Pool.hd HPn) hg10 (by decide))
      rw [HX.out] at hP10
      exact ⟨⟨k + 1, _, by omega, by go_num, rfl, hP10, Below.trans hen (hb10.mono (Nat.le_refl _)), b10⟩, by simp [intOf]; omega⟩
    · obtain rfl : k = words.length := by omega
      have hown := Pool.hd hP
      rw [List.take_length] at hown
      have HO := Lib.hid hown
      clear hown
      go_wp2_with fail
      go_ret
      exact Gives.mk rfl he (by unfold StrsOwn; rw [List.length_map]; exact HO.out)
structure TabFit (t : Table) : Prop where
  rl : t.rows.length ≤ 1048576
  cl : t.cols.length ≤ 1048576
  rs : ∀ r ∈ t.rows, r.size ≤ 1048576
  cs : ∀ c ∈ t.cols, c.size ≤ 1048576
def TRows (al : Int) (rows : List ByteArray) (k : Nat) : Prop := ∀ i r, 1 ≤ i → i < k → rows[i]? = some r → r.size ≠ 0 ∧ wordIn r al = true ∧ r.extract 0 (r.size - 1) ∈ rows.take i
theorem TRows.succ {al : Int} {rows : List ByteArray} {k : Nat} (h : TRows al rows k) {r : ByteArray} (hr : rows[k]? = some r) (h1 : r.size ≠ 0) (h2 : wordIn r al = true) (h3 : r.extract 0 (r.size - 1) ∈ rows.take k) : TRows al rows (k + 1) := fun i x a b c => by
  rcases Nat.lt_or_ge i k with hi | hi
  · exact h i x a hi c
  · obtain rfl : i = k := by omega
    rw [hr] at c; cases c
    exact ⟨h1, h2, h3⟩
theorem TRows.one (al : Int) (rows : List ByteArray) : TRows al rows 1 := fun i x a b c => by omega
theorem TRows.full {al : Int} {rows : List ByteArray} (h : TRows al rows rows.length) : RowsOk al rows := fun i r a c => h i r a (List.getElem?_eq_some_iff.1 c).1 c
def TCols (al : Int) (cols : List ByteArray) (k : Nat) : Prop := ∀ i c, 1 ≤ i → i < k → cols[i]? = some c → c.size ≤ 4000 ∧ wordIn c al = true ∧ c ∉ cols.take i
theorem TCols.succ {al : Int} {cols : List ByteArray} {k : Nat} (h : TCols al cols k) {c : ByteArray} (hc : cols[k]? = some c) (h1 : c.size ≤ 4000) (h2 : wordIn c al = true) (h3 : c ∉ cols.take k) : TCols al cols (k + 1) := fun i x a b e => by
  rcases Nat.lt_or_ge i k with hi | hi
  · exact h i x a hi e
  · obtain rfl : i = k := by omega
    rw [hc] at e; cases e
    exact ⟨h1, h2, h3⟩
theorem TCols.one (al : Int) (cols : List ByteArray) : TCols al cols 1 := fun i x a b c => by omega
theorem TCols.full {al : Int} {cols : List ByteArray} (h : TCols al cols cols.length) : ColsOk al cols := fun i r a c => h i r a (List.getElem?_eq_some_iff.1 c).1 c
structure Heads (t : Table) : Prop where
  r1 : 1 ≤ t.rows.length
  r12 : t.rows.length ≤ 12
  c1 : 1 ≤ t.cols.length
  c20 : t.cols.length ≤ 20
  r0 : t.rows[0]? = some ByteArray.empty
  c0 : t.cols[0]? = some ByteArray.empty
theorem Heads.shape {al : Int} {t : Table} (h : Heads t) (ha : 0 ≤ al) (hr : RowsOk al t.rows) (hc : ColsOk al t.cols) : Shape al t := ⟨ha, h.r1, h.r12, h.c1, h.c20, h.r0, h.c0, hr, hc⟩
theorem ba_ne (a : ByteArray) (h : ¬ a = ByteArray.mk #[]) : (a == ByteArray.mk #[]) = false ∧ (a != ByteArray.mk #[]) = true ∧ (a.toList == (ByteArray.mk #[]).toList) = false ∧ (a.toList != (ByteArray.mk #[]).toList) = true ∧ a.toList.isEmpty = false := by
  have h1 : (a == ByteArray.mk #[]) = false := by rw [ba_beq]; exact decide_eq_false h
  have h2 : (a.toList == (ByteArray.mk #[]).toList) = false := by rw [← beq_toListBytes]; exact h1
  refine ⟨h1, by rw [bne, h1]; rfl, h2, by rw [bne, h2]; rfl, ?_⟩
  have h3 : (ByteArray.mk #[]).toList = [] := by rw [ByteArray.toList_eq]
  rw [h3] at h2
  cases h4 : a.toList with
  | nil => rw [h4] at h2; cases h2
  | cons x l => rfl
theorem ba_nil : (ByteArray.mk #[]).toList.isEmpty = true := by rw [ByteArray.toList_eq]; rfl

theorem l10Shape_s (al : Int) (v : Value) (t : Table) (w : World) (hv : TableV w v t) (hf : TabFit t) :
    Calls Tryz.prog 155 #[.int .i64 al, v] w (Grows (.bool (shapeB al t)) w) := by
  obtain ⟨vr, vc, rfl, hR, hC⟩ := hv
  obtain ⟨aR, cR, rfl, hrc, hr⟩ := SlV.open hR
  obtain ⟨aC, cC, rfl, hcc, hc⟩ := SlV.open hC
  have HR := Lib.hid hr
  have HC := Lib.hid hc
  have HF := Lib.hid hf
  have hcapR := hR.cap
  have hcapC := hC.cap
  have HRV := Lib.hid (show ∀ w', Ext w w' → ∀ k, k ≤ t.rows.length → StrsV w' (.slice aR k cR) (t.rows.take k) from fun w' h k hk => (hR.mono h).take rfl hk)
  have HCV := Lib.hid (show ∀ w', Ext w w' → ∀ k, k ≤ t.cols.length → StrsV w' (.slice aC k cC) (t.cols.take k) from fun w' h k hk => (hC.mono h).take rfl hk)
  have hrl := hf.rl
  have hcl := hf.cl
  clear hr hc hR hC hf
  have b3 := Blk.new w #[.slice aR t.rows.length cR, .slice aC t.cols.length cC] 53
  have he := Ext.alloc w (.cells #[.slice aR t.rows.length cR, .slice aC t.cols.length cC] 53)
  go_enter Tryz.func155, Tryz.ntmps155
  have b3_0 := b3.cell 0 rfl
  have b3_1 := b3.cell 1 rfl
  go_upto_region 3 with fail
  generalize w.alloc (.cells #[.slice aR t.rows.length cR, .slice aC t.cols.length cC] 53) = w0 at b3 he b3_0 b3_1 ⊢
  go_cut [48] (fun v48 wc => ∃ bad : Bool, v48 = .bool bad ∧ Hid (bad = false → 0 ≤ al ∧ Heads t) ∧ Hid (bad = true → ¬ Shape al t) ∧ wc = w0)
  case first =>
    by_cases h0 : al < 0
    · go_wp2_with fail
      go_meet
      case rel => exact ⟨true, rfl, Lib.hid (fun h => by cases h), Lib.hid (fun _ h => by have := h.alpha; omega), rfl⟩
    have h0' : 0 ≤ al := by omega
    by_cases h1 : t.rows.length < 1
    · have h1' : (t.rows.length : Int) < 1 := by omega
      go_wp2_with fail
      go_meet
      case rel => exact ⟨true, rfl, Lib.hid (fun h => by cases h), Lib.hid (fun _ h => by have := h.r1; omega), rfl⟩
    have h1' : ¬ (t.rows.length : Int) < 1 := by omega
    by_cases h2 : 12 < t.rows.length
    · have h2' : (12 : Int) < (t.rows.length : Int) := by omega
      go_wp2_with fail
      go_meet
      case rel => exact ⟨true, rfl, Lib.hid (fun h => by cases h), Lib.hid (fun _ h => by have := h.r12; omega), rfl⟩
    have h2' : ¬ (12 : Int) < (t.rows.length : Int) := by omega
    by_cases h3 : t.cols.length < 1
    · have h3' : (t.cols.length : Int) < 1 := by omega
      go_wp2_with fail
      go_meet
      case rel => exact ⟨true, rfl, Lib.hid (fun h => by cases h), Lib.hid (fun _ h => by have := h.c1; omega), rfl⟩
    have h3' : ¬ (t.cols.length : Int) < 1 := by omega
    by_cases h4 : 20 < t.cols.length
    · have h4' : (20 : Int) < (t.cols.length : Int) := by omega
      go_wp2_with fail
      go_meet
      case rel => exact ⟨true, rfl, Lib.hid (fun h => by cases h), Lib.hid (fun _ h => by have := h.c20; omega), rfl⟩
    have h4' : ¬ (20 : Int) < (t.cols.length : Int) := by omega
    obtain ⟨r0, hr0⟩ : ∃ r0, t.rows[0]? = some r0 := ⟨_, List.getElem?_eq_getElem (by omega)⟩
    obtain ⟨br, or_, rfl, -, hrr⟩ := HR.out 0 r0 hr0
    have q0 : w0.cell? ⟨br, or_, none⟩ = some (.string r0) := by have := hrr 0 r0 hr0; unfold StrAt' at this; simp only [Nat.zero_mul, Nat.add_zero] at this; exact he.cell this
    have hir : (0 : Int) < (t.rows.length : Int) := by omega
    have HR0 := Lib.hid hr0
    clear hrr hr0
    by_cases h5 : r0 = ByteArray.mk #[]
    case neg =>
      obtain ⟨f1, f2, f3, f4, f5⟩ := ba_ne r0 h5
      have H5 := Lib.hid h5
      clear h5
      go_wp2_with fail
      go_meet
      case rel => exact ⟨true, rfl, Lib.hid (fun h => by cases h), Lib.hid (fun _ h => H5.out (by have := h.r0; rw [HR0.out] at this; injection this)), rfl⟩
    subst h5
    have hnil := ba_nil
    obtain ⟨c0, hc0⟩ : ∃ c0, t.cols[0]? = some c0 := ⟨_, List.getElem?_eq_getElem (by omega)⟩
    obtain ⟨bc, oc, rfl, -, hcc2⟩ := HC.out 0 c0 hc0
    have q1 : w0.cell? ⟨bc, oc, none⟩ = some (.string c0) := by have := hcc2 0 c0 hc0; unfold StrAt' at this; simp only [Nat.zero_mul, Nat.add_zero] at this; exact he.cell this
    have hic : (0 : Int) < (t.cols.length : Int) := by omega
    have HC0 := Lib.hid hc0
    clear hcc2 hc0
    by_cases h6 : c0 = ByteArray.mk #[]
    case neg =>
      obtain ⟨f1, f2, f3, f4, f5⟩ := ba_ne c0 h6
      have H6 := Lib.hid h6
      clear h6
      go_wp2_with fail
      go_meet
      case rel => exact ⟨true, rfl, Lib.hid (fun h => by cases h), Lib.hid (fun _ h => H6.out (by have := h.c0; rw [HC0.out] at this; injection this)), rfl⟩
    subst h6
    go_wp2_with fail
    go_meet
    case rel => exact ⟨false, rfl, Lib.hid (fun _ => ⟨h0', by omega, by omega, by omega, by omega, HR0.out, HC0.out⟩), Lib.hid (fun h => by cases h), rfl⟩
  case rest =>
  obtain ⟨bad, rfl, HG, HB, rfl⟩ := hcut
  cases bad with
  | true =>
    go_wp2_with fail
    go_ret
    exact Grows.mk (by rw [shapeB_not (HB.out (by first | rfl | trivial))]; rfl) he
  | false =>
  obtain ⟨hal, hH⟩ := HG.out (by first | rfl | trivial)
  have HH := Lib.hid hH
  have hr1 := hH.r1
  have hc1 := hH.c1
  clear HB HG hH
  go_wp2_with fail
  clear b3_0 b3_1
  go_loopw [7, 63, 64, 65, 66, 69, 70, 71, 72, 73, 74, 75, 76, 77, 78, 79] (fun i _ _ _ _ _ _ _ _ _ _ _ _ _ _ _ wr => ∃ k : Nat, 1 ≤ k ∧ k ≤ t.rows.length ∧ i = .int .i64 k ∧ Hid (TRows al t.rows k) ∧ Ext w wr ∧ Blk wr w.heap.size #[.slice aR t.rows.length cR, .slice aC t.cols.length cC] 53) (fun i _ _ _ _ _ _ _ _ _ _ _ _ _ _ _ _ => t.rows.length - (intOf i).toNat)
  case atStart => exact ⟨1, by omega, by omega, rfl, Lib.hid (TRows.one _ _), he, b3⟩
  case round =>
    clear he b3
    obtain ⟨k, hk1, hk, rfl, HRT, he, b3⟩ := hrel
    have b3_0 := b3.cell 0 rfl
    have b3_1 := b3.cell 1 rfl
    by_cases hlt : k < t.rows.length
    case neg =>
      obtain rfl : k = t.rows.length := by omega
      have HRO := Lib.hid HRT.out.full
      clear HRT
      go_wp2_with fail
      clear b3_0 b3_1
      go_loopw [9, 95, 96, 97, 98, 101, 102, 103, 104, 105, 106] (fun i _ _ _ _ _ _ _ _ _ _ wr => ∃ k : Nat, 1 ≤ k ∧ k ≤ t.cols.length ∧ i = .int .i64 k ∧ Hid (TCols al t.cols k) ∧ Ext w wr ∧ Blk wr w.heap.size #[.slice aR t.rows.length cR, .slice aC t.cols.length cC] 53) (fun i _ _ _ _ _ _ _ _ _ _ _ => t.cols.length - (intOf i).toNat)
      case atStart => exact ⟨1, by omega, by omega, rfl, Lib.hid (TCols.one _ _), he, b3⟩
      case round =>
        clear he b3
        obtain ⟨k, hk1, hk, rfl, HCT, he, b3⟩ := hrel
        have b3_0 := b3.cell 0 rfl
        have b3_1 := b3.cell 1 rfl
        by_cases hlt : k < t.cols.length
        case neg =>
          obtain rfl : k = t.cols.length := by omega
          have HCO := Lib.hid HCT.out.full
          clear HCT
          go_wp2_with fail
          go_ret
          exact Grows.mk (by rw [shapeB_iff.2 (HH.out.shape hal HRO.out HCO.out)]; rfl) he
        obtain ⟨c, hc⟩ : ∃ c, t.cols[k]? = some c := ⟨_, List.getElem?_eq_getElem hlt⟩
        obtain ⟨bc, oc, rfl, -, hcc2⟩ := HC.out k c hc
        have q1 : wr.cell? ⟨bc, oc + k, none⟩ = some (.string c) := by have := hcc2 k c hc; unfold StrAt' at this; rw [Nat.mul_one] at this; exact he.cell this
        have hks : (k : Int) < (t.cols.length : Int) := by omega
        have hkc : (k : Int) ≤ (cC : Int) := by omega
        have hcz := HF.out.cs c (List.mem_of_getElem? hc)
        have HX := Lib.hid hc
        clear hcc2 hc
        by_cases h1 : 4000 < c.size
        · have h1' : (4000 : Int) < (c.size : Int) := by omega
          go_wp2_with fail
          go_ret
          exact Grows.mk (by rw [shapeB_not (fun h => by have := (h.cols k c hk1 HX.out).1; omega)]; rfl) he
        have h1' : ¬ (4000 : Int) < (c.size : Int) := by omega
        obtain ⟨wi, hwi⟩ : ∃ wi, wordIn c al = wi := ⟨_, rfl⟩
        have HW := Lib.hid (fun w' => WordWithin_s c al w' hcz)
        rw [hwi] at HW
        have HWI := Lib.hid hwi
        clear hwi
        cases wi with
        | false =>
          go_wp2_with (go_at_call 191; refine (HW.out _).mono ?_; rintro e w' ⟨rfl, rfl⟩)
          go_ret
          exact Grows.mk (by rw [shapeB_not (fun h => by have := (h.cols k c hk1 HX.out).2.1; rw [HWI.out] at this; cases this)]; rfl) he
        | true =>
          obtain ⟨m, hm⟩ : ∃ m, decide (c ∈ t.cols.take k) = m := ⟨_, rfl⟩
          have HIN := Lib.hid (l10In_s _ (t.cols.take k) c _ (HCV.out _ he k (by omega)) (by rw [List.length_take]; omega) hm)
          have HM := Lib.hid hm
          clear hm
          cases m with
          | true =>
            go_wp2_with (first | (go_at_call 191; refine (HW.out _).mono ?_; rintro e w' ⟨rfl, rfl⟩) | (go_at_call 158; refine HIN.out.mono ?_; rintro e w' ⟨rfl, rfl⟩))
            go_ret
            exact Grows.mk (by rw [shapeB_not (fun h => (h.cols k c hk1 HX.out).2.2 (of_decide_eq_true HM.out))]; rfl) he
          | false =>
            have HN := Lib.hid (HCT.out.succ HX.out (by omega) HWI.out (of_decide_eq_false HM.out))
            go_wp2_with (first | (go_at_call 191; refine (HW.out _).mono ?_; rintro e w' ⟨rfl, rfl⟩) | (go_at_call 158; refine HIN.out.mono ?_; rintro e w' ⟨rfl, rfl⟩))
            exact ⟨⟨k + 1, by omega, by omega, by go_num, HN, he, b3⟩, by simp [intOf]; omega⟩
    obtain ⟨r, hr⟩ : ∃ r, t.rows[k]? = some r := ⟨_, List.getElem?_eq_getElem hlt⟩
    obtain ⟨br, or_, rfl, -, hrr⟩ := HR.out k r hr
    have q1 : wr.cell? ⟨br, or_ + k, none⟩ = some (.string r) := by have := hrr k r hr; unfold StrAt' at this; rw [Nat.mul_one] at this; exact he.cell this
    have hks : (k : Int) < (t.rows.length : Int) := by omega
    have hkc : (k : Int) ≤ (cR : Int) := by omega
    have hrz := HF.out.rs r (List.mem_of_getElem? hr)
    have HX := Lib.hid hr
    have D0 := fun d os => cell_regrown b3_0 d os
    clear hrr hr
    by_cases h1 : r.size = 0
    · have HZ := Lib.hid h1
      have h1' : ((r.size : Int) == 0) = true := by rw [h1]; rfl
      clear h1
      go_wp2_with fail
      refine wp_region_quiet_below (by kernel_rfl) (by kernel_rfl) ?_
      repeat (go_big_quiet_step (fail))
      refine wpQuiet_nil ?_
      intro _ hw'
      obtain ⟨⟨dq, osq⟩, hw''⟩ := hw'
      subst hw''
      have hq3 : Ext wr (Go.Sort.grow (redrawn wr dq) osq) := below_regrown wr dq osq
      generalize Go.Sort.grow (redrawn wr dq) osq = wq at hq3 ⊢
      go_wp2_with fail
      go_ret
      exact Grows.mk (by rw [shapeB_not (fun h => (h.rows k r hk1 HX.out).1 HZ.out)]; rfl) (he.trans hq3)
    have h1' : ((r.size : Int) == 0) = false := beq_eq_false_iff_ne.2 (by omega)
    have HZ := Lib.hid h1
    obtain ⟨z, hz⟩ : ∃ z, r.size = z + 1 := ⟨r.size - 1, by omega⟩
    have hw1 : IntKind.i64.wrap ((r.size : Int) - 1) = (z : Int) := by rw [IntKind.wrap_i64]; omega
    have hzs : (z : Int) ≤ (r.size : Int) := by omega
    have hz2 : Hid (r.size - 1 = z) := Lib.hid (by omega)
    clear h1 hz
    obtain ⟨wi, hwi⟩ : ∃ wi, wordIn r al = wi := ⟨_, rfl⟩
    have HW := Lib.hid (fun w' => WordWithin_s r al w' hrz)
    rw [hwi] at HW
    have HWI := Lib.hid hwi
    clear hwi
    cases wi with
    | false =>
      go_wp2_with fail
      refine wp_region_quiet_below (by kernel_rfl) (by kernel_rfl) ?_
      repeat (go_big_quiet_step ((go_at_call 191; exact Same.quiet (HW.out _))))
      refine wpQuiet_nil ?_
      intro _ hw'
      obtain ⟨⟨dq, osq⟩, hw''⟩ := hw'
      subst hw''
      have hq3 : Ext wr (Go.Sort.grow (redrawn wr dq) osq) := below_regrown wr dq osq
      generalize Go.Sort.grow (redrawn wr dq) osq = wq at hq3 ⊢
      go_wp2_with fail
      go_ret
      exact Grows.mk (by rw [shapeB_not (fun h => by have := (h.rows k r hk1 HX.out).2.1; rw [HWI.out] at this; cases this)]; rfl) (he.trans hq3)
    | true =>
      obtain ⟨m, hm⟩ : ∃ m, decide (r.extract 0 z ∈ t.rows.take k) = m := ⟨_, rfl⟩
      have HIN := Lib.hid (fun w' (h : Ext w w') => l10In_s _ (t.rows.take k) (r.extract 0 z) w' (HRV.out _ h k (by omega)) (by rw [List.length_take]; omega) hm)
      have HM := Lib.hid hm
      clear hm
      cases m with
      | false =>
        go_wp2_with fail
        refine wp_region_quiet_below (by kernel_rfl) (by kernel_rfl) ?_
        repeat (go_big_quiet_step (first | (go_at_call 191; exact Same.quiet (HW.out _)) | (go_at_call 158; exact Same.quiet (HIN.out _ (he.trans (below_regrown _ _ _))))))
        refine wpQuiet_nil ?_
        intro _ hw'
        obtain ⟨⟨dq, osq⟩, hw''⟩ := hw'
        subst hw''
        have hq3 : Ext wr (Go.Sort.grow (redrawn wr dq) osq) := below_regrown wr dq osq
        generalize Go.Sort.grow (redrawn wr dq) osq = wq at hq3 ⊢
        go_wp2_with fail
        go_ret
        exact Grows.mk (by rw [shapeB_not (fun h => by have := (h.rows k r hk1 HX.out).2.2; rw [hz2.out] at this; exact of_decide_eq_false HM.out this)]; rfl) (he.trans hq3)
      | true =>
        have HN := Lib.hid (HRT.out.succ HX.out HZ.out HWI.out (by rw [hz2.out]; exact of_decide_eq_true HM.out))
        go_wp2_with fail
        refine wp_region_quiet_below (by kernel_rfl) (by kernel_rfl) ?_
        repeat (go_big_quiet_step (first | (go_at_call 191; exact Same.quiet (HW.out _)) | (go_at_call 158; exact Same.quiet (HIN.out _ (he.trans (below_regrown _ _ _))))))
        refine wpQuiet_nil ?_
        intro _ hw'
        obtain ⟨⟨dq, osq⟩, hw''⟩ := hw'
        subst hw''
        have hq3 : Ext wr (Go.Sort.grow (redrawn wr dq) osq) := below_regrown wr dq osq
        generalize Go.Sort.grow (redrawn wr dq) osq = wq at hq3 ⊢
        go_wp2_with fail
        exact ⟨⟨k + 1, by omega, by omega, by go_num, HN, he.trans hq3, b3.ext hq3⟩, by simp [intOf]; omega⟩
-- CUT2
end Go.Proofs.YtanekmfifmkbmaaGreatDoor
