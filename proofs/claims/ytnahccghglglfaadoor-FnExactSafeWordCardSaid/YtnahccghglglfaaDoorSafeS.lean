/- The reference's safe words: l9Close, l9Start, l9Move, l9Bad, SafeWord. -/
import Derived.Test.YtnahccghglglfaaDoorPlainE
import Derived.Test.YtnahccghglglfaaDoorSubS
import Derived.Test.YtnahccghglglfaaDoorWalkK
import Derived.Test.YtnahccghglglfaaDoorWalkH
import Derived.Test.YtnahccghglglfaaDoorWalkSJ

namespace Go.Proofs.YtnahccghglglfaaDoor
set_option linter.unusedSimpArgs false
set_option linter.unusedVariables false
open Go.RowKit
set_option maxHeartbeats 4000000
set_option maxRecDepth 100000

theorem wRest_of {w : World} {base g n cap : Nat} {f : Sets} (h : w.ownsRow base 3 1 (.slice (some ⟨g, 0, none⟩) n cap) n ((setsL n f).map (Value.int .i64))) : ∀ k, k ≤ n → wRest w g k = restOf f k := by
  intro k
  induction k with
  | zero => intro _; rfl
  | succ k ih =>
    intro hk
    unfold wRest restOf
    rw [ih (by omega), own_cell h (j := k) (u := .int .i64 (f k : Int)) (by rw [List.getElem?_map, setsL_at f (by omega)]; rfl)]
    simp [cellNat]

theorem hiddenOf_letters {t : Task} (ht : taskValid t = true) : letters (hidS t.sys t.alphabet) = hiddenOf t := by
  obtain ⟨hs, -, ha⟩ := taskValid_facts ht
  obtain ⟨h1, h2⟩ := sys_alpha hs
  obtain ⟨h3, h4⟩ := alpha_facts ha
  obtain ⟨m, hm⟩ := Int.eq_ofNat_of_zero_le h1
  obtain ⟨n, hn⟩ := Int.eq_ofNat_of_zero_le h3
  unfold hidS hiddenOf
  rw [hm, hn, i64_and_nat m n (by omega) (by omega)]
  have : m &&& n ≤ m := Nat.and_le_left
  rw [show (m : Int) - ((m &&& n : Nat) : Int) = ((m - (m &&& n) : Nat) : Int) by omega]
  exact hid_all m (List.mem_range.2 (by omega)) n (List.mem_range.2 (by omega))
/-- The reference's sets of a task in memory. -/
def SetsOwn (base n g cap : Nat) (w : World) (f : Sets) : Prop := w.ownsRow base 3 1 (.slice (some ⟨g, 0, none⟩) n cap) n ((setsL n f).map (Value.int .i64))
theorem SetsOwn.cell {base n g cap : Nat} {w : World} {f : Sets} (h : SetsOwn base n g cap w f) {p : Nat} (hp : p < n) : w.cell? ⟨g, p, none⟩ = some (.int .i64 (f p : Int)) := own_cell h (by rw [List.getElem?_map, setsL_at f hp]; rfl)
theorem SetsOwn.fr {base n g cap : Nat} {w : World} {f : Sets} (h : SetsOwn base n g cap w f) (p : Nat) : w.frozen? ⟨g, p, none⟩ = false := World.ownsRow.frozenAt h p
theorem SetsOwn.ext {base n g cap : Nat} {w w' : World} {f : Sets} (h : SetsOwn base n g cap w f) (he : Ext w w') : SetsOwn base n g cap w' f := own_ext h he
theorem SetsOwn.set {base n g cap : Nat} {w : World} {f : Sets} (h : SetsOwn base n g cap w f) {p : Nat} (hp : p < n) (y : Nat) : SetsOwn base n g cap (w.setCell ⟨g, p, none⟩ (.int .i64 (y : Int))) (updS f p y) := by
  have := (World.ownsRow.stored h p (.int .i64 (y : Int))).1
  unfold SetsOwn
  rw [← setsL_set f hp, List.map_set]; exact this
theorem SetsOwn.base_le {base n g cap : Nat} {w : World} {f : Sets} (h : SetsOwn base n g cap w f) : base ≤ g ∧ g < w.heap.size := own_lt h rfl

theorem l9Close_c (v : Value) (t : Task) (f : Sets) (g0 n cap : Nat) (w0 w : World) (hV : ∀ w', Ext w0 w' → TaskV w' v t) (ht : taskValid t = true) (hel : t.sys.edges.length ≤ 1048576) (hn : Hid (t.prop.next.length = n)) (hf : Within t f) (he : Ext w0 w) (hs : SetsOwn w0.heap.size n g0 cap w f) :
    Calls Tryd.prog 64 #[v, .slice (some ⟨g0, 0, none⟩) n cap] w (fun e w' => e = .returned (.slice (some ⟨g0, 0, none⟩) n cap) ∧ Ext w0 w' ∧ SetsOwn w0.heap.size n g0 cap w' (closeM t f)) := by
  obtain ⟨hS, hP, hA⟩ := taskValid_facts ht
  obtain ⟨ha, ha2⟩ := alpha_facts hA
  obtain ⟨hH, hH2, hHw⟩ := hidS_facts hS ha ha2
  have HLT := Lib.hid (hiddenOf_letters ht)
  obtain ⟨H, hHe⟩ : ∃ H, hidS t.sys t.alphabet = H := ⟨_, rfl⟩
  rw [hHe] at hH hH2 hHw HLT
  clear hHe ht
  have hn12 : n ≤ 12 := by rw [← hn.out]; exact (autoValid_facts hP).2.2.2.1
  have HV := Lib.hid hV
  clear hV
  obtain ⟨ve, vn, va, rfl, h1, h2, h3⟩ := HV.out w0 (Ext.refl _)
  obtain ⟨ae, ce, rfl, -, -⟩ := h1.open
  obtain ⟨an, cn, rfl, -, -⟩ := h2.open
  obtain ⟨aa, ca, rfl, -, -⟩ := h3.open
  have HSY := Lib.hid (show ∀ w', Ext w0 w' → SysV w' (.agg #[.int .i64 t.sys.alphabet, .int .i64 t.sys.states, .slice ae t.sys.edges.length ce]) t.sys from fun w' h => ⟨_, rfl, h1.mono h⟩)
  have HAU := Lib.hid (show ∀ w', Ext w0 w' → AutoV w' (.agg #[.int .i64 t.prop.alphabet, .slice an t.prop.next.length cn, .slice aa t.prop.accept.length ca]) t.prop from fun w' h => ⟨_, _, rfl, h2.mono h, h3.mono h⟩)
  clear h1 h2 h3 HV
  have hg0 := hs.base_le
  have hB := Blk.new w #[.int .i64 t.sys.alphabet, .int .i64 t.sys.states, .slice ae t.sys.edges.length ce, .int .i64 t.prop.alphabet, .slice an t.prop.next.length cn, .slice aa t.prop.accept.length ca, .int .i64 t.alphabet] 38
  have hx0 := Ext.alloc w (.cells #[.int .i64 t.sys.alphabet, .int .i64 t.sys.states, .slice ae t.sys.edges.length ce, .int .i64 t.prop.alphabet, .slice an t.prop.next.length cn, .slice aa t.prop.accept.length ca, .int .i64 t.alphabet] 38)
  replace hs := hs.ext hx0
  replace he := he.trans hx0
  have hbs : w.heap.size < (w.alloc (.cells #[.int .i64 t.sys.alphabet, .int .i64 t.sys.states, .slice ae t.sys.edges.length ce, .int .i64 t.prop.alphabet, .slice an t.prop.next.length cn, .slice aa t.prop.accept.length ca, .int .i64 t.alphabet] 38)).heap.size := by simp
  go_enter Tryd.func64, Tryd.ntmps64
  go_wp2_with fail
  clear hx0
  generalize w.alloc (.cells #[.int .i64 t.sys.alphabet, .int .i64 t.sys.states, .slice ae t.sys.edges.length ce, .int .i64 t.prop.alphabet, .slice an t.prop.next.length cn, .slice aa t.prop.accept.length ca, .int .i64 t.alphabet] 38) = wb at hs he hB hbs ⊢
  refine (l1Letters_o H _ hH hH2).mono ?_
  rintro e w1 ⟨vl, rfl, he1, hL⟩
  rw [HLT.out] at hL
  obtain ⟨L, hLe⟩ : ∃ L, hiddenOf t = L := ⟨_, rfl⟩
  have HL := Lib.hid hLe
  have hL6 : L.length ≤ 6 := by rw [← hLe]; exact hidden_len t
  rw [hLe] at hL
  obtain ⟨al, cl, rfl⟩ := hL.shape
  replace hs := hs.ext he1
  replace he := he.trans he1
  replace hB := hB.ext he1
  clear he1 hLe HLT hHw hH hH2
  have HO0 : Hid (OnClose t f f) := Lib.hid ⟨fun _ _ h => h, (closeM_is hS hf).above, hf⟩
  obtain ⟨bl0, hbl0⟩ : ∃ bl0, wb.heap.size = bl0 := ⟨_, rfl⟩
  rw [hbl0] at hL hbs
  clear hbl0
  go_wp2_with fail
  go_loopw [6] (fun m wr => ∃ (g : Sets) (b : Bool), m = .bool b ∧ SetsOwn w0.heap.size n g0 cap wr g ∧ Hid (OnClose t f g) ∧ Hid (b = false → ClosedUp t g n 0) ∧ Blk wr w.heap.size #[.int .i64 t.sys.alphabet, .int .i64 t.sys.states, .slice ae t.sys.edges.length ce, .int .i64 t.prop.alphabet, .slice an t.prop.next.length cn, .slice aa t.prop.accept.length ca, .int .i64 t.alphabet] 38 ∧ IntsOwn 3 bl0 wr (.slice al L.length cl) L ∧ Ext w0 wr) (fun m wr => 2 * wRest wr g0 n + flagOf m)
  case atStart => exact ⟨f, true, rfl, hs, HO0, Lib.hid (fun h => by cases h), hB, hL, he⟩
  case round =>
    clear hs HO0 hB hL he
    obtain ⟨g, b, rfl, hs, HO, HC, hB, hL, he⟩ := hrel
    cases b with
    | false =>
      have hfin : closeM t f = g := HO.out.done hS hf (by rw [hn.out]; exact HC.out rfl)
      have HF := Lib.hid hfin
      clear hfin
      go_wp2_with fail
      go_ret
      exact ⟨rfl, he, by rw [HF.out]; exact hs⟩
    | true =>
      have hmeas := Lib.hid (wRest_of hs n (Nat.le_refl _))
      go_wp2_with fail
      go_loopw [6, 7] (fun m i wr => ∃ (p : Nat) (g' : Sets) (b : Bool), p ≤ n ∧ i = .int .i64 p ∧ m = .bool b ∧ SetsOwn w0.heap.size n g0 cap wr g' ∧ Hid (OnClose t f g') ∧ Hid ((b = false → g' = g ∧ ClosedUp t g' p 0) ∧ (b = true → restOf g' n < restOf g n)) ∧ Blk wr w.heap.size #[.int .i64 t.sys.alphabet, .int .i64 t.sys.states, .slice ae t.sys.edges.length ce, .int .i64 t.prop.alphabet, .slice an t.prop.next.length cn, .slice aa t.prop.accept.length ca, .int .i64 t.alphabet] 38 ∧ IntsOwn 3 bl0 wr (.slice al L.length cl) L ∧ Ext w0 wr) (fun _ i _ => n - (intOf i).toNat)
      case atStart => exact ⟨0, g, false, by omega, rfl, rfl, hs, HO, Lib.hid ⟨fun _ => ⟨rfl, fun p hp => by omega, fun l hl => by simp at hl⟩, fun h => by cases h⟩, hB, hL, he⟩
      case round =>
        clear hs HO HC hB hL he
        obtain ⟨p, g', b, hp, rfl, rfl, hs, HO, HC, hB, hL, he⟩ := hrel
        by_cases hpn : p < n
        · have hpn2 : (p : Int) < (n : Int) := by omega
          go_wp2_with fail
          go_loopw [6, 8] (fun m k wr => ∃ (q : Nat) (g' : Sets) (b : Bool), q ≤ L.length ∧ k = .int .i64 q ∧ m = .bool b ∧ SetsOwn w0.heap.size n g0 cap wr g' ∧ Hid (OnClose t f g') ∧ Hid ((b = false → g' = g ∧ ClosedUp t g' p q) ∧ (b = true → restOf g' n < restOf g n)) ∧ Blk wr w.heap.size #[.int .i64 t.sys.alphabet, .int .i64 t.sys.states, .slice ae t.sys.edges.length ce, .int .i64 t.prop.alphabet, .slice an t.prop.next.length cn, .slice aa t.prop.accept.length ca, .int .i64 t.alphabet] 38 ∧ IntsOwn 3 bl0 wr (.slice al L.length cl) L ∧ Ext w0 wr) (fun _ k _ => L.length - (intOf k).toNat)
          case atStart => exact ⟨0, g', b, by omega, rfl, rfl, hs, HO, HC, hB, hL, he⟩
          case round =>
            clear hs HO HC hB hL he
            obtain ⟨q, g', b, hq, rfl, rfl, hs, HO, HC, hB, hL, he⟩ := hrel
            by_cases hql : q < L.length
            · obtain ⟨l, hlq⟩ : ∃ l, L[q]? = some l := ⟨_, List.getElem?_eq_getElem hql⟩
              have hlH : l ∈ hiddenOf t := by rw [HL.out]; exact List.mem_of_getElem? hlq
              obtain ⟨gl, cl', e6, gcell⟩ := own_at hL.own (j := q) (u := .int .i64 l) (by rw [List.getElem?_map, hlq]; rfl)
              cases e6
              obtain ⟨l0, l6⟩ := bit_range (sys_alpha hS).2 ((hidden_iff hS l).1 hlH).1
              have hpx : p < t.prop.next.length := by rw [hn.out]; exact hpn
              have hnxl := step_lt hP hpx l
              rw [hn.out] at hnxl
              have hadd := Lib.hid (HO.out.add hS hP hf hpx hlH)
              have HCA := Lib.hid (fun h => closedAt_of (t := t) (g := g') (i := p) (l := l) h)
              have hgp := within_lt HO.out.within p
              have hgn := within_lt HO.out.within (step t.prop p l)
              have hst := (by rw [← stepTo_full]; exact stepTo_lt hS (g' p) l _ : stepM t.sys (g' p) l < 65536)
              have CG := Lib.hid (show ∀ w', Ext w0 w' → Calls Tryd.prog 67 #[.agg #[.int .i64 t.prop.alphabet, .slice an t.prop.next.length cn, .slice aa t.prop.accept.length ca], .int .i64 p, .int .i64 l] w' (Grows (.int .i64 (step t.prop p l : Nat)) w') from fun w' h => l3Go_c _ t.prop p l w' (HAU.out _ h) hP hpx l0 l6)
              have CST := Lib.hid (show ∀ w', Ext w0 w' → Calls Tryd.prog 66 #[.agg #[.int .i64 t.sys.alphabet, .int .i64 t.sys.states, .slice ae t.sys.edges.length ce], .int .i64 (g' p : Nat), .int .i64 l] w' (Grows (.int .i64 (stepM t.sys (g' p) l : Nat)) w') from fun w' h => l2Step_c _ t.sys (g' p) l w' (HSY.out _ h) hS hel hgp)
              have HLQ := Lib.hid (show (hiddenOf t)[q]? = some l from by rw [HL.out]; exact hlq)
              obtain ⟨nx, hnx⟩ : ∃ nx, step t.prop p l = nx := ⟨_, rfl⟩
              obtain ⟨st, hste⟩ : ∃ st, stepM t.sys (g' p) l = st := ⟨_, rfl⟩
              rw [hnx] at hnxl hgn hadd CG
              rw [hste] at hst CST hadd
              have HCA2 : Hid (g' nx ||| st = g' nx → closedAt t g' p l) := Lib.hid fun h => HCA.out (by rw [hnx, hste]; exact h)
              have cn := hs.cell hnxl
              have cp := hs.cell hpn
              have fn' := hs.fr nx
              obtain ⟨x, hxe⟩ : ∃ x, g' nx = x := ⟨_, rfl⟩
              obtain ⟨z, hze⟩ : ∃ z, g' p = z := ⟨_, rfl⟩
              rw [hxe] at cn hgn hadd HCA2
              rw [hze] at cp CST
              obtain ⟨y, hye⟩ : ∃ y, x ||| st = y := ⟨_, rfl⟩
              have hor : bits .or .i64 (x : Int) (st : Int) = (y : Int) := by rw [i64_or_nat x st (by omega) (by omega), hye]
              have hxy : x ≤ y := by rw [← hye]; exact Nat.left_le_or
              rw [hye] at hadd HCA2
              have HXE := Lib.hid hxe
              have hnx2 : (nx : Int) < (n : Int) := by omega
              have hql2 : (q : Int) < (L.length : Int) := by omega
              clear hxe hze hye hnx hste HCA hlq
              go_wp2_with fail
              have D0 := fun d os => cell_regrown (hB.cell 3 rfl) d os
              have D1 := fun d os => cell_regrown (hB.cell 4 rfl) d os
              have D2 := fun d os => cell_regrown (hB.cell 5 rfl) d os
              have D3 := fun d os => cell_regrown gcell d os
              refine wp_region_quiet_below (by kernel_rfl) (by kernel_rfl) ?_
              repeat (go_big_quiet_step ((go_at_call 67; exact Grows.quiet (CG.out _ (he.trans (below_regrown _ _ _))))))
              refine wpQuiet_nil ?_
              intro _ hw'
              obtain ⟨⟨dq, osq⟩, hw''⟩ := hw'
              subst hw''
              have hq2 : Ext wr (Go.Sort.grow (redrawn wr dq) osq) := below_regrown wr dq osq
              generalize Go.Sort.grow (redrawn wr dq) osq = wq at hq2 ⊢
              clear D0 D1 D2 D3
              replace cn := hq2.cell cn
              replace cp := hq2.cell cp
              replace gcell := hq2.cell gcell
              replace hB := hB.ext hq2
              replace hs := hs.ext hq2
              replace hL := hL.ext hq2
              replace he := he.trans hq2
              clear hq2 fn'
              go_wp2_with fail
              have D0 := fun d os => cell_regrown (hB.cell 0 rfl) d os
              have D1 := fun d os => cell_regrown (hB.cell 1 rfl) d os
              have D2 := fun d os => cell_regrown (hB.cell 2 rfl) d os
              have D3 := fun d os => cell_regrown gcell d os
              have D4 := fun d os => cell_regrown cn d os
              have D5 := fun d os => cell_regrown cp d os
              refine wp_region_quiet_below (by kernel_rfl) (by kernel_rfl) ?_
              repeat (go_big_quiet_step ((go_at_call 66; exact Grows.quiet (CST.out _ (he.trans (below_regrown _ _ _))))))
              refine wpQuiet_nil ?_
              intro _ hw'
              obtain ⟨⟨dq, osq⟩, hw''⟩ := hw'
              subst hw''
              have hq3 : Ext wq (Go.Sort.grow (redrawn wq dq) osq) := below_regrown wq dq osq
              generalize Go.Sort.grow (redrawn wq dq) osq = wu at hq3 ⊢
              clear D0 D1 D2 D3 D4 D5 cp gcell
              replace cn := hq3.cell cn
              replace hB := hB.ext hq3
              replace hs := hs.ext hq3
              replace hL := hL.ext hq3
              replace he := he.trans hq3
              have fn' := hs.fr nx
              clear hq3
              by_cases hxy2 : y = x
              · have hcmp : ((y : Int) != (x : Int)) = false := by rw [hxy2]; simp
                have hcl := HCA2.out hxy2
                have hrow : (b = false → g' = g ∧ ClosedUp t g' p (q + 1)) ∧ (b = true → restOf g' n < restOf g n) := ⟨fun hb => ⟨(HC.out.1 hb).1, (HC.out.1 hb).2.next HLQ.out hcl⟩, HC.out.2⟩
                have HROW := Lib.hid hrow
                clear hrow hcl hxy2
                go_wp2_with fail
                exact ⟨⟨q + 1, g', b, by omega, by go_num, rfl, hs, HO, HROW, hB, hL, he⟩, by simp [intOf]; omega⟩
              · have hcmp : ((y : Int) != (x : Int)) = true := by simp; omega
                have hlt := restOf_lt g' (p := nx) (y := y) (by rw [HXE.out]; omega) (by rw [HXE.out]; exact hgn) n hnxl
                have hrow : (true = false → updS g' nx y = g ∧ ClosedUp t (updS g' nx y) p (q + 1)) ∧ (true = true → restOf (updS g' nx y) n < restOf g n) := ⟨fun h => by (cases h), fun _ => by
                  rcases Bool.eq_false_or_eq_true b with hb | hb
                  · have := HC.out.2 hb; omega
                  · have := (HC.out.1 hb).1; rw [this] at hlt ⊢; exact hlt⟩
                have HROW := Lib.hid hrow
                have hs2 := hs.set hnxl y
                have hB2 := hB.other (p := ⟨g0, nx, none⟩) (by simp only []; omega) (.int .i64 (y : Int))
                have hL2 : IntsOwn 3 bl0 (wu.setCell ⟨g0, nx, none⟩ (.int .i64 (y : Int))) (.slice (some ⟨gl, 0, none⟩) L.length cl) L := own_set hL.own (p := ⟨g0, nx, none⟩) (by simp only []; omega) _
                have he2 := he.setCell (p := ⟨g0, nx, none⟩) (by simp only []; omega) (.int .i64 (y : Int))
                clear hrow hlt hxy2
                go_wp2_with fail
                exact ⟨⟨q + 1, updS g' nx y, true, by omega, by go_num, rfl, hs2, hadd, HROW, hB2, hL2, he2⟩, by simp [intOf]; omega⟩
            · obtain rfl : q = L.length := by omega
              have hrow : (b = false → g' = g ∧ ClosedUp t g' (p + 1) 0) ∧ (b = true → restOf g' n < restOf g n) := ⟨fun hb => ⟨(HC.out.1 hb).1, (show ClosedUp t g' p (hiddenOf t).length from by rw [HL.out]; exact (HC.out.1 hb).2).row⟩, HC.out.2⟩
              have HROW := Lib.hid hrow
              clear hrow
              go_wp2_with fail
              exact ⟨⟨p + 1, g', b, by omega, by go_num, rfl, hs, HO, HROW, hB, hL, he⟩, by simp [intOf]; omega⟩
        · obtain rfl : p = n := by omega
          go_wp2_with fail
          refine ⟨⟨g', b, rfl, hs, HO, Lib.hid fun hb => (HC.out.1 hb).2, hB, hL, he⟩, ?_⟩
          rw [wRest_of hs p (Nat.le_refl _), hmeas.out]
          cases b with
          | false => have := (HC.out.1 rfl).1; subst this; simp [flagOf]
          | true => have := HC.out.2 rfl; simp [flagOf]; omega
end Go.Proofs.YtnahccghglglfaaDoor
