/- FnPartsTurned: for all bytes, the drawn parts have the same first violation in the other order: the law answers true. -/
import Derived.Test.YteodlkkghnfkdaaDoorDrawB
import Derived.Test.YteodlkkghnfkdaaDoorPlainA
import Derived.Test.YteodlkkghnfkdaaDoorDet
import Derived.Test.YteodlkkghnfkdaaDoorCard
import Derived.Test.YteodlkkghnfkdaaDoorDrawL
namespace Go.Proofs.YteodlkkghnfkdaaDoor.lawFnPartsTurned
open Go.ChangeShapes Go.WideShapes Go.ChangeAt Go.RowKit
open Go.Proofs.YteodlkkghnfkdaaDoor
open Go.ChangeMaps (open_string shut_string)
set_option linter.unusedVariables false
set_option linter.unusedSimpArgs false
set_option maxHeartbeats 1600000
set_option maxRecDepth 100000

def sysVals (ps : List (Sys × Value)) : List Value := ps.flatMap fun p => [.int .i64 p.1.alphabet, .int .i64 p.1.states, p.2]
theorem sysVals_push (ps : List (Sys × Value)) (p : Sys × Value) : sysVals (ps ++ [p]) = sysVals ps ++ [.int .i64 p.1.alphabet, .int .i64 p.1.states, p.2] := by simp [sysVals]
theorem sysVals_at {ps : List (Sys × Value)} {i : Nat} {p : Sys × Value} (h : ps[i]? = some p) : (sysVals ps)[i * 3]? = some (.int .i64 p.1.alphabet) ∧ (sysVals ps)[i * 3 + 1]? = some (.int .i64 p.1.states) ∧ (sysVals ps)[i * 3 + 2]? = some p.2 := by
  induction ps generalizing i with
  | nil => simp at h
  | cons a ps ih =>
    have e : sysVals (a :: ps) = [.int .i64 a.1.alphabet, .int .i64 a.1.states, a.2] ++ sysVals ps := rfl
    cases i with
    | zero => simp at h; subst h; rw [e]; exact ⟨rfl, rfl, rfl⟩
    | succ i =>
      obtain ⟨h0, h1, h2⟩ := ih (by simpa using h)
      rw [e]
      refine ⟨?_, ?_, ?_⟩
      · rw [List.getElem?_append_right (by simp; omega)]; rw [← h0]; congr 1; simp; omega
      · rw [List.getElem?_append_right (by simp; omega)]; rw [← h1]; congr 1; simp; omega
      · rw [List.getElem?_append_right (by simp; omega)]; rw [← h2]; congr 1; simp; omega
theorem syss_of_own {w : World} {base : Nat} {v : Value} {l : List Sys} {ps : List (Sys × Value)} (h : w.ownsRow base 25 3 v l.length (sysVals ps)) (hm : ps.map (·.1) = l) (hE : ∀ p ∈ ps, EdgesV w p.2 p.1.edges) : SyssV w v l :=
  SlV_of_own h fun g cap hv i s hs => by
    rw [← hm, List.getElem?_map] at hs
    obtain ⟨p, hp, rfl⟩ := Option.map_eq_some_iff.1 hs
    subst hv
    obtain ⟨h0, h1, h2⟩ := sysVals_at hp
    exact ⟨p.2, own_cell h h0, own_cell h h1, own_cell h h2, hE p (List.mem_of_getElem? hp)⟩

theorem walk (v0 : Value) (t0 : List UInt8) (w : World) (hv0 : BytesV w v0 t0) (hD : Deb w) : Calls Tryd.prog 4 #[v0] w (Grows (.bool true) w) := by
  obtain ⟨aB, cB, rfl, hleB, -⟩ := hv0.open
  have HDb := Lib.hid hD
  clear hD
  by_cases hz0 : 1048576 < t0.length
  · go_enter Tryd.func4, Tryd.ntmps4
    go_wp2_with fail
    go_ret
    exact Grows.mk rfl (Ext.refl _)
  go_enter Tryd.func4, Tryd.ntmps4
  go_wp2_with fail
  refine (DrawPartsViolation_t _ t0 _ hv0 (by omega)).mono ?_
  rintro e w1 ⟨r, D, rfl, he1, hD1, hT1, s, p, rfl, ⟨nL, hnL, hL⟩, hP⟩
  obtain ⟨l, hlen, hlV, hlE⟩ := hL.syssT hT1
  have hlV' := hlV
  obtain ⟨aL, cL, rfl, -, -⟩ := hlV'.open
  clear hlV'
  obtain ⟨P, hPn3, hPa3, hPV3⟩ := hP.auto hT1
  obtain ⟨vN3, vA3, rfl, hN3, hA3⟩ := hPV3
  obtain ⟨aN3, cN3, rfl, -, -⟩ := hN3.open
  obtain ⟨aA3, cA3, rfl, -, -⟩ := hA3.open
  have hlen4 : l.length ≤ 4 := by omega
  have HLE := Lib.hid hlE
  have HL := Lib.hid (show ∀ w', Ext w1 w' → SyssV w' (.slice aL l.length cL) l from fun w' h => hlV.mono h)
  have HP := Lib.hid (show ∀ w', Ext w1 w' → AutoV w' (.agg #[.int .i64 P.alphabet, .slice aN3 P.next.length cN3, .slice aA3 P.accept.length cA3]) P from fun w' h => ⟨_, _, rfl, hN3.mono h, hA3.mono h⟩)
  have HD := Lib.hid (show ∀ w', Ext w1 w' → Deb w' from fun w' h => HDb.out.ext (he1.trans h))
  obtain ⟨rr, hrr⟩ : ∃ rr, pvOf l P = rr := ⟨_, rfl⟩
  have HR := Lib.hid hrr
  have C1 := Lib.hid (show ∀ w', Ext w1 w' → Calls Tryd.prog 12 #[.slice aL l.length cL, .agg #[.int .i64 P.alphabet, .slice aN3 P.next.length cN3, .slice aA3 P.accept.length cA3]] w' (Grows (.tuple #[.string (rtext rr), .bool rr.isSome]) w') from fun w' h => by have := PartsViolation_cd _ _ l P _ (HL.out _ h) (by omega) (HP.out _ h) (HD.out _ h); rwa [HR.out] at this)
  have C2 := Lib.hid (show ∀ w', Ext w1 w' → Calls Tryd.prog 13 #[.slice aL l.length cL, .agg #[.int .i64 P.alphabet, .slice aN3 P.next.length cN3, .slice aA3 P.accept.length cA3]] w' (Grows (.tuple #[.string (rtext rr), .bool rr.isSome]) w') from fun w' h => by have := PartsViolation_sd _ _ l P _ (HL.out _ h) (by omega) (fun s hs => Nat.le_trans (HLE.out s hs) (by omega)) (HP.out _ h); rwa [HR.out] at this)
  clear hrr
  clear hlV hN3 hA3 hL hP hT1 hD1 hlen hlE hnL
  have hx : Ext w1 (w1.alloc (.cells #[.int .i64 P.alphabet, .slice aN3 P.next.length cN3, .slice aA3 P.accept.length cA3] 29)) := Ext.alloc _ _
  have b4 : Blk (w1.alloc (.cells #[.int .i64 P.alphabet, .slice aN3 P.next.length cN3, .slice aA3 P.accept.length cA3] 29)) w1.heap.size #[.int .i64 P.alphabet, .slice aN3 P.next.length cN3, .slice aA3 P.accept.length cA3] 29 := Blk.new _ _ _
  go_wp2_with fail
  generalize (w1.alloc (.cells #[.int .i64 P.alphabet, .slice aN3 P.next.length cN3, .slice aA3 P.accept.length cA3] 29)) = w2 at hx b4 ⊢
  have b4_0 := b4.cell 0 rfl; have b4_1 := b4.cell 1 rfl; have b4_2 := b4.cell 2 rfl
  go_wp2_with fail
  refine (C1.out _ hx).mono ?_
  rintro e wz1 ⟨rfl, hez1⟩
  clear b4_0 b4_1 b4_2
  replace b4 := b4.ext hez1
  replace hx := hx.trans hez1
  have b4_0 := b4.cell 0 rfl; have b4_1 := b4.cell 1 rfl; have b4_2 := b4.cell 2 rfl
  go_wp2_with fail
  refine (C2.out _ hx).mono ?_
  rintro e wz2 ⟨rfl, hez2⟩
  clear b4_0 b4_1 b4_2
  replace b4 := b4.ext hez2
  replace hx := hx.trans hez2
  have b4_0 := b4.cell 0 rfl; have b4_1 := b4.cell 1 rfl; have b4_2 := b4.cell 2 rfl
  have heq2 : (rr.isSome != rr.isSome) = false := by simp
  have heq3 : (rr.isSome == rr.isSome) = true := by simp
  have hown0 := own_lit 25 3 wz2
  have hxe := hx
  go_wp2_with fail
  generalize hW : wz2 = wb at *
  go_loopw [9, 10] (fun vT i wr => ∃ (m k : Nat) (ps : List (Sys × Value)), m + k = l.length ∧ i = .int .i64 ((m : Int) - 1) ∧ wr.ownsRow wb.heap.size 25 3 vT k (sysVals ps) ∧ Hid (ps.map (·.1) = l.reverse.take k) ∧ Hid (∀ p ∈ ps, EdgesV wb p.2 p.1.edges) ∧ Ext wb wr) (fun _ i _ => (intOf i + 1).toNat)
  case atStart => exact ⟨l.length, 0, [], by omega, rfl, hown0, by show _ = _; simp, by show ∀ p ∈ [], _; simp, Ext.alloc _ _⟩
  case round =>
    obtain ⟨m, k, ps, hmk, rfl, hown, HM, HE, hext⟩ := hrel
    obtain ⟨aT, cT, rfl⟩ := own_any' hown
    have hbase := hext.size
    by_cases hm : m = 0
    · have hkl : k = l.length := by omega
      have HKL := Lib.hid hkl
      have HM0 := Lib.hid hm
      have hxw : Ext w1 wr := hx.trans hext
      have C3 := Lib.hid (show Calls Tryd.prog 12 #[.slice aT k cT, .agg #[.int .i64 P.alphabet, .slice aN3 P.next.length cN3, .slice aA3 P.accept.length cA3]] wr (Grows (.tuple #[.string (rtext rr), .bool rr.isSome]) wr) from by
        have hm2 := HM.out
        rw [HKL.out, List.take_of_length_le (by simp)] at hm2
        have hTV : SyssV wr (.slice aT k cT) l.reverse := syss_of_own (ps := ps) (by rw [List.length_reverse, ← HKL.out]; exact hown) hm2 (fun p hp => (HE.out p hp).mono hext)
        have := PartsViolation_cd _ _ l.reverse P _ hTV (by simp; omega) (HP.out _ hxw) (HD.out _ hxw)
        rwa [pv_reverse, HR.out] at this)
      subst hm
      clear hkl
      have b4 := b4.ext hext
      have b4_0 := b4.cell 0 rfl; have b4_1 := b4.cell 1 rfl; have b4_2 := b4.cell 2 rfl
      go_wp2_with fail
      refine C3.out.mono ?_
      rintro e w9 ⟨rfl, he9⟩
      go_wp2_with fail
      go_ret
      exact Grows.mk rfl ((he1.trans hxw).trans he9)
    · obtain ⟨m', rfl⟩ : ∃ m', m = m' + 1 := ⟨m - 1, by omega⟩
      obtain ⟨x, hx'⟩ : ∃ x, l[m']? = some x := ⟨_, List.getElem?_eq_getElem (by omega)⟩
      obtain ⟨aL', cL', hsh, -, hn⟩ := (HL.out _ hx).open
      cases hsh
      obtain ⟨b, off, rfl, -, hc⟩ := hn m' x hx'
      obtain ⟨ve, g1, g2, g3, hve⟩ := hc m' x hx'
      obtain ⟨va, vc, rfl, -, -⟩ := hve.open
      replace g1 := hext.cell g1
      replace g2 := hext.cell g2
      replace g3 := hext.cell g3
      have HX := Lib.hid hx'
      have HVE := Lib.hid hve
      have hrev : l.reverse[k]? = some x := by rw [List.getElem?_reverse (by omega), show l.length - 1 - k = m' by omega]; exact hx'
      have HRV := Lib.hid hrev
      have hlt : (m' : Int) < (l.length : Int) := by omega
      clear hn hc hx' hve hrev
      rw [show (((m' + 1 : Nat) : Int) - 1) = (m' : Int) by omega]
      go_wp2_with (at_builtin; refine app1 rfl rfl Tryd.underlying36 infoSys rfl (by decide) hown rfl rfl rfl (by simp [Value.oneCell']) (by omega) (by decide) hbase ?_; intro v1 w7 hown1 hgr1 hbl1)
      refine ⟨⟨m', k + 1, ps ++ [(x, .slice va x.edges.length vc)], by omega, by go_num, by rw [sysVals_push]; exact hown1, ?_, ?_, Below.trans hext hbl1⟩, by simp [intOf]⟩
      · show _ = _
        rw [List.map_append, HM.out, List.take_add_one, HRV.out]; rfl
      · intro p hp
        rcases List.mem_append.1 hp with hp | hp
        · exact HE.out p hp
        · rw [List.mem_singleton] at hp; subst hp; exact HVE.out

theorem own : ownKnob Tryd.prog.godebug = none := by kernel_rfl
theorem laidOut : laidOutB Tryd.prog = true := by kernel_rfl
theorem deb_of_laid {W : World} (h : laidMetH Tryd.prog Rows.fnPartsTurnedRow.laid W) : Deb W := debOfLaid h
theorem laid_met (os : Os) (args : Array Value) : laidMetH Tryd.prog Rows.fnPartsTurnedRow.laid ((laidWorld os).forCall (fun _ _ => 0) ⟨#[], args, []⟩).memory :=
  (LaidIn.of_run [0, 1] 8 (by kernel_rfl) (by kernel_rfl) (by kernel_rfl) (by kernel_rfl)).met
set_option maxRecDepth 100000 in
theorem lifted (os : Os) (started : os.Started) (H : Type) (enc : TypeId × Value → H) :
    ReturnsInHanded {} Tryd.checked os 4 .any (fun w args => (Rows.fnPartsTurnedSpec.pre enc Tryd.prog Tryd.f4 [] false w args ∧ laidMetH Tryd.prog Rows.fnPartsTurnedRow.laid w) ∧ sizedMet enc Tryd.prog Tryd.f4 (OpenSpec.ofChange Rows.fnPartsTurnedSpec) false w args)
      (Rows.fnPartsTurnedSpec.post enc Tryd.prog Tryd.f4 false true false false) := by
  refine returnsInHanded_of_change_and (C := Tryd.checked) (X := fun w _ => laidMetH Tryd.prog Rows.fnPartsTurnedRow.laid w) (fun _ _ _ hh h => h.of_heap hh) own started (by kernel_rfl) Tryd.func4
    (ChangeSpec.witness_at (enc := enc) (C := Tryd.checked) (os := os) (X := fun w _ => laidMetH Tryd.prog Rows.fnPartsTurnedRow.laid w) false (laidWorld os) #[.slice none 0 0] 8 rfl (by kernel_rfl) (by kernel_rfl) (by kernel_rfl) (by kernel_rfl) (by kernel_rfl) (laid_met os _)) ?_
  intro W base args ds gs before hval0 hW _ _ hL _
  have hval : ∀ (j : Nat) t v, Tryd.f4.params[j]? = some t → args[j]? = some v → Value.okWide Tryd.prog W .any base t v := hval0
  have hW' := hW
  obtain ⟨p, q, hA0, hV, rfl, hfz, hnd⟩ := hW
  have hA : DataW.TrodAll enc Tryd.prog W 0 (fun _ => true) true Tryd.f4.params.toList args.toList ds p := hA0
  rw [Tryd.params4] at hA hval
  obtain ⟨v0, vs0, d0, ds0, p0, q0, hargs, rfl, rfl, h0, r0⟩ := trodAll_cons hA
  obtain ⟨rfl, rfl, rfl⟩ := trodAll_nil r0
  obtain rfl : args = #[v0] := by cases args; simp_all
  obtain ⟨rfl, rfl⟩ := trodVars_none hV
  have k0 := h0
  have lt0 : ∀ x ∈ p0, x.block < W.heap.size := by obtain ⟨m, hm⟩ := k0; exact DataW.trod_lt m _ _ _ hm
  obtain ⟨a0, len0, cap0, rfl⟩ := okWide_slice Tryd.underlying22 (hval 0 _ v0 rfl rfl)
  obtain ⟨t0, w0⟩ : ∃ t, BytesV W (.slice a0 len0 cap0) t := by
    obtain ⟨fuel, hf⟩ := h0
    obtain ⟨v, t, hv, ht⟩ := read_bytes hf
    simp [Value.cells] at hv
    subst hv
    exact ⟨t, ht⟩
  clear hA0 hval0
  refine (walk (.slice a0 len0 cap0) t0 W w0 (deb_of_laid hL)).mono fun e W' ⟨he, bel⟩ => ?_
  subst he
  exact ⟨_, rfl, _, _, _, [], _, [], hW', trodAll_mk1 (shut_bool Tryd.underlying4 _), (trodAll_cons_mk (Below.trod laidOut (by kernel_rfl) (of_decide_eq_true (by kernel_rfl)) k0 bel lt0) trodAll_mk0), rfl, bel.frame _, fun h => by cases h⟩

theorem over : Rows.fnPartsTurnedRow.holds Tryd.pinned (OpenSpec.ofChange Rows.fnPartsTurnedSpec) :=
  OpenClaim.holds_of_wide 4 Tryd.f4 rfl rfl rfl rfl rfl rfl rfl ⟨rfl, rfl, rfl, rfl, rfl⟩ rfl rfl rfl rfl rfl (by kernel_rfl) Tryd.func4 (by kernel_rfl)
    (of_decide_eq_true (by kernel_rfl)) (by unfold Func.isWrapper; first | (rw [if_pos (by decide +kernel)]; kernel_rfl) | (rw [if_neg (by decide +kernel)]; exact ⟨rfl, rfl⟩))
    (fun os started H enc _ => lifted os started H enc)

theorem card_holds : Rows.FnPartsTurnedCardSaid :=
  Claim7.holds_tied_plain_at .later [] [.data, .data] true (true, "3388edc1df6b4de8c75a45d92e70c33129ea5bf5d7045e5546ee36280aa9bdb3") false
    over (fun _ h => by cases h) (by kernel_rfl) (fun _ h => by cases h) fnPartsTurned_row_tie rfl ⟨rfl, rfl⟩ (by kernel_rfl) rfl
    (fun f fn hf hfn => by
      obtain rfl : f = 4 := Option.some.inj ((show Tryd.prog.funcNamed "loop.example/assumeguarantee/laws.FnPartsTurned" = some 4 by kernel_rfl).symm.trans hf) |>.symm
      obtain rfl : fn = Tryd.f4 := (Option.some.inj (Tryd.func4.symm.trans hfn)).symm
      refine ⟨by kernel_rfl, fun j t ht => ?_⟩
      rw [Tryd.params4] at ht
      match j, ht with
      | 0, ht =>
        have h0 : t = 22 := by simpa using ht.symm
        subst h0
        exact (show Tryd.prog.wantsStandIn 22 = false by kernel_rfl)
      | j + 1, ht => simp at ht)
    (by kernel_rfl)
#print axioms card_holds
end Go.Proofs.YteodlkkghnfkdaaDoor.lawFnPartsTurned
