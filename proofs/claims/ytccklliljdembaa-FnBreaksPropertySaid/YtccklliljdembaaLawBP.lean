/- FnBreaksProperty: for all bytes, a word breaks a property exactly if its restriction is not accepted, and extensions of a property are broken alike: the law answers true. -/
import Derived.Test.YtccklliljdembaaDrawBp
import Derived.Test.YtccklliljdembaaWalkWA
import Derived.Test.YtccklliljdembaaWalkXa
import Derived.Test.YtccklliljdembaaWalkK
import Derived.Test.YtccklliljdembaaDrawL
namespace Go.Proofs.Ytccklliljdembaa.lawFnBreaksProperty
open Go.ChangeShapes Go.WideShapes Go.ChangeAt Go.RowKit
open Go.Proofs.Ytccklliljdembaa
open Go.ChangeMaps (open_string shut_string)
set_option linter.unusedVariables false
set_option linter.unusedSimpArgs false
set_option maxHeartbeats 1600000
set_option maxRecDepth 100000

theorem breaks_restrict {x : Auto} {s : ByteArray} (hx : autoValid x = true) (hs : wordValid s = true) : acceptsWord x (restrictW s x.alphabet) = !breaks x s := by
  obtain ⟨ha, ha2, -⟩ := autoValid_facts hx
  have e : restrictW s x.alphabet = restrict s x.alphabet := by
    unfold restrictW; rw [if_pos (by rw [hs]; simp [isAlpha, ha, ha2])]
  rw [e, acceptsWord_restrict hx hs]
  unfold breaks
  rw [hx, hs]; simp
theorem nine_breaks {x : Auto} {s : ByteArray} (hx : autoValid x = true) : breaks (extA x (bits .or .i64 x.alphabet 9)) s = breaks x s := by
  obtain ⟨ha, ha2, -⟩ := autoValid_facts hx
  obtain ⟨n0, n63, hb⟩ := ext_alpha (show isAlpha x.alphabet = true by simp [isAlpha, ha, ha2]) (show isAlpha 9 = true by decide)
  exact breaks_ext hx n0 n63 (fun l hl => by rw [hb, hl]; rfl) s

theorem walk (v0 : Value) (t0 : List UInt8) (w : World) (hv0 : BytesV w v0 t0) : Calls Try.prog 3 #[v0] w (Grows (.bool true) w) := by
  obtain ⟨aB, cB, rfl, hleB, -⟩ := hv0.open
  by_cases hz0 : 1048576 < t0.length
  · go_enter Try.func3, Try.ntmps3
    go_wp2_with fail
    go_ret
    exact Grows.mk rfl (Ext.refl _)
  go_enter Try.func3, Try.ntmps3
  go_wp2_with fail
  refine (DrawBreaksProperty_t _ t0 _ hv0 (by omega)).mono ?_
  rintro e w1 ⟨r, D, rfl, he1, -, hT1, p, s, rfl, hPP, hsz⟩
  obtain ⟨P, hPn2, hPa2, hPV2⟩ := hPP.auto hT1
  obtain ⟨vN2, vA2, rfl, hN2, hA2⟩ := hPV2
  obtain ⟨aN2, cN2, rfl, -, -⟩ := hN2.open
  obtain ⟨aA2, cA2, rfl, -, -⟩ := hA2.open
  have HP := Lib.hid (show ∀ w', Ext w1 w' → AutoV w' (.agg #[.int .i64 P.alphabet, .slice aN2 P.next.length cN2, .slice aA2 P.accept.length cA2]) P from fun w' h => ⟨_, _, rfl, hN2.mono h, hA2.mono h⟩)
  obtain ⟨k, hk⟩ : ∃ k, breaks P s = k := ⟨_, rfl⟩
  have HK := Lib.hid hk
  have C1 := Lib.hid (show ∀ w', Ext w1 w' → Calls Try.prog 5 #[.agg #[.int .i64 P.alphabet, .slice aN2 P.next.length cN2, .slice aA2 P.accept.length cA2], .string s] w' (Grows (.bool k) w') from fun w' h => by have := BreaksProperty_c _ P s _ (HP.out _ h) (by omega); rwa [hk] at this)
  have C2 := Lib.hid (show ∀ w', Ext w1 w' → Calls Try.prog 6 #[.agg #[.int .i64 P.alphabet, .slice aN2 P.next.length cN2, .slice aA2 P.accept.length cA2], .string s] w' (Grows (.bool k) w') from fun w' h => by have := BreaksProperty_s _ P s _ (HP.out _ h) (by omega); rwa [hk] at this)
  obtain ⟨va, hva⟩ : ∃ va, autoValid P = va := ⟨_, rfl⟩
  have HVA := Lib.hid hva
  obtain ⟨vw, hvw⟩ : ∃ vw, wordValid s = vw := ⟨_, rfl⟩
  have HVW := Lib.hid hvw
  have C3 := Lib.hid (show ∀ w', Ext w1 w' → Calls Try.prog 7 #[.agg #[.int .i64 P.alphabet, .slice aN2 P.next.length cN2, .slice aA2 P.accept.length cA2]] w' (Grows (.bool va) w') from fun w' h => by have := AutomatonValid_c _ P _ (HP.out _ h); rwa [hva] at this)
  have C4 := Lib.hid (show ∀ w', Calls Try.prog 8 #[.string s] w' (Same (.bool vw) w') from fun w' => by have := WordValid_c s w' (by omega); rwa [hvw] at this)
  have HSZ := Lib.hid hsz
  have HF := Lib.hid (show (va && vw) = false → k = false from fun h => by rw [← hk]; unfold breaks; rw [hva, hvw, h]; rfl)
  clear hk hva hvw hN2 hA2 hPP hT1 hsz
  have hx : Ext w1 (w1.alloc (.cells #[.int .i64 P.alphabet, .slice aN2 P.next.length cN2, .slice aA2 P.accept.length cA2] 26)) := Ext.alloc _ _
  have b3 : Blk (w1.alloc (.cells #[.int .i64 P.alphabet, .slice aN2 P.next.length cN2, .slice aA2 P.accept.length cA2] 26)) w1.heap.size #[.int .i64 P.alphabet, .slice aN2 P.next.length cN2, .slice aA2 P.accept.length cA2] 26 := Blk.new _ _ _
  go_upto_region 4 with fail
  generalize w1.alloc (.cells #[.int .i64 P.alphabet, .slice aN2 P.next.length cN2, .slice aA2 P.accept.length cA2] 26) = w2 at hx b3 ⊢
  have b3_0 := b3.cell 0 rfl; have b3_1 := b3.cell 1 rfl; have b3_2 := b3.cell 2 rfl
  have hkk : (k != k) = false := by simp
  have hke : (k == k) = true := by simp
  go_wp2_with fail
  refine (C1.out _ hx).mono ?_
  rintro e wz1 ⟨rfl, hez1⟩
  clear b3_0 b3_1 b3_2
  replace b3 := b3.ext hez1
  replace hx := hx.trans hez1
  have b3_0 := b3.cell 0 rfl; have b3_1 := b3.cell 1 rfl; have b3_2 := b3.cell 2 rfl
  go_wp2_with fail
  refine (C2.out _ hx).mono ?_
  rintro e wz2 ⟨rfl, hez2⟩
  clear b3_0 b3_1 b3_2
  replace b3 := b3.ext hez2
  replace hx := hx.trans hez2
  have b3_0 := b3.cell 0 rfl; have b3_1 := b3.cell 1 rfl; have b3_2 := b3.cell 2 rfl
  go_wp2_with fail
  refine (C3.out _ hx).mono ?_
  rintro e wz3 ⟨rfl, hez3⟩
  clear b3_0 b3_1 b3_2
  replace b3 := b3.ext hez3
  replace hx := hx.trans hez3
  have b3_0 := b3.cell 0 rfl; have b3_1 := b3.cell 1 rfl; have b3_2 := b3.cell 2 rfl
  cases va with
  | false =>
    obtain rfl : k = false := HF.out rfl
    go_wp2_with fail
    refine (C2.out _ hx).mono ?_
    rintro e wz4 ⟨rfl, hez4⟩
    clear b3_0 b3_1 b3_2
    replace b3 := b3.ext hez4
    replace hx := hx.trans hez4
    have b3_0 := b3.cell 0 rfl; have b3_1 := b3.cell 1 rfl; have b3_2 := b3.cell 2 rfl
    go_wp2_with fail
    go_ret
    exact Grows.mk (by simp) (he1.trans hx)
  | true =>
    go_wp2_with fail
    refine (C4.out _).mono ?_
    rintro e wz5 ⟨rfl, rfl⟩
    cases vw with
    | false =>
      obtain rfl : k = false := HF.out rfl
      go_wp2_with fail
      refine (C2.out _ hx).mono ?_
      rintro e wz6 ⟨rfl, hez6⟩
      clear b3_0 b3_1 b3_2
      replace b3 := b3.ext hez6
      replace hx := hx.trans hez6
      have b3_0 := b3.cell 0 rfl; have b3_1 := b3.cell 1 rfl; have b3_2 := b3.cell 2 rfl
      go_wp2_with fail
      go_ret
      exact Grows.mk (by simp) (he1.trans hx)
    | true =>
      go_wp2_with fail
      refine (ExtendAutomaton_c _ P 9 _ (HP.out _ hx)).mono ?_
      rintro e wp ⟨u9, R9, rfl, he9, hO9, hR9⟩
      have e9 : R9 = extA P (bits .or .i64 P.alphabet 9) := by rw [hR9, if_pos (by rw [HVA.out]; decide)]
      have hb9 : breaks R9 s = k := by rw [e9, nine_breaks HVA.out, HK.out]
      have HB9 := Lib.hid hb9
      clear hR9 e9 hb9
      clear b3_0 b3_1 b3_2
      obtain ⟨vN9, vA9, rfl, hO9'⟩ := hO9
      obtain ⟨aN9, cN9, rfl⟩ := hO9'.1.shape
      obtain ⟨aA9, cA9, rfl⟩ := hO9'.2.shape
      have hN9 := hO9'.1.intss
      have hA9 := hO9'.2.bools
      have HW9 := Lib.hid (show ∀ w', Ext wp w' → AutoV w' (.agg #[.int .i64 R9.alphabet, .slice aN9 R9.next.length cN9, .slice aA9 R9.accept.length cA9]) R9 from fun w' h => ⟨_, _, rfl, hN9.mono h, hA9.mono h⟩)
      clear hO9' hN9 hA9
      have db3_0 := fun o => ((b3.ext he9).ext (Ext.alloc wp o)).cell 0 rfl; have db3_1 := fun o => ((b3.ext he9).ext (Ext.alloc wp o)).cell 1 rfl; have db3_2 := fun o => ((b3.ext he9).ext (Ext.alloc wp o)).cell 2 rfl
      replace b3 := (b3.ext he9).ext (Ext.alloc wp (.cells #[.int .i64 R9.alphabet, .slice aN9 R9.next.length cN9, .slice aA9 R9.accept.length cA9] 26))
      replace hx := (hx.trans he9).trans (Ext.alloc wp (.cells #[.int .i64 R9.alphabet, .slice aN9 R9.next.length cN9, .slice aA9 R9.accept.length cA9] 26))
      have h9 : Ext wp (wp.alloc (.cells #[.int .i64 R9.alphabet, .slice aN9 R9.next.length cN9, .slice aA9 R9.accept.length cA9] 26)) := Ext.alloc _ _
      clear he9
      have b9 : Blk (wp.alloc (.cells #[.int .i64 R9.alphabet, .slice aN9 R9.next.length cN9, .slice aA9 R9.accept.length cA9] 26)) wp.heap.size #[.int .i64 R9.alphabet, .slice aN9 R9.next.length cN9, .slice aA9 R9.accept.length cA9] 26 := Ext.blk (Ext.refl _)
      go_upto_region 8 with fail
      clear db3_0 db3_1 db3_2
      generalize (wp.alloc (.cells #[.int .i64 R9.alphabet, .slice aN9 R9.next.length cN9, .slice aA9 R9.accept.length cA9] 26)) = wq at hx h9 b9 b3 ⊢
      have b3_0 := b3.cell 0 rfl; have b3_1 := b3.cell 1 rfl; have b3_2 := b3.cell 2 rfl; have b9_0 := b9.cell 0 rfl; have b9_1 := b9.cell 1 rfl; have b9_2 := b9.cell 2 rfl
      have hal := breaks_restrict HVA.out HVW.out
      rw [HK.out] at hal
      have CR := Lib.hid (show ∀ w', Calls Try.prog 11 #[.string s, .int .i64 P.alphabet] w' (Grows (.string (restrictW s P.alphabet)) w') from fun w' => RestrictWord_c s P.alphabet w' (by have := HSZ.out; omega))
      have CA := Lib.hid (show ∀ w', Ext w1 w' → Calls Try.prog 10 #[.agg #[.int .i64 P.alphabet, .slice aN2 P.next.length cN2, .slice aA2 P.accept.length cA2], .string (restrictW s P.alphabet)] w' (Grows (.bool (!k)) w') from fun w' h => by have := AcceptsWord_c _ P (restrictW s P.alphabet) w' (HP.out _ h) (by have h1 := restrictW_size s P.alphabet; have := HSZ.out; omega); rwa [hal] at this)
      have CB := Lib.hid (show ∀ w', Ext wp w' → Calls Try.prog 5 #[.agg #[.int .i64 R9.alphabet, .slice aN9 R9.next.length cN9, .slice aA9 R9.accept.length cA9], .string s] w' (Grows (.bool k) w') from fun w' h => by have := BreaksProperty_c _ R9 s w' (HW9.out _ h) (by have := HSZ.out; omega); rwa [HB9.out] at this)
      clear hal
      clear b3_0 b3_1 b3_2 b9_0 b9_1 b9_2
      have Db30 := fun d os => cell_regrown (b3.cell 0 rfl) d os
      have Db31 := fun d os => cell_regrown (b3.cell 1 rfl) d os
      have Db32 := fun d os => cell_regrown (b3.cell 2 rfl) d os
      have Db90 := fun d os => cell_regrown (b9.cell 0 rfl) d os
      have Db91 := fun d os => cell_regrown (b9.cell 1 rfl) d os
      have Db92 := fun d os => cell_regrown (b9.cell 2 rfl) d os
      cases k with
      | false =>
        refine wp_region_quiet_below (by kernel_rfl) (by kernel_rfl) ?_
        repeat (go_big_quiet_step ((first | (go_at_call 11; exact Grows.quiet (CR.out _)) | (go_at_call 10; exact Grows.quiet (CA.out _ (hx.trans (below_regrown _ _ _)))) | (go_at_call 5; exact Grows.quiet (CB.out _ (h9.trans (below_regrown _ _ _)))))))
        refine wpQuiet_nil ?_
        intro _ hw'
        obtain ⟨⟨dq, osq⟩, hw''⟩ := hw'
        subst hw''
        have hq2 : Ext wq (Go.Sort.grow (redrawn wq dq) osq) := below_regrown wq dq osq
        generalize Go.Sort.grow (redrawn wq dq) osq = wq at hq2 ⊢
        go_wp2_with fail
        go_ret
        exact Grows.mk (by simp) ((he1.trans hx).trans hq2)
      | true =>
        refine wp_region_quiet_below (by kernel_rfl) (by kernel_rfl) ?_
        repeat (go_big_quiet_step ((first | (go_at_call 11; exact Grows.quiet (CR.out _)) | (go_at_call 10; exact Grows.quiet (CA.out _ (hx.trans (below_regrown _ _ _)))) | (go_at_call 5; exact Grows.quiet (CB.out _ (h9.trans (below_regrown _ _ _)))))))
        refine wpQuiet_nil ?_
        intro _ hw'
        obtain ⟨⟨dq, osq⟩, hw''⟩ := hw'
        subst hw''
        have hq2 : Ext wq (Go.Sort.grow (redrawn wq dq) osq) := below_regrown wq dq osq
        generalize Go.Sort.grow (redrawn wq dq) osq = wq at hq2 ⊢
        go_wp2_with fail
        go_ret
        exact Grows.mk (by simp) ((he1.trans hx).trans hq2)

theorem own : ownKnob Try.prog.godebug = none := by kernel_rfl
theorem laidOut : laidOutB Try.prog = true := by kernel_rfl
set_option maxRecDepth 100000 in
theorem lifted (os : Os) (started : os.Started) (H : Type) (enc : TypeId × Value → H) :
    ReturnsInHanded {} Try.checked os 3 .any (Rows.fnBreaksPropertySpec.pre6 enc Try.prog Try.f3 Rows.fnBreaksPropertyRow.domain false) (Rows.fnBreaksPropertySpec.post enc Try.prog Try.f3 false true false false) := by
  refine returnsInHanded_of_change (C := Try.checked) own started (by kernel_rfl) Try.func3
    (ChangeSpec.witness6 (enc := enc) (C := Try.checked) false ⟨#[], #[.slice none 0 0], []⟩ 8 (by kernel_rfl) (by kernel_rfl) (by kernel_rfl) (by kernel_rfl)) ?_
  intro W base args ds gs before hval0 hW hcnd _
  have hval : ∀ (j : Nat) t v, Try.f3.params[j]? = some t → args[j]? = some v → Value.okWide Try.prog W .any base t v := hval0
  have hW' := hW
  obtain ⟨p, q, hA0, hV, rfl, hfz, hnd⟩ := hW
  have hA : DataW.TrodAll enc Try.prog W 0 (fun _ => true) true Try.f3.params.toList args.toList ds p := hA0
  rw [Try.params3] at hA hval
  obtain ⟨v0, vs0, d0, ds0, p0, q0, hargs, rfl, rfl, h0, r0⟩ := trodAll_cons hA
  obtain ⟨rfl, rfl, rfl⟩ := trodAll_nil r0
  obtain rfl : args = #[v0] := by cases args; simp_all
  obtain ⟨rfl, rfl⟩ := trodVars_none hV
  have k0 := h0
  have lt0 : ∀ x ∈ p0, x.block < W.heap.size := by obtain ⟨m, hm⟩ := k0; exact DataW.trod_lt m _ _ _ hm
  obtain ⟨a0, len0, cap0, rfl⟩ := okWide_slice Try.underlying22 (hval 0 _ v0 rfl rfl)
  obtain ⟨t0, w0⟩ : ∃ t, BytesV W (.slice a0 len0 cap0) t := by
    obtain ⟨fuel, hf⟩ := h0
    obtain ⟨v, t, hv, ht⟩ := read_bytes hf
    simp [Value.cells] at hv
    subst hv
    exact ⟨t, ht⟩
  clear hA0 hval0
  refine (walk (.slice a0 len0 cap0) t0 W w0).mono fun e W' ⟨he, bel⟩ => ?_
  subst he
  exact ⟨_, rfl, _, _, _, [], _, [], hW', trodAll_mk1 (shut_bool Try.underlying4 _), (trodAll_cons_mk (Below.trod laidOut (by kernel_rfl) (of_decide_eq_true (by kernel_rfl)) k0 bel lt0) trodAll_mk0), rfl, bel.frame _, fun h => by cases h⟩

theorem over : Rows.fnBreaksPropertyRow.holds Try.pinned (OpenSpec.ofChange Rows.fnBreaksPropertySpec) :=
  OpenClaim.holds_of_wide 3 Try.f3 rfl rfl rfl rfl rfl rfl rfl ⟨rfl, rfl, rfl, rfl, rfl⟩ rfl rfl rfl rfl rfl (by kernel_rfl) Try.func3 (by kernel_rfl)
    (of_decide_eq_true (by kernel_rfl)) (by unfold Func.isWrapper; first | (rw [if_pos (by decide +kernel)]; kernel_rfl) | (rw [if_neg (by decide +kernel)]; exact ⟨rfl, rfl⟩))
    (fun os started H enc _ => lifted os started H enc)

theorem proved : Rows.FnBreaksPropertySaid := over
#print axioms proved
end Go.Proofs.Ytccklliljdembaa.lawFnBreaksProperty
