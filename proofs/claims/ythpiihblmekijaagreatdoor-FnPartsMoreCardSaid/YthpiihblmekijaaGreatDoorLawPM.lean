/- FnPartsMore: for all bytes, drawn parts that keep a drawn property keep it with one more drawn system whose letters are among theirs: the law answers true. -/
import Derived.Test.YthpiihblmekijaaGreatDoorDrawC
import Derived.Test.YthpiihblmekijaaGreatDoorDrawB
import Derived.Test.YthpiihblmekijaaGreatDoorPlainC
import Derived.Test.YthpiihblmekijaaGreatDoorPool
import Derived.Test.YthpiihblmekijaaGreatDoorDet
import Derived.Test.YthpiihblmekijaaGreatDoorCard
import Derived.Test.YthpiihblmekijaaGreatDoorDrawL
namespace Go.Proofs.YthpiihblmekijaaGreatDoor.lawFnPartsMore
open Go.ChangeShapes Go.WideShapes Go.ChangeAt Go.RowKit
open Go.Proofs.YthpiihblmekijaaGreatDoor
open Go.ChangeMaps (open_string shut_string)
set_option linter.unusedVariables false
set_option linter.unusedSimpArgs false
set_option maxHeartbeats 1600000
set_option maxRecDepth 100000

def sysVals (ps : List (Sys × Value)) : List Value := ps.flatMap fun p => [.int .i64 p.1.alphabet, .int .i64 p.1.states, p.2]
theorem sysVals_push (ps : List (Sys × Value)) (p : Sys × Value) : sysVals (ps ++ [p]) = sysVals ps ++ [.int .i64 p.1.alphabet, .int .i64 p.1.states, p.2] := by simp [sysVals]
theorem sysVals_len (ps : List (Sys × Value)) : (sysVals ps).length = ps.length * 3 := by
  induction ps with
  | nil => rfl
  | cons a ps ih =>
    have e : sysVals (a :: ps) = [.int .i64 a.1.alphabet, .int .i64 a.1.states, a.2] ++ sysVals ps := rfl
    rw [e, List.length_append, ih]; simp; omega
theorem sysVals_at {ps : List (Sys × Value)} {i : Nat} {p : Sys × Value} (h : ps[i]? = some p) : (sysVals ps)[i * 3]? = some (.int .i64 p.1.alphabet) ∧ (sysVals ps)[i * 3 + 1]? = some (.int .i64 p.1.states) ∧ (sysVals ps)[i * 3 + 2]? = some p.2 := by
  induction ps generalizing i with
  | nil => simp at h
  | cons a ps ih =>
    have e : sysVals (a :: ps) = [.int .i64 a.1.alphabet, .int .i64 a.1.states, a.2] ++ sysVals ps := rfl
    cases i with
    | zero => simp at h; subst h; rw [e]; exact ⟨rfl, rfl, rfl⟩
    | succ i =>
      obtain ⟨h0, h1, h2⟩ := ih (by simpa using h)
      rw [e]
      refine ⟨?_, ?_, ?_⟩
      · rw [List.getElem?_append_right (by simp; omega)]; rw [← h0]; congr 1; simp; omega
      · rw [List.getElem?_append_right (by simp; omega)]; rw [← h1]; congr 1; simp; omega
      · rw [List.getElem?_append_right (by simp; omega)]; rw [← h2]; congr 1; simp; omega
theorem syss_of_own {w : World} {base : Nat} {v : Value} {l : List Sys} {ps : List (Sys × Value)} (h : w.ownsRow base 25 3 v l.length (sysVals ps)) (hm : ps.map (·.1) = l) (hE : ∀ p ∈ ps, EdgesV w p.2 p.1.edges) : SyssV w v l :=
  SlV_of_own h fun g cap hv i s hs => by
    rw [← hm, List.getElem?_map] at hs
    obtain ⟨p, hp, rfl⟩ := Option.map_eq_some_iff.1 hs
    subst hv
    obtain ⟨h0, h1, h2⟩ := sysVals_at hp
    exact ⟨p.2, own_cell h h0, own_cell h h1, own_cell h h2, hE p (List.mem_of_getElem? hp)⟩
/-- The cells of a slice of systems. -/
theorem syss_cells {w : World} {a : Option Addr} {c : Nat} {l : List Sys} (h : SyssV w (.slice a l.length c) l) (hne : l ≠ []) : ∃ (ad : Addr) (ps : List (Sys × Value)), a = some ad ∧ ps.map (·.1) = l ∧ (∀ p ∈ ps, EdgesV w p.2 p.1.edges) ∧ ∀ j u, (sysVals ps)[j]? = some u → w.cell? (ad.add j) = some u := by
  obtain ⟨a', c', e, hle, hn⟩ := h.open
  cases e
  obtain ⟨x, hx⟩ : ∃ x, l[0]? = some x := by
    cases l with
    | nil => exact absurd rfl hne
    | cons x _ => exact ⟨x, rfl⟩
  obtain ⟨b, off, rfl, hb, hc⟩ := hn 0 x hx
  obtain ⟨ps, hlen, hps⟩ := exists_list l.length (fun i (p : Sys × Value) => l[i]? = some p.1 ∧ w.cell? ⟨b, off + i * 3, none⟩ = some (.int .i64 p.1.alphabet) ∧ w.cell? ⟨b, off + i * 3 + 1, none⟩ = some (.int .i64 p.1.states) ∧ w.cell? ⟨b, off + i * 3 + 2, none⟩ = some p.2 ∧ EdgesV w p.2 p.1.edges) fun i hi => by
    have hs : l[i]? = some l[i] := List.getElem?_eq_getElem hi
    obtain ⟨ve, k0, k1, k2, k3⟩ := hc i _ hs
    exact ⟨(l[i], ve), hs, k0, k1, k2, k3⟩
  refine ⟨⟨b, off, none⟩, ps, rfl, ?_, ?_, ?_⟩
  · apply List.ext_getElem?
    intro i
    rw [List.getElem?_map]
    cases hp : ps[i]? with
    | none =>
      have : ps.length ≤ i := List.getElem?_eq_none_iff.1 hp
      rw [List.getElem?_eq_none (by omega)]; rfl
    | some p => rw [(hps i p hp).1]; rfl
  · intro p hp
    obtain ⟨i, hi⟩ := List.getElem?_of_mem hp
    exact (hps i p hi).2.2.2.2
  · intro j u hj
    have hjl : j < ps.length * 3 := by rw [← sysVals_len]; exact (List.getElem?_eq_some_iff.1 hj).1
    obtain ⟨p, hp⟩ : ∃ p, ps[j / 3]? = some p := ⟨_, List.getElem?_eq_getElem (by omega)⟩
    obtain ⟨a0, a1, a2⟩ := sysVals_at hp
    obtain ⟨-, k0, k1, k2, -⟩ := hps _ p hp
    rw [add_none]
    have h3 : j = j / 3 * 3 ∨ j = j / 3 * 3 + 1 ∨ j = j / 3 * 3 + 2 := by omega
    rcases h3 with h | h | h
    · rw [h, a0] at hj; cases hj
      rw [h]; exact k0
    · rw [h, a1] at hj; cases hj
      rw [h]; exact k1
    · rw [h, a2] at hj; cases hj
      rw [h]; exact k2
theorem sysVals_one {w : World} {ps : List (Sys × Value)} (h : ∀ p ∈ ps, EdgesV w p.2 p.1.edges) : ∀ u ∈ sysVals ps, u.oneCell' = true := by
  intro u hu
  unfold sysVals at hu
  obtain ⟨p, hp, hu⟩ := List.mem_flatMap.1 hu
  obtain ⟨a, c, e, -⟩ := (h p hp).open
  rw [e] at hu
  simp at hu
  rcases hu with rfl | rfl | rfl <;> simp [Value.oneCell']

theorem step_appPN {P : Program} {ops : Array Oper} {o : Oper} {a : Act} {K : Act → World → Prop} {Q : Exit → Act → World → Prop} {E : Prop} {base m c : Nat} {wr : World} {ad : Addr} {s x : Operand} {t : TypeId} {bytes : Nat} {z v : Value} {e : TypeId} {sz n : Nat} {xs : List Value} {l : List Slc} {news : List Value}
    (hw : Region.wanted o (yielded ops a.tmps) = true)
    (ho : o.op = .call { callee := .builtin .append, args := #[s, x], argTypes := #[t, t] })
    (ht : P.underlying t = some (.slice e)) (hinfo : (P.info? e).map (fun i => (i.zero, i.size, i.bytes)) = some (some z, sz, bytes)) (hzs : z.cells.size = sz) (hsz : 0 < sz)
    (hp : Pool base wr (⟨e, sz, v, n, xs⟩ :: l)) (hs : a.eval s = v) (hx : a.eval x = .slice (some ad) m c) (hl : news.length = m * sz) (hnews : ∀ j u, news[j]? = some u → wr.cell? (ad.add j) = some u) (h1 : ∀ u ∈ news, u.oneCell' = true)
    (hn : n + m ≤ 4294967296) (hb : bytes ≤ 1024) (hbase : base ≤ wr.heap.size)
    (h : ∀ v' w', Pool base w' (⟨e, sz, v', n + m, xs ++ news⟩ :: l) → wr.grownBy w' v.ownBlock → Below base wr w' → K (a.put o.dst v') w') :
    if Region.wanted o (yielded ops a.tmps) = true then Oper.wp P o a wr K Q else E := by
  rw [if_pos hw]
  obtain ⟨i, hi, hz, hsize, hby⟩ := info_parts hinfo
  have hown := Pool.hd hp
  obtain ⟨v', w', hr, h2, h3, h4, h5⟩ := run_append_own_at (P := P) wr base t o.type e i z sz bytes ht hi hz hsize hby hzs hsz v n xs hown ad m c news hl hnews h1 (by unfold maxLen; omega) (by have := Nat.mul_le_mul hn hb; omega) hbase
  unfold Oper.wp execOp
  simp only [ho, resolve, invoke, builtin, Sem.run_bind, Sem.run_pure, Result.andThen_ok, List.map_toArray, List.map_cons, List.map_nil, hs, hx, hr]
  exact h v' w' (hp.app h2 h3 (h5.imp id fun e => ⟨_, e, Nat.le_refl _⟩)) h3 ((Below.refl _ _).grown h3 hbase fun k hk => (own_lt hown hk).1)

set_option maxHeartbeats 8000000 in
theorem walk (v0 : Value) (t0 : List UInt8) (v1 : Value) (t1 : List UInt8) (w : World) (hv0 : BytesV w v0 t0) (hv1 : BytesV w v1 t1) (hD : Deb w) : Calls Tryz.prog 5 #[v0, v1] w (Grows (.bool true) w) := by
  have HV1 := Lib.hid (show ∀ w', Ext w w' → BytesV w' v1 t1 from fun w' h => hv1.mono (fun b o x _ k => h.cell k) h.size)
  obtain ⟨aB, cB, rfl, hleB, -⟩ := hv0.open
  obtain ⟨aM, cM, rfl, hleM, -⟩ := hv1.open
  clear hv1
  have HDb := Lib.hid hD
  clear hD
  by_cases hz0 : 1048576 < t0.length
  · go_enter Tryz.func5, Tryz.ntmps5
    go_wp2_with fail
    go_ret
    exact Grows.mk rfl (Ext.refl _)
  by_cases hz1 : 1048576 < t1.length
  · go_enter Tryz.func5, Tryz.ntmps5
    go_wp2_with fail
    go_ret
    exact Grows.mk rfl (Ext.refl _)
  go_enter Tryz.func5, Tryz.ntmps5
  go_wp2_with fail
  refine (DrawPartsKeep_t _ t0 _ hv0 (by omega)).mono ?_
  rintro e w1 ⟨r, D, rfl, he1, hD1, hT1, s, p, rfl, ⟨nL, hnL, hL⟩, hP⟩
  obtain ⟨l, hlen, hlV, hlE⟩ := hL.syssT hT1
  have hlV' := hlV
  obtain ⟨aL, cL, rfl, -, -⟩ := hlV'.open
  clear hlV'
  obtain ⟨P, hPn3, hPa3, hPV3⟩ := hP.auto hT1
  obtain ⟨vN3, vA3, rfl, hN3, hA3⟩ := hPV3
  obtain ⟨aN3, cN3, rfl, -, -⟩ := hN3.open
  obtain ⟨aA3, cA3, rfl, -, -⟩ := hA3.open
  have hlen4 : l.length ≤ 4 := by omega
  have HLE := Lib.hid hlE
  have HL := Lib.hid (show ∀ w', Ext w1 w' → SyssV w' (.slice aL l.length cL) l from fun w' h => hlV.mono h)
  have HP := Lib.hid (show ∀ w', Ext w1 w' → AutoV w' (.agg #[.int .i64 P.alphabet, .slice aN3 P.next.length cN3, .slice aA3 P.accept.length cA3]) P from fun w' h => ⟨_, _, rfl, hN3.mono h, hA3.mono h⟩)
  have HD := Lib.hid (show ∀ w', Ext w1 w' → Deb w' from fun w' h => HDb.out.ext (he1.trans h))
  obtain ⟨b, hb⟩ : ∃ b, keepsB l P = b := ⟨_, rfl⟩
  have HB := Lib.hid hb
  have C1 := Lib.hid (show ∀ w', Ext w1 w' → Calls Tryz.prog 25 #[.slice aL l.length cL, .agg #[.int .i64 P.alphabet, .slice aN3 P.next.length cN3, .slice aA3 P.accept.length cA3]] w' (Grows (.bool b) w') from fun w' h => by have := PartsKeep_cd _ _ l P _ (HL.out _ h) (by omega) (HP.out _ h) (HD.out _ h); rwa [hb] at this)
  have C2 := Lib.hid (show ∀ w', Ext w1 w' → Calls Tryz.prog 26 #[.slice aL l.length cL, .agg #[.int .i64 P.alphabet, .slice aN3 P.next.length cN3, .slice aA3 P.accept.length cA3]] w' (Grows (.bool b) w') from fun w' h => by have := PartsKeep_sd _ _ l P _ (HL.out _ h) (by omega) (fun s hs => Nat.le_trans (HLE.out s hs) (by omega)) (HP.out _ h); rwa [hb] at this)
  obtain ⟨pa, hpa⟩ : ∃ pa, partsAlphabet l = pa := ⟨_, rfl⟩
  have CPA := Lib.hid (show ∀ w', Ext w1 w' → Calls Tryz.prog 27 #[.slice aL l.length cL] w' (Grows (.int .i64 pa) w') from fun w' h => by have := PartsAlphabet_c _ l _ (HL.out _ h) (by omega); rwa [hpa] at this)
  have HPA := Lib.hid hpa
  clear hpa hb
  clear hlV hN3 hA3 hL hP hT1 hD1 hlen hlE hnL
  have hx : Ext w1 (w1.alloc (.cells #[.int .i64 P.alphabet, .slice aN3 P.next.length cN3, .slice aA3 P.accept.length cA3] 29)) := Ext.alloc _ _
  have b4 : Blk (w1.alloc (.cells #[.int .i64 P.alphabet, .slice aN3 P.next.length cN3, .slice aA3 P.accept.length cA3] 29)) w1.heap.size #[.int .i64 P.alphabet, .slice aN3 P.next.length cN3, .slice aA3 P.accept.length cA3] 29 := Blk.new _ _ _
  go_wp2_with fail
  generalize (w1.alloc (.cells #[.int .i64 P.alphabet, .slice aN3 P.next.length cN3, .slice aA3 P.accept.length cA3] 29)) = w2 at hx b4 ⊢
  have b4_0 := b4.cell 0 rfl; have b4_1 := b4.cell 1 rfl; have b4_2 := b4.cell 2 rfl
  go_wp2_with fail
  refine (C1.out _ hx).mono ?_
  rintro e wz1 ⟨rfl, hez1⟩
  clear b4_0 b4_1 b4_2
  replace b4 := b4.ext hez1
  replace hx := hx.trans hez1
  have b4_0 := b4.cell 0 rfl; have b4_1 := b4.cell 1 rfl; have b4_2 := b4.cell 2 rfl
  go_wp2_with fail
  refine (C2.out _ hx).mono ?_
  rintro e wz2 ⟨rfl, hez2⟩
  clear b4_0 b4_1 b4_2
  replace b4 := b4.ext hez2
  replace hx := hx.trans hez2
  have b4_0 := b4.cell 0 rfl; have b4_1 := b4.cell 1 rfl; have b4_2 := b4.cell 2 rfl
  have heq2 : (b != b) = false := by simp
  have heq3 : (b == b) = true := by simp
  by_cases hs : areParts l = true
  case neg =>
    have hs : areParts l = false := by simpa using hs
    have hpa : pa < 0 := by have := HPA.out; unfold partsAlphabet at this; rw [hs] at this; simp at this; omega
    go_wp2_with fail
    refine (CPA.out _ hx).mono ?_
    rintro e wz3 ⟨rfl, hez3⟩
    clear b4_0 b4_1 b4_2
    replace b4 := b4.ext hez3
    replace hx := hx.trans hez3
    have b4_0 := b4.cell 0 rfl; have b4_1 := b4.cell 1 rfl; have b4_2 := b4.cell 2 rfl
    go_wp2_with fail
    refine (C2.out _ hx).mono ?_
    rintro e wz4 ⟨rfl, hez4⟩
    clear b4_0 b4_1 b4_2
    replace b4 := b4.ext hez4
    replace hx := hx.trans hez4
    have b4_0 := b4.cell 0 rfl; have b4_1 := b4.cell 1 rfl; have b4_2 := b4.cell 2 rfl
    go_wp2_with fail
    go_ret
    exact Grows.mk rfl (he1.trans hx)
  obtain ⟨pf0, pf1, pf2⟩ := partsAlphabet_facts hs
  rw [HPA.out] at pf0 pf1
  have hpa : ¬ pa < 0 := by omega
  have HPF := Lib.hid pf2
  clear pf2
  go_wp2_with fail
  refine (CPA.out _ hx).mono ?_
  rintro e wz5 ⟨rfl, hez5⟩
  clear b4_0 b4_1 b4_2
  replace b4 := b4.ext hez5
  replace hx := hx.trans hez5
  have b4_0 := b4.cell 0 rfl; have b4_1 := b4.cell 1 rfl; have b4_2 := b4.cell 2 rfl
  have hl13 : 1 ≤ l.length ∧ l.length ≤ 3 := by
    have h := hs
    simp only [areParts, Bool.and_eq_true, decide_eq_true_eq] at h
    omega
  have HS3 := Lib.hid hl13
  clear hl13
  by_cases h3 : l.length = 3
  · have h3q : ((l.length : Int) == 3) = true := by rw [beq_iff_eq]; omega
    clear h3
    go_wp2_with fail
    refine (C2.out _ hx).mono ?_
    rintro e wz6 ⟨rfl, hez6⟩
    clear b4_0 b4_1 b4_2
    replace b4 := b4.ext hez6
    replace hx := hx.trans hez6
    have b4_0 := b4.cell 0 rfl; have b4_1 := b4.cell 1 rfl; have b4_2 := b4.cell 2 rfl
    go_wp2_with fail
    go_ret
    exact Grows.mk rfl (he1.trans hx)
  have h3q : ((l.length : Int) == 3) = false := by rw [beq_eq_false_iff_ne]; omega
  have H3N := Lib.hid h3
  clear h3
  go_wp2_with fail
  refine (DrawKeepsProperty_t _ t1 _ (HV1.out _ (he1.trans hx)) (by omega)).mono ?_
  rintro e wk ⟨r, D, rfl, hewk, -, hTwk, s, p, rfl, hSS, hPP⟩
  obtain ⟨T, hSe4, hSV4⟩ := hSS.sys hTwk
  obtain ⟨vE4, rfl, hE4⟩ := hSV4
  obtain ⟨aE4, cE4, rfl, -, -⟩ := hE4.open
  obtain ⟨Q, hPn5, hPa5, hPV5⟩ := hPP.auto hTwk
  obtain ⟨vN5, vA5, rfl, hN5, hA5⟩ := hPV5
  obtain ⟨aN5, cN5, rfl, -, -⟩ := hN5.open
  obtain ⟨aA5, cA5, rfl, -, -⟩ := hA5.open
  have HT := Lib.hid (show ∀ w', Ext wk w' → SysV w' (.agg #[.int .i64 T.alphabet, .int .i64 T.states, .slice aE4 T.edges.length cE4]) T from fun w' h => ⟨_, rfl, hE4.mono h⟩)
  have HQ := Lib.hid (show ∀ w', Ext wk w' → AutoV w' (.agg #[.int .i64 Q.alphabet, .slice aN5 Q.next.length cN5, .slice aA5 Q.accept.length cA5]) Q from fun w' h => ⟨_, _, rfl, hN5.mono h, hA5.mono h⟩)
  clear hE4 hN5 hA5 hSS hPP hTwk
  have HL := Lib.hid (show ∀ w', Ext wk w' → SyssV w' (.slice aL l.length cL) l from fun w' h => HL.out _ (hx.trans (hewk.trans h)))
  have HP := Lib.hid (show ∀ w', Ext wk w' → AutoV w' (.agg #[.int .i64 P.alphabet, .slice aN3 P.next.length cN3, .slice aA3 P.accept.length cA3]) P from fun w' h => HP.out _ (hx.trans (hewk.trans h)))
  have HD := Lib.hid (show ∀ w', Ext wk w' → Deb w' from fun w' h => HD.out _ (hx.trans (hewk.trans h)))
  replace he1 := he1.trans (hx.trans hewk)
  clear b4_0 b4_1 b4_2
  have hxn : Ext wk ((wk.alloc (.cells #[.int .i64 T.alphabet, .int .i64 T.states, .slice aE4 T.edges.length cE4] 25)).alloc (.cells #[.int .i64 Q.alphabet, .slice aN5 Q.next.length cN5, .slice aA5 Q.accept.length cA5] 29)) := (Ext.alloc _ _).trans (Ext.alloc _ _)
  replace b4 := b4.ext (hewk.trans hxn)
  have b6 : Blk ((wk.alloc (.cells #[.int .i64 T.alphabet, .int .i64 T.states, .slice aE4 T.edges.length cE4] 25)).alloc (.cells #[.int .i64 Q.alphabet, .slice aN5 Q.next.length cN5, .slice aA5 Q.accept.length cA5] 29)) wk.heap.size #[.int .i64 T.alphabet, .int .i64 T.states, .slice aE4 T.edges.length cE4] 25 := Ext.blk (Ext.alloc _ _)
  have b7 : Blk ((wk.alloc (.cells #[.int .i64 T.alphabet, .int .i64 T.states, .slice aE4 T.edges.length cE4] 25)).alloc (.cells #[.int .i64 Q.alphabet, .slice aN5 Q.next.length cN5, .slice aA5 Q.accept.length cA5] 29)) (wk.heap.size + 1) #[.int .i64 Q.alphabet, .slice aN5 Q.next.length cN5, .slice aA5 Q.accept.length cA5] 29 := Ext.blk1 (Ext.refl _)
  clear hx hewk
  go_upto_region 8 with fail
  generalize ((wk.alloc (.cells #[.int .i64 T.alphabet, .int .i64 T.states, .slice aE4 T.edges.length cE4] 25)).alloc (.cells #[.int .i64 Q.alphabet, .slice aN5 Q.next.length cN5, .slice aA5 Q.accept.length cA5] 29)) = wl at hxn b4 b6 b7 ⊢
  have hx := hxn
  clear hxn
  have b4_0 := b4.cell 0 rfl; have b4_1 := b4.cell 1 rfl; have b4_2 := b4.cell 2 rfl; have b6_0 := b6.cell 0 rfl; have b6_1 := b6.cell 1 rfl; have b6_2 := b6.cell 2 rfl; have b7_0 := b7.cell 0 rfl; have b7_1 := b7.cell 1 rfl; have b7_2 := b7.cell 2 rfl
  obtain ⟨sv, hsv⟩ : ∃ sv, sysValid T = sv := ⟨_, rfl⟩
  have CV := Lib.hid (show ∀ w', Ext wk w' → Calls Tryz.prog 19 #[.agg #[.int .i64 T.alphabet, .int .i64 T.states, .slice aE4 T.edges.length cE4]] w' (Grows (.bool sv) w') from fun w' h => SystemValid_b hsv (HT.out _ h))
  have CA2 := Lib.hid (show ∀ w', Ext wk w' → Calls Tryz.prog 27 #[.slice aL l.length cL] w' (Grows (.int .i64 pa) w') from fun w' h => by have := PartsAlphabet_c _ l _ (HL.out _ h) (by omega); rwa [HPA.out] at this)
  have HSV := Lib.hid hsv
  clear hsv b7_0 b7_1 b7_2
  have Db60 := fun d os => cell_regrown (b6.cell 0 rfl) d os
  have Db61 := fun d os => cell_regrown (b6.cell 1 rfl) d os
  have Db62 := fun d os => cell_regrown (b6.cell 2 rfl) d os
  cases sv with
  | false =>
    refine wp_region_quiet_below (by kernel_rfl) (by kernel_rfl) ?_
    repeat (go_big_quiet_step ((go_at_call 19; exact Grows.quiet (CV.out _ (hx.trans (below_regrown _ _ _))))))
    refine wpQuiet_nil ?_
    intro _ hw'
    obtain ⟨⟨dq, osq⟩, hw''⟩ := hw'
    subst hw''
    have hq2 : Ext wl (Go.Sort.grow (redrawn wl dq) osq) := below_regrown wl dq osq
    generalize Go.Sort.grow (redrawn wl dq) osq = wq at hq2 ⊢
    go_wp2_with fail
    go_ret
    exact Grows.mk rfl (he1.trans (hx.trans hq2))
  | true =>
  have ht1 := sys_alpha HSV.out
  by_cases hin : (bits .and .i64 T.alphabet pa != T.alphabet) = true
  · refine wp_region_quiet_below (by kernel_rfl) (by kernel_rfl) ?_
    repeat (go_big_quiet_step ((first | (go_at_call 19; exact Grows.quiet (CV.out _ (hx.trans (below_regrown _ _ _)))) | (go_at_call 27; exact Grows.quiet (CA2.out _ (hx.trans (below_regrown _ _ _)))))))
    refine wpQuiet_nil ?_
    intro _ hw'
    obtain ⟨⟨dq, osq⟩, hw''⟩ := hw'
    subst hw''
    have hq2 : Ext wl (Go.Sort.grow (redrawn wl dq) osq) := below_regrown wl dq osq
    generalize Go.Sort.grow (redrawn wl dq) osq = wq at hq2 ⊢
    go_wp2_with fail
    go_ret
    exact Grows.mk rfl (he1.trans (hx.trans hq2))
  have hin : (bits .and .i64 T.alphabet pa != T.alphabet) = false := by simpa using hin
  refine wp_region_quiet_below (by kernel_rfl) (by kernel_rfl) ?_
  repeat (go_big_quiet_step ((first | (go_at_call 19; exact Grows.quiet (CV.out _ (hx.trans (below_regrown _ _ _)))) | (go_at_call 27; exact Grows.quiet (CA2.out _ (hx.trans (below_regrown _ _ _)))))))
  refine wpQuiet_nil ?_
  intro _ hw'
  obtain ⟨⟨dq, osq⟩, hw''⟩ := hw'
  subst hw''
  have hq2 : Ext wl (Go.Sort.grow (redrawn wl dq) osq) := below_regrown wl dq osq
  generalize Go.Sort.grow (redrawn wl dq) osq = wq at hq2 ⊢
  replace hx := hx.trans hq2
  replace b4 := b4.ext hq2
  replace b6 := b6.ext hq2
  clear hq2 b4_0 b4_1 b4_2 b6_0 b6_1 b6_2
  go_upto_region 10 with fail
  cases b with
  | false =>
    refine wp_region_quiet_below (by kernel_rfl) (by kernel_rfl) ?_
    repeat (go_big_quiet_step (fail))
    refine wpQuiet_nil ?_
    intro _ hw'
    obtain ⟨⟨dq, osq⟩, hw''⟩ := hw'
    subst hw''
    have hq3 : Ext wq (Go.Sort.grow (redrawn wq dq) osq) := below_regrown wq dq osq
    generalize Go.Sort.grow (redrawn wq dq) osq = wr at hq3 ⊢
    go_wp2_with fail
    go_ret
    exact Grows.mk rfl (he1.trans (hx.trans hq3))
  | true =>
  have hsub : ∀ x, bit T.alphabet x = true → bit (partsAlphabet l) x = true := by
    intro x hbx
    rw [HPA.out]
    have he : bits .and .i64 T.alphabet pa = T.alphabet := by simpa using hin
    obtain ⟨m, hm⟩ := Int.eq_ofNat_of_zero_le ht1.1
    obtain ⟨n, hn⟩ := Int.eq_ofNat_of_zero_le pf0
    have hm63 := ht1.2
    rw [hm] at he hbx hm63
    rw [hn] at he pf1 ⊢
    rw [i64_and_nat m n (by omega) (by omega)] at he
    have he2 : m &&& n = m := Int.ofNat_inj.1 he
    simp only [bit, Int.toNat_natCast, Bool.and_eq_true, decide_eq_true_eq] at hbx ⊢
    refine ⟨hbx.1, ?_⟩
    have := congrArg (fun k => k.testBit x.toNat) he2
    simp only [Nat.testBit_and, hbx.2, Bool.true_and] at this
    exact this
  have hmore : keepsB (l ++ [T]) P = true := parts_more HSV.out (by have := HS3.out; have := H3N.out; omega) hsub HB.out
  have CK := Lib.hid (show ∀ w' v', Ext wk w' → SyssV w' v' (l ++ [T]) → Calls Tryz.prog 25 #[v', .agg #[.int .i64 P.alphabet, .slice aN3 P.next.length cN3, .slice aA3 P.accept.length cA3]] w' (Grows (.bool true) w') from fun w' v' h hv => by
    have := PartsKeep_cd _ _ (l ++ [T]) P _ hv (by simp; omega) (HP.out _ h) (HD.out _ h)
    rwa [hmore] at this)
  obtain ⟨adL, ps, rfl, hps, hpE, hcell⟩ := syss_cells (HL.out _ hx) (by intro h; have := HS3.out; rw [h] at this; simp at this)
  obtain ⟨vf4, ef4, hf4⟩ := HT.out _ hx
  cases ef4
  have hlps : ps.length = l.length := by rw [← hps]; simp
  have h1c := sysVals_one hpE
  clear hmore hsub
  have x0 : Ext wq (wq.alloc (.cells #[] 25)).drew := (Ext.alloc _ _).trans (Ext.drew _)
  have x1 : Ext wq ((wq.alloc (.cells #[] 25)).alloc (.cells #[.int .i64 T.alphabet, .int .i64 T.states, .slice aE4 T.edges.length cE4] 25)).drew := ((Ext.alloc _ _).trans (Ext.alloc _ _)).trans (Ext.drew _)
  have x2 : Ext wq ((wq.alloc (.cells #[.int .i64 T.alphabet, .int .i64 T.states, .slice aE4 T.edges.length cE4] 25)).alloc (.cells #[] 25)).drew := ((Ext.alloc _ _).trans (Ext.alloc _ _)).trans (Ext.drew _)
  have hpA := (Pool.nil wq.heap.size wq).addLit 25 3 (b := wq.heap.size) (Nat.le_refl _) (Nat.le_refl _) x0 ((Blk.new wq #[] 25).ext (Ext.drew _))
  have hpB := (Pool.nil wq.heap.size wq).addLit 25 3 (b := wq.heap.size) (Nat.le_refl _) (Nat.le_refl _) x1 (((Blk.new wq #[] 25).ext (Ext.alloc _ _)).ext (Ext.drew _))
  have hpC := (Pool.nil wq.heap.size wq).addLit 25 3 (b := wq.heap.size + 1) (by omega) (by omega) x2 ((show Blk ((wq.alloc (.cells #[.int .i64 T.alphabet, .int .i64 T.states, .slice aE4 T.edges.length cE4] 25)).alloc (.cells #[] 25)) (wq.heap.size + 1) #[] 25 by have := Blk.new (wq.alloc (.cells #[.int .i64 T.alphabet, .int .i64 T.states, .slice aE4 T.edges.length cE4] 25)) #[] 25; rwa [World.size_alloc] at this).ext (Ext.drew _))
  have hLB := (show Blk ((wq.alloc (.cells #[] 25)).alloc (.cells #[.int .i64 T.alphabet, .int .i64 T.states, .slice aE4 T.edges.length cE4] 25)) (wq.heap.size + 1) #[.int .i64 T.alphabet, .int .i64 T.states, .slice aE4 T.edges.length cE4] 25 by have := Blk.new (wq.alloc (.cells #[] 25)) #[.int .i64 T.alphabet, .int .i64 T.states, .slice aE4 T.edges.length cE4] 25; rwa [World.size_alloc] at this).ext (Ext.drew _)
  have hLC := ((Blk.new wq #[.int .i64 T.alphabet, .int .i64 T.states, .slice aE4 T.edges.length cE4] 25).ext (Ext.alloc _ (.cells #[] 25))).ext (Ext.drew _)
  have qb40 := b4.cell 0 rfl
  have rb40 := fun o => (b4.ext (Ext.alloc wq o)).cell 0 rfl
  have sb40 := fun o o' => ((b4.ext (Ext.alloc wq o)).ext (Ext.alloc _ o')).cell 0 rfl
  have qb41 := b4.cell 1 rfl
  have rb41 := fun o => (b4.ext (Ext.alloc wq o)).cell 1 rfl
  have sb41 := fun o o' => ((b4.ext (Ext.alloc wq o)).ext (Ext.alloc _ o')).cell 1 rfl
  have qb42 := b4.cell 2 rfl
  have rb42 := fun o => (b4.ext (Ext.alloc wq o)).cell 2 rfl
  have sb42 := fun o o' => ((b4.ext (Ext.alloc wq o)).ext (Ext.alloc _ o')).cell 2 rfl
  have qb60 := b6.cell 0 rfl
  have rb60 := fun o => (b6.ext (Ext.alloc wq o)).cell 0 rfl
  have sb60 := fun o o' => ((b6.ext (Ext.alloc wq o)).ext (Ext.alloc _ o')).cell 0 rfl
  have qb61 := b6.cell 1 rfl
  have rb61 := fun o => (b6.ext (Ext.alloc wq o)).cell 1 rfl
  have sb61 := fun o o' => ((b6.ext (Ext.alloc wq o)).ext (Ext.alloc _ o')).cell 1 rfl
  have qb62 := b6.cell 2 rfl
  have rb62 := fun o => (b6.ext (Ext.alloc wq o)).cell 2 rfl
  have sb62 := fun o o' => ((b6.ext (Ext.alloc wq o)).ext (Ext.alloc _ o')).cell 2 rfl
  go_region_law (first
    | (refine step_appPN (base := wq.heap.size) (l := []) (news := sysVals ps) (by rfl) (by rfl) Tryz.underlying38 infoSys (by rfl) (by decide) hpA (by rfl) (by rfl) (by rw [sysVals_len, hlps]) (fun j u hu => (x0).cell (hcell j u hu)) h1c (by omega) (by decide) (x0).size ?_; intro v1 w3 hP1 hg1 hb1; rw [Nat.zero_add, List.nil_append] at hP1; obtain ⟨a1, c1, rfl⟩ := own_any' (Pool.hd hP1); have hx3 : Ext wq w3 := Below.trans x0 hb1; have tb40 := hx3.cell (b4.cell 0 rfl); have ub40 := fun o => (hx3.trans (Ext.alloc w3 o)).cell (b4.cell 0 rfl); have tb41 := hx3.cell (b4.cell 1 rfl); have ub41 := fun o => (hx3.trans (Ext.alloc w3 o)).cell (b4.cell 1 rfl); have tb42 := hx3.cell (b4.cell 2 rfl); have ub42 := fun o => (hx3.trans (Ext.alloc w3 o)).cell (b4.cell 2 rfl); have tb60 := hx3.cell (b6.cell 0 rfl); have ub60 := fun o => (hx3.trans (Ext.alloc w3 o)).cell (b6.cell 0 rfl); have tb61 := hx3.cell (b6.cell 1 rfl); have ub61 := fun o => (hx3.trans (Ext.alloc w3 o)).cell (b6.cell 1 rfl); have tb62 := hx3.cell (b6.cell 2 rfl); have ub62 := fun o => (hx3.trans (Ext.alloc w3 o)).cell (b6.cell 2 rfl); have hP1a := fun o => hP1.ext (Ext.alloc w3 o))
    | (refine step_appPN (base := wq.heap.size) (l := []) (news := sysVals ps) (by rfl) (by rfl) Tryz.underlying38 infoSys (by rfl) (by decide) hpB (by rfl) (by rfl) (by rw [sysVals_len, hlps]) (fun j u hu => (x1).cell (hcell j u hu)) h1c (by omega) (by decide) (x1).size ?_; intro v1 w3 hP1 hg1 hb1; rw [Nat.zero_add, List.nil_append] at hP1; obtain ⟨a1, c1, rfl⟩ := own_any' (Pool.hd hP1); have hx3 : Ext wq w3 := Below.trans x1 hb1; have tb40 := hx3.cell (b4.cell 0 rfl); have ub40 := fun o => (hx3.trans (Ext.alloc w3 o)).cell (b4.cell 0 rfl); have tb41 := hx3.cell (b4.cell 1 rfl); have ub41 := fun o => (hx3.trans (Ext.alloc w3 o)).cell (b4.cell 1 rfl); have tb42 := hx3.cell (b4.cell 2 rfl); have ub42 := fun o => (hx3.trans (Ext.alloc w3 o)).cell (b4.cell 2 rfl); have tb60 := hx3.cell (b6.cell 0 rfl); have ub60 := fun o => (hx3.trans (Ext.alloc w3 o)).cell (b6.cell 0 rfl); have tb61 := hx3.cell (b6.cell 1 rfl); have ub61 := fun o => (hx3.trans (Ext.alloc w3 o)).cell (b6.cell 1 rfl); have tb62 := hx3.cell (b6.cell 2 rfl); have ub62 := fun o => (hx3.trans (Ext.alloc w3 o)).cell (b6.cell 2 rfl); have hBL : Blk w3 (wq.heap.size + 1) #[.int .i64 T.alphabet, .int .i64 T.states, .slice aE4 T.edges.length cE4] 25 := (hg1.block _ hLB.lt (fun he => by simp [Value.ownBlock] at he)).trans hLB)
    | (refine step_appPN (base := wq.heap.size) (l := []) (news := sysVals ps) (by rfl) (by rfl) Tryz.underlying38 infoSys (by rfl) (by decide) hpC (by rfl) (by rfl) (by rw [sysVals_len, hlps]) (fun j u hu => (x2).cell (hcell j u hu)) h1c (by omega) (by decide) (x2).size ?_; intro v1 w3 hP1 hg1 hb1; rw [Nat.zero_add, List.nil_append] at hP1; obtain ⟨a1, c1, rfl⟩ := own_any' (Pool.hd hP1); have hx3 : Ext wq w3 := Below.trans x2 hb1; have tb40 := hx3.cell (b4.cell 0 rfl); have ub40 := fun o => (hx3.trans (Ext.alloc w3 o)).cell (b4.cell 0 rfl); have tb41 := hx3.cell (b4.cell 1 rfl); have ub41 := fun o => (hx3.trans (Ext.alloc w3 o)).cell (b4.cell 1 rfl); have tb42 := hx3.cell (b4.cell 2 rfl); have ub42 := fun o => (hx3.trans (Ext.alloc w3 o)).cell (b4.cell 2 rfl); have tb60 := hx3.cell (b6.cell 0 rfl); have ub60 := fun o => (hx3.trans (Ext.alloc w3 o)).cell (b6.cell 0 rfl); have tb61 := hx3.cell (b6.cell 1 rfl); have ub61 := fun o => (hx3.trans (Ext.alloc w3 o)).cell (b6.cell 1 rfl); have tb62 := hx3.cell (b6.cell 2 rfl); have ub62 := fun o => (hx3.trans (Ext.alloc w3 o)).cell (b6.cell 2 rfl); have hBL : Blk w3 wq.heap.size #[.int .i64 T.alphabet, .int .i64 T.states, .slice aE4 T.edges.length cE4] 25 := (hg1.block _ hLC.lt (fun he => by simp [Value.ownBlock] at he)).trans hLC)
    | (refine step_appPN (base := wq.heap.size) (l := []) (news := [Value.int .i64 T.alphabet, .int .i64 T.states, .slice aE4 T.edges.length cE4]) (by rfl) (by rfl) Tryz.underlying38 infoSys (by rfl) (by decide) (hP1a _) (by rfl) (by rfl) (by rfl) (fun j u hu => by rw [add_none, Nat.zero_add]; exact new_cell w3 _ _ _ _ (by simpa using hu)) (by simp [Value.oneCell']) (by omega) (by decide) (hx3.trans (Ext.alloc _ _)).size ?_; intro v2 w5 hP2 hg2 hb2; obtain ⟨a2, c2, rfl⟩ := own_any' (Pool.hd hP2); have hx5 : Ext wq w5 := Below.trans (hx3.trans (Ext.alloc _ _)) hb2; have hsy : SyssV w5 (.slice a2 (l.length + 1) c2) (l ++ [T]) := syss_of_own (l := l ++ [T]) (ps := ps ++ [(T, .slice aE4 T.edges.length cE4)]) (base := wq.heap.size) (by rw [sysVals_push, List.length_append]; exact Pool.hd hP2) (by rw [List.map_append, hps]; rfl) (fun p hp => by rcases List.mem_append.1 hp with hp | hp; exact (hpE p hp).mono hx5; rw [List.mem_singleton] at hp; subst hp; exact hf4.mono hx5); have vb40 := hx5.cell (b4.cell 0 rfl); have vb41 := hx5.cell (b4.cell 1 rfl); have vb42 := hx5.cell (b4.cell 2 rfl))
    | (refine step_appPN (base := wq.heap.size) (l := []) (news := [Value.int .i64 T.alphabet, .int .i64 T.states, .slice aE4 T.edges.length cE4]) (by rfl) (by rfl) Tryz.underlying38 infoSys (by rfl) (by decide) hP1 (by rfl) (by rfl) (by rfl) (fun j u hu => by rw [add_none, Nat.zero_add]; exact hBL.cell j (by simpa using hu)) (by simp [Value.oneCell']) (by omega) (by decide) hx3.size ?_; intro v2 w5 hP2 hg2 hb2; obtain ⟨a2, c2, rfl⟩ := own_any' (Pool.hd hP2); have hx5 : Ext wq w5 := Below.trans hx3 hb2; have hsy : SyssV w5 (.slice a2 (l.length + 1) c2) (l ++ [T]) := syss_of_own (l := l ++ [T]) (ps := ps ++ [(T, .slice aE4 T.edges.length cE4)]) (base := wq.heap.size) (by rw [sysVals_push, List.length_append]; exact Pool.hd hP2) (by rw [List.map_append, hps]; rfl) (fun p hp => by rcases List.mem_append.1 hp with hp | hp; exact (hpE p hp).mono hx5; rw [List.mem_singleton] at hp; subst hp; exact hf4.mono hx5); have vb40 := hx5.cell (b4.cell 0 rfl); have vb41 := hx5.cell (b4.cell 1 rfl); have vb42 := hx5.cell (b4.cell 2 rfl))
    | (go_simp; go_wp2_with (go_at_call 25; refine (CK.out _ _ (hx.trans hx5) hsy).mono ?_; rintro e w9 ⟨rfl, he9⟩)))
  all_goals
    go_wp2_with fail
    go_ret
    exact Grows.mk rfl (he1.trans (hx.trans (hx5.trans he9)))

theorem own : ownKnob Tryz.prog.godebug = none := by kernel_rfl
theorem laidOut : laidOutB Tryz.prog = true := by kernel_rfl
theorem deb_of_laid {W : World} (h : laidMetH Tryz.prog Rows.fnPartsMoreRow.laid W) : Deb W := debOfLaid h
theorem laid_met (os : Os) (args : Array Value) : laidMetH Tryz.prog Rows.fnPartsMoreRow.laid ((laidWorld os).forCall (fun _ _ => 0) ⟨#[], args, []⟩).memory :=
  (LaidIn.of_run [0, 1] 8 (by kernel_rfl) (by kernel_rfl) (by kernel_rfl) (by kernel_rfl)).met
set_option maxRecDepth 100000 in
theorem lifted (os : Os) (started : os.Started) (H : Type) (enc : TypeId × Value → H) :
    ReturnsInHanded {} Tryz.checked os 5 .any (fun w args => (Rows.fnPartsMoreSpec.pre enc Tryz.prog Tryz.f5 [] false w args ∧ laidMetH Tryz.prog Rows.fnPartsMoreRow.laid w) ∧ sizedMet enc Tryz.prog Tryz.f5 (OpenSpec.ofChange Rows.fnPartsMoreSpec) false w args)
      (Rows.fnPartsMoreSpec.post enc Tryz.prog Tryz.f5 false true false false) := by
  refine returnsInHanded_of_change_and (C := Tryz.checked) (X := fun w _ => laidMetH Tryz.prog Rows.fnPartsMoreRow.laid w) (fun _ _ _ hh h => h.of_heap hh) own started (by kernel_rfl) Tryz.func5
    (ChangeSpec.witness_at (enc := enc) (C := Tryz.checked) (os := os) (X := fun w _ => laidMetH Tryz.prog Rows.fnPartsMoreRow.laid w) false (laidWorld os) #[.slice none 0 0, .slice none 0 0] 8 rfl (by kernel_rfl) (by kernel_rfl) (by kernel_rfl) (by kernel_rfl) (by kernel_rfl) (laid_met os _)) ?_
  intro W base args ds gs before hval0 hW _ _ hL _
  have hval : ∀ (j : Nat) t v, Tryz.f5.params[j]? = some t → args[j]? = some v → Value.okWide Tryz.prog W .any base t v := hval0
  have hW' := hW
  obtain ⟨p, q, hA0, hV, rfl, hfz, hnd⟩ := hW
  have hA : DataW.TrodAll enc Tryz.prog W 0 (fun _ => true) true Tryz.f5.params.toList args.toList ds p := hA0
  rw [Tryz.params5] at hA hval
  obtain ⟨v0, vs0, d0, ds0, p0, q0, hargs, rfl, rfl, h0, r0⟩ := trodAll_cons hA
  obtain ⟨v1, vs1, d1, ds1, p1, q1, rfl, rfl, rfl, h1, r1⟩ := trodAll_cons r0
  obtain ⟨rfl, rfl, rfl⟩ := trodAll_nil r1
  obtain rfl : args = #[v0, v1] := by cases args; simp_all
  obtain ⟨rfl, rfl⟩ := trodVars_none hV
  have k0 := h0
  have lt0 : ∀ x ∈ p0, x.block < W.heap.size := by obtain ⟨m, hm⟩ := k0; exact DataW.trod_lt m _ _ _ hm
  obtain ⟨a0, len0, cap0, rfl⟩ := okWide_slice Tryz.underlying22 (hval 0 _ v0 rfl rfl)
  obtain ⟨t0, w0⟩ : ∃ t, BytesV W (.slice a0 len0 cap0) t := by
    obtain ⟨fuel, hf⟩ := h0
    obtain ⟨v, t, hv, ht⟩ := read_bytes hf
    simp [Value.cells] at hv
    subst hv
    exact ⟨t, ht⟩
  have k1 := h1
  have lt1 : ∀ x ∈ p1, x.block < W.heap.size := by obtain ⟨m, hm⟩ := k1; exact DataW.trod_lt m _ _ _ hm
  obtain ⟨a1, len1, cap1, rfl⟩ := okWide_slice Tryz.underlying22 (hval 1 _ v1 rfl rfl)
  obtain ⟨t1, w1⟩ : ∃ t, BytesV W (.slice a1 len1 cap1) t := by
    obtain ⟨fuel, hf⟩ := h1
    obtain ⟨v, t, hv, ht⟩ := read_bytes hf
    simp [Value.cells] at hv
    subst hv
    exact ⟨t, ht⟩
  clear hA0 hval0
  refine (walk (.slice a0 len0 cap0) t0 (.slice a1 len1 cap1) t1 W w0 w1 (deb_of_laid hL)).mono fun e W' ⟨he, bel⟩ => ?_
  subst he
  exact ⟨_, rfl, _, _, _, [], _, [], hW', trodAll_mk1 (shut_bool Tryz.underlying4 _), (trodAll_cons_mk (Below.trod laidOut (by kernel_rfl) (of_decide_eq_true (by kernel_rfl)) k0 bel lt0) (trodAll_cons_mk (Below.trod laidOut (by kernel_rfl) (of_decide_eq_true (by kernel_rfl)) k1 bel lt1) trodAll_mk0)), rfl, bel.frame _, fun h => by cases h⟩

theorem over : Rows.fnPartsMoreRow.holds Tryz.pinned (OpenSpec.ofChange Rows.fnPartsMoreSpec) :=
  OpenClaim.holds_of_wide 5 Tryz.f5 rfl rfl rfl rfl rfl rfl rfl ⟨rfl, rfl, rfl, rfl, rfl⟩ rfl rfl rfl rfl rfl (by kernel_rfl) Tryz.func5 (by kernel_rfl)
    (of_decide_eq_true (by kernel_rfl)) (by unfold Func.isWrapper; first | (rw [if_pos (by decide +kernel)]; kernel_rfl) | (rw [if_neg (by decide +kernel)]; exact ⟨rfl, rfl⟩))
    (fun os started H enc _ => lifted os started H enc)

theorem card_holds : Rows.FnPartsMoreCardSaid :=
  Claim7.holds_tied_plain_at .later [] [.data, .data] true (true, "9a077bff846fc9286c140de7f5544c1180e5c39865adca5fef709ebff2f37226") true
    over (fun _ h => by cases h) (by kernel_rfl) (fun _ h => by cases h) fnPartsMore_row_tie rfl ⟨rfl, rfl⟩ (by kernel_rfl) rfl
    (fun f fn hf hfn => by
      obtain rfl : f = 5 := Option.some.inj ((show Tryz.prog.funcNamed "loop.example/assumeguarantee/laws.FnPartsMore" = some 5 by kernel_rfl).symm.trans hf) |>.symm
      obtain rfl : fn = Tryz.f5 := (Option.some.inj (Tryz.func5.symm.trans hfn)).symm
      refine ⟨by kernel_rfl, fun j t ht => ?_⟩
      rw [Tryz.params5] at ht
      match j, ht with
      | 0, ht =>
        have h0 : t = 22 := by simpa using ht.symm
        subst h0
        exact (show Tryz.prog.wantsStandIn 22 = false by kernel_rfl)
      | 1, ht =>
        have h1 : t = 22 := by simpa using ht.symm
        subst h1
        exact (show Tryz.prog.wantsStandIn 22 = false by kernel_rfl)
      | j + 2, ht => simp at ht)
    (by kernel_rfl)
#print axioms card_holds
end Go.Proofs.YthpiihblmekijaaGreatDoor.lawFnPartsMore
