/- Part of this seat's proofs, cut to what its law needs. -/

import Derived.Test.YtanekmfifmkbmaaDoorPlainC
import Derived.Test.YtanekmfifmkbmaaDoorSubS
import Derived.Test.YtanekmfifmkbmaaDoorWalkR
import Derived.Test.YtanekmfifmkbmaaDoorWalkY
import Derived.Maps.OwnSet
import Derived.Maps.OwnOps

namespace Go.Proofs.YtanekmfifmkbmaaDoor
open Go.RowKit Go.Maps
set_option linter.unusedVariables false
set_option linter.unusedSimpArgs false
set_option maxHeartbeats 4000000
set_option maxRecDepth 100000

theorem lawInt : Keyed Tryd.prog 3 := int_keyed Tryd.underlying3
theorem zeroInt (w : World) : (zeroValue 3).run Tryd.prog w = .ok (.int .i64 0) w := by kernel_rfl
def NumMap (B : Nat) (nodes : List Nat) (D : DataW Unit) : Prop := ∀ x : Nat, x < B → Maps.has D (.int .i64 (x : Int)) = decide (x ∈ nodes) ∧ (x ∈ nodes → D.atKey (.int .i64 (x : Int)) (.lit (.int .i64 0)) = .lit (.int .i64 ((nodes.idxOf x : Nat) : Int)))
theorem key_int {x : Nat} (h : x ≤ 1099511627776) : keyOf Tryd.prog 3 (.int .i64 (x : Int)) = some (.int .i64 (x : Int)) := keyOf_int_mk Tryd.underlying3 (WalkArith.wf_i64 (by omega))
theorem elem_int {x : Nat} (h : x ≤ 1099511627776) : plainElem (H := Unit) Tryd.prog 3 (.int .i64 (x : Int)) = some (.lit (.int .i64 (x : Int)), []) := plainElem_int Tryd.underlying3 (WalkArith.wf_i64 (by omega))
theorem NumMap.push {B : Nat} {nodes : List Nat} {D : DataW Unit} (h : NumMap B nodes D) (hD : IsMap D) (hB : B ≤ 1099511627776) {x : Nat} (hx : x < B) (hn : x ∉ nodes) : NumMap B (nodes ++ [x]) (D.put (.int .i64 (x : Int)) (.lit (.int .i64 (nodes.length : Int)))) := by
  have hk := lawInt.key (key_int (x := x) (by omega))
  intro y hy
  by_cases hxy : y = x
  · subst hxy
    refine ⟨by rw [has_put_same hD hk]; simp, fun _ => ?_⟩
    rw [atKey_put_same hD hk, List.idxOf_append, if_neg hn]; simp
  · have hne : (Lit.int .i64 (y : Int)) ≠ .int .i64 (x : Int) := fun e => hxy (by injection e with _ e; omega)
    obtain ⟨h1, h2⟩ := h y hy
    refine ⟨?_, fun hm => ?_⟩
    · rw [has_put_other hne, h1]; simp [hxy]
    · have hm' : y ∈ nodes := by simpa [hxy] using hm
      rw [atKey_put_other hne, h2 hm', List.idxOf_append, if_pos hm']
theorem NumMap.one {B : Nat} (hB : B ≤ 1099511627776) {x : Nat} (hx : x < B) : NumMap B [x] ((DataW.map [] : DataW Unit).put (.int .i64 (x : Int)) (.lit (.int .i64 0))) := by
  have := NumMap.push (B := B) (nodes := []) (D := DataW.map []) (fun y _ => ⟨by simp [has_eq], fun h => by cases h⟩) isMap_empty hB hx (by simp)
  simpa using this

structure NxIs (w0 : World) (B : Nat) (L : List Int) (nf : Value) (nx : Nat → Int → Nat) : Prop where
  fn : ∃ f caps, nf = .func (.func f) #[] caps ∧ (∀ args w, (callFunc f args).run Tryd.prog w = .ok (.enter f args) w) ∧
    ∀ w' (q : Nat) l, Ext w0 w' → q < B → l ∈ L → Calls Tryd.prog f (#[.int .i64 q, .int .i64 l] ++ caps) w' (Grows (.int .i64 (nx q l : Nat)) w')
  lt : ∀ q l, q < B → l ∈ L → nx q l < B

def numPool (vS vR : Value) (m : Nat) (nodes : List Nat) (i : Nat) (vs : List Value) (rows : List (List Int)) : List Slc :=
  ⟨3, 1, vS, m, (ints nodes).map (Value.int .i64)⟩ :: ⟨51, 1, vR, i, vs⟩ :: slRows 3 vs rows
theorem perm_num (r w s : Slc) (l : List Slc) : (r :: w :: s :: l).Perm (s :: r :: (l ++ [w])) :=
  ((List.Perm.swap s w l).cons r).trans ((List.Perm.swap s r (w :: l)).trans (((List.perm_append_singleton w l).symm.cons r).cons s))
def NumbsEnd (nx : Nat → Int → Nat) (L : List Int) (start M : Nat) (w : World) (e : Ending) (w' : World) : Prop :=
  Ext w w' ∧ ((∃ nodes vS vR vs rows, e = .returned (.tuple #[vS, vR, .bool true]) ∧ Numbers nx L start nodes ∧ nodes.length ≤ M ∧ Pool w.heap.size w' (numPool vS vR nodes.length nodes nodes.length vs rows) ∧ rows = nodes.map (rowN nx L nodes) ∧ vs.length = nodes.length) ∨
    (e = .returned (.tuple #[.slice none 0 0, .slice none 0 0, .bool false]) ∧ TooMany nx L start M))

theorem reach_lt {nx : Nat → Int → Nat} {L : List Int} {start B : Nat} (hs : start < B) (hlt : ∀ q l, q < B → l ∈ L → nx q l < B) {n : Nat} (h : ReachN nx L start n) : n < B := by
  obtain ⟨v, hv, rfl⟩ := h
  have : ∀ (v : List Int), (∀ x ∈ v, x ∈ L) → ∀ s, s < B → v.foldl nx s < B := by
    intro v
    induction v with
    | nil => intro _ s hs; exact hs
    | cons l v ih => intro hv s hs; exact ih (fun x hx => hv x (by simp [hx])) _ (hlt s l hs (hv l (by simp)))
  exact this v hv start hs

theorem numbered_c (start M B : Nat) (vl nf : Value) (L : List Int) (nx : Nat → Int → Nat) (w : World) (hl : IntsV w vl L) (hL6 : L.length ≤ 6) (hM : M ≤ 1000) (hM1 : 1 ≤ M) (hB : B ≤ 1099511627776) (hs : start < B) (hN : NxIs w B L nf nx) :
    Calls Tryd.prog 39 #[.int .i64 start, vl, .int .i64 M, nf] w (NumbsEnd nx L start M w) := by
  obtain ⟨al, cl, rfl, hll, hl2⟩ := hl.open
  obtain ⟨fn, capn, rfl, hentn, hcalln⟩ := hN.fn
  have HC := Lib.hid hcalln
  clear hcalln
  have HLAT := Lib.hid hl2
  have HRL := Lib.hid fun n (h : ReachN nx L start n) => reach_lt hs hN.lt h
  clear hl2 hl
  have hmm := @run_makeMap Tryd.prog
  go_enter Tryd.func39, Tryd.ntmps39
  have hm0 : (((w.alloc (.cells #[.int .i64 start] 3)).alloc (.map #[] 0))).ownsMap Tryd.prog 3 (plainElem (H := Unit) Tryd.prog 3) (w.alloc (.cells #[.int .i64 start] 3)).heap.size 0 (.map []) := World.ownsMap_made _ _ _ _
  rw [World.size_alloc] at hm0
  go_wp2_with (refine wpList_insert_own _ rfl _ _ _ 100 rfl 3 3 lawInt Tryd.underlying100 _ (w.heap.size + 1) 0 _ rfl hm0 (by unfold maxLen; omega) _ _ _ rfl rfl (key_int (by omega)) _ [] (elem_int (x := 0) (by omega)) ?_; intro w1 hm1 hg1)
  have hx1 : Ext w w1 := grown_below (B := w.heap.size) ((Ext.alloc _ _).trans (Ext.alloc _ _)) hg1 (by simp; omega) (fun k hk => by cases hk; omega)
  have hP0 : Pool w.heap.size w1 (numPool (.slice (some ⟨w.heap.size, 0, none⟩) 1 1) (.slice none 0 0) 1 [start] 0 [] []) := by
    refine Pool.mapped ?_ hm0 hg1
    have p1 := (Pool.nil w.heap.size ((w.alloc (.cells #[.int .i64 start] 3)).alloc (.map #[] 0))).addNil 51 1
    refine ⟨fun t ht => ?_, List.pairwise_cons.2 ⟨fun t ht => ?_, p1.apt⟩⟩
    · rcases List.mem_cons.1 ht with rfl | ht
      · exact own_ext (IntsOwn.one 3 w (start : Int)).own (Ext.alloc _ _)
      · exact p1.own t ht
    · rcases List.mem_cons.1 ht with rfl | ht
      · exact (Apt.nil _).symm
      · cases ht
  have hNM : Hid (NumMap B [start] ((DataW.map [] : DataW Unit).put (.int .i64 (start : Int)) (.lit (.int .i64 ((0 : Nat) : Int))))) := Lib.hid (NumMap.one hB hs)
  clear hm0 hg1 hmm
  generalize (DataW.map [] : DataW Unit).put (.int .i64 (start : Int)) (.lit (.int .i64 ((0 : Nat) : Int))) = D1 at hm1 hNM
  obtain ⟨bm, hbm⟩ : ∃ bm, w.heap.size + 1 = bm := ⟨_, rfl⟩
  rw [hbm] at hm1 ⊢
  have hbml : w.heap.size ≤ bm := by omega
  clear hbm
  go_loopw [11, 13, 14] (fun vS vR i wr => ∃ (k m : Nat) (nodes : List Nat) (vs : List Value) (rows : List (List Int)) (D : DataW Unit) (nm : Nat), i = .int .i64 k ∧ k ≤ m ∧ m ≤ M ∧ nodes.length = m ∧ Hid (nodesTo nx L start k = nodes) ∧ Hid (RowsN nx L start k rows) ∧ Hid (vs.length = k ∧ rows.length = k) ∧ Pool w.heap.size wr (numPool vS vR m nodes k vs rows) ∧ wr.ownsMap Tryd.prog 3 (plainElem (H := Unit) Tryd.prog 3) bm nm D ∧ nm ≤ m ∧ Hid (NumMap B nodes D) ∧ Ext w wr) (fun _ _ i _ => M + 1 - (intOf i).toNat)
  case atStart => exact ⟨0, 1, [start], [], [], D1, 1, rfl, by omega, hM1, rfl, Lib.hid rfl, Lib.hid RowsN.zero, Lib.hid ⟨rfl, rfl⟩, hP0, hm1, by omega, hNM, hx1⟩
  case round =>
    clear hP0 hm1 hNM hx1
    obtain ⟨k, m, nodes, vs, rows, D, nm, rfl, hkm, hmM, hml, HN, HR, HA, hP, hm, hnm, HM, hx⟩ := hrel
    obtain ⟨aR, cR, rfl⟩ := own_any' (Pool.hd2 hP)
    obtain ⟨aS, cS, rfl⟩ := own_any' (Pool.hd hP)
    by_cases hlt : k < m
    case neg =>
      obtain rfl : k = m := by omega
      have hnum : Numbers nx L start nodes := by
        have h1 := HN.out
        rw [← h1]
        exact Numbers.of (by rw [h1, hml])
      have hrows := HR.out
      rw [← hml] at hrows
      have hfin : NumbsEnd nx L start M w (.returned (.tuple #[.slice aS k cS, .slice aR k cR, .bool true])) wr :=
        ⟨hx, .inl ⟨nodes, _, _, vs, rows, rfl, hnum, by omega, by rw [hml]; exact hP, hrows.full hnum, by rw [HA.out.1, hml]⟩⟩
      have HF := Lib.hid hfin
      clear hfin hrows hnum hml
      go_wp2_with fail
      exact bodyPost_ret (v := .tuple #[.slice aS k cS, .slice aR k cR, .bool true]) (by simp [results, Tryd.results39, go_sem]) rfl HF.out
    obtain ⟨n, hnk⟩ : ∃ n, nodes[k]? = some n := ⟨_, List.getElem?_eq_getElem (by omega)⟩
    have HNUM0 : Hid (NumSt nx L start k 0 n nodes []) := Lib.hid (by have h1 := HN.out; subst h1; exact NumSt.start hnk)
    have HKM : Hid (k ≤ (nodesTo nx L start k).length) := Lib.hid (by rw [HN.out, hml]; exact hkm)
    have HML := Lib.hid hml
    have hlt' : (k : Int) < (m : Int) := by omega
    clear hnk hml
    go_wp2_with fail
    have hPL := hP.addNil 3 1
    go_loopw [11, 15, 34] (fun vS vW j wr => ∃ (q m' : Nat) (nodes' : List Nat) (row : List Int) (D : DataW Unit) (nm : Nat), j = .int .i64 q ∧ q ≤ L.length ∧ Hid (nodes'.length = m') ∧ m' ≤ M ∧ k < m' ∧ Hid (row.length = q) ∧ Hid (NumSt nx L start k q n nodes' row) ∧ Pool w.heap.size wr (⟨3, 1, vW, q, row.map (Value.int .i64)⟩ :: numPool vS (.slice aR k cR) m' nodes' k vs rows) ∧ wr.ownsMap Tryd.prog 3 (plainElem (H := Unit) Tryd.prog 3) bm nm D ∧ nm ≤ m' ∧ Hid (NumMap B nodes' D) ∧ Ext w wr) (fun _ _ j _ => L.length - (intOf j).toNat)
    case atStart => exact ⟨0, m, nodes, [], D, nm, rfl, by omega, HML, hmM, hlt, Lib.hid rfl, HNUM0, hPL, hm, hnm, HM, hx⟩
    case round =>
      clear hP hPL hm hnm HM hx HNUM0 hlt'
      obtain ⟨q, m', nodes', row, D, nm, rfl, hq, HML', hm'M, hkm', HRL2, HNUM, hP, hm, hnm, HM, hx⟩ := hrel
      obtain ⟨aS, cS, rfl⟩ := own_any' (Pool.hd2 hP)
      obtain ⟨aW, cW, rfl⟩ := own_any' (Pool.hd hP)
      by_cases hql : q < L.length
      · obtain ⟨l, hlq⟩ : ∃ l, L[q]? = some l := ⟨_, List.getElem?_eq_getElem hql⟩
        obtain ⟨bl, offl, rfl, -, hcl⟩ := HLAT.out q l hlq
        have gl : wr.cell? ⟨bl, offl + q, none⟩ = some (.int .i64 l) := by have := hcl q l hlq; rw [Nat.mul_one] at this; exact hx.cell this
        obtain ⟨gS, cS', e6, gs⟩ := own_at (Pool.hd2 hP) (j := k) (u := .int .i64 n) (by rw [List.getElem?_map, ints_at HNUM.out.at]; rfl)
        cases e6
        have hlL := List.mem_of_getElem? hlq
        have hnB := HRL.out n (HNUM.out.reach n (List.mem_of_getElem? HNUM.out.at))
        have HLQ := Lib.hid hlq
        obtain ⟨x, hxe⟩ : ∃ x, nx n l = x := ⟨_, rfl⟩
        have hxB : x < B := by rw [← hxe]; exact hN.lt n l hnB hlL
        have hxL : x ≤ 1099511627776 := by omega
        have HXE := Lib.hid hxe
        have HCX := Lib.hid (HC.out wr n l hx hnB hlL)
        rw [hxe] at HCX
        have hnx := HNUM.out.step HLQ.out
        rw [HXE.out] at hnx
        obtain ⟨ix, hix⟩ : ∃ ix, (addN nodes' x).idxOf x = ix := ⟨_, rfl⟩
        rw [hix] at hnx
        have HNX := Lib.hid hnx
        have HIX := Lib.hid hix
        have hkm2 : (k : Int) < (m' : Int) := by omega
        have hql2 : (q : Int) < (L.length : Int) := by omega
        have hkey := Lib.hid (key_int hxL)
        have hl32 : m' ≤ 4294967296 := by omega
        clear hnx hix hxe hcl hlq
        by_cases hmem : x ∈ nodes'
        · have hadd : addN nodes' x = nodes' := if_pos hmem
          rw [hadd] at HNX HIX
          have hhas : Maps.has D (.int .i64 (x : Int)) = true := by rw [(HM.out x hxB).1]; simpa using hmem
          have HAT := Lib.hid ((HM.out x hxB).2 hmem)
          rw [HIX.out] at HAT
          clear hmem hadd
          go_wp2_with fail
          refine HCX.out.mono ?_
          rintro e w5 ⟨rfl, he5⟩
          replace hP := hP.ext he5
          replace hm := map_ext hm he5
          replace hx := hx.trans he5
          clear gs gl HCX he5
          go_wp2_with (first
            | (at_lookup; refine wpList_lookup_own_ok_int _ rfl _ _ 100 rfl 3 3 .i64 lawInt Tryd.underlying100 Tryd.underlying3 (zeroInt _) bm nm D rfl hm _ _ rfl hkey.out ?_; intro c hat hwc; rw [hhas]; obtain rfl : c = (ix : Int) := (by have h9 := hat.symm.trans HAT.out; injection h9 with h9; injection h9); clear hat hwc)
            | (at_builtin; refine appP (news := [Value.int .i64 (ix : Int)]) rfl rfl Tryd.underlying51 infoInt rfl (by decide) hP rfl rfl rfl (by simp [Value.oneCell']) (by omega) (by decide) hx.size ?_; intro v1 w6 hP1 hg1 hb1))
          exact ⟨⟨q + 1, m', nodes', row ++ [(ix : Int)], D, nm, by go_num, by omega, HML', hm'M, hkm', Lib.hid (by rw [List.length_append, HRL2.out]; rfl), HNX, by rw [List.map_append]; exact hP1, map_grown hm (Pool.hd hP) hg1, hnm, HM, Below.trans hx hb1⟩, by simp [intOf]; omega⟩
        · have hadd : addN nodes' x = nodes' ++ [x] := if_neg hmem
          rw [hadd] at HNX HIX
          have hhas : Maps.has D (.int .i64 (x : Int)) = false := by rw [(HM.out x hxB).1]; simpa using hmem
          have HMP := Lib.hid (HM.out.push hm.isMap hB hxB hmem)
          have hixm : ix = m' := by
            have h9 := HIX.out
            rw [List.idxOf_append, if_neg hmem] at h9
            simp at h9
            rw [← h9]; exact HML'.out
          subst hixm
          have hnm2 : nm < maxLen := by unfold maxLen; omega
          have hcM : (ix : Int) = (M : Int) ↔ ix = M := by omega
          clear hmem hadd
          go_wp2_with fail
          refine HCX.out.mono ?_
          rintro e w5 ⟨rfl, he5⟩
          replace hP := hP.ext he5
          replace hm := map_ext hm he5
          replace hx := hx.trans he5
          clear gs gl HCX he5
          by_cases hfull : ix = M
          · have htm : TooMany nx L start M := ⟨nodes' ++ [x], HNX.out.nodup, by rw [List.length_append, HML'.out, hfull]; simp, HNX.out.reach⟩
            have hend : NumbsEnd nx L start M w (.returned (.tuple #[.slice none 0 0, .slice none 0 0, .bool false])) w5 := ⟨hx, .inr ⟨rfl, htm⟩⟩
            have HTM := Lib.hid hend
            clear hend
            have hfi : (ix : Int) = (M : Int) := by omega
            clear htm
            go_wp2_with (at_lookup; refine wpList_lookup_own_ok_int _ rfl _ _ 100 rfl 3 3 .i64 lawInt Tryd.underlying100 Tryd.underlying3 (zeroInt _) bm nm D rfl hm _ _ rfl hkey.out ?_; intro c hat hwc; rw [hhas]; clear hat hwc)
            exact bodyPost_ret (v := .tuple #[.slice none 0 0, .slice none 0 0, .bool false]) (by simp [results, Tryd.results39, go_sem]) rfl HTM.out
          · have hfi : ¬ (ix : Int) = (M : Int) := by omega
            have hPs := hP.perm (List.Perm.swap _ _ _)
            clear hP
            go_wp2_with (first
              | (at_lookup; refine wpList_lookup_own_ok_int _ rfl _ _ 100 rfl 3 3 .i64 lawInt Tryd.underlying100 Tryd.underlying3 (zeroInt _) bm nm D rfl hm _ _ rfl hkey.out ?_; intro c hat hwc; rw [hhas]; clear hat hwc)
              | (at_mapUpdate; refine wpList_mapUpdate_own _ rfl _ _ _ 100 rfl 3 3 lawInt Tryd.underlying100 _ bm nm D rfl hm hnm2 _ _ _ rfl rfl hkey.out _ [] (elem_int (x := ix) (by omega)) ?_; intro w6 hm6 hg6; have hPs2 := Pool.mapped hPs hm hg6; have hx6 : Ext w w6 := grown_below (B := w.heap.size) hx hg6 hx.size (fun k hk => by cases hk; omega))
              | (at_builtin; refine appP (news := [Value.int .i64 (x : Int)]) rfl rfl Tryd.underlying51 infoInt rfl (by decide) hPs2 rfl rfl rfl (by simp [Value.oneCell']) (by omega) (by decide) hx6.size ?_; intro v1 w7 hP1 hg1 hb1; obtain ⟨a1, c1, rfl⟩ := own_any' (Pool.hd hP1); have hm7 := map_grown hm6 (Pool.hd hPs2) hg1; have hP2 := hP1.perm (List.Perm.swap _ _ _); have hx7 := Below.trans hx6 hb1)
              | (at_builtin; refine appP (news := [Value.int .i64 (ix : Int)]) rfl rfl Tryd.underlying51 infoInt rfl (by decide) hP2 rfl rfl rfl (by simp [Value.oneCell']) (by omega) (by decide) hx7.size ?_; intro v2 w8 hP3 hg2 hb2))
            rw [HML'.out] at HMP
            exact ⟨⟨q + 1, ix + 1, nodes' ++ [x], row ++ [(ix : Int)], _, nm + 1, by go_num, by omega, Lib.hid (by rw [List.length_append, HML'.out]; rfl), by omega, by omega, Lib.hid (by rw [List.length_append, HRL2.out]; rfl), HNX, by unfold numPool; rw [ints_append, List.map_append, List.map_append]; exact hP3, map_grown hm7 (Pool.hd hP2) hg2, by omega, HMP, Below.trans hx7 hb2⟩, by simp [intOf]; omega⟩
      · obtain rfl : q = L.length := by omega
        obtain ⟨e1, e2⟩ := HNUM.out.done
        have HNU := Lib.hid e1
        have HRW := Lib.hid e2
        clear e1 e2
        have hPN := hP.perm (((List.Perm.swap _ _ _).cons _).trans (List.Perm.swap _ _ _))
        have hkk : k ≤ 1000 := by omega
        clear hP
        go_wp2_with (at_builtin; refine appP (news := [Value.slice aW L.length cW]) rfl rfl Tryd.underlying29 infoInts rfl (by decide) hPN rfl rfl rfl (by simp [Value.oneCell']) (by omega) (by decide) hx.size ?_; intro v1 w3 hP1 hg1 hb1)
        obtain ⟨b1, b2⟩ := HA.out
        refine ⟨⟨k + 1, m', nodes', vs ++ [.slice aW L.length cW], rows ++ [row], D, nm, by go_num, by omega, hm'M, HML'.out, Lib.hid HNU.out.symm, Lib.hid (HR.out.next HNUM.out HKM.out), Lib.hid ⟨by rw [List.length_append, b1]; rfl, by rw [List.length_append, b2]; rfl⟩, ?_, map_grown hm (Pool.hd hPN) hg1, hnm, HM, Below.trans hx hb1⟩, by simp [intOf]; omega⟩
        have hp := hP1.perm (perm_num _ _ _ _)
        unfold numPool
        rw [slRows_push (by rw [b1, b2])]
        unfold slInts
        rw [HRL2.out]
        exact hp
end Go.Proofs.YtanekmfifmkbmaaDoor
