/- Part of this seat's proofs, cut to what its law needs. -/

import Derived.Test.YtanekmfifmkbmaaGreatDoorCpC
import Derived.Test.YtanekmfifmkbmaaGreatDoorWalkSA
import Derived.Test.YtanekmfifmkbmaaGreatDoorWalkSE
import Derived.Deep.DeepCutAuto
namespace Go.Proofs.YtanekmfifmkbmaaGreatDoor
open Go Go.RowKit
set_option linter.unusedVariables false
set_option linter.unusedSimpArgs false
set_option maxHeartbeats 4000000
set_option maxRecDepth 100000


def RL (N : Nat) (L : List Nat) : List Bool := (List.range N).map fun x => decide (x ∈ L)
theorem RL_len (N : Nat) (L : List Nat) : (RL N L).length = N := by simp [RL]
theorem RL_at {N : Nat} (L : List Nat) {y : Nat} (hy : y < N) : (RL N L)[y]? = some (decide (y ∈ L)) := by simp [RL, hy]
theorem RL_nil (N : Nat) : RL N [] = List.replicate N false := by
  refine List.ext_getElem? fun i => ?_
  by_cases h : i < N <;> simp [RL, h]
theorem RL_set {N : Nat} (L : List Nat) {y : Nat} (hy : y < N) : (RL N L).set y true = RL N (L ++ [y]) := by
  refine List.ext_getElem? fun i => ?_
  rw [List.getElem?_set]
  by_cases h : y = i
  · subst h; simp [RL, hy]
  · rw [if_neg h]
    by_cases hi : i < N
    · rw [RL_at L hi, RL_at _ hi]
      have : ¬ i = y := fun e => h e.symm
      simp [this]
    · simp [RL, hi]
def rk (L : List Nat) (k : Nat) : Nat := ((List.range k).filter fun x => decide (x ∈ L)).length
theorem rk_succ (L : List Nat) (k : Nat) : rk L (k + 1) = rk L k + if k ∈ L then 1 else 0 := by
  unfold rk
  rw [List.range_succ, List.filter_append, List.length_append]
  by_cases h : k ∈ L <;> simp [h]
theorem rk_le (L : List Nat) (k : Nat) : rk L k ≤ k := by
  have := List.length_filter_le (fun x => decide (x ∈ L)) (List.range k)
  rwa [List.length_range] at this
def nodesR (N : Nat) (L : List Nat) : List Nat := (List.range N).filter fun x => decide (x ∈ L)
theorem nodesR_len (N : Nat) (L : List Nat) : (nodesR N L).length = rk L N := rfl
theorem nodesR_asc (N : Nat) (L : List Nat) : (nodesR N L).Pairwise (· < ·) := List.Pairwise.filter _ List.pairwise_lt_range
theorem nodesR_mem {N : Nat} {L : List Nat} (h : ∀ x ∈ L, x < N) (x : Nat) : x ∈ nodesR N L ↔ x ∈ L := by
  unfold nodesR
  simp only [List.mem_filter, List.mem_range, decide_eq_true_eq]
  exact ⟨fun h => h.2, fun hx => ⟨h x hx, hx⟩⟩
theorem nodesR_at {N : Nat} {L : List Nat} {i : Nat} (hi : i < N) (hm : i ∈ L) : (nodesR N L)[rk L i]? = some i := by
  have h1 : List.range N = List.range i ++ (List.range N).drop i := by
    conv => lhs; rw [← List.take_append_drop i (List.range N)]
    congr 1
    rw [List.take_range, Nat.min_eq_left (by omega)]
  have h2 : (List.range N).drop i = i :: (List.range N).drop (i + 1) := by
    rw [List.drop_eq_getElem_cons (by simpa using hi)]; simp
  unfold nodesR
  rw [h1, h2, List.filter_append, List.filter_cons_of_pos (by simpa using hm)]
  unfold rk
  rw [List.getElem?_append_right (Nat.le_refl _)]
  simp
theorem nodesR_idx {N : Nat} {L : List Nat} {i : Nat} (hi : i < N) (hm : i ∈ L) : (nodesR N L).idxOf i = rk L i := at_idx (nodesR_asc N L) (nodesR_at hi hm)

theorem l7Rank_c (v : Value) (N : Nat) (L : List Nat) (n : Nat) (w : World) (hv : BoolsV w v (RL N L)) (hn : n ≤ N) (hN : N ≤ 1000) :
    Calls Tryz.prog 41 #[v, .int .i64 n] w (Same (.int .i64 (rk L n : Nat)) w) := by
  obtain ⟨al, cl, rfl, -, hat⟩ := hv.open
  have HAT := Lib.hid hat
  have hlen := RL_len N L
  rw [hlen] at *
  clear hat hv hlen
  go_enter Tryz.func41, Tryz.ntmps41
  go_wp2_with fail
  go_loop [5, 6] (fun r i => ∃ k : Nat, k ≤ n ∧ r = .int .i64 (rk L k : Nat) ∧ i = .int .i64 k) (fun _ i => n - (intOf i).toNat)
  case atStart => exact ⟨0, by omega, rfl, rfl⟩
  case round =>
    obtain ⟨k, hk, rfl, rfl⟩ := hrel
    have hrl := rk_le L k
    by_cases hlt : k < n
    · obtain ⟨b, off, rfl, -, hc⟩ := HAT.out k _ (RL_at L (by omega))
      have g1 := hc k _ (RL_at L (by omega))
      unfold BoolAt at g1
      rw [Nat.mul_one] at g1
      have HS := Lib.hid (rk_succ L k)
      have hkN : (k : Int) < (N : Int) := by omega
      have hkn : (k : Int) < (n : Int) := by omega
      clear hc
      obtain ⟨z, hz⟩ : ∃ z : Bool, z = decide (k ∈ L) := ⟨_, rfl⟩
      rw [← hz] at g1
      have HZ := Lib.hid hz
      clear hz
      cases z with
      | false =>
        have hz0 : ¬ k ∈ L := by have := HZ.out; simpa using this
        go_wp2_with fail
        exact ⟨⟨k + 1, by omega, by rw [HS.out, if_neg hz0]; rfl, by go_num⟩, by simp [intOf]; omega⟩
      | true =>
        have hz0 : k ∈ L := by have := HZ.out; simpa using this
        go_wp2_with fail
        exact ⟨⟨k + 1, by omega, by rw [HS.out, if_pos hz0]; go_num, by go_num⟩, by simp [intOf]; omega⟩
    · obtain rfl : k = n := by omega
      go_wp2_with fail
      go_ret
      exact Same.mk rfl

theorem make_false (w : World) (n : Nat) (hn : n ≤ 1048576) : ∃ w', (Instr.makeSlice 29 (.int .i64 (n : Int)) (.int .i64 (n : Int))).run Tryz.prog w = .ok (.slice (some ⟨w.heap.size, 0, none⟩) n n) w' ∧ Ext w w' ∧
    w'.ownsRow w.heap.size 4 1 (.slice (some ⟨w.heap.size, 0, none⟩) n n) n ((RL n []).map Value.bool) := by
  obtain ⟨i, hi, hz, hsize, hby⟩ := info_parts infoBool
  obtain ⟨w', hr, h1, h2⟩ := run_make_full (P := Tryz.prog) w w.heap.size 29 4 i _ 1 Tryz.underlying29 hi hz hsize .i64 .i64 n (by rw [hby]; omega) (by unfold maxLen; omega) (Nat.le_refl _)
  refine ⟨w', hr, (Below.refl _ _).grown h2 (Nat.le_refl _) fun k hk => (by cases hk), ?_⟩
  rw [RL_nil, List.map_replicate]
  simpa [toList_madeCells_one, Value.cells] using h1
theorem Pool.grownB {base base' : Nat} {w w' : World} {l : List Slc} {e' : TypeId} {sz n : Nat} {u : Value} {us : List Value} (h : Pool base w l) (hu : w.ownsRow base' e' sz u n us) (hg : w.grownBy w' u.ownBlock) (hne : ∀ s ∈ l, s.e ≠ e') : Pool base w' l :=
  ⟨fun s hs => own_grown (h.own s hs) hu hg (hne s hs), h.apt⟩
def slI (v : Value) (l : List Int) : Slc := ⟨3, 1, v, l.length, l.map (Value.int .i64)⟩
def netC (a b : Sys) (al : Int) : Net := ⟨[a, b], [], al⟩
theorem netC_ok {a b : Sys} {al : Int} (ha : sysValid a = true) (hb : sysValid b = true) (al0 : 0 ≤ al) (al63 : al ≤ 63) (hea : a.edges.length ≤ 1048576) (heb : b.edges.length ≤ 1048576) : NetOk (netC a b al) where
  parts s hs := by
    simp [netC] at hs
    rcases hs with rfl | rfl
    · exact ha
    · exact hb
  autos x hx := by simp [netC] at hx
  np := by simp [netC]
  na := by simp [netC]
  al := ⟨al0, al63⟩
  el s hs := by
    simp [netC] at hs
    rcases hs with rfl | rfl
    · exact hea
    · exact heb
  tot := by
    have h1 := pos_states ha
    have h2 := pos_states hb
    have h3 : a.states.toNat * b.states.toNat ≤ 16 * 16 := Nat.mul_le_mul h1.2 h2.2
    simp [netC, sizesOf]; omega
theorem netC_sizes (a b : Sys) (al : Int) : sizesOf (netC a b al) = [a.states.toNat, b.states.toNat] := by simp [netC, sizesOf]

theorem l7Pairs_s (v sv : Value) (a b : Sys) (al : Int) (w : World) (hv : NetV w v (netC a b al) [] 0 0) (hsv : IntsV w sv (ints [a.states.toNat, b.states.toNat])) (ha : sysValid a = true) (hb : sysValid b = true) (hea : a.edges.length ≤ 1048576) (heb : b.edges.length ≤ 1048576) (al0 : 0 ≤ al) (al63 : al ≤ 63) :
    Calls Tryz.prog 40 #[v, sv] w (fun e w' => ∃ g c L, e = .returned (.slice (some ⟨g, 0, none⟩) (a.states.toNat * b.states.toNat) c) ∧ Ext w w' ∧ w'.ownsRow w.heap.size 4 1 (.slice (some ⟨g, 0, none⟩) (a.states.toNat * b.states.toNat) c) (a.states.toNat * b.states.toNat) ((RL (a.states.toNat * b.states.toNat) L).map Value.bool) ∧ BfsSt a b al L L.length 0 0) := by
  have HNV := Lib.hid hv
  have HSV := Lib.hid hsv
  have HSA := Lib.hid ha
  have HSB := Lib.hid hb
  have HNO := Lib.hid (netC_ok ha hb al0 al63 hea heb)
  obtain ⟨m1, m16⟩ := pos_states ha
  obtain ⟨n1, n16⟩ := pos_states hb
  obtain ⟨vp, va, vs, rfl, h1, h2, h3⟩ := hv
  obtain ⟨aP, cP, rfl, -, -⟩ := h1.open
  obtain ⟨aA, cA, rfl, -, -⟩ := h2.open
  obtain ⟨aS, cS, rfl, -, -⟩ := h3.open
  obtain ⟨aZ, cZ, rfl, -, hz⟩ := hsv.open
  obtain ⟨bz, oz, rfl, -, hz0⟩ := hz 0 _ rfl
  have z0 := hz0 0 _ rfl
  have z1 := hz0 1 _ rfl
  unfold IntAt at z0 z1
  simp only [Nat.add_zero, Nat.zero_mul, Nat.one_mul] at z0 z1
  clear hz hz0 h1 h2 h3 ha hb
  obtain ⟨M, hM⟩ : ∃ M, a.states.toNat = M := ⟨_, rfl⟩
  obtain ⟨K, hK'⟩ : ∃ K, b.states.toNat = K := ⟨_, rfl⟩
  rw [hM] at m1 m16 HSV z0 ⊢
  rw [hK'] at n1 n16 HSV z1 ⊢
  have HMd := Lib.hid hM
  have HKd := Lib.hid hK'
  have hMK : M * K ≤ 16 * 16 := Nat.mul_le_mul m16 n16
  have hMK0 : 0 < M * K := Nat.mul_pos m1 n1
  have e1 : IntKind.i64.wrap ((M : Int) * (K : Int)) = ((M * K : Nat) : Int) := by rw [show (M : Int) * (K : Int) = ((M * K : Nat) : Int) by simp, IntKind.wrap_i64]; omega
  obtain ⟨N, hN⟩ : ∃ N, M * K = N := ⟨_, rfl⟩
  rw [hN] at hMK hMK0 e1 ⊢
  have HN := Lib.hid (show a.states.toNat * b.states.toNat = N by rw [hM, hK', hN])
  clear hN
  clear hM hK'
  show Calls Tryz.prog 40 #[.agg #[.slice aP 2 cP, .slice aA 0 cA, .slice aS 0 cS, .int .i64 al, .int .i64 0, .int .i64 0], .slice (some ⟨bz, oz, none⟩) 2 cZ] w _
  have HNW := Lib.hid (show ∀ w', Ext w w' → NetV w' (.agg #[.slice aP 2 cP, .slice aA 0 cA, .slice aS 0 cS, .int .i64 al, .int .i64 0, .int .i64 0]) (netC a b al) [] 0 0 from fun w' h => HNV.out.mono h)
  have HSW := Lib.hid (show ∀ w', Ext w w' → IntsV w' (.slice (some ⟨bz, oz, none⟩) 2 cZ) (ints (sizesOf (netC a b al))) from fun w' h => by
    rw [netC_sizes, HMd.out, HKd.out]; exact HSV.out.mono h)
  clear HNV HSV
  have he : Ext w (w.alloc (.cells #[.slice aP 2 cP, .slice aA 0 cA, .slice aS 0 cS, .int .i64 al, .int .i64 0, .int .i64 0] 92)) := Ext.alloc _ _
  have b2 := Blk.new w #[.slice aP 2 cP, .slice aA 0 cA, .slice aS 0 cS, .int .i64 al, .int .i64 0, .int .i64 0] 92
  have lo : w.heap.size < (w.alloc (.cells #[.slice aP 2 cP, .slice aA 0 cA, .slice aS 0 cS, .int .i64 al, .int .i64 0, .int .i64 0] 92)).heap.size := b2.lt
  go_enter Tryz.func40, Tryz.ntmps40
  go_upto_region 1 with fail
  generalize w.alloc (.cells #[.slice aP 2 cP, .slice aA 0 cA, .slice aS 0 cS, .int .i64 al, .int .i64 0, .int .i64 0] 92) = wo at he b2 lo ⊢
  have D0 := fun d os => cell_regrown (he.cell z0) d os
  have D1 := fun d os => cell_regrown (he.cell z1) d os
  obtain ⟨Kc, HKc⟩ : ∃ Kc : FuncId → Array Value → World → Value → World → Prop, Hid (Kc = fun _ _ _ _ _ => True) := ⟨_, rfl⟩
  refine wp_region_ext (Kc := Kc) 9 (by kernel_rfl) (by kernel_rfl) ?_
  simp only [List.take_succ_cons, List.take_zero]
  repeat (refine WalkE.pure rfl (fun K hK => ?_); simp only [PureDo]; go_simp; refine hK _ ?_; clear hK K)
  refine WalkE.step (fun K hK wd hwd hdd => ?_)
  simp only [OpDo, OpSafe, OpOut]
  go_simp
  obtain ⟨wm, hrun, hxm, hom⟩ := make_false wd N (by omega)
  rw [hrun]
  simp only [Result.andThen]
  refine ⟨trivial, fun v2 w2' hvw => ?_⟩
  obtain ⟨rfl, rfl⟩ := hvw
  refine ⟨hxm, hK _ _ ?_⟩
  clear hK K hdd hrun
  repeat (refine WalkE.pure rfl (fun K hK => ?_); simp only [PureDo]; go_simp; refine hK _ ?_; clear hK K)
  refine WalkE.nil (fun wn hwn hmn => ?_)
  simp only [List.drop_succ_cons, List.drop_zero, List.drop_nil]
  have hR := own_base (base' := w.heap.size) (own_ext hom (hmn 7 (by omega))) (by have h1 := he.size; have h2 := hwd.size; have h3 := (Ext.drew wo).size; omega)
  have hxn : Ext wo wn := (Ext.drew _).trans hwn
  replace he := he.trans hxn
  replace b2 := b2.ext hxn
  have hgR : w.heap.size < wd.heap.size := by have h2 := hwd.size; have h3 := (Ext.drew wo).size; omega
  clear hmn HKc D0 D1 hwn hwd hxn hom hxm lo
  generalize wd.heap.size = gR at hR hgR ⊢
  have gz := own_cell hR (j := 0) (u := .bool false) (by rw [List.getElem?_map, RL_at [] hMK0]; rfl)
  have fz := hR.frozenAt 0
  have hN0 : (0 : Int) < (N : Int) := by omega
  go_upto_region 3 with fail
  obtain ⟨o1, p1⟩ := hR.stored 0 (.bool true)
  rw [show ((RL N []).map Value.bool).set 0 (.bool true) = (RL N [0]).map Value.bool by rw [← List.map_set, RL_set [] hMK0]; rfl] at o1
  have he2 : Ext w (wn.setCell ⟨gR, 0, none⟩ (.bool true)) := he.setCell (p := ⟨gR, 0, none⟩) (by simp only []; omega) _
  have b22 : Blk (wn.setCell ⟨gR, 0, none⟩ (.bool true)) w.heap.size #[.slice aP 2 cP, .slice aA 0 cA, .slice aS 0 cS, .int .i64 al, .int .i64 0, .int .i64 0] 92 := b2.grown hR p1 (by decide)
  generalize wn.setCell ⟨gR, 0, none⟩ (.bool true) = w3 at o1 he2 b22 ⊢
  clear hR p1 gz fz he b2 wn wd
  have he := he2
  have b2 := b22
  have hR := o1
  clear he2 b22 o1
  go_upto_region 4 with fail
  obtain ⟨w4, hw4⟩ : ∃ w4, w4 = w3.alloc (.cells #[.int .i64 0] 3) := ⟨_, rfl⟩
  have y4 : Ext w3 w4 := by rw [hw4]; exact Ext.alloc _ _
  have hP4 : Pool w.heap.size w4 [slN (.slice (some ⟨w3.heap.size, 0, none⟩) 1 1) [0]] := ⟨fun t ht => by
    simp only [List.mem_singleton] at ht
    subst ht
    rw [hw4]
    exact own_base (IntsOwn.one 3 w3 0).own he.size, List.pairwise_singleton _ _⟩
  rw [← hw4]
  clear hw4
  generalize w3.heap.size = gL at hP4 ⊢
  replace he := he.trans y4
  replace b2 := b2.ext y4
  replace hR := own_ext hR y4
  clear y4
  have b2_0 := b2.cell 0 rfl; have b2_1 := b2.cell 1 rfl; have b2_2 := b2.cell 2 rfl; have b2_3 := b2.cell 3 rfl; have b2_4 := b2.cell 4 rfl; have b2_5 := b2.cell 5 rfl
  go_wp2_with fail
  refine (l1Letters_o _ _ al0 al63).mono ?_
  rintro e w5 ⟨vl, rfl, he5, hl⟩
  obtain ⟨aL, cL, rfl⟩ := hl.shape
  clear b2_0 b2_1 b2_2 b2_3 b2_4 b2_5
  have hP5 : Pool w.heap.size w5 [slN (.slice (some ⟨gL, 0, none⟩) 1 1) [0], slI (.slice aL (letters al).length cL) (letters al)] := (Pool.add (b := w4.heap.size) hP4 he5 (slI (.slice aL (letters al).length cL) (letters al)) (Nat.le_refl _) he.size hl.own).perm (List.Perm.swap _ _ _)
  replace he := he.trans he5
  replace b2 := b2.ext he5
  replace hR := own_ext hR he5
  have hst : Hid (BfsSt a b al [0] 0 0 0) := Lib.hid (BfsSt.start a b al)
  have hL6 : (letters al).length ≤ 6 := lettersTo_len al 6
  clear hP4 hl he5
  go_wp2_with fail
  go_loopw [6, 8] (fun vP i wr => ∃ (k : Nat) (L : List Nat), i = .int .i64 k ∧ k ≤ L.length ∧ Hid (BfsSt a b al L k 0 0) ∧ Pool w.heap.size wr [slN vP L, slI (.slice aL (letters al).length cL) (letters al)] ∧ wr.ownsRow w.heap.size 4 1 (.slice (some ⟨gR, 0, none⟩) N N) N ((RL N L).map Value.bool) ∧ Blk wr w.heap.size #[.slice aP 2 cP, .slice aA 0 cA, .slice aS 0 cS, .int .i64 al, .int .i64 0, .int .i64 0] 92 ∧ Ext w wr) (fun _ i _ => 257 - (intOf i).toNat)
  case atStart => exact ⟨0, [0], rfl, by simp, hst, hP5, hR, b2, he⟩
  case round =>
    clear hst hP5 hR b2 he
    obtain ⟨k, L, rfl, hkL, HST, hP, hR, b2, hx⟩ := hrel
    obtain ⟨aS', cS', rfl⟩ := own_any' (Pool.hd hP)
    have hLen := HST.out.len HSA.out HSB.out
    by_cases hlt : k < L.length
    case neg =>
      obtain rfl : k = L.length := by omega
      go_wp2_with fail
      go_ret
      exact ⟨gR, N, L, rfl, hx, hR, HST.out⟩
    obtain ⟨n, hn⟩ : ∃ n, L[k]? = some n := ⟨_, List.getElem?_eq_getElem hlt⟩
    obtain ⟨gS, cS2, e6, gs⟩ := own_at (Pool.hd hP) (j := k) (u := .int .i64 n) (by rw [List.getElem?_map, ints_at hn]; rfl)
    cases e6
    have HNK := Lib.hid hn
    have hnB : n < N := by rw [← HN.out]; exact HST.out.lt HSA.out HSB.out n (List.mem_of_getElem? hn)
    have hlt' : (k : Int) < (L.length : Int) := by omega
    clear hn
    go_wp2_with fail
    refine (l4Decode_c _ (sizesOf (netC a b al)) n wr (HSW.out _ hx) (sizes_bound HNO.out) (by rw [netC_sizes]; simp) (by omega)).mono ?_
    rintro e w6 ⟨vd, rfl, he6, hd⟩
    have hdl : (ints (decode (sizesOf (netC a b al)) n)).length = 2 := by rw [ints_len, decode_len, netC_sizes]; rfl
    obtain ⟨aD, cD, rfl⟩ := hd.shape
    rw [hdl] at hd ⊢
    have hP6 : Pool w.heap.size w6 [slN (.slice (some ⟨gS, 0, none⟩) L.length cS') L, slI (.slice aL (letters al).length cL) (letters al), slI (.slice aD 2 cD) (ints (decode (sizesOf (netC a b al)) n))] := by
      refine (Pool.add (b := wr.heap.size) hP he6 (slI (.slice aD 2 cD) (ints (decode (sizesOf (netC a b al)) n))) (Nat.le_refl _) hx.size hd.own).perm ?_
      exact (List.Perm.swap _ _ _).trans ((List.Perm.swap _ _ _).cons _)
    have hR6 := own_ext hR he6
    have b26 := b2.ext he6
    have hx6 := hx.trans he6
    clear gs hd hP hR b2 hx he6
    go_wp2_with fail
    go_loopw [6, 10] (fun vP j wr => ∃ (m : Nat) (L : List Nat), j = .int .i64 m ∧ m ≤ (letters al).length ∧ k < L.length ∧ Hid (L[k]? = some n) ∧ Hid (BfsSt a b al L k m 0) ∧ Pool w.heap.size wr [slN vP L, slI (.slice aL (letters al).length cL) (letters al), slI (.slice aD 2 cD) (ints (decode (sizesOf (netC a b al)) n))] ∧ wr.ownsRow w.heap.size 4 1 (.slice (some ⟨gR, 0, none⟩) N N) N ((RL N L).map Value.bool) ∧ Blk wr w.heap.size #[.slice aP 2 cP, .slice aA 0 cA, .slice aS 0 cS, .int .i64 al, .int .i64 0, .int .i64 0] 92 ∧ Ext w wr) (fun _ j _ => (letters al).length - (intOf j).toNat)
    case atStart => exact ⟨0, L, rfl, by omega, hlt, HNK, HST, hP6, hR6, b26, hx6⟩
    case round =>
      clear hP6 hR6 b26 hx6 HST HNK hlt' hlt hkL hLen
      obtain ⟨m, L, rfl, hmL, hlt, HNK, HST, hP, hR, b2, hx⟩ := hrel
      obtain ⟨aS', cS', rfl⟩ := own_any' (Pool.hd hP)
      have hLen := HST.out.len HSA.out HSB.out
      by_cases hml : m < (letters al).length
      case neg =>
        obtain rfl : m = (letters al).length := by omega
        have HNN := Lib.hid (HST.out.node HNK.out)
        have hP1 : Pool w.heap.size wr [slN (.slice aS' L.length cS') L, slI (.slice aL (letters al).length cL) (letters al)] := (hP.perm (List.perm_append_comm (l₁ := [slN (.slice aS' L.length cS') L, slI (.slice aL (letters al).length cL) (letters al)]) (l₂ := [slI (.slice aD 2 cD) (ints (decode (sizesOf (netC a b al)) n))]))).tail
        go_wp2_with fail
        exact ⟨⟨k + 1, L, by go_num, by omega, HNN, hP1, hR, b2, hx⟩, by simp [intOf]; omega⟩
      obtain ⟨l, hl⟩ : ∃ l, (letters al)[m]? = some l := ⟨_, List.getElem?_eq_getElem hml⟩
      have HLM := Lib.hid hl
      obtain ⟨hl0, hl6⟩ := letters_lt6 al63 l (List.mem_of_getElem? hl)
      obtain ⟨gl, cL', e7, cl⟩ := own_at (Pool.hd2 hP) (j := m) (u := .int .i64 l) (by rw [List.getElem?_map, hl]; rfl)
      cases e7
      have hml' : (m : Int) < ((letters al).length : Int) := by omega
      obtain ⟨nx, hnx⟩ : ∃ nx, cpN a b n l = nx := ⟨_, rfl⟩
      have HNX := Lib.hid hnx
      have hnl : nx.length ≤ 256 := by rw [← hnx]; exact cpN_len _ _ _ _
      have hnet : netN (netC a b al) n l = nx := by rw [← hnx]; exact net_eq HSA.out HSB.out al n l
      have hdv : IntsV wr (.slice aD 2 cD) (ints (decode (sizesOf (netC a b al)) n)) := by
        have h1 := (Pool.hd3 hP)
        have h2 : IntsOwn 3 w.heap.size wr (.slice aD 2 cD) (ints (decode (sizesOf (netC a b al)) n)) := h1
        exact h2.ints
      have HDV := Lib.hid hdv
      have HNE := Lib.hid hnet
      clear hl hnx hnet hdv
      go_wp2_with fail
      have D0 := fun d os => cell_regrown (b2.cell 0 rfl) d os; have D1 := fun d os => cell_regrown (b2.cell 1 rfl) d os; have D2 := fun d os => cell_regrown (b2.cell 2 rfl) d os; have D3 := fun d os => cell_regrown (b2.cell 3 rfl) d os; have D4 := fun d os => cell_regrown (b2.cell 4 rfl) d os; have D5 := fun d os => cell_regrown (b2.cell 5 rfl) d os
      have D6 := fun d os => cell_regrown cl d os
      obtain ⟨Kc, HKc⟩ : ∃ Kc : FuncId → Array Value → World → Value → World → Prop, Hid (Kc = fun (_ : FuncId) (_ : Array Value) (w0 : World) (v : Value) (w' : World) => Ext w0 w' ∧ w'.ownsRow w0.heap.size 3 1 v nx.length ((ints nx).map (Value.int .i64))) := ⟨_, rfl⟩
      refine wp_region_ext (Kc := Kc) 9 (by kernel_rfl) (by kernel_rfl) ?_
      simp only [List.take_succ_cons, List.take_zero]
      repeat (refine WalkE.pure rfl (fun K hK => ?_); simp only [PureDo]; go_simp; refine hK _ ?_; clear hK K)
      refine WalkE.step (fun K hK wd hwd hdd => ?_)
      simp only [OpDo, OpSafe, OpOut]
      go_simp
      refine ⟨(l4Nexts_c _ _ _ (netC a b al) [] 0 0 n l wd (HNW.out _ (hx.trans ((Ext.drew _).trans hwd))) HNO.out (HSW.out _ (hx.trans ((Ext.drew _).trans hwd))) (HDV.out.mono ((Ext.drew _).trans hwd)) hl0 hl6).mono ?_, ?_⟩
      · rintro e w' ⟨v, rfl, he9, hv⟩
        exact ⟨v, rfl, by rw [HKc.out]; exact ⟨he9, by
          unfold IntsOwn at hv
          rw [HNE.out, ints_len] at hv
          exact hv⟩⟩
      intro u1 w5' hk1
      rw [HKc.out] at hk1
      obtain ⟨hk1, ho⟩ := hk1
      obtain ⟨aN, cN, rfl⟩ := own_any' ho
      refine ⟨hk1, hK _ _ ?_⟩
      clear hK K hdd
      repeat (refine WalkE.pure rfl (fun K hK => ?_); simp only [PureDo]; go_simp; refine hK _ ?_; clear hK K)
      refine WalkE.nil (fun wn hwn hmn => ?_)
      simp only [List.drop_succ_cons, List.drop_zero, List.drop_nil]
      have hxn : Ext wr wn := (Ext.drew _).trans hwn
      have hP2 : Pool w.heap.size wn [slN (.slice aS' L.length cS') L, slN (.slice aN nx.length cN) nx, slI (.slice (some ⟨gl, 0, none⟩) (letters al).length cL) (letters al), slI (.slice aD 2 cD) (ints (decode (sizesOf (netC a b al)) n))] :=
        (Pool.add (b := wd.heap.size) hP hxn (slN (.slice aN nx.length cN) nx) (Nat.le_trans (Ext.drew _).size hwd.size) (by have h1 := hx.size; have h2 := hwd.size; have h3 := (Ext.drew wr).size; omega) (own_ext ho (hmn 7 (by omega)))).perm (List.Perm.swap _ _ _)
      have hR2 := own_ext hR hxn
      have b22 := b2.ext hxn
      have hx2 := hx.trans hxn
      have HLM2 := HLM
      clear hmn HKc D0 D1 D2 D3 D4 D5 D6 hwn hwd hk1 ho hP hR b2 hx cl hxn
      go_wp2_with fail
      go_loopw [6, 12] (fun vP j wr => ∃ (q : Nat) (L : List Nat), j = .int .i64 q ∧ q ≤ nx.length ∧ k < L.length ∧ Hid (L[k]? = some n) ∧ Hid (BfsSt a b al L k m q) ∧ Pool w.heap.size wr [slN vP L, slN (.slice aN nx.length cN) nx, slI (.slice (some ⟨gl, 0, none⟩) (letters al).length cL) (letters al), slI (.slice aD 2 cD) (ints (decode (sizesOf (netC a b al)) n))] ∧ wr.ownsRow w.heap.size 4 1 (.slice (some ⟨gR, 0, none⟩) N N) N ((RL N L).map Value.bool) ∧ Blk wr w.heap.size #[.slice aP 2 cP, .slice aA 0 cA, .slice aS 0 cS, .int .i64 al, .int .i64 0, .int .i64 0] 92 ∧ Ext w wr) (fun _ j _ => nx.length - (intOf j).toNat)
      case atStart => exact ⟨0, L, rfl, by omega, hlt, HNK, HST, hP2, hR2, b22, hx2⟩
      case round =>
        clear hP2 hR2 b22 hx2 HST HNK hlt hLen HDV
        obtain ⟨q, L, rfl, hq, hlt, HNK, HST, hP, hR, b2, hx⟩ := hrel
        obtain ⟨aS', cS', rfl⟩ := own_any' (Pool.hd hP)
        have hLen := HST.out.len HSA.out HSB.out
        by_cases hqn : q < nx.length
        case neg =>
          obtain rfl : q = nx.length := by omega
          have HNN := Lib.hid (HST.out.letter HLM.out HNK.out (by rw [HNX.out]))
          have hP1 := (hP.perm (List.Perm.swap _ _ _)).tail
          clear hP
          go_wp2_with fail
          exact ⟨⟨m + 1, L, by go_num, by omega, hlt, HNK, HNN, hP1, hR, b2, hx⟩, by simp [intOf]; omega⟩
        obtain ⟨y, hy⟩ : ∃ y, nx[q]? = some y := ⟨_, List.getElem?_eq_getElem hqn⟩
        obtain ⟨gN, cN', e6, gn⟩ := own_at (Pool.hd2 hP) (j := q) (u := .int .i64 y) (by rw [List.getElem?_map, ints_at hy]; rfl)
        cases e6
        have hyN : y < N := by rw [← HN.out]; exact cpN_lt HSA.out HSB.out n l y (by rw [HNX.out]; exact List.mem_of_getElem? hy)
        have HY := Lib.hid (show (cpN a b n l)[q]? = some y by rw [HNX.out]; exact hy)
        have hqn' : (q : Int) < (nx.length : Int) := by omega
        have hyN' : (y : Int) < (N : Int) := by omega
        have gy := own_cell hR (j := y) (u := .bool (decide (y ∈ L))) (by rw [List.getElem?_map, RL_at L hyN]; rfl)
        clear hy
        by_cases hmem : y ∈ L
        · rw [decide_eq_true hmem] at gy
          have HNN := Lib.hid (HST.out.skip HLM.out HNK.out HY.out hmem)
          clear hmem
          go_wp2_with fail
          exact ⟨⟨q + 1, L, by go_num, by omega, hlt, HNK, HNN, hP, hR, b2, hx⟩, by simp [intOf]; omega⟩
        · rw [decide_eq_false hmem] at gy
          have HNN := Lib.hid (HST.out.push HLM.out HNK.out HY.out hmem)
          have fy := hR.frozenAt y
          clear hmem
          go_upto_region 18 with fail
          obtain ⟨o1, p1⟩ := hR.stored y (.bool true)
          rw [show ((RL N L).map Value.bool).set y (.bool true) = (RL N (L ++ [y])).map Value.bool by rw [← List.map_set, RL_set L hyN]] at o1
          have hx2 : Ext w (wr.setCell ⟨gR, y, none⟩ (.bool true)) := hx.setCell (p := ⟨gR, y, none⟩) (by simp only []; omega) _
          have b22 := b2.grown hR p1 (by decide)
          have hP2 := hP.grownB hR p1 (by
            intro t ht
            simp only [List.mem_cons, List.not_mem_nil, or_false] at ht
            rcases ht with rfl | rfl | rfl | rfl <;> (show 3 ≠ 4; decide))
          have gn2 := own_at (Pool.hd2 hP2) (j := q) (u := .int .i64 y) (by
            have h1 := HY.out
            rw [HNX.out] at h1
            rw [List.getElem?_map, ints_at h1]; rfl)
          obtain ⟨gN2, cN2, e8, gn2⟩ := gn2
          cases e8
          clear gn gy fy hP hR b2 hx p1
          generalize wr.setCell ⟨gR, y, none⟩ (.bool true) = ws at o1 hx2 b22 hP2 gn2 ⊢
          go_wp2_with (at_builtin; refine appP (news := [Value.int .i64 (y : Int)]) rfl rfl Tryz.underlying80 infoInt rfl (by decide) hP2 rfl rfl rfl (by simp [Value.oneCell']) (by omega) (by decide) hx2.size ?_; intro v1 w7' hP1 hg1 hb1)
          exact ⟨⟨q + 1, L ++ [y], by go_num, by omega, by simp; omega, Lib.hid (by rw [List.getElem?_append_left hlt]; exact HNK.out), HNN, by unfold slN at hP1 ⊢; rw [ints_append, List.map_append, List.length_append]; exact hP1, own_grown o1 (Pool.hd hP2) hg1 (by decide), b22.grown (Pool.hd hP2) hg1 (by decide), Below.trans hx2 hb1⟩, by simp [intOf]; omega⟩
end Go.Proofs.YtanekmfifmkbmaaGreatDoor
