/- Part of this seat's proofs, cut to what its law needs. -/

import Derived.Test.YtanekmfifmkbmaaDoorPlainTw
import Derived.Test.YtanekmfifmkbmaaDoorSubS
import Derived.Test.YtanekmfifmkbmaaDoorWalkSI
import Derived.Test.YtanekmfifmkbmaaDoorWalkFB
import Derived.Deep.DeepCutAuto
namespace Go.Proofs.YtanekmfifmkbmaaDoor
set_option linter.unusedSimpArgs false
set_option linter.unusedVariables false
open Go Go.RowKit
set_option maxHeartbeats 2000000
set_option maxRecDepth 100000


theorem l6Comparable_s (va vb : Value) (a b : Sys) (w : World) (hva : SysV w va a) (hvb : SysV w vb b) :
    Calls Tryd.prog 22 #[va, vb] w (Grows (.bool (same2 a b)) w) := by
  have HA := Lib.hid hva
  obtain ⟨vE1, rfl, k1⟩ := hva
  obtain ⟨aE1, cE1, rfl, -, -⟩ := k1.open
  have HB := Lib.hid hvb
  obtain ⟨vE2, rfl, k3⟩ := hvb
  obtain ⟨aE2, cE2, rfl, -, -⟩ := k3.open
  obtain ⟨wo, hwo⟩ : ∃ wo, wo = ((w.alloc (.cells #[.int .i64 a.alphabet, .int .i64 a.states, .slice aE1 a.edges.length cE1] 25)).alloc (.cells #[.int .i64 b.alphabet, .int .i64 b.states, .slice aE2 b.edges.length cE2] 25)) := ⟨_, rfl⟩
  have he : Ext w wo := by rw [hwo]; exact (Ext.alloc _ _).trans (Ext.alloc _ _)
  have b1 : Blk wo w.heap.size #[.int .i64 a.alphabet, .int .i64 a.states, .slice aE1 a.edges.length cE1] 25 := by rw [hwo]; exact Ext.blk (Ext.alloc _ _)
  have b2 : Blk wo (w.heap.size + 1) #[.int .i64 b.alphabet, .int .i64 b.states, .slice aE2 b.edges.length cE2] 25 := by rw [hwo]; exact Ext.blk1 (Ext.refl _)
  clear k1 k3
  go_enter Tryd.func22, Tryd.ntmps22
  go_wp2_with fail
  rw [← hwo]
  clear hwo
  have b1_0 := b1.cell 0 rfl; have b1_1 := b1.cell 1 rfl; have b1_2 := b1.cell 2 rfl
  go_wp2_with fail
  by_cases hA : sysValid a = true
  case neg =>
    have hA' : sysValid a = false := by simpa using hA
    refine (SystemValid_sb hA' (HA.out.mono he)).mono ?_
    rintro e w1 ⟨rfl, he1⟩
    go_wp2_with fail
    go_ret
    exact Grows.mk (by simp [same2, hA']) (he.trans he1)
  refine (SystemValid_sb hA (HA.out.mono he)).mono ?_
  rintro e w1 ⟨rfl, he1⟩
  clear b1_0 b1_1 b1_2
  replace b1 := b1.ext he1
  replace b2 := b2.ext he1
  replace he := he.trans he1
  have b2_0 := b2.cell 0 rfl; have b2_1 := b2.cell 1 rfl; have b2_2 := b2.cell 2 rfl
  go_wp2_with fail
  by_cases hB : sysValid b = true
  case neg =>
    have hB' : sysValid b = false := by simpa using hB
    refine (SystemValid_sb hB' (HB.out.mono he)).mono ?_
    rintro e w2 ⟨rfl, he2⟩
    go_wp2_with fail
    go_ret
    exact Grows.mk (by simp [same2, hB']) (he.trans he2)
  refine (SystemValid_sb hB (HB.out.mono he)).mono ?_
  rintro e w2 ⟨rfl, he2⟩
  clear b2_0 b2_1 b2_2
  replace b1 := b1.ext he2
  replace b2 := b2.ext he2
  replace he := he.trans he2
  have b1_0 := b1.cell 0 rfl; have b1_1 := b1.cell 1 rfl; have b1_2 := b1.cell 2 rfl
  have b2_0 := b2.cell 0 rfl; have b2_1 := b2.cell 1 rfl; have b2_2 := b2.cell 2 rfl
  have HX := Lib.hid (show same2 a b = decide (a.alphabet = b.alphabet) by unfold same2; rw [hA, hB]; rfl)
  clear hA hB
  go_wp2_with fail
  go_ret
  exact Grows.mk (by rw [HX.out]; first | rfl | simp) he

def PairAt (w : World) (b o : Nat) (x : Nat × Nat) : Prop := w.cell? ⟨b, o, none⟩ = some (.int .i64 (x.1 : Int)) ∧ w.cell? ⟨b, o + 1, none⟩ = some (.int .i64 (x.2 : Int))
theorem PairAt.mono {w w' : World} (h : Ext w w') {b o : Nat} {x : Nat × Nat} (k : PairAt w b o x) : PairAt w' b o x := ⟨h.cell k.1, h.cell k.2⟩
def PairsV (w : World) (v : Value) (l : List (Nat × Nat)) : Prop := SlV PairAt 2 w v l
theorem l5Find_c (v : Value) (l : List (Nat × Nat)) (p : Nat × Nat) (w : World) (hv : PairsV w v l) (hl : l.length ≤ 4294967296) :
    Calls Tryd.prog 56 #[v, .agg #[.int .i64 (p.1 : Int), .int .i64 (p.2 : Int)]] w (fun e w' => Ext w w' ∧ ∃ r : Int, e = .returned (.int .i64 r) ∧ (p ∈ l → 0 ≤ r) ∧ (p ∉ l → r = -1)) := by
  obtain ⟨al, cl, rfl, -, hat⟩ := SlV.open hv
  obtain ⟨pa, pb⟩ := p
  have HAT := Lib.hid hat
  clear hat hv
  have b0 := Blk.new w #[.int .i64 (pa : Int), .int .i64 (pb : Int)] 78
  have he0 := Ext.alloc w (.cells #[.int .i64 (pa : Int), .int .i64 (pb : Int)] 78)
  go_enter Tryd.func56, Tryd.ntmps56
  go_wp2_with fail
  generalize w.alloc (.cells #[.int .i64 (pa : Int), .int .i64 (pb : Int)] 78) = w0 at b0 he0 ⊢
  go_loopw [5, 21, 22, 23, 24, 25, 26, 27, 28] (fun i _ _ _ _ _ _ _ _ wr => ∃ k : Nat, k ≤ l.length ∧ i = .int .i64 k ∧ Hid ((pa, pb) ∉ l.take k) ∧ Ext w wr ∧ Blk wr w.heap.size #[.int .i64 (pa : Int), .int .i64 (pb : Int)] 78) (fun i _ _ _ _ _ _ _ _ _ => l.length - (intOf i).toNat)
  case atStart => exact ⟨0, by omega, rfl, Lib.hid (by simp), he0, b0⟩
  case round =>
    clear he0 b0
    obtain ⟨k, hk, rfl, HN, hext, b0⟩ := hrel
    by_cases hlt : k < l.length
    · obtain ⟨⟨xa, xb⟩, hx⟩ : ∃ x, l[k]? = some x := ⟨_, List.getElem?_eq_getElem hlt⟩
      obtain ⟨b, off, rfl, -, hc⟩ := HAT.out k _ hx
      obtain ⟨q1, q2⟩ := (hc k _ hx).mono hext
      have HX := Lib.hid hx
      have D0 := fun d os => cell_regrown (b0.cell 0 rfl) d os
      have D1 := fun d os => cell_regrown (b0.cell 1 rfl) d os
      have g1 := fun d os => cell_regrown q1 d os
      have g2 := fun d os => cell_regrown q2 d os
      clear hc hx q1 q2
      by_cases h1 : xa = pa
      · subst h1
        have e1 : ((xa : Int) == (xa : Int)) = true := by simp
        by_cases h2 : xb = pb
        · subst h2
          have e2 : ((xb : Int) == (xb : Int)) = true := by simp
          go_wp2_with fail
          refine wp_region_quiet_below (by kernel_rfl) (by kernel_rfl) ?_
          repeat (go_big_quiet_step (fail))
          refine wpQuiet_nil ?_
          intro _ hw'
          obtain ⟨⟨dq, osq⟩, hw''⟩ := hw'
          subst hw''
          have hq2 : Ext wr (Go.Sort.grow (redrawn wr dq) osq) := below_regrown wr dq osq
          generalize Go.Sort.grow (redrawn wr dq) osq = wq at hq2 ⊢
          go_wp2_with fail
          go_ret
          exact ⟨hext.trans hq2, _, rfl, fun _ => by omega, fun h => absurd (List.mem_of_getElem? HX.out) h⟩
        · have e2 : ((xb : Int) == (pb : Int)) = false := by simp; omega
          go_wp2_with fail
          refine wp_region_quiet_below (by kernel_rfl) (by kernel_rfl) ?_
          repeat (go_big_quiet_step (fail))
          refine wpQuiet_nil ?_
          intro _ hw'
          obtain ⟨⟨dq, osq⟩, hw''⟩ := hw'
          subst hw''
          have hq2 : Ext wr (Go.Sort.grow (redrawn wr dq) osq) := below_regrown wr dq osq
          generalize Go.Sort.grow (redrawn wr dq) osq = wq at hq2 ⊢
          go_wp2_with fail
          refine ⟨⟨k + 1, by omega, by go_num, Lib.hid ?_, hext.trans hq2, b0.ext hq2⟩, by simp [intOf]; omega⟩
          rw [List.take_add_one, HX.out]
          intro h
          rcases List.mem_append.1 h with h | h
          · exact HN.out h
          · simp at h; omega
      · have e1 : ((xa : Int) == (pa : Int)) = false := by simp; omega
        go_wp2_with fail
        refine wp_region_quiet_below (by kernel_rfl) (by kernel_rfl) ?_
        repeat (go_big_quiet_step (fail))
        refine wpQuiet_nil ?_
        intro _ hw'
        obtain ⟨⟨dq, osq⟩, hw''⟩ := hw'
        subst hw''
        have hq2 : Ext wr (Go.Sort.grow (redrawn wr dq) osq) := below_regrown wr dq osq
        generalize Go.Sort.grow (redrawn wr dq) osq = wq at hq2 ⊢
        go_wp2_with fail
        refine ⟨⟨k + 1, by omega, by go_num, Lib.hid ?_, hext.trans hq2, b0.ext hq2⟩, by simp [intOf]; omega⟩
        rw [List.take_add_one, HX.out]
        intro h
        rcases List.mem_append.1 h with h | h
        · exact HN.out h
        · simp at h; omega
    · obtain rfl : k = l.length := by omega
      have hn := HN.out
      rw [List.take_length] at hn
      have HN2 := Lib.hid hn
      clear hn
      go_wp2_with fail
      go_ret
      exact ⟨hext, -1, rfl, fun h => absurd h HN2.out, fun _ => rfl⟩

theorem Pool.put {base : Nat} {w : World} {l : List Slc} (h : Pool base w l) {g : Nat} (hg : ∀ s ∈ l, Apt s.v (.slice (some ⟨g, 0, none⟩) 0 0)) (j : Nat) (u : Value) : Pool base (w.setCell ⟨g, j, none⟩ u) l :=
  ⟨fun s hs => own_kept (h.own s hs) (u := .slice (some ⟨g, 0, none⟩) 0 0) ⟨rfl, rfl, rfl, by simp, fun k _ hne => Below.heap_setCell w ⟨g, j, none⟩ u k (fun e => hne (by rw [e]; rfl))⟩ (hg s hs), h.apt⟩
def pairCells (L : List (Nat × Nat)) : List Value := L.flatMap fun p => [.int .i64 (p.1 : Int), .int .i64 (p.2 : Int)]
theorem pairCells_at : ∀ (L : List (Nat × Nat)) (i : Nat) (p : Nat × Nat), L[i]? = some p → (pairCells L)[i * 2]? = some (.int .i64 (p.1 : Int)) ∧ (pairCells L)[i * 2 + 1]? = some (.int .i64 (p.2 : Int))
  | [], i, p, h => by simp at h
  | x :: L, 0, p, h => by simp at h; subst h; exact ⟨rfl, rfl⟩
  | x :: L, i + 1, p, h => by
    have ih := pairCells_at L i p (by simpa using h)
    have e : pairCells (x :: L) = .int .i64 (x.1 : Int) :: .int .i64 (x.2 : Int) :: pairCells L := rfl
    rw [e, show (i + 1) * 2 = i * 2 + 1 + 1 by omega]
    exact ⟨by simpa using ih.1, by simpa using ih.2⟩
theorem pairCells_push (L : List (Nat × Nat)) (p : Nat × Nat) : pairCells (L ++ [p]) = pairCells L ++ [.int .i64 (p.1 : Int), .int .i64 (p.2 : Int)] := by simp [pairCells]
theorem infoStrW : (Tryd.prog.info? 9).map (fun i => (i.zero, i.size, i.bytes)) = some (some (.string ByteArray.empty), 1, 16) := by kernel_rfl
theorem cells1W {wn wd : World} {x : Value} {t : TypeId} (h : Ext (wd.alloc (.cells #[x] t)) wn) : ∀ (j' : Nat) (u : Value), [x][j']? = some u → wn.cell? ((⟨wd.heap.size, 0, none⟩ : Addr).add j') = some u := fun j' u hu => by
  have e : (⟨wd.heap.size, 0, none⟩ : Addr).add j' = ⟨wd.heap.size, j', none⟩ := by unfold Addr.add; split <;> simp_all
  rw [e]
  match j', hu with
  | 0, hu => simp at hu; subst hu; exact h.new 0 rfl
  | j' + 1, hu => simp at hu
def slP (v : Value) (L : List (Nat × Nat)) : Slc := ⟨78, 2, v, L.length, pairCells L⟩
def slWd (v : Value) (n : Nat) (W : List ByteArray) : Slc := ⟨9, 1, v, n, W.map Value.string⟩
theorem infoPair : (Tryd.prog.info? 78).map (fun i => (i.zero, i.size, i.bytes)) = some (some (.agg #[.int .i64 0, .int .i64 0]), 2, 16) := by kernel_rfl
theorem pairs_of {base : Nat} {w : World} {v : Value} {L : List (Nat × Nat)} (h : w.ownsRow base 78 2 v L.length (pairCells L)) : PairsV w v L :=
  SlV_of_own h fun g cap hv i x hi => by
    subst hv
    obtain ⟨h1, h2⟩ := pairCells_at L i x hi
    exact ⟨own_cell h h1, own_cell h h2⟩
theorem tracesB_false {a b : Sys} {L : List (Nat × Nat)} {k m : Nat} {p : Nat × Nat} (hall : same2 a b = true) (h : PairsSt a b L k m) (hp : L[k]? = some p) (h0 : p.2 = 0) : tracesB a b = false := by
  have hc := hall
  unfold same2 at hc
  simp only [Bool.and_eq_true, decide_eq_true_eq] at hc
  unfold tracesB
  rw [hall, Bool.true_and]
  exact @decide_eq_false _ (_) fun hn => hn (h.found hc.1.1 hc.1.2 hc.2 hp h0)
theorem tracesB_true {a b : Sys} {L : List (Nat × Nat)} (hall : same2 a b = true) (h : PairsSt a b L L.length 0) : tracesB a b = true := by
  have hc := hall
  unfold same2 at hc
  simp only [Bool.and_eq_true, decide_eq_true_eq] at hc
  unfold tracesB
  rw [hall, Bool.true_and]
  exact @decide_eq_true _ (_) (h.none hc.1.1 hc.1.2 hc.2 (sys_alpha hc.1.1).2)

theorem FirstTraceOutside_s (va vb : Value) (a b : Sys) (w : World) (hva : SysV w va a) (hvb : SysV w vb b) (hea : a.edges.length ≤ 1048576) (heb : b.edges.length ≤ 1048576) :
    Calls Tryd.prog 21 #[va, vb] w (fun e w' => ∃ (tx : ByteArray) (f : Bool), e = .returned (.tuple #[.string tx, .bool f]) ∧ Ext w w' ∧ (same2 a b && !f) = tracesB a b) := by
  have HA := Lib.hid hva
  obtain ⟨vE1, rfl, k1⟩ := hva
  obtain ⟨aE1, cE1, rfl, -, -⟩ := k1.open
  have HB := Lib.hid hvb
  obtain ⟨vE2, rfl, k3⟩ := hvb
  obtain ⟨aE2, cE2, rfl, -, -⟩ := k3.open
  obtain ⟨wo, hwo⟩ : ∃ wo, wo = ((w.alloc (.cells #[.int .i64 a.alphabet, .int .i64 a.states, .slice aE1 a.edges.length cE1] 25)).alloc (.cells #[.int .i64 b.alphabet, .int .i64 b.states, .slice aE2 b.edges.length cE2] 25)) := ⟨_, rfl⟩
  have he : Ext w wo := by rw [hwo]; exact (Ext.alloc _ _).trans (Ext.alloc _ _)
  have b1 : Blk wo w.heap.size #[.int .i64 a.alphabet, .int .i64 a.states, .slice aE1 a.edges.length cE1] 25 := by rw [hwo]; exact Ext.blk (Ext.alloc _ _)
  have b2 : Blk wo (w.heap.size + 1) #[.int .i64 b.alphabet, .int .i64 b.states, .slice aE2 b.edges.length cE2] 25 := by rw [hwo]; exact Ext.blk1 (Ext.refl _)
  clear k1 k3
  go_enter Tryd.func21, Tryd.ntmps21
  go_wp2_with fail
  rw [← hwo]
  clear hwo
  have b1_0 := b1.cell 0 rfl; have b1_1 := b1.cell 1 rfl; have b1_2 := b1.cell 2 rfl
  have b2_0 := b2.cell 0 rfl; have b2_1 := b2.cell 1 rfl; have b2_2 := b2.cell 2 rfl
  go_wp2_with fail
  refine (l6Comparable_s _ _ a b _ (HA.out.mono he) (HB.out.mono he)).mono ?_
  rintro e w0 ⟨rfl, he0⟩
  by_cases hall : same2 a b = true
  case neg =>
    have hall' : same2 a b = false := by simpa using hall
    rw [hall']
    go_wp2_with fail
    go_ret2
    exact ⟨_, false, rfl, he.trans he0, by unfold tracesB; rw [hall']; rfl⟩
  rw [hall]
  have HALL := Lib.hid hall
  clear b1_0 b1_1 b1_2 b2_0 b2_1 b2_2
  replace he := he.trans he0
  replace b1 := b1.ext he0
  replace b2 := b2.ext he0
  unfold same2 at hall
  simp only [Bool.and_eq_true, decide_eq_true_eq] at hall
  obtain ⟨⟨hva, hvb⟩, hab⟩ := hall
  have HVA := Lib.hid hva
  have HVB := Lib.hid hvb
  have HAB := Lib.hid hab
  obtain ⟨a0, a63⟩ := sys_alpha hva
  have hst : Hid (PairsSt a b [(1, 1)] 0 0) := Lib.hid (PairsSt.start a b)
  clear hab hva hvb he0
  have b1_0 := b1.cell 0 rfl; have b1_1 := b1.cell 1 rfl; have b1_2 := b1.cell 2 rfl
  go_wp2_with fail
  refine (l1Letters_c a.alphabet _ a0 a63).mono ?_
  rintro e w1 ⟨vl, rfl, he1, hL⟩
  obtain ⟨aL, cL, rfl, -, hLc⟩ := hL.open
  have HLC := Lib.hid hLc
  have hL6 : (letters a.alphabet).length ≤ 6 := lettersTo_len a.alphabet 6
  replace he := he.trans he1
  replace b1 := b1.ext he1
  replace b2 := b2.ext he1
  clear hL hLc b1_0 b1_1 b1_2 he1
  go_wp2_with fail
  have hP0 : Pool w1.heap.size ((w1.alloc (.cells #[.int .i64 1, .int .i64 1] 78)).alloc (.cells #[.string ByteArray.empty] 9)) [slWd (.slice (some ⟨w1.heap.size + 1, 0, none⟩) 1 1) 1 [ByteArray.empty], slP (.slice (some ⟨w1.heap.size, 0, none⟩) 1 1) [(1, 1)]] := by
    refine Pool.add (b := w1.heap.size + 1) (Pool.add (b := w1.heap.size) (Pool.nil _ _) (Ext.alloc w1 _) (slP _ _) (Nat.le_refl _) (Nat.le_refl _) ?_) (Ext.alloc _ _) (slWd _ _ _) (by simp) (by omega) ?_
    · exact ⟨by simp [slP, pairCells], .inr ⟨w1.heap.size, 1, #[.int .i64 1, .int .i64 1], rfl, Nat.le_refl _, heap_alloc_new w1 _, Nat.le_refl _, by unfold maxLen; omega, by simp [slP], by simp [slP, pairCells]⟩⟩
    · refine ⟨by simp [slWd], .inr ⟨w1.heap.size + 1, 1, #[.string ByteArray.empty], rfl, Nat.le_refl _, ?_, Nat.le_refl _, by unfold maxLen; omega, by simp [slWd], by simp [slWd]⟩⟩
      have := heap_alloc_new (w1.alloc (.cells #[.int .i64 1, .int .i64 1] 78)) (.cells #[.string ByteArray.empty] 9)
      rwa [World.size_alloc] at this
  have hx0 : Ext w1 ((w1.alloc (.cells #[.int .i64 1, .int .i64 1] 78)).alloc (.cells #[.string ByteArray.empty] 9)) := (Ext.alloc _ _).trans (Ext.alloc _ _)
  go_loopw [7, 8, 9, 71, 72, 73, 74] (fun vL vW i _ _ _ _ wr => ∃ (k : Nat) (L : List (Nat × Nat)) (Wd : List ByteArray) (xL xW : Value), vL = xL ∧ vW = xW ∧ i = .int .i64 k ∧ k ≤ L.length ∧ Hid (PairsSt a b L k 0) ∧ Hid (Wd.length = L.length) ∧ Hid (∀ (j : Nat) u, Wd[j]? = some u → u.size ≤ j) ∧ Pool w1.heap.size wr [slWd xW L.length Wd, slP xL L] ∧ Ext w1 wr) (fun _ _ i _ _ _ _ _ => 4294967296 - (intOf i).toNat)
  case atStart => exact ⟨0, [(1, 1)], [ByteArray.empty], _, _, rfl, rfl, rfl, by simp, hst, Lib.hid rfl, Lib.hid (fun j u h => by cases j with | zero => simp at h; subst h; exact Nat.le_refl _ | succ j => simp at h), hP0, hx0⟩
  case round =>
    clear hst hP0 hx0
    obtain ⟨k, L, Wd, xL, xW, rfl, rfl, rfl, hk, HST, HWL, HWS, hP, hx⟩ := hrel
    have hLen := HST.out.len HVA.out HVB.out
    by_cases hlt : k < L.length
    case neg =>
      obtain rfl : k = L.length := by omega
      obtain ⟨aA, cA, rfl⟩ := own_any' (Pool.hd2 hP)
      have HT := Lib.hid (tracesB_true HALL.out HST.out)
      go_wp2_with fail
      go_ret2
      exact ⟨_, false, rfl, he.trans hx, by rw [HT.out, HALL.out]; rfl⟩
    obtain ⟨p, hp⟩ : ∃ p, L[k]? = some p := ⟨_, List.getElem?_eq_getElem hlt⟩
    obtain ⟨gL, cA, rfl, cp1⟩ := own_at (Pool.hd2 hP) (pairCells_at L k p hp).2
    have HP := Lib.hid hp
    have hks : (k : Int) < (L.length : Int) := by omega
    by_cases h0 : p.2 = 0
    case pos =>
      have hb0 : ((p.2 : Int) == 0) = true := by simp [h0]
      obtain ⟨u, hu⟩ : ∃ u, Wd[k]? = some u := ⟨_, List.getElem?_eq_getElem (by rw [HWL.out]; exact hlt)⟩
      obtain ⟨gW, cW, rfl, cw⟩ := own_at (Pool.hd hP) (j := k) (u := .string u) (by rw [List.getElem?_map, hu]; rfl)
      have HT := Lib.hid (tracesB_false HALL.out HST.out hp h0)
      clear hp h0 hu
      go_wp2_with fail
      go_ret2
      exact ⟨_, true, rfl, he.trans hx, by rw [HT.out]; simp⟩
    have hb0 : ((p.2 : Int) == 0) = false := by simp; omega
    have H0 := Lib.hid h0
    clear hp h0
    go_wp2_with fail
    clear cp1
    go_loopw [7, 8, 10, 71, 72, 73, 74] (fun vL vW j _ _ _ _ wr => ∃ (m : Nat) (L : List (Nat × Nat)) (Wd : List ByteArray) (xL xW : Value), vL = xL ∧ vW = xW ∧ j = .int .i64 m ∧ m ≤ (letters a.alphabet).length ∧ k < L.length ∧ Hid (L[k]? = some p) ∧ Hid (PairsSt a b L k m) ∧ Hid (Wd.length = L.length) ∧ Hid (∀ (j : Nat) u, Wd[j]? = some u → u.size ≤ j) ∧ Pool w1.heap.size wr [slWd xW L.length Wd, slP xL L] ∧ Ext w1 wr) (fun _ _ j _ _ _ _ _ => (letters a.alphabet).length - (intOf j).toNat)
    case atStart => exact ⟨0, L, Wd, _, _, rfl, rfl, rfl, by omega, hlt, HP, HST, HWL, HWS, hP, hx⟩
    case round =>
      clear hP hx HP HST HWL HWS hLen hk hks hlt
      obtain ⟨m, L, Wd, xL, xW, rfl, rfl, rfl, hm, hkL, HP, HST, HWL, HWS, hP, hx⟩ := hrel
      by_cases hml : m < (letters a.alphabet).length
      case neg =>
        obtain rfl : m = (letters a.alphabet).length := by omega
        have HN := Lib.hid (HST.out.next HP.out H0.out)
        have hLen := HST.out.len HVA.out HVB.out
        go_wp2_with fail
        exact ⟨⟨k + 1, L, Wd, _, _, rfl, rfl, by go_num, by omega, HN, HWL, HWS, hP, hx⟩, by simp [intOf]; omega⟩
      obtain ⟨l, hl⟩ : ∃ l, (letters a.alphabet)[m]? = some l := ⟨_, List.getElem?_eq_getElem hml⟩
      have HLM := Lib.hid hl
      obtain ⟨hl0, hl6⟩ := letters_lt6 a63 l (List.mem_of_getElem? hl)
      obtain ⟨lt, hltn⟩ := Int.eq_ofNat_of_zero_le hl0
      have HLT := Lib.hid hltn
      obtain ⟨bl, ol, rfl, -, hlc⟩ := HLC.out m l hl
      have cl : wr.cell? ⟨bl, ol + m, none⟩ = some (.int .i64 (lt : Int)) := by have := hlc m l hl; unfold IntAt at this; rw [Nat.mul_one, hltn] at this; exact hx.cell this
      have hlt6 : lt < 6 := by omega
      obtain ⟨gL, cA, rfl, cp1⟩ := own_at (Pool.hd2 hP) (pairCells_at L k p HP.out).2
      have cp0 := own_cell (Pool.hd2 hP) (pairCells_at L k p HP.out).1
      have hLen := HST.out.len HVA.out HVB.out
      obtain ⟨pl1, pl2⟩ := HST.out.lt HVA.out HVB.out p (List.mem_of_getElem? HP.out)
      have hks : (k : Int) < (L.length : Int) := by omega
      have hms : (m : Int) < ((letters a.alphabet).length : Int) := by omega
      obtain ⟨s1, hs1⟩ : ∃ s1, Hid (s1 = stepM a p.1 (lt : Nat)) := ⟨_, rfl⟩
      obtain ⟨s2, hs2⟩ : ∃ s2, Hid (s2 = stepM b p.2 (lt : Nat)) := ⟨_, rfl⟩
      have HC1 := Lib.hid (fun w' (h : Ext w w') => (show Calls Tryd.prog 55 #[.agg #[.int .i64 a.alphabet, .int .i64 a.states, .slice aE1 a.edges.length cE1], .int .i64 (p.1 : Int), .int .i64 (lt : Int)] w' (Grows (.int .i64 (s1 : Int)) w') from by rw [hs1.out]; exact l2Step_c _ a p.1 lt w' (HA.out.mono h) HVA.out hea pl1))
      have HC2 := Lib.hid (fun w' (h : Ext w w') => (show Calls Tryd.prog 55 #[.agg #[.int .i64 b.alphabet, .int .i64 b.states, .slice aE2 b.edges.length cE2], .int .i64 (p.2 : Int), .int .i64 (lt : Int)] w' (Grows (.int .i64 (s2 : Int)) w') from by rw [hs2.out]; exact l2Step_c _ b p.2 lt w' (HB.out.mono h) HVB.out heb pl2))
      have D0 := fun d os => cell_regrown ((b1.ext hx).cell 0 rfl) d os; have D1 := fun d os => cell_regrown ((b1.ext hx).cell 1 rfl) d os; have D2 := fun d os => cell_regrown ((b1.ext hx).cell 2 rfl) d os
      have E0 := fun d os => cell_regrown ((b2.ext hx).cell 0 rfl) d os; have E1 := fun d os => cell_regrown ((b2.ext hx).cell 1 rfl) d os; have E2 := fun d os => cell_regrown ((b2.ext hx).cell 2 rfl) d os
      have F0 := fun d os => cell_regrown cp0 d os
      have F1 := fun d os => cell_regrown cp1 d os
      have F2 := fun d os => cell_regrown cl d os
      obtain ⟨aW, cW, rfl⟩ := own_any' (Pool.hd hP)
      clear hl hl0 hl6 hltn hlc cp0 cp1
      go_upto_region 14 with fail
      obtain ⟨Kc, HKc⟩ : ∃ Kc : FuncId → Array Value → World → Value → World → Prop, Hid (Kc = fun (_ : FuncId) (args : Array Value) (w0 : World) (v : Value) (w' : World) => Ext w0 w' ∧ ∀ (u : Value) (x : Sys) (n : Nat), args = #[u, .int .i64 (n : Int), .int .i64 (lt : Int)] → SysV w0 u x → v = .int .i64 (stepM x n (lt : Nat) : Nat)) := ⟨_, rfl⟩
      refine wp_region_ext (Kc := Kc) 24 (by kernel_rfl) (by kernel_rfl) ?_
      simp only [List.take_succ_cons, List.take_zero]
      repeat (refine WalkE.pure rfl (fun K hK => ?_); simp only [PureDo]; go_simp; refine hK _ ?_; clear hK K)
      refine WalkE.step (fun K hK wd hwd hdwd => ?_)
      simp only [OpDo, OpSafe, OpOut]
      go_simp
      refine ⟨(l2Step_c _ a p.1 (lt : Nat) _ (HA.out.mono (he.trans (hx.trans ((Ext.drew _).trans hwd)))) HVA.out hea pl1).mono ?_, ?_⟩
      · rintro e w' ⟨rfl, he9⟩
        exact ⟨_, rfl, by rw [HKc.out]; exact ⟨he9, fun u x n hu hux => by
          simp only [Array.mk.injEq, List.cons.injEq, and_true, Value.int.injEq, true_and] at hu
          obtain ⟨rfl, hn⟩ := hu
          obtain rfl : n = p.1 := by omega
          rw [← (HA.out.mono (he.trans (hx.trans ((Ext.drew _).trans hwd)))).inj hux]⟩⟩
      intro u1 w5 hk1
      rw [HKc.out] at hk1
      obtain rfl := hk1.2 _ a p.1 rfl (HA.out.mono (he.trans (hx.trans ((Ext.drew _).trans hwd))))
      refine ⟨hk1.1, hK _ _ ?_⟩
      clear hK K hdwd hk1
      repeat (refine WalkE.pure rfl (fun K hK => ?_); simp only [PureDo]; go_simp; refine hK _ ?_; clear hK K)
      refine WalkE.step (fun K hK we hwe hdwe => ?_)
      simp only [OpDo, OpSafe, OpOut]
      go_simp
      refine ⟨(l2Step_c _ b p.2 (lt : Nat) _ (HB.out.mono (he.trans (hx.trans ((Ext.drew _).trans hwe)))) HVB.out heb pl2).mono ?_, ?_⟩
      · rintro e w' ⟨rfl, he9⟩
        exact ⟨_, rfl, by rw [HKc.out]; exact ⟨he9, fun u x n hu hux => by
          simp only [Array.mk.injEq, List.cons.injEq, and_true, Value.int.injEq, true_and] at hu
          obtain ⟨rfl, hn⟩ := hu
          obtain rfl : n = p.2 := by omega
          rw [← (HB.out.mono (he.trans (hx.trans ((Ext.drew _).trans hwe)))).inj hux]⟩⟩
      intro u2 w6 hk2
      rw [HKc.out] at hk2
      obtain rfl := hk2.2 _ b p.2 rfl (HB.out.mono (he.trans (hx.trans ((Ext.drew _).trans hwe))))
      refine ⟨hk2.1, hK _ _ ?_⟩
      clear hK K hdwe hk2
      repeat (refine WalkE.pure rfl (fun K hK => ?_); simp only [PureDo]; go_simp; refine hK _ ?_; clear hK K)
      refine WalkE.step (fun K hK wf hwf hdf => ?_)
      simp only [OpDo, OpSafe, OpOut]
      go_simp
      refine ⟨Ext.alloc _ _, hK _ _ ?_⟩
      clear hK K hdf
      refine WalkE.nil (fun wn hwn hmn => ?_)
      simp only [List.drop_succ_cons, List.drop_zero, List.drop_nil]
      rw [← hs1.out, ← hs2.out]
      have g1 := (Blk.new wf _ _).ext (hmn 23 (by omega))
      have hxn : Ext wr wn := (Ext.drew _).trans hwn
      have sz1 : wr.heap.size ≤ wf.heap.size := Nat.le_trans (Ext.drew _).size hwf.size
      clear hmn HKc hwd hwe hwf hwn D0 D1 D2 E0 E1 E2 F0 F1 F2
      generalize wf.heap.size = bp at g1 sz1 ⊢
      clear wd we wf
      have hPn := hP.ext hxn
      have hap : ∀ s ∈ [slWd (.slice aW L.length cW) L.length Wd, slP (.slice (some ⟨gL, 0, none⟩) L.length cA) L], Apt s.v (.slice (some ⟨bp, 0, none⟩) 0 0) := fun s hs g h1 h2 => by
        have h3 := (own_lt (hP.own s hs) h1).2
        have h4 : bp = g := by simpa [Value.ownBlock] using h2
        omega
      have hP7 := (hPn.put hap 0 (.int .i64 (s1 : Int))).put hap 1 (.int .i64 (s2 : Int))
      have hx7 : Ext w1 ((wn.setCell ⟨bp, 0, none⟩ (.int .i64 (s1 : Int))).setCell ⟨bp, 1, none⟩ (.int .i64 (s2 : Int))) := ((hx.trans hxn).setCell (p := ⟨bp, 0, none⟩) (by have := hx.size; simp only []; omega) _).setCell (p := ⟨bp, 1, none⟩) (by have := hx.size; simp only []; omega) _
      have g7 := (g1.set 0 (.int .i64 (s1 : Int))).set 1 (.int .i64 (s2 : Int))
      have hx8 : Ext wr ((wn.setCell ⟨bp, 0, none⟩ (.int .i64 (s1 : Int))).setCell ⟨bp, 1, none⟩ (.int .i64 (s2 : Int))) := (hxn.setCell (p := ⟨bp, 0, none⟩) sz1 _).setCell (p := ⟨bp, 1, none⟩) sz1 _
      have k0 := g1.cell 0 rfl
      have k1 := g1.cell 1 rfl
      have f0 := g1.fr 0
      have f1 := g1.fr 1
      go_upto_region 15 with fail
      clear k0 k1 f0 f1 hP hPn g1
      generalize (wn.setCell ⟨bp, 0, none⟩ (.int .i64 (s1 : Int))).setCell ⟨bp, 1, none⟩ (.int .i64 (s2 : Int)) = w7 at hP7 hx7 g7 hx8 ⊢
      have cl7 := hx8.cell cl
      have q0 : w7.cell? ⟨bp, 0, none⟩ = some (.int .i64 (s1 : Int)) := g7.cell 0 rfl
      have q1 : w7.cell? ⟨bp, 1, none⟩ = some (.int .i64 (s2 : Int)) := g7.cell 1 rfl
      have szb := g7.lt
      clear hx8 cl
      have HLQ : Hid (l = ((lt : Nat) : Int)) := HLT
      have hnx : Hid (nxp a b p l = (s1, s2)) := Lib.hid (by unfold nxp; rw [HLT.out, hs1.out, hs2.out])
      by_cases h1 : s1 = 0
      · have hb1 : ((s1 : Int) != 0) = false := by simp [h1]
        have HST2 := Lib.hid (HST.out.skip HLM.out HP.out (.inr (by rw [HLT.out]; exact hs1.out.symm.trans h1)))
        clear h1
        go_wp2_with fail
        exact ⟨⟨m + 1, L, Wd, _, _, rfl, rfl, by go_num, by omega, hkL, HP, HST2, HWL, HWS, hP7, hx7⟩, by simp [intOf]; omega⟩
      have hb1 : ((s1 : Int) != 0) = true := by simp; omega
      have H1 := Lib.hid h1
      clear h1
      go_wp2_with fail
      refine (l5Find_c _ L (s1, s2) _ (pairs_of (Pool.hd2 hP7)) (by omega)).mono ?_
      rintro e w8 ⟨hx8, r, rfl, hr1, hr2⟩
      replace hP7 := hP7.ext hx8
      replace hx7 := hx7.trans hx8
      have q0 := hx8.cell q0
      have q1 := hx8.cell q1
      have cl8 := hx8.cell cl7
      clear hx8
      by_cases hmem : (s1, s2) ∈ L
      · have hr : ¬ r < 0 := by have := hr1 hmem; omega
        have HST2 := Lib.hid (HST.out.skip HLM.out HP.out (.inl (by rw [hnx.out]; exact hmem)))
        clear hr1 hr2 hmem
        go_wp2_with fail
        exact ⟨⟨m + 1, L, Wd, _, _, rfl, rfl, by go_num, by omega, hkL, HP, HST2, HWL, HWS, hP7, hx7⟩, by simp [intOf]; omega⟩
      obtain rfl := hr2 hmem
      have HST2 := Lib.hid (HST.out.push a63 HLM.out HP.out (by rw [hnx.out]; exact hmem) (by rw [HLT.out]; exact fun h => H1.out (hs1.out.trans h)))
      rw [hnx.out] at HST2
      clear hr1 hr2 hmem
      have hPs : Pool w1.heap.size w8 (⟨78, 2, .slice (some ⟨gL, 0, none⟩) L.length cA, L.length, pairCells L⟩ :: [slWd (.slice aW L.length cW) L.length Wd]) := hP7.perm (List.Perm.swap _ _ _)
      have hbs : w1.heap.size ≤ w8.heap.size := hx7.size
      go_wp2_with (at_builtin; refine appP (news := [.int .i64 (s1 : Int), .int .i64 (s2 : Int)]) rfl rfl Tryd.underlying79 infoPair rfl (by decide) hPs rfl rfl rfl (by simp [Value.oneCell']) (by omega) (by decide) hbs ?_; intro v1 w9 hP9 hg9 hb9; obtain ⟨a9, c9, rfl⟩ := own_any' (Pool.hd hP9))
      have hx9 : Ext w1 w9 := Below.trans hx7 hb9
      have HPW : Pool w1.heap.size w9 (⟨9, 1, .slice aW L.length cW, L.length, Wd.map Value.string⟩ :: [⟨78, 2, .slice a9 (L.length + 1) c9, L.length + 1, pairCells L ++ [.int .i64 (s1 : Int), .int .i64 (s2 : Int)]⟩]) := hP9.perm (List.Perm.swap _ _ _)
      obtain ⟨u, hu⟩ : ∃ u, Wd[k]? = some u := ⟨_, List.getElem?_eq_getElem (by rw [HWL.out]; exact hkL)⟩
      obtain ⟨gW, cW', e6, cw⟩ := own_at (Pool.hd HPW) (j := k) (u := .string u) (by rw [List.getElem?_map, hu]; rfl)
      cases e6
      have hus := HWS.out k u hu
      have hov : ¬ 9223372036854775807 < u.size + 1 := by omega
      have cl9 : w9.cell? ⟨bl, ol + m, none⟩ = some (.int .i64 (lt : Int)) := by
        obtain ⟨bl', ol', e7, hlt7, hlc⟩ := HLC.out m l HLM.out
        cases e7
        have := hlc m l HLM.out; unfold IntAt at this; rw [Nat.mul_one, HLT.out] at this; exact hx9.cell this
      have HU := Lib.hid hu
      have D0 := fun d os => cell_regrown cw d os
      have D1 := fun d os => cell_regrown cl9 d os
      clear hu hP7 hPs hP9 hg9 hb9 hx7 hbs cl8 cl7 q0 q1 cw cl9
      go_wp2_with fail
      obtain ⟨Kc, HKc⟩ : ∃ Kc : FuncId → Array Value → World → Value → World → Prop, Hid (Kc = fun (_ : FuncId) (_ : Array Value) (w0 : World) (v : Value) (w' : World) => Ext w0 w' ∧ v = .string (wtext [(lt : Int)])) := ⟨_, rfl⟩
      refine wp_region_ext (Kc := Kc) 12 (by kernel_rfl) (by kernel_rfl) ?_
      simp only [List.take_succ_cons, List.take_zero]
      repeat (refine WalkE.pure rfl (fun K hK => ?_); simp only [PureDo]; go_simp; refine hK _ ?_; clear hK K)
      refine WalkE.step (fun K hK wc hwc hdc => ?_)
      simp only [OpDo, OpSafe, OpOut]
      go_simp
      refine ⟨(l1Text_c lt _ hlt6).mono ?_, ?_⟩
      · rintro e w' ⟨rfl, he9⟩
        exact ⟨_, rfl, by rw [HKc.out]; exact ⟨he9, rfl⟩⟩
      intro u1 w5 hk1
      rw [HKc.out] at hk1
      obtain ⟨hk1, rfl⟩ := hk1
      refine ⟨hk1, hK _ _ ?_⟩
      clear hK K hdc hk1
      have hsw : (wtext [(lt : Int)]).size = 1 := size_wtext _
      repeat (refine WalkE.pure rfl (fun K hK => ?_); simp only [PureDo]; go_simp; refine hK _ ?_; clear hK K)
      refine WalkE.step (fun K hK wd hwd hdd => ?_)
      simp only [OpDo, OpSafe, OpOut]
      go_simp
      refine ⟨Ext.alloc _ _, hK _ _ ?_⟩
      clear hK K hdd
      refine WalkE.nil (fun wn2 hwn2 hmn2 => ?_)
      simp only [List.drop_succ_cons, List.drop_zero, List.drop_nil]
      have hcell := cells1W (hmn2 11 (by omega))
      have hxn2 : Ext w9 wn2 := (Ext.drew _).trans hwn2
      have HPn := HPW.ext hxn2
      have hxz := hx9.trans hxn2
      have hbz : w1.heap.size ≤ wn2.heap.size := hxz.size
      clear hmn2 HKc D0 D1 hwc hwd hwn2 hxn2 HPW hx9
      generalize wd.heap.size = rr at hcell ⊢
      go_wp2_with (at_builtin; refine appPN (m := 1) (news := [.string (u ++ wtext [(lt : Int)])]) rfl rfl Tryd.underlying80 infoStrW rfl (by decide) HPn rfl rfl rfl hcell (by simp [Value.oneCell']) (by omega) (by decide) hbz ?_; intro v2 w10 hP10 hg10 hb10; obtain ⟨a10, c10, rfl⟩ := own_any' (Pool.hd hP10))
      refine ⟨⟨m + 1, L ++ [(s1, s2)], Wd ++ [u ++ wtext [(lt : Int)]], _, _, rfl, rfl, by go_num, by omega, by simp; omega, Lib.hid ?_, HST2, Lib.hid (by simp [HWL.out]), Lib.hid ?_, ?_, Below.trans hxz hb10⟩, by simp [intOf]; omega⟩
      · rw [List.getElem?_append_left hkL]; exact HP.out
      · intro j y hj
        rcases Nat.lt_or_ge j L.length with h3 | h3
        · rw [List.getElem?_append_left (by rw [HWL.out]; exact h3)] at hj
          exact HWS.out j y hj
        · rw [List.getElem?_append_right (by rw [HWL.out]; exact h3), HWL.out] at hj
          have h4 := (List.getElem?_eq_some_iff.1 hj).1
          obtain rfl : j = L.length := by simp at h4; omega
          simp at hj
          subst hj
          rw [ByteArray.size_append, hsw]; omega
      · show Pool _ _ [⟨_, _, _, _, _⟩, ⟨_, _, _, _, _⟩]
        rw [pairCells_push, List.length_append, List.map_append]
        exact hP10

theorem TracesWithin_s (va vb : Value) (a b : Sys) (w : World) (hva : SysV w va a) (hvb : SysV w vb b) (hea : a.edges.length ≤ 1048576) (heb : b.edges.length ≤ 1048576) :
    Calls Tryd.prog 8 #[va, vb] w (Grows (.bool (tracesB a b)) w) := by
  have HA := Lib.hid hva
  obtain ⟨vE1, rfl, k1⟩ := hva
  obtain ⟨aE1, cE1, rfl, -, -⟩ := k1.open
  have HB := Lib.hid hvb
  obtain ⟨vE2, rfl, k3⟩ := hvb
  obtain ⟨aE2, cE2, rfl, -, -⟩ := k3.open
  obtain ⟨wo, hwo⟩ : ∃ wo, wo = ((w.alloc (.cells #[.int .i64 a.alphabet, .int .i64 a.states, .slice aE1 a.edges.length cE1] 25)).alloc (.cells #[.int .i64 b.alphabet, .int .i64 b.states, .slice aE2 b.edges.length cE2] 25)) := ⟨_, rfl⟩
  have he : Ext w wo := by rw [hwo]; exact (Ext.alloc _ _).trans (Ext.alloc _ _)
  have b1 : Blk wo w.heap.size #[.int .i64 a.alphabet, .int .i64 a.states, .slice aE1 a.edges.length cE1] 25 := by rw [hwo]; exact Ext.blk (Ext.alloc _ _)
  have b2 : Blk wo (w.heap.size + 1) #[.int .i64 b.alphabet, .int .i64 b.states, .slice aE2 b.edges.length cE2] 25 := by rw [hwo]; exact Ext.blk1 (Ext.refl _)
  clear k1 k3
  go_enter Tryd.func8, Tryd.ntmps8
  go_wp2_with fail
  rw [← hwo]
  clear hwo
  have b1_0 := b1.cell 0 rfl; have b1_1 := b1.cell 1 rfl; have b1_2 := b1.cell 2 rfl
  have b2_0 := b2.cell 0 rfl; have b2_1 := b2.cell 1 rfl; have b2_2 := b2.cell 2 rfl
  go_wp2_with fail
  refine (FirstTraceOutside_s _ _ a b _ (HA.out.mono he) (HB.out.mono he) hea heb).mono ?_
  rintro e w1 ⟨tx, f, rfl, he1, hr⟩
  have HR := Lib.hid hr
  clear hr
  clear b1_0 b1_1 b1_2 b2_0 b2_1 b2_2
  replace b1 := b1.ext he1
  replace b2 := b2.ext he1
  replace he := he.trans he1
  have b1_0 := b1.cell 0 rfl; have b1_1 := b1.cell 1 rfl; have b1_2 := b1.cell 2 rfl
  have b2_0 := b2.cell 0 rfl; have b2_1 := b2.cell 1 rfl; have b2_2 := b2.cell 2 rfl
  go_wp2_with fail
  refine (l6Comparable_s _ _ a b _ (HA.out.mono he) (HB.out.mono he)).mono ?_
  rintro e w2 ⟨rfl, he2⟩
  cases hc : same2 a b with
  | false =>
    go_wp2_with fail
    go_ret
    exact Grows.mk (by rw [← HR.out, hc]; rfl) (he.trans he2)
  | true =>
    go_wp2_with fail
    go_ret
    exact Grows.mk (by rw [← HR.out, hc]; simp) (he.trans he2)


theorem sameAlphabets_c (va vb : Value) (a b : Sys) (w : World) (hva : SysV w va a) (hvb : SysV w vb b) :
    Calls Tryd.prog 20 #[va, vb] w (Grows (.bool (same2 a b)) w) := by
  have HA := Lib.hid hva
  obtain ⟨vE1, rfl, k1⟩ := hva
  obtain ⟨aE1, cE1, rfl, -, -⟩ := k1.open
  have HB := Lib.hid hvb
  obtain ⟨vE2, rfl, k3⟩ := hvb
  obtain ⟨aE2, cE2, rfl, -, -⟩ := k3.open
  obtain ⟨wo, hwo⟩ : ∃ wo, wo = ((w.alloc (.cells #[.int .i64 a.alphabet, .int .i64 a.states, .slice aE1 a.edges.length cE1] 25)).alloc (.cells #[.int .i64 b.alphabet, .int .i64 b.states, .slice aE2 b.edges.length cE2] 25)) := ⟨_, rfl⟩
  have he : Ext w wo := by rw [hwo]; exact (Ext.alloc _ _).trans (Ext.alloc _ _)
  have b1 : Blk wo w.heap.size #[.int .i64 a.alphabet, .int .i64 a.states, .slice aE1 a.edges.length cE1] 25 := by rw [hwo]; exact Ext.blk (Ext.alloc _ _)
  have b2 : Blk wo (w.heap.size + 1) #[.int .i64 b.alphabet, .int .i64 b.states, .slice aE2 b.edges.length cE2] 25 := by rw [hwo]; exact Ext.blk1 (Ext.refl _)
  clear k1 k3
  go_enter Tryd.func20, Tryd.ntmps20
  go_wp2_with fail
  rw [← hwo]
  clear hwo
  have b1_0 := b1.cell 0 rfl; have b1_1 := b1.cell 1 rfl; have b1_2 := b1.cell 2 rfl
  go_wp2_with fail
  by_cases hA : sysValid a = true
  case neg =>
    have hA' : sysValid a = false := by simpa using hA
    refine (SystemValid_b hA' (HA.out.mono he)).mono ?_
    rintro e w1 ⟨rfl, he1⟩
    go_wp2_with fail
    go_ret
    exact Grows.mk (by simp [same2, hA']) (he.trans he1)
  refine (SystemValid_b hA (HA.out.mono he)).mono ?_
  rintro e w1 ⟨rfl, he1⟩
  clear b1_0 b1_1 b1_2
  replace b1 := b1.ext he1
  replace b2 := b2.ext he1
  replace he := he.trans he1
  have b2_0 := b2.cell 0 rfl; have b2_1 := b2.cell 1 rfl; have b2_2 := b2.cell 2 rfl
  go_wp2_with fail
  by_cases hB : sysValid b = true
  case neg =>
    have hB' : sysValid b = false := by simpa using hB
    refine (SystemValid_b hB' (HB.out.mono he)).mono ?_
    rintro e w2 ⟨rfl, he2⟩
    go_wp2_with fail
    go_ret
    exact Grows.mk (by simp [same2, hB']) (he.trans he2)
  refine (SystemValid_b hB (HB.out.mono he)).mono ?_
  rintro e w2 ⟨rfl, he2⟩
  clear b2_0 b2_1 b2_2
  replace b1 := b1.ext he2
  replace b2 := b2.ext he2
  replace he := he.trans he2
  have b1_0 := b1.cell 0 rfl; have b1_1 := b1.cell 1 rfl; have b1_2 := b1.cell 2 rfl
  have b2_0 := b2.cell 0 rfl; have b2_1 := b2.cell 1 rfl; have b2_2 := b2.cell 2 rfl
  have HX := Lib.hid (show same2 a b = decide (a.alphabet = b.alphabet) by unfold same2; rw [hA, hB]; rfl)
  clear hA hB
  go_wp2_with fail
  go_ret
  exact Grows.mk (by rw [HX.out]; first | rfl | simp) he

structure GroundT (w : World) (b6 b7 b8 : Nat) (a b : Sys) : Prop where
  m : ∃ v, Blk w b6 #[v] 49 ∧ MovesV w v a
  n : ∃ v, Blk w b7 #[v] 49 ∧ MovesV w v b
  z : Blk w b8 #[.int .i64 (2 ^ b.states.toNat : Nat)] 3
theorem GroundT.ext {w w' : World} {b6 b7 b8 : Nat} {a b : Sys} (h : GroundT w b6 b7 b8 a b) (he : Ext w w') : GroundT w' b6 b7 b8 a b :=
  let ⟨⟨v, h1, h2⟩, ⟨u, h3, h4⟩, h5⟩ := h; ⟨⟨v, h1.ext he, h2.mono he⟩, ⟨u, h3.ext he, h4.mono he⟩, h5.ext he⟩
theorem tnd_app {vo v : Value} {w wr w1 : World} (h : Tnd (SlB vo) w wr) (hloc : ∀ g, v.ownBlock = some g → vo.ownBlock = some g ∨ w.heap.size ≤ g) (hg : wr.grownBy w1 v.ownBlock) : Tnd (SlB vo) w w1 :=
  ⟨hg.os.trans h.os, hg.tape.trans h.tape, hg.output.trans h.output, Nat.le_trans h.size hg.size, fun b hb hnb => (hg.block b (Nat.lt_of_lt_of_le hb h.size) (fun he => by
    rcases hloc b he.symm with h1 | h1
    · exact hnb h1
    · omega)).trans (h.block b hb hnb)⟩
theorem pow_states {b : Sys} (hb : sysValid b = true) : 2 ≤ 2 ^ b.states.toNat ∧ 2 ^ b.states.toNat ≤ 65536 := by
  obtain ⟨-, -, h1, h2⟩ := valid_alpha hb
  refine ⟨?_, ?_⟩
  · have : 2 ^ 1 ≤ 2 ^ b.states.toNat := Nat.pow_le_pow_right (by omega) (by omega)
    simpa using this
  · have : 2 ^ b.states.toNat ≤ 2 ^ 16 := Nat.pow_le_pow_right (by omega) (by omega)
    simpa using this

theorem wrap_pow16 (d : Nat) (h : d ≤ 16) : wrap64 (2 ^ d) = ((2 ^ d : Nat) : Int) := by
  rcases Nat.lt_or_ge d 16 with h1 | h1
  · exact wrap_pow d h1
  · obtain rfl : d = 16 := by omega
    unfold wrap64; decide
theorem traceNext_c (b6 b7 b8 : Nat) (a b : Sys) (node lt : Nat) (vo : Value) (out : List Int) (base : Nat) (w0 w : World) (h0 : GroundT w0 b6 b7 b8 a b) (hx0 : Ext w0 w) (hb0 : w0.heap.size ≤ base) (ha : sysValid a = true) (hb : sysValid b = true) (hn : node < a.states.toNat * 2 ^ b.states.toNat)
    (hl : lt < 6) (hbit : bit a.alphabet (lt : Nat) = true) (hT : Deb w) (ho : IntsOwn 3 base w vo out) (hout : out.length + 16 ≤ 4294967296) (hbase : base ≤ w.heap.size) :
    Calls Tryd.prog 25 #[.int .i64 node, .int .i64 lt, vo, .pointer (some ⟨b7, 0, none⟩), .pointer (some ⟨b8, 0, none⟩), .pointer (some ⟨b6, 0, none⟩)] w (Appends base vo (out ++ ints (trN a b node (lt : Nat))) w) := by
  have hb80 := Nat.lt_of_lt_of_le h0.z.lt hb0
  obtain ⟨⟨vm, hm1, hm2⟩, ⟨vn, hn1, hn2⟩, hz⟩ := h0.ext hx0
  obtain ⟨p2, p16⟩ := pow_states hb
  have hst := (valid_alpha ha).2.2.2
  obtain ⟨S, hS⟩ : ∃ S : Nat, Hid (S = 2 ^ b.states.toNat) := ⟨_, Lib.hid rfl⟩
  rw [← hS.out] at hz hn p2 p16
  obtain ⟨d, hd⟩ : ∃ d, Hid (d = node / S) := ⟨_, rfl⟩
  obtain ⟨r, hr⟩ : ∃ r, Hid (r = node % S) := ⟨_, rfl⟩
  have hd16 : d < 16 := by rw [hd.out]; have : node / S < a.states.toNat := Nat.div_lt_of_lt_mul (by rw [Nat.mul_comm]; exact hn); omega
  have hrS : r < S := by rw [hr.out]; exact Nat.mod_lt _ (by omega)
  obtain ⟨set, hset⟩ : ∃ set, Hid (set = stepM b r (lt : Nat)) := ⟨_, rfl⟩
  have hset16 : set < 65536 := by rw [hset.out]; exact stepM_lt hb _ _
  have hstep := step_c vn b r lt w hn2 hb (by omega) hl hT
  rw [← hset.out] at hstep
  have HSTEP := Lib.hid (fun w' (h : Ext w w') => (show Calls _ _ _ _ _ from by have := step_c vn b r lt w' (hn2.mono h) hb (by omega) hl (hT.ext h); rw [← hset.out] at this; exact this : Calls Tryd.prog 26 #[vn, .int .i64 r, .int .i64 lt] w' (Grows (.int .i64 (set : Nat)) w')))
  clear hstep
  obtain ⟨bm, cm, rfl, hM⟩ := hm2
  have g0 := hM.get hd16 hl
  rw [mv_all] at g0
  have hmv := stepM_lt ha (2 ^ d) (lt : Nat)
  obtain ⟨mm, hmm⟩ : ∃ mm, Hid (mm = stepM a (2 ^ d) (lt : Nat)) := ⟨_, rfl⟩
  rw [← hmm.out] at g0 hmv
  have HMEM := Lib.hid (fun w' (h : Ext w w') => members_c mm w' hmv (hT.ext h))
  obtain ⟨PN, hPN⟩ : ∃ PN, Hid (PN = bitsOf mm) := ⟨_, rfl⟩
  have hPB : Hid (∀ q ∈ PN, q < 16) := Lib.hid fun q hq => by
    have h1 := sysBits_lt ha hd16 (lt : Nat) q
    unfold sysBits at h1
    rw [if_pos hbit, ← hmm.out, ← hPN.out] at h1
    exact h1 hq
  have hPL : PN.length ≤ 16 := by rw [hPN.out]; exact bitsOf_len mm
  rw [← hPN.out] at HMEM
  have HTR : Hid (trN a b node (lt : Nat) = PN.map fun q => q * S + set) := Lib.hid (by
    unfold trN sysBits
    rw [if_pos hbit, ← hS.out, ← hd.out, ← hr.out, ← hset.out, ← hmm.out, ← hPN.out])
  rw [HTR.out]
  have e1 : Int.tdiv (node : Int) (S : Int) = (d : Int) := by rw [hd.out]; simp [Int.tdiv_eq_ediv_of_nonneg]
  have e3 : Int.tmod (node : Int) (S : Int) = (r : Int) := by rw [hr.out]; simp [Int.tmod_eq_emod_of_nonneg]
  have e7 : IntKind.i64.wrap (d : Int) = (d : Int) := by rw [IntKind.wrap_i64]; omega
  have m0 : ¬ S = 0 := by omega
  have i1 : (d : Int) < 16 := by omega
  have i3 : (lt : Int) < 6 := by omega
  obtain ⟨ao, co, rfl⟩ := ho.shape
  have D1 := fun d os => cell_regrown (hn1.cell 0 rfl) d os
  have D2 := fun d os => cell_regrown (hz.cell 0 rfl) d os
  clear hn hT hn2 hM hbit p2
  go_enter Tryd.func25, Tryd.ntmps25
  go_wp2_with fail
  refine wp_region_quiet_below (by kernel_rfl) (by kernel_rfl) ?_
  repeat (go_big_quiet_step ((go_at_call 26; exact Grows.quiet (HSTEP.out _ (below_regrown _ _ _)))))
  refine wpQuiet_nil ?_
  intro _ hw'
  obtain ⟨⟨dq, osq⟩, hw''⟩ := hw'
  subst hw''
  have hx1 : Ext w (Go.Sort.grow (redrawn w dq) osq) := below_regrown w dq osq
  generalize Go.Sort.grow (redrawn w dq) osq = w1 at hx1 ⊢
  clear D1 D2 HSTEP
  have D3 := fun d os => cell_regrown ((hm1.ext hx1).cell 0 rfl) d os
  have D4 := fun d os => cell_regrown ((hz.ext hx1).cell 0 rfl) d os
  have D5 := fun d os => cell_regrown (hx1.cell g0) d os
  go_wp2_with fail
  obtain ⟨Kc, HKc⟩ : ∃ Kc : FuncId → Array Value → World → Value → World → Prop, Hid (Kc = fun (_ : FuncId) (_ : Array Value) (w0 : World) (v : Value) (w' : World) => Ext w0 w' ∧ IntsOwn 3 w.heap.size w' v (ints PN)) := ⟨_, rfl⟩
  refine wp_region_ext (Kc := Kc) 12 (by kernel_rfl) (by kernel_rfl) ?_
  simp only [List.take_succ_cons, List.take_zero]
  repeat (refine WalkE.pure rfl (fun K hK => ?_); simp only [PureDo]; go_simp; refine hK _ ?_; clear hK K)
  refine WalkE.step (fun K hK wc hwc hdc => ?_)
  simp only [OpDo, OpSafe, OpOut]
  go_simp
  refine ⟨(HMEM.out _ (hx1.trans ((Ext.drew _).trans hwc))).mono ?_, ?_⟩
  · rintro e w' ⟨v, rfl, he, hv⟩
    exact ⟨v, rfl, by rw [HKc.out]; exact ⟨he, hv.low (hx1.trans ((Ext.drew _).trans hwc)).size⟩⟩
  intro u w4 hkc
  rw [HKc.out] at hkc
  obtain ⟨hk1, hk2⟩ := hkc
  obtain ⟨aP, cP, rfl⟩ := hk2.shape
  refine ⟨hk1, hK _ _ ?_⟩
  clear hK K hdc hk1
  simp only [ints_len]
  repeat (refine WalkE.pure rfl (fun K hK => ?_); simp only [PureDo]; go_simp; refine hK _ ?_; clear hK K)
  refine WalkE.nil (fun wn hwn hmn => ?_)
  simp only [List.drop_succ_cons, List.drop_zero, List.drop_nil]
  have hk3 := hk2.ext (hmn 9 (by omega))
  have hx : Ext w wn := hx1.trans ((Ext.drew _).trans hwn)
  clear hmn HKc D3 D4 D5 hwn hk2 hx1 g0 HMEM e1 e3 e7
  rw [ints_len] at hk3
  have hon := ho.ext hx
  have HP := Lib.hid hk3
  go_wp2_with fail
  have hapt0 : Apt (.slice aP PN.length cP) (.slice ao out.length co) := fun g h1 h2 => by
    have := (World.ownsRow.lt hk3 g h1).1
    have := (World.ownsRow.lt ho g h2).2
    omega
  go_loopw [2, 30] (fun v i wr => ∃ (j : Nat) (vv : Value), j ≤ PN.length ∧ i = .int .i64 j ∧ v = vv ∧ IntsOwn 3 base wr vv (out ++ ints ((PN.take j).map fun q => q * S + set)) ∧ Tnd (SlB (.slice ao out.length co)) w wr ∧ (∀ g, vv.ownBlock = some g → (Value.slice ao out.length co).ownBlock = some g ∨ w.heap.size ≤ g) ∧ IntsOwn 3 w.heap.size wr (.slice aP PN.length cP) (ints PN) ∧ Apt (.slice aP PN.length cP) vv) (fun _ i _ => PN.length - (intOf i).toNat)
  case atStart => exact ⟨0, _, by omega, rfl, rfl, by simpa [ints] using hon, Tnd.ext hx, fun g hg => .inl hg, hk3, hapt0⟩
  case round =>
    clear hk3 hon hapt0
    obtain ⟨j, vv, hj, rfl, rfl, hown, ht, hloc, hP, hapt⟩ := hrel
    have hzr : Blk wr b8 #[.int .i64 (S : Nat)] 3 := (ht.block b8 hz.lt (fun he => by have := (World.ownsRow.lt ho _ he).1; omega)).trans hz
    by_cases hlt : j < PN.length
    · obtain ⟨x, hxj⟩ : ∃ x, PN[j]? = some x := ⟨_, List.getElem?_eq_getElem hlt⟩
      have hx16 := hPB.out x (List.mem_of_getElem? hxj)
      obtain ⟨gP, cP', eP, cx⟩ := own_at hP (j := j) (u := .int .i64 x) (by rw [List.getElem?_map, ints_at hxj]; rfl)
      rw [ints_len] at eP
      obtain ⟨rfl, rfl⟩ : aP = some ⟨gP, 0, none⟩ ∧ cP = cP' := by simpa using eP
      have HX := Lib.hid hxj
      have hxS : x * S ≤ 16 * 65536 := Nat.mul_le_mul (by omega) p16
      have e5 : IntKind.i64.wrap ((x : Int) * (S : Int)) = (x : Int) * (S : Int) := by rw [show (x : Int) * (S : Int) = ((x * S : Nat) : Int) by simp, IntKind.wrap_i64]; omega
      obtain ⟨y, hy⟩ : ∃ y, Hid (y = x * S + set) := ⟨_, rfl⟩
      have e6 : IntKind.i64.wrap ((x : Int) * (S : Int) + (set : Int)) = (y : Int) := by rw [hy.out, show (x : Int) * (S : Int) = ((x * S : Nat) : Int) by simp, IntKind.wrap_i64]; omega
      have z0 := hzr.cell 0 rfl
      have hjs : (j : Int) < (PN.length : Int) := by omega
      have hll : (out ++ ints ((PN.take j).map fun q => q * S + set)).length + 1 ≤ 4294967296 := by simp [ints]; omega
      have hbr : base ≤ wr.heap.size := Nat.le_trans hbase ht.size
      clear eP hxj hxS
      obtain ⟨av, cv, rfl⟩ := hown.shape
      go_wp2_with (at_builtin; refine appInts rfl rfl Tryd.underlying51 infoInt (hown.ext (Ext.alloc wr _)) rfl rfl (IntsOwn.one 3 wr (y : Int)).ints (by simpa using hll) (by decide) (by simp; omega) ?_; intro v1 w1 hown1 hgr1 hloc1)
      have ht1 := tnd_app (ht.trans (Tnd.ext (Ext.alloc wr _))) hloc hgr1
      refine ⟨⟨j + 1, v1, by omega, by go_num, rfl, ?_, ht1, fun g hg => ?_, own_kept (hP.ext (Ext.alloc wr _)) hgr1 hapt, fun g h1 h2 => ?_⟩, by simp [intOf]; omega⟩
      · rw [List.take_add_one, HX.out]
        simp only [Option.toList_some, List.map_append, List.map_cons, List.map_nil, ints_append, ← List.append_assoc]
        rw [hy.out] at hown1
        exact hown1
      · rcases hloc1 with h3 | h3
        · exact hloc g (h3 ▸ hg)
        · have h4 := h3.symm.trans hg
          cases h4
          exact .inr (by have := ht.size; simp; omega)
      · rcases hloc1 with h3 | h3
        · exact hapt g h1 (h3 ▸ h2)
        · have h4 := h3.symm.trans h2
          cases h4
          have := (World.ownsRow.lt hP _ h1).2
          simp at this
          omega
    · obtain rfl : j = PN.length := by omega
      rw [List.take_length] at hown
      go_wp2_with fail
      go_ret
      exact ⟨_, rfl, hown, ht, hloc⟩

theorem traceGoal_c (b8 : Nat) (b : Sys) (node : Nat) (w : World) (hz : Blk w b8 #[.int .i64 (2 ^ b.states.toNat : Nat)] 3) (hb : sysValid b = true) :
    Calls Tryd.prog 30 #[.int .i64 node, .pointer (some ⟨b8, 0, none⟩)] w (Grows (.bool (trG b node)) w) := by
  obtain ⟨p2, p16⟩ := pow_states hb
  obtain ⟨S, hS⟩ : ∃ S : Nat, Hid (S = 2 ^ b.states.toNat) := ⟨_, Lib.hid rfl⟩
  rw [← hS.out] at hz p2 p16
  obtain ⟨r, hr⟩ : ∃ r, Hid (r = node % S) := ⟨_, rfl⟩
  have e3 : Int.tmod (node : Int) (S : Int) = (r : Int) := by rw [hr.out]; simp [Int.tmod_eq_emod_of_nonneg]
  have m0 : ¬ S = 0 := by omega
  have c0 := hz.cell 0 rfl
  have HG : Hid (trG b node = decide (r = 0)) := Lib.hid (by unfold trG; rw [← hS.out, ← hr.out])
  rw [HG.out]
  go_enter Tryd.func30, Tryd.ntmps30
  go_wp2_with fail
  go_ret
  refine Grows.mk ?_ (Ext.refl _)
  show Value.bool ((r : Int) == 0) = _
  congr 1
  rw [Bool.eq_iff_iff]; simp
theorem enter_trace1 (args : Array Value) (w : World) : (callFunc 25 args).run Tryd.prog w = .ok (.enter 25 args) w := rfl
theorem enter_trace2 (args : Array Value) (w : World) : (callFunc 30 args).run Tryd.prog w = .ok (.enter 30 args) w := rfl
theorem next_trace {w0 : World} {b6 b7 b8 : Nat} {a b : Sys} (h : GroundT w0 b6 b7 b8 a b) (ha : sysValid a = true) (hb : sysValid b = true) (hT : Deb w0) :
    NextIs w0 (a.states.toNat * 2 ^ b.states.toNat) 16 (letters a.alphabet) (.func (.func 25) #[] #[.pointer (some ⟨b7, 0, none⟩), .pointer (some ⟨b8, 0, none⟩), .pointer (some ⟨b6, 0, none⟩)]) (trN a b) := by
  have a1 := (sys_alpha ha).2
  refine ⟨⟨_, _, rfl, enter_trace1, fun w' k l vo out b' hx hk hl ho hb0 hb1 hout => ?_⟩, fun k l _ _ => trN_len a b k l, fun k l hk _ => trN_lt ha hb hk l⟩
  obtain ⟨hl0, hl6⟩ := letters_lt6 a1 l hl
  have hbl := (letters_iff l a1).1 hl
  obtain ⟨lt, rfl⟩ := Int.eq_ofNat_of_zero_le hl0
  exact traceNext_c b6 b7 b8 a b k lt vo out b' w0 w' h hx hb0 ha hb hk (by omega) hbl (hT.ext hx) ho hout hb1
theorem goal_trace {w0 : World} {b8 n : Nat} {b : Sys} (hz : Blk w0 b8 #[.int .i64 (2 ^ b.states.toNat : Nat)] 3) (hb : sysValid b = true) :
    GoalIs w0 n (.func (.func 30) #[] #[.pointer (some ⟨b8, 0, none⟩)]) (trG b) :=
  ⟨_, _, rfl, enter_trace2, fun w' k hx _ => traceGoal_c b8 b k w' (hz.ext hx) hb⟩

theorem FirstTraceOutside_c (va vb : Value) (a b : Sys) (w : World) (hva : SysV w va a) (hvb : SysV w vb b) (hT : Deb w) :
    Calls Tryd.prog 10 #[va, vb] w (AnsEnd (TraceR a b) w) := by
  have HT := Lib.hid hT
  clear hT
  have HA := Lib.hid hva
  obtain ⟨vE1, rfl, k1⟩ := hva
  obtain ⟨aE1, cE1, rfl, -, -⟩ := k1.open
  have HB := Lib.hid hvb
  obtain ⟨vE2, rfl, k3⟩ := hvb
  obtain ⟨aE2, cE2, rfl, -, -⟩ := k3.open
  obtain ⟨wo, hwo⟩ : ∃ wo, wo = ((w.alloc (.cells #[.int .i64 a.alphabet, .int .i64 a.states, .slice aE1 a.edges.length cE1] 25)).alloc (.cells #[.int .i64 b.alphabet, .int .i64 b.states, .slice aE2 b.edges.length cE2] 25)) := ⟨_, rfl⟩
  have he : Ext w wo := by rw [hwo]; exact (Ext.alloc _ _).trans (Ext.alloc _ _)
  have b1 : Blk wo w.heap.size #[.int .i64 a.alphabet, .int .i64 a.states, .slice aE1 a.edges.length cE1] 25 := by rw [hwo]; exact Ext.blk (Ext.alloc _ _)
  have b2 : Blk wo (w.heap.size + 1) #[.int .i64 b.alphabet, .int .i64 b.states, .slice aE2 b.edges.length cE2] 25 := by rw [hwo]; exact Ext.blk1 (Ext.refl _)
  clear k1 k3
  go_enter Tryd.func10, Tryd.ntmps10
  go_wp2_with fail
  rw [← hwo]
  clear hwo
  have b1_0 := b1.cell 0 rfl; have b1_1 := b1.cell 1 rfl; have b1_2 := b1.cell 2 rfl
  have b2_0 := b2.cell 0 rfl; have b2_1 := b2.cell 1 rfl; have b2_2 := b2.cell 2 rfl
  go_wp2_with fail
  refine (sameAlphabets_c _ _ a b _ (HA.out.mono he) (HB.out.mono he)).mono ?_
  rintro e w0 ⟨rfl, he0⟩
  by_cases hall : same2 a b = true
  case neg =>
    have hall' : same2 a b = false := by simpa using hall
    rw [hall']
    go_wp2_with fail
    go_ret2
    exact ⟨none, by unfold TraceR; rw [hall']; simp, rfl, he.trans he0⟩
  rw [hall]
  have HALL := Lib.hid hall
  clear b1_0 b1_1 b1_2 b2_0 b2_1 b2_2
  replace he := he.trans he0
  replace b1 := b1.ext he0
  replace b2 := b2.ext he0
  unfold same2 at hall
  simp only [Bool.and_eq_true, decide_eq_true_eq] at hall
  obtain ⟨⟨hva, hvb⟩, hab⟩ := hall
  have HVA := Lib.hid hva
  have HVB := Lib.hid hvb
  have HAB := Lib.hid hab
  clear hab
  have D0 := fun d os => cell_regrown (b1.cell 0 rfl) d os
  have D1 := fun d os => cell_regrown (b1.cell 1 rfl) d os
  have D2 := fun d os => cell_regrown (b1.cell 2 rfl) d os
  have D4 := fun d os => cell_regrown (b2.cell 0 rfl) d os
  have D5 := fun d os => cell_regrown (b2.cell 1 rfl) d os
  have D6 := fun d os => cell_regrown (b2.cell 2 rfl) d os
  go_upto_region 3 with fail
  obtain ⟨Kc, HKc⟩ : ∃ Kc : FuncId → Array Value → World → Value → World → Prop, Hid (Kc = fun (_ : FuncId) (args : Array Value) (w0 : World) (v : Value) (w' : World) => Ext w0 w' ∧ ∀ u x, args = #[u] → SysV w0 u x → MovesV w' v x) := ⟨_, rfl⟩
  refine wp_region_ext2 (Kc := Kc) 6 (fun i => i == 4 || i == 5) (by kernel_rfl) (by kernel_rfl) ?_
  simp only [List.take_succ_cons, List.take_zero]
  repeat (refine WalkE2.pure rfl rfl (fun K hK => ?_); simp only [PureDo]; go_simp; refine hK _ ?_; clear hK K)
  refine WalkE2.step (fun wd hwd hdd K hK => ?_)
  simp only [OpDo, OpSafe, OpOut]
  go_simp
  refine ⟨(movesOf_c _ a _ (HA.out.mono (he.trans ((Ext.drew _).trans hwd))) hva).mono ?_, ?_⟩
  · rintro e w' ⟨v, rfl, he9, hv⟩
    exact ⟨v, rfl, by rw [HKc.out]; exact ⟨he9, fun u x hu hux => by simp only [Array.mk.injEq, List.cons.injEq, and_true] at hu; subst hu; rw [← (HA.out.mono (he.trans ((Ext.drew _).trans hwd))).inj hux]; exact hv⟩⟩
  intro u1 w5 hk1
  rw [HKc.out] at hk1
  have ht1 := hk1.2 _ a rfl (HA.out.mono (he.trans ((Ext.drew _).trans hwd)))
  refine ⟨hk1.1, hK _ _ ?_⟩
  clear hK K hdd hk1
  repeat (refine WalkE2.pure rfl rfl (fun K hK => ?_); simp only [PureDo]; go_simp; refine hK _ ?_; clear hK K)
  refine WalkE2.step (fun we hwe hde K hK => ?_)
  simp only [OpDo, OpSafe, OpOut]
  go_simp
  refine ⟨(movesOf_c _ b _ (HB.out.mono (he.trans ((Ext.drew _).trans hwe))) hvb).mono ?_, ?_⟩
  · rintro e w' ⟨v, rfl, he9, hv⟩
    exact ⟨v, rfl, by rw [HKc.out]; exact ⟨he9, fun u x hu hux => by simp only [Array.mk.injEq, List.cons.injEq, and_true] at hu; subst hu; rw [← (HB.out.mono (he.trans ((Ext.drew _).trans hwe))).inj hux]; exact hv⟩⟩
  intro u2 w6 hk2
  rw [HKc.out] at hk2
  have ht2 := hk2.2 _ b rfl (HB.out.mono (he.trans ((Ext.drew _).trans hwe)))
  refine ⟨hk2.1, hK _ _ ?_⟩
  clear hK K hde hk2
  refine WalkE2.step (fun wf hwf hdf K hK => ?_)
  simp only [OpDo, OpSafe, OpOut]
  go_simp
  refine ⟨Ext.alloc _ _, hK _ _ ?_⟩
  clear hK K hdf
  refine WalkE2.step (fun wg hwg hdg K hK => ?_)
  simp only [OpDo, OpSafe, OpOut]
  go_simp
  refine ⟨Ext.alloc _ _, hK _ _ ?_⟩
  clear hK K hdg
  refine WalkE2.nil (fun wn hwn hmn htot => ?_)
  simp only [List.drop_succ_cons, List.drop_zero, List.drop_nil]
  have q1 := ht1.mono (hmn 1 (by omega))
  have q2 := ht2.mono (hmn 3 (by omega))
  have g1 := (Blk.new wf _ _).ext (hmn 4 (by omega))
  have g2 := (Blk.new wg _ _).ext (hmn 5 (by omega))
  have hne : wf.heap.size ≠ wg.heap.size := by
    rcases htot 4 5 (by omega) (by omega) (by omega) rfl rfl with h | h
    · have := h.size
      simp only [upd2, WW] at this
      simp at this
      omega
    · have := h.size
      simp only [upd2, WW] at this
      simp at this
      omega
  have s1 : w0.heap.size ≤ wf.heap.size := Nat.le_trans (Ext.drew _).size hwf.size
  have s2 : w0.heap.size ≤ wg.heap.size := Nat.le_trans (Ext.drew _).size hwg.size
  have hxn : Ext w0 wn := (Ext.drew _).trans hwn
  clear htot hmn ht1 ht2 hwd hwe hwf hwg hwn HKc D0 D1 D2 D4 D5 D6
  generalize wf.heap.size = b10 at g1 hne s1 ⊢
  generalize wg.heap.size = b11 at g2 hne s2 ⊢
  have cg1 := g1.cell 0 rfl
  have cg2 := g2.cell 0 rfl
  have fg1 := g1.fr 0
  have fg2 := g2.fr 0
  obtain ⟨bm1, cm1, rfl, hM1⟩ := q1
  obtain ⟨bm2, cm2, rfl, hM2⟩ := q2
  have q1 : MovesV wn (.pointer (some ⟨bm1, 0, none⟩)) a := ⟨bm1, cm1, rfl, hM1⟩
  have q2 : MovesV wn (.pointer (some ⟨bm2, 0, none⟩)) b := ⟨bm2, cm2, rfl, hM2⟩
  clear hM1 hM2
  go_upto_region 4 with fail
  obtain ⟨w7, hw7⟩ : ∃ w7, w7 = (wn.setCell ⟨b10, 0, none⟩ (.pointer (some ⟨bm1, 0, none⟩))).setCell ⟨b11, 0, none⟩ (.pointer (some ⟨bm2, 0, none⟩)) := ⟨_, rfl⟩
  have y7 : Ext w0 w7 := by rw [hw7]; exact (hxn.setCell (p := ⟨b10, 0, none⟩) (by simp only []; omega) _).setCell (p := ⟨b11, 0, none⟩) (by simp only []; omega) _
  have r1 : Blk w7 b10 #[.pointer (some ⟨bm1, 0, none⟩)] 49 := by rw [hw7]; exact (g1.set 0 _).other (p := ⟨b11, 0, none⟩) hne _
  have r2 : Blk w7 b11 #[.pointer (some ⟨bm2, 0, none⟩)] 49 := by rw [hw7]; exact (g2.other (p := ⟨b10, 0, none⟩) hne.symm _).set 0 _
  have x1 : MovesV w7 (.pointer (some ⟨bm1, 0, none⟩)) a := by rw [hw7]; exact (q1.other g1 (by decide) 0 _).other (g2.other (p := ⟨b10, 0, none⟩) hne.symm _) (by decide) 0 _
  have x2 : MovesV w7 (.pointer (some ⟨bm2, 0, none⟩)) b := by rw [hw7]; exact (q2.other g1 (by decide) 0 _).other (g2.other (p := ⟨b10, 0, none⟩) hne.symm _) (by decide) 0 _
  rw [← hw7]
  clear hw7 q1 q2 g1 g2 cg1 cg2 fg1 fg2 hxn s1 s2 hne
  clear wn
  replace he := he.trans y7
  replace b1 := b1.ext y7
  replace b2 := b2.ext y7
  clear y7
  obtain ⟨p2, p16⟩ := pow_states hvb
  obtain ⟨-, -, t1, t2⟩ := valid_alpha hvb
  obtain ⟨-, -, t3, t4⟩ := valid_alpha hva
  obtain ⟨nb, hnb⟩ : ∃ nb : Nat, b.states = (nb : Int) := ⟨b.states.toNat, by omega⟩
  have hnb2 : b.states.toNat = nb := by omega
  rw [hnb2] at p2 p16
  have c21 : w7.cell? ⟨w.heap.size + 1, 1, none⟩ = some (.int .i64 (nb : Int)) := by rw [← hnb]; exact b2.cell 1 rfl
  obtain ⟨S, hS⟩ : ∃ S : Nat, Hid (S = 2 ^ nb) := ⟨_, Lib.hid rfl⟩
  have hsh : wrap64 (2 ^ nb) = (S : Int) := by rw [hS.out]; exact wrap_pow16 nb (by omega)
  rw [← hS.out] at p2 p16
  have hb8 : Hid (2 ^ b.states.toNat = S) := Lib.hid (by rw [hnb2]; exact hS.out.symm)
  clear hnb2
  go_upto_region 5 with fail
  obtain ⟨w8, hw8⟩ : ∃ w8, w8 = w7.alloc (.cells #[.int .i64 (S : Int)] 3) := ⟨_, rfl⟩
  have y8 : Ext w7 w8 := by rw [hw8]; exact Ext.alloc _ _
  have hM : Blk w8 w7.heap.size #[.int .i64 (S : Int)] 3 := by rw [hw8]; exact Blk.new _ _ _
  rw [← hw8]
  clear hw8 hsh c21
  generalize w7.heap.size = b12 at hM ⊢
  replace he := he.trans y8
  replace b1 := b1.ext y8
  replace b2 := b2.ext y8
  have hM2 : Blk w8 b12 #[.int .i64 (2 ^ b.states.toNat : Nat)] 3 := by rw [hb8.out]; exact hM
  have HG := Lib.hid (show GroundT w8 b10 b11 b12 a b from ⟨⟨_, r1.ext y8, x1.mono y8⟩, ⟨_, r2.ext y8, x2.mono y8⟩, hM2⟩)
  have HZ := Lib.hid hM2
  clear hM2 r1 r2 x1 x2 y8
  go_upto_region 6 with fail
  obtain ⟨na, hna⟩ : ∃ na : Nat, a.states = (na : Int) := ⟨a.states.toNat, by omega⟩
  have c11 : w8.cell? ⟨w.heap.size, 1, none⟩ = some (.int .i64 (na : Int)) := by rw [← hna]; exact b1.cell 1 rfl
  have D0 := fun d os => cell_regrown c11 d os
  have D1 := fun d os => cell_regrown (hM.cell 0 rfl) d os
  have D2 := fun d os => cell_regrown (b1.cell 0 rfl) d os
  obtain ⟨NN, hNN⟩ : ∃ NN, Hid (NN = na * S) := ⟨_, rfl⟩
  have hNe : Hid (a.states.toNat * 2 ^ b.states.toNat = NN) := Lib.hid (by rw [hb8.out, hNN.out, hna]; rfl)
  have hN1 : 1 * 2 ≤ na * S := Nat.mul_le_mul (by omega) p2
  have hN2 : na * S ≤ 16 * 65536 := Nat.mul_le_mul (by omega) p16
  have e2 : IntKind.i64.wrap ((na : Int) * (S : Int)) = (NN : Int) := by rw [hNN.out, show (na : Int) * (S : Int) = ((na * S : Nat) : Int) by simp, IntKind.wrap_i64]; omega
  rw [← hNN.out] at hN1 hN2
  have HOW := Lib.hid (tr_wins hva hvb HAB.out)
  have HNX := Lib.hid (fun (w' : World) (hx : Ext w8 w') => (show NextIs w' NN 16 _ _ _ from by have := next_trace (HG.out.ext hx) hva hvb (HT.out.ext (he.trans hx)); rw [hNe.out] at this; exact this))
  have HGI := Lib.hid (fun (w' : World) (hx : Ext w8 w') => goal_trace (n := NN) (HZ.out.ext hx) hvb)
  obtain ⟨a0, a63⟩ := sys_alpha hva
  clear HG c11 hva hvb
  obtain ⟨Kc, HKc⟩ : ∃ Kc : FuncId → Array Value → World → Value → World → Prop, Hid (Kc = fun (f : FuncId) (_ : Array Value) (w0 : World) (v : Value) (w' : World) => Ext w0 w' ∧ (f = 29 → IntsV w' v (letters a.alphabet)) ∧ (f = 28 → ∃ r, FirstIs (TraceOut a b) r ∧ v = .tuple #[.string (rtext r), .bool r.isSome])) := ⟨_, rfl⟩
  refine wp_region_ext (Kc := Kc) 15 (by kernel_rfl) (by kernel_rfl) ?_
  simp only [List.take_succ_cons, List.take_zero]
  repeat (refine WalkE.pure rfl (fun K hK => ?_); simp only [PureDo]; go_simp; refine hK _ ?_; clear hK K)
  refine WalkE.step (fun K hK we hwe hde => ?_)
  simp only [OpDo, OpSafe, OpOut]
  go_simp
  have hS1 := IntsOwn.one 3 we 1
  refine ⟨Ext.alloc _ _, hK _ _ ?_⟩
  clear hK K hde
  repeat (refine WalkE.pure rfl (fun K hK => ?_); simp only [PureDo]; go_simp; refine hK _ ?_; clear hK K)
  refine WalkE.step (fun K hK wf hwf hdf => ?_)
  simp only [OpDo, OpSafe, OpOut]
  go_simp
  refine ⟨(lettersOf_c _ _ a0 a63).mono ?_, ?_⟩
  · rintro e w' ⟨v, rfl, he, hv⟩
    exact ⟨v, rfl, by rw [HKc.out]; exact ⟨he, fun _ => hv, fun h => absurd h (by decide)⟩⟩
  intro u2 w6 hk2
  rw [HKc.out] at hk2
  obtain ⟨hk2, hk2', -⟩ := hk2
  have hL := hk2' rfl
  refine ⟨hk2, hK _ _ ?_⟩
  clear hK K hdf hk2 hk2'
  repeat (refine WalkE.pure rfl (fun K hK => ?_); simp only [PureDo]; go_simp; refine hK _ ?_; clear hK K)
  refine WalkE.step (fun K hK wg hwg hdg => ?_)
  simp only [OpDo, OpSafe, OpOut]
  go_simp
  have j6 : Ext (we.alloc (.cells #[.int .i64 1] 3)) wg := hdg ⟨4, .data⟩ (by simp) rfl
  have j13 : Ext w6 wg := hdg ⟨7, .data⟩ (by simp) rfl
  have hxg : Ext w8 wg := (Ext.drew _).trans hwg
  have hNX := HNX.out _ hxg
  have hGI := HGI.out _ hxg
  have hSg := (hS1.low (Nat.zero_le _)).ext j6
  have hLg := hL.mono j13
  refine ⟨(firstPath_c NN 16 _ _ _ _ [1] (letters a.alphabet) (trN a b) (trG b) wg hSg (by simp) (by intro s hs; simp at hs; omega) hLg (letters_asc _) (letters_lt6 a63) hNX hGI (by omega) (by omega)).mono ?_, ?_⟩
  · rintro e w' ⟨r, hr, rfl, he⟩
    exact ⟨_, rfl, by rw [HKc.out]; exact ⟨he, fun h => absurd h (by decide), fun _ => ⟨r, hr.congr HOW.out, rfl⟩⟩⟩
  intro u3 w9 hk3
  rw [HKc.out] at hk3
  obtain ⟨hk3, -, hk3'⟩ := hk3
  obtain ⟨r, hr, rfl⟩ := hk3' rfl
  refine ⟨hk3, hK _ _ ?_⟩
  clear hK K hdg hk3 hk3'
  repeat (refine WalkE.pure rfl (fun K hK => ?_); simp only [PureDo]; go_simp; refine hK _ ?_; clear hK K)
  refine WalkE.nil (fun wn hwn hmn => ?_)
  simp only [List.drop_succ_cons, List.drop_zero, List.drop_nil]
  go_wp2_with fail
  go_ret2
  exact ⟨r, by unfold TraceR; rw [if_pos HALL.out]; exact hr, rfl, he.trans ((Ext.drew _).trans hwn)⟩

theorem TracesWithin_c (va vb : Value) (a b : Sys) (w : World) (hva : SysV w va a) (hvb : SysV w vb b) (hT : Deb w) :
    Calls Tryd.prog 6 #[va, vb] w (Grows (.bool (tracesB a b)) w) := by
  have HT := Lib.hid hT
  clear hT
  have HA := Lib.hid hva
  obtain ⟨vE1, rfl, k1⟩ := hva
  obtain ⟨aE1, cE1, rfl, -, -⟩ := k1.open
  have HB := Lib.hid hvb
  obtain ⟨vE2, rfl, k3⟩ := hvb
  obtain ⟨aE2, cE2, rfl, -, -⟩ := k3.open
  obtain ⟨wo, hwo⟩ : ∃ wo, wo = ((w.alloc (.cells #[.int .i64 a.alphabet, .int .i64 a.states, .slice aE1 a.edges.length cE1] 25)).alloc (.cells #[.int .i64 b.alphabet, .int .i64 b.states, .slice aE2 b.edges.length cE2] 25)) := ⟨_, rfl⟩
  have he : Ext w wo := by rw [hwo]; exact (Ext.alloc _ _).trans (Ext.alloc _ _)
  have b1 : Blk wo w.heap.size #[.int .i64 a.alphabet, .int .i64 a.states, .slice aE1 a.edges.length cE1] 25 := by rw [hwo]; exact Ext.blk (Ext.alloc _ _)
  have b2 : Blk wo (w.heap.size + 1) #[.int .i64 b.alphabet, .int .i64 b.states, .slice aE2 b.edges.length cE2] 25 := by rw [hwo]; exact Ext.blk1 (Ext.refl _)
  clear k1 k3
  go_enter Tryd.func6, Tryd.ntmps6
  go_wp2_with fail
  rw [← hwo]
  clear hwo
  have b1_0 := b1.cell 0 rfl; have b1_1 := b1.cell 1 rfl; have b1_2 := b1.cell 2 rfl
  have b2_0 := b2.cell 0 rfl; have b2_1 := b2.cell 1 rfl; have b2_2 := b2.cell 2 rfl
  go_wp2_with fail
  refine (FirstTraceOutside_c _ _ a b _ (HA.out.mono he) (HB.out.mono he) (HT.out.ext he)).mono ?_
  rintro e w1 ⟨r, hr, rfl, he1⟩
  have HR := Lib.hid (TraceR.within hr)
  clear hr
  clear b1_0 b1_1 b1_2 b2_0 b2_1 b2_2
  replace b1 := b1.ext he1
  replace b2 := b2.ext he1
  replace he := he.trans he1
  have b1_0 := b1.cell 0 rfl; have b1_1 := b1.cell 1 rfl; have b1_2 := b1.cell 2 rfl
  have b2_0 := b2.cell 0 rfl; have b2_1 := b2.cell 1 rfl; have b2_2 := b2.cell 2 rfl
  go_wp2_with fail
  refine (sameAlphabets_c _ _ a b _ (HA.out.mono he) (HB.out.mono he)).mono ?_
  rintro e w2 ⟨rfl, he2⟩
  cases hc : same2 a b with
  | false =>
    go_wp2_with fail
    go_ret
    exact Grows.mk (by rw [← HR.out, hc]; rfl) (he.trans he2)
  | true =>
    go_wp2_with fail
    go_ret
    exact Grows.mk (by rw [← HR.out, hc]; simp) (he.trans he2)
end Go.Proofs.YtanekmfifmkbmaaDoor
