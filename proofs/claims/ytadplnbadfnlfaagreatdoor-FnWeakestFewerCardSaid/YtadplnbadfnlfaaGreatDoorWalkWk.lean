/- Part of this seat's proofs, cut to what its law needs. -/

import Derived.Test.YtadplnbadfnlfaaGreatDoorWalkMi
import Derived.Test.YtadplnbadfnlfaaGreatDoorNumG
import Derived.Test.YtadplnbadfnlfaaGreatDoorPlainM

namespace Go.Proofs.YtadplnbadfnlfaaGreatDoor
open Go Go.RowKit Go.Maps
set_option linter.unusedVariables false
set_option linter.unusedSimpArgs false
set_option maxHeartbeats 4000000
set_option maxRecDepth 100000


theorem IndexI_c (v : Value) (xs : List Int) (x : Int) (w : World) (hv : IntsV w v xs) (hl : xs.length ≤ 1048576) :
    Calls Tryz.prog 196 #[v, .int .i64 x] w (fun e w' => w' = w ∧ ∃ b : Int, e = .returned (.int .i64 b) ∧ (0 ≤ b ↔ x ∈ xs) ∧ -1 ≤ b ∧ b ≤ 1048576) := by
  obtain ⟨a, c, rfl, -, h2⟩ := hv.open
  have H2 := Lib.hid h2
  clear h2
  go_enter Tryz.func196, Tryz.ntmps196
  go_wp2_with fail
  go_loop [8] (fun i => ∃ k : Nat, k ≤ xs.length ∧ i = .int .i64 k ∧ Hid (∀ j, j < k → xs[j]? ≠ some x)) (fun i => xs.length - (intOf i).toNat)
  case atStart => exact ⟨0, by omega, rfl, Lib.hid (fun j hj => by omega)⟩
  case round =>
    obtain ⟨k, hk, rfl, HK⟩ := hrel
    by_cases hlt : k < xs.length
    · obtain ⟨y, hy⟩ : ∃ y, xs[k]? = some y := ⟨_, List.getElem?_eq_getElem hlt⟩
      obtain ⟨b, off, rfl, -, hc⟩ := H2.out k y hy
      have g1 : w.cell? ⟨b, off + k, none⟩ = some (.int .i64 y) := by have := hc k y hy; rw [Nat.mul_one] at this; exact this
      have hk2 : (k : Int) < (xs.length : Int) := by omega
      have HY := Lib.hid hy
      clear hc hy
      by_cases hxy : x = y
      · have HXY := Lib.hid hxy
        have he1 : (x == y) = true := by simpa using hxy
        clear hxy
        go_wp2_with fail
        go_ret
        refine ⟨rfl, (k : Int), rfl, ⟨fun _ => ?_, fun _ => by omega⟩, by omega, by omega⟩
        rw [HXY.out]
        exact List.mem_of_getElem? HY.out
      · have HXY := Lib.hid hxy
        have he1 : (x == y) = false := by simpa using hxy
        clear hxy
        go_wp2_with fail
        refine ⟨⟨k + 1, by omega, by go_num, Lib.hid (fun j hj e => ?_)⟩, by simp [intOf]; omega⟩
        by_cases hjk : j < k
        · exact HK.out j hjk e
        · obtain rfl : j = k := by omega
          rw [HY.out] at e
          exact HXY.out (Option.some.inj e).symm
    · obtain rfl : k = xs.length := by omega
      go_wp2_with fail
      go_ret
      refine ⟨rfl, -1, rfl, ⟨fun h => by omega, fun h => ?_⟩, by omega, by omega⟩
      obtain ⟨j, hj⟩ := List.getElem?_of_mem h
      exact absurd hj (HK.out j (List.getElem?_eq_some_iff.1 hj).1)
theorem ContainsI_c (v : Value) (xs : List Int) (x : Int) (w : World) (hv : IntsV w v xs) (hl : xs.length ≤ 1048576) {b : Bool} (hb : decide (x ∈ xs) = b) :
    Calls Tryz.prog 111 #[v, .int .i64 x] w (Same (.bool b) w) := by
  have HI := Lib.hid (IndexI_c v xs x w hv hl)
  have HB := Lib.hid hb
  clear hv hb
  go_enter Tryz.func111, Tryz.ntmps111
  go_wp2_with fail
  refine HI.out.mono ?_
  rintro e w' ⟨rfl, r, rfl, hr, hr1, hr2⟩
  have HR := Lib.hid hr
  clear hr
  by_cases h0 : 0 ≤ r
  · go_wp2_with fail
    go_ret
    exact Same.mk (by rw [← HB.out, decide_eq_true (HR.out.1 h0)]; rfl)
  · have h0' : r < 0 := by omega
    go_wp2_with fail
    go_ret
    exact Same.mk (by rw [← HB.out, decide_eq_false (fun h => absurd (HR.out.2 h) (by omega))]; show Value.bool (decide (0 ≤ r)) = _; rw [decide_eq_false (by omega)])


structure SafW (t : Task) (K : SK) (w2 : World) : Prop where
  task : taskValid t = true
  obs : ∀ w'', Tnd (SS K) w2 w'' → SafO t K w''
  deb : ∀ w'', Tnd (SS K) w2 w'' → Deb w''
def JW (t : Task) (K : SK) (w2 : World) (b4 : Nat) (c : Nat) (g : List Sets) (w : World) : Prop :=
  (∃ rows, SafAt t K g rows w) ∧ Tnd (SS K) w2 w ∧ Blk w b4 #[.pointer (some ⟨K.B, 0, none⟩)] 142 ∧ g.length ≤ c + 1
def StepWEnd (t : Task) (K : SK) (w2 : World) (b4 c : Nat) (g : List Sets) (n' : Option Sets) (w : World) (e : Ending) (w'' : World) : Prop :=
  ∃ g' x', e = .returned (.int .i64 x') ∧ (∀ y k, RepW t g y k → RepW t g' y k) ∧ RepW t g' x' n' ∧ JW t K w2 b4 (c + 1) g' w'' ∧ Touch eK K.bm K.B w w''
theorem nxW_some (t : Task) (f : Sets) (l : Int) : nxW t (some f) l = if badM t (afterM t f l) then none else some (afterM t f l) := rfl
theorem stepW_c (t : Task) (K : SK) (w2 w : World) (b4 c : Nat) (g : List Sets) (x : Int) (n : Option Sets) (l : Nat) (hW : SafW t K w2) (hJ : JW t K w2 b4 c g w) (hc : c ≤ 1000) (hr : RepW t g x n) (hl : l < 6) (hb4 : b4 ≠ K.bm) :
    Calls Tryz.prog 108 #[.int .i64 x, .int .i64 l, .pointer (some ⟨b4, 0, none⟩)] w (StepWEnd t K w2 b4 c g (nxW t n (l : Nat)) w) := by
  obtain ⟨hs, hp, hA⟩ := taskValid_facts hW.task
  obtain ⟨⟨rows, hS⟩, hT, hB4, hlen⟩ := hJ
  obtain ⟨hnd, h2000, hx⟩ := hr
  have d4 := hB4.cell 0 rfl
  rcases hx with ⟨rfl, rfl⟩ | ⟨k, f, rfl, hk, rfl, hbad⟩
  · have hend : StepWEnd t K w2 b4 c g (nxW t none (l : Nat)) w (.returned (.int .i64 (-1))) w := ⟨g, -1, rfl, fun _ _ h => h, RepW.none hnd h2000, ⟨⟨rows, hS⟩, hT, hB4, by omega⟩, Touch.refl _ _ _ _⟩
    have HE := Lib.hid hend
    clear hend hS hT hB4 hnd hs hp hA hW
    go_enter Tryz.func108, Tryz.ntmps108
    go_wp2_with fail
    go_ret
    exact HE.out
  · have HAF := Lib.hid (after_k t K f k l g rows w w hs hp hk hl (by omega) (fun w' h => hW.obs w' (hT.trans (TK.tnd h))) (fun w' h => hW.deb w' (hT.trans (TK.tnd h))) (Touch.refl _ _ _ _) hS)
    have HT := Lib.hid hT
    have HB := Lib.hid hB4
    have HND := Lib.hid hnd
    have hk1 : ((k : Int) == -1) = false := by simp
    clear hS hT hB4 hnd hs hp hA hW hk hbad
    go_enter Tryz.func108, Tryz.ntmps108
    go_wp2_with fail
    refine HAF.out.mono ?_
    rintro e w3 ⟨k', nodes', rows', rfl, hk', hpre, hle, -, hS3, ht3⟩
    have hB43 := Touch.blk ht3 HB.out rfl hb4
    have d43 := hB43.cell 0 rfl
    have HS := Lib.hid hS3
    have HT3 := Lib.hid ht3
    have HB3 := Lib.hid hB43
    have HPRE := Lib.hid hpre
    obtain ⟨vs, vx, vu, D, nm, hX, hnm, hKM, hst⟩ := hS3
    have HN' := Lib.hid hst.nodup
    have hnb := (List.getElem?_eq_some_iff.1 hk').1
    obtain ⟨us, hue⟩ : ∃ us, nodes'.map (badM t) = us := ⟨_, rfl⟩
    rw [hue] at hX
    have hua : us[k']? = some (badM t (afterM t f (l : Nat))) := by rw [← hue, List.getElem?_map, hk']; rfl
    have hul : us.length = nodes'.length := by rw [← hue, List.length_map]
    obtain ⟨gU, cU, rfl, hcu⟩ := own_at hX.pU (j := k') (u := .bool (badM t (afterM t f (l : Nat)))) (by rw [List.getElem?_map, hua]; rfl)
    have d13 := hX.c13
    have hnu : (k' : Int) < (us.length : Int) := by omega
    have hk2 : ((k' : Int) == -1) = false := by simp
    have HK' := Lib.hid hk'
    have hl2 : nodes'.length ≤ 2000 := by omega
    have HEXT : Hid (∀ y k, RepW t g y k → RepW t nodes' y k) := Lib.hid (fun y m h => h.ext HPRE.out HN'.out hl2)
    have HJ : Hid (JW t K w2 b4 (c + 1) nodes' w3) := Lib.hid ⟨⟨_, HS.out⟩, HT.out.trans (TK.tnd ht3), hB43, by omega⟩
    clear hue hua hKM hst hX hul hk' hpre ht3 hB43 d4
    obtain ⟨bd, hbd⟩ : ∃ bd, badM t (afterM t f (l : Nat)) = bd := ⟨_, rfl⟩
    rw [hbd] at hcu
    have HBD := Lib.hid hbd
    clear hbd
    cases bd with
    | true =>
      go_wp2_with fail
      go_ret
      exact ⟨nodes', -1, rfl, HEXT.out, by rw [nxW_some, HBD.out]; exact RepW.none HN'.out hl2, HJ.out, HT3.out⟩
    | false =>
      go_wp2_with fail
      go_ret
      exact ⟨nodes', (k' : Int), rfl, HEXT.out, by rw [nxW_some, HBD.out]; exact RepW.some HN'.out hl2 HK'.out HBD.out, HJ.out, HT3.out⟩
theorem enter_weak (args : Array Value) (w : World) : (callFunc 108 args).run Tryz.prog w = .ok (.enter 108 args) w := rfl
theorem SafAt.kept {t : Task} {K : SK} {g : List Sets} {rows : List (List Int)} {mN bs : Nat} {w' w'' : World} (h : SafAt t K g rows w') (hm : K.bm < mN) (hnc : NoCells w' mN) (ht : Touch eN mN bs w' w'') : SafAt t K g rows w'' := by
  obtain ⟨vs, vx, vu, D, nm, hX, hnm, hKM, hst⟩ := h
  refine ⟨vs, vx, vu, D, nm, ⟨ht.blk hX.box rfl (fun e => ?_), ⟨fun s hs => ?_, hX.pool.apt⟩, hX.ty, ht.mapKept hX.map (by omega)⟩, hnm, hKM, hst⟩
  · have h' : w'.heap[K.B]? = _ := hX.box
    rw [e] at h'
    exact hnc _ _ _ h'
  · refine ht.keptN (hX.pool.own s hs) ?_ hnc
    simp only [List.mem_cons, List.mem_nil_iff, or_false] at hs
    rcases hs with rfl | rfl | rfl <;> rfl
theorem nxg_weak {t : Task} {K : SK} {w2 : World} {b4 bs : Nat} (hW : SafW t K w2) (hb4 : b4 ≠ K.bm) (hbs : K.bm < bs) (hbs2 : K.B ≤ bs) :
    NxG (RepW t) (JW t K w2 b4) eK K.bm K.B bs (letters t.alphabet) (.func (.func 108) #[] #[.pointer (some ⟨b4, 0, none⟩)]) (nxW t) where
  fn := by
    have hA := (taskValid_facts hW.task).2.2
    obtain ⟨a0, a1⟩ := alpha_facts hA
    refine ⟨_, _, rfl, enter_weak, fun c g w' x n l hJ hc hr hl => ?_⟩
    obtain ⟨hl0, hl6⟩ := letters_lt6 a1 l hl
    obtain ⟨lt, rfl⟩ := Int.eq_ofNat_of_zero_le hl0
    exact stepW_c t K w2 w' b4 c g x n lt hW hJ hc hr (by omega) hb4
  rng := fun g x n h => h.rng
  inj := fun g x y n k h h' => h.inj h'
  keep := fun c g w' w'' mN hm hnc hJ ht => by
    obtain ⟨⟨rows, hS⟩, hT, hB4, hlen⟩ := hJ
    refine ⟨⟨rows, hS.kept (by omega) hnc ht⟩, hT.trans (Tnd.imp ht fun b hb => ?_), ht.blk hB4 rfl (fun e => ?_), hlen⟩
    · rcases hb with rfl | ⟨hb, -⟩
      · exact .inr (by omega)
      · exact .inr (by omega)
    · have h' : w'.heap[b4]? = _ := hB4
      rw [e] at h'
      exact hnc _ _ _ h'
end Go.Proofs.YtadplnbadfnlfaaGreatDoor

namespace Go.Proofs.YtadplnbadfnlfaaGreatDoor
open Go Go.RowKit Go.Maps
set_option linter.unusedVariables false
set_option linter.unusedSimpArgs false
set_option maxHeartbeats 4000000
set_option maxRecDepth 100000

def WeakEnd (t : Task) (w : World) (e : Ending) (w' : World) : Prop :=
  ∃ r, WeakR t r ∧ Ext w w' ∧ ((r = none ∧ e = .returned (.tuple #[.agg #[.int .i64 0, .slice none 0 0, .slice none 0 0], .bool false])) ∨ ∃ B v', r = some B ∧ e = .returned (.tuple #[v', .bool true]) ∧ AutoOwn w.heap.size w' v' B)

theorem reps_none {t : Task} {g : List Sets} {xs : List Int} {ns : List (Option Sets)} (h : Reps (RepW t g) xs ns) : (-1 : Int) ∈ xs ↔ none ∈ ns := by
  constructor
  · intro hx
    obtain ⟨i, hi⟩ := List.getElem?_of_mem hx
    obtain ⟨n, hn, -, -, hr⟩ := h.at' hi
    rcases hr with ⟨-, rfl⟩ | ⟨k, f, e, -⟩
    · exact List.mem_of_getElem? hn
    · omega
  · intro hx
    obtain ⟨i, hi⟩ := List.getElem?_of_mem hx
    obtain ⟨x, hx, -, -, hr⟩ := h.at hi
    rcases hr with ⟨rfl, -⟩ | ⟨k, f, -, -, e, -⟩
    · exact List.mem_of_getElem? hx
    · cases e
theorem reps_at {t : Task} {g : List Sets} {xs : List Int} {ns : List (Option Sets)} (h : Reps (RepW t g) xs ns) {i : Nat} {n : Option Sets} (hi : ns[i]? = some n) : ∃ x, xs[i]? = some x ∧ n.isSome = (x != -1) := by
  obtain ⟨x, hx, -, -, hr⟩ := h.at hi
  refine ⟨x, hx, ?_⟩
  rcases hr with ⟨rfl, rfl⟩ | ⟨k, f, rfl, -, rfl, -⟩
  · rfl
  · simp

theorem WeakestAssumption_c (v : Value) (t : Task) (w : World) (hV : TaskV w v t) (hT : Deb w) :
    Calls Tryz.prog 39 #[v] w (WeakEnd t w) := by
  have HDb := Lib.hid hT
  obtain ⟨ve, vn, va, rfl, h1, h2, h3⟩ := hV
  obtain ⟨ae, ce, rfl, -, -⟩ := h1.open
  obtain ⟨an, cn, rfl, -, -⟩ := h2.open
  obtain ⟨aa, ca, rfl, -, -⟩ := h3.open
  have HV := Lib.hid (show ∀ w', Ext w w' → TaskV w' (.agg #[.int .i64 t.sys.alphabet, .int .i64 t.sys.states, .slice ae t.sys.edges.length ce, .int .i64 t.prop.alphabet, .slice an t.prop.next.length cn, .slice aa t.prop.accept.length ca, .int .i64 t.alphabet]) t from fun w' h => ⟨_, _, _, rfl, h1.mono h, h2.mono h, h3.mono h⟩)
  clear h1 h2 h3 hT
  have HTV := Lib.hid (fun w' (h : Ext w w') => TaskValid_c _ t w' (HV.out w' h))
  obtain ⟨wo, hwo⟩ : ∃ wo, wo = (w.alloc (.cells #[.int .i64 t.sys.alphabet, .int .i64 t.sys.states, .slice ae t.sys.edges.length ce, .int .i64 t.prop.alphabet, .slice an t.prop.next.length cn, .slice aa t.prop.accept.length ca, .int .i64 t.alphabet] 57)).alloc (.cells #[.int .i64 0, .slice none 0 0, .slice none 0 0] 31) := ⟨_, rfl⟩
  have he : Ext w wo := by rw [hwo]; exact (Ext.alloc _ _).trans (Ext.alloc _ _)
  have b1 : Blk wo w.heap.size #[.int .i64 t.sys.alphabet, .int .i64 t.sys.states, .slice ae t.sys.edges.length ce, .int .i64 t.prop.alphabet, .slice an t.prop.next.length cn, .slice aa t.prop.accept.length ca, .int .i64 t.alphabet] 57 := by rw [hwo]; exact Ext.blk (Ext.alloc _ _)
  have b2 : Blk wo (w.heap.size + 1) #[.int .i64 0, .slice none 0 0, .slice none 0 0] 31 := by rw [hwo]; exact Ext.blk1 (Ext.refl _)
  by_cases ht : taskValid t = true
  case neg =>
    have ht : taskValid t = false := by simpa using ht
    have HT := Lib.hid ht
    rw [ht] at HTV
    clear ht
    go_enter Tryz.func39, Tryz.ntmps39
    go_upto_region 1 with fail
    rw [← hwo]
    clear hwo
    have cc0 := b1.cell 0 rfl; have cc1 := b1.cell 1 rfl; have cc2 := b1.cell 2 rfl; have cc3 := b1.cell 3 rfl; have cc4 := b1.cell 4 rfl; have cc5 := b1.cell 5 rfl; have cc6 := b1.cell 6 rfl
    go_wp2_with fail
    refine (HTV.out _ he).mono ?_
    rintro e w1 ⟨rfl, he1⟩
    replace he := he.trans he1
    replace b2 := b2.ext he1
    clear cc0 cc1 cc2 cc3 cc4 cc5 cc6 b1
    have rc0 := b2.cell 0 rfl; have rf0 := b2.fr 0; have rc1 := b2.cell 1 rfl; have rf1 := b2.fr 1; have rc2 := b2.cell 2 rfl; have rf2 := b2.fr 2
    go_wp2_with fail
    refine bodyPost_ret (v := .tuple #[.agg #[.int .i64 0, .slice none 0 0, .slice none 0 0], .bool false]) (by simp [results, Tryz.results39, go_sem, rc0, rc1, rc2, rf0, rf1, rf2]) rfl ?_
    exact ⟨none, .inl ⟨rfl, .inl HT.out⟩, (((he.setCell (p := ⟨(w.heap.size + 1), 0, none⟩) (by simp only []; omega) _).setCell (p := ⟨(w.heap.size + 1), 1, none⟩) (by simp only []; omega) _).setCell (p := ⟨(w.heap.size + 1), 2, none⟩) (by simp only []; omega) _), .inl ⟨rfl, rfl⟩⟩
  rw [ht] at HTV
  obtain ⟨hs, hp, hA⟩ := taskValid_facts ht
  obtain ⟨ha0, ha63⟩ := alpha_facts hA
  have HT := Lib.hid ht
  clear ht
  go_enter Tryz.func39, Tryz.ntmps39
  go_upto_region 1 with fail
  rw [← hwo]
  clear hwo
  have cc0 := b1.cell 0 rfl; have cc1 := b1.cell 1 rfl; have cc2 := b1.cell 2 rfl; have cc3 := b1.cell 3 rfl; have cc4 := b1.cell 4 rfl; have cc5 := b1.cell 5 rfl; have cc6 := b1.cell 6 rfl
  go_wp2_with fail
  refine (HTV.out _ he).mono ?_
  rintro e w1 ⟨rfl, he1⟩
  replace he := he.trans he1
  replace b1 := b1.ext he1
  replace b2 := b2.ext he1
  have hl1w := b2.lt
  clear cc0 cc1 cc2 cc3 cc4 cc5 cc6 he1
  clear wo
  have cc0 := b1.cell 0 rfl; have cc1 := b1.cell 1 rfl; have cc2 := b1.cell 2 rfl; have cc3 := b1.cell 3 rfl; have cc4 := b1.cell 4 rfl; have cc5 := b1.cell 5 rfl; have cc6 := b1.cell 6 rfl
  go_wp2_with fail
  refine (newSafety_c _ t _ (HV.out _ he) HT.out (HDb.out.ext he)).mono ?_
  rintro e w2 ⟨K, rows0, rfl, hS2, hO2, he2, hm2, hB2⟩
  have hsz1 := he.size
  replace he := he.trans he2
  replace b1 := b1.ext he2
  replace b2 := b2.ext he2
  have hbm2 : K.bm < w2.heap.size := by
    obtain ⟨vs, vx, vu, D, nm, hX, -⟩ := hS2
    obtain ⟨es, clock, h1, -⟩ := hX.map
    exact (Array.getElem?_eq_some_iff.1 h1).1
  have hB2' : K.B < w2.heap.size := by
    obtain ⟨vs, vx, vu, D, nm, hX, -⟩ := hS2
    exact hX.box.lt
  have l2w : w.heap.size + 1 < K.bm ∧ w.heap.size + 1 < K.B := by
    omega
  have hlow : ∀ w', Tnd (SS K) w2 w' → Ext w w' := fun w' h => Below.trans he (h.below he.size fun b hb => by
    rcases hb with rfl | hb
    · omega
    · omega)
  have HLOW := Lib.hid hlow
  have HSW : Hid (SafW t K w2) := Lib.hid ⟨HT.out, hO2, fun w'' h => HDb.out.ext (hlow w'' h)⟩
  clear cc0 cc1 cc2 cc3 cc4 cc5 cc6 hO2 he2 hlow hm2 hB2 hsz1
  go_upto_region 4 with fail
  obtain ⟨w3, hw3⟩ : ∃ w3, w3 = w2.alloc (.cells #[.pointer (some ⟨K.B, 0, none⟩)] 142) := ⟨_, rfl⟩
  have y3 : Ext w2 w3 := by rw [hw3]; exact Ext.alloc _ _
  have b4 : Blk w3 w2.heap.size #[.pointer (some ⟨K.B, 0, none⟩)] 142 := by rw [hw3]; exact Blk.new _ _ _
  rw [← hw3]
  clear hw3
  replace b1 := b1.ext y3
  replace b2 := b2.ext y3
  have hS3 := hS2.ext y3
  have l3 : w2.heap.size < w3.heap.size := b4.lt
  obtain ⟨p4, hp4⟩ : ∃ p4, w2.heap.size = p4 := ⟨_, rfl⟩
  rw [hp4] at b4 l3 hbm2 hB2' ⊢
  have y3t : Tnd (SS K) w2 w3 := Tnd.ext y3
  clear hS2 y3 he
  have cc0 := b1.cell 0 rfl; have cc1 := b1.cell 1 rfl; have cc2 := b1.cell 2 rfl; have cc3 := b1.cell 3 rfl; have cc4 := b1.cell 4 rfl; have cc5 := b1.cell 5 rfl; have cc6 := b1.cell 6 rfl
  go_wp2_with fail
  refine (lettersOf_o _ _ ha0 ha63).mono ?_
  rintro e w4 ⟨vl, rfl, he4, hLo⟩
  have b14 := b1.ext he4
  have b24 := b2.ext he4
  have b44 := b4.ext he4
  have hS4 := hS3.ext he4
  have ht4 : Tnd (SS K) w2 w4 := y3t.trans (Tnd.ext he4)
  have hJ4 : JW t K w2 p4 0 [closeM t startM] w4 := ⟨⟨_, hS4⟩, ht4, b44, by simp⟩
  have sz4 : w3.heap.size ≤ w4.heap.size := he4.size
  obtain ⟨vs, vx, vu, D, nm, hX, -, -, hst⟩ := hS4
  have hnd1 := hst.nodup
  obtain ⟨gU, cU, rfl, hcu⟩ := own_at hX.pU (j := 0) (u := .bool (badM t (closeM t startM))) rfl
  have d13 := hX.c13
  have d4 := b44.cell 0 rfl
  have HJ4 := Lib.hid hJ4
  have HL := Lib.hid hLo
  have hL6 : (letters t.alphabet).length ≤ 6 := lettersTo_len t.alphabet 6
  have HN := Lib.hid (nxg_weak (bs := w4.heap.size) HSW.out (show p4 ≠ K.bm by omega) (by omega) (by omega))
  have HR0 : Hid (RepW t [closeM t startM] (if badM t (closeM t startM) then -1 else 0) (startW t)) := Lib.hid (by
    unfold startW
    cases hb : badM t (closeM t startM) with
    | true => exact RepW.none hnd1 (by simp)
    | false => exact RepW.some hnd1 (by simp) (k := 0) rfl hb)
  obtain ⟨bd, hbd⟩ : ∃ bd, badM t (closeM t startM) = bd := ⟨_, rfl⟩
  rw [hbd] at hcu HR0
  have HNUM := Lib.hid (numbered_g (RepW t) (JW t K w2 p4) eK K.bm K.B w3.heap.size (if bd then -1 else 0) (startW t) [closeM t startM] 41 vl _ (letters t.alphabet) (nxW t) w4 hLo (by omega) (by omega) rfl rfl hL6 (by omega) (by omega) hJ4 HR0.out HN.out)
  obtain ⟨aL, cL, rfl⟩ := hLo.shape
  clear hnd1 hbd hX hst hS3 cc0 cc1 cc2 cc3 cc4 cc5 cc6 b1 b2 b4 hLo hJ4 HJ4 HL HN HR0 y3t
  have KEEP : Hid (∀ w5 : World, Touch eK K.bm K.B w4 w5 → Ext w w5 ∧ Blk w5 w.heap.size #[.int .i64 t.sys.alphabet, .int .i64 t.sys.states, .slice ae t.sys.edges.length ce, .int .i64 t.prop.alphabet, .slice an t.prop.next.length cn, .slice aa t.prop.accept.length ca, .int .i64 t.alphabet] 57 ∧ Blk w5 (w.heap.size + 1) #[.int .i64 0, .slice none 0 0, .slice none 0 0] 31) := Lib.hid (fun w5 h => ⟨HLOW.out _ (ht4.trans (TK.tnd h)), Touch.blk h b14 rfl (by omega), Touch.blk h b24 rfl (by omega)⟩)
  obtain ⟨x0, hx0⟩ : ∃ x0 : Int, x0 = (if bd then -1 else 0) := ⟨_, rfl⟩
  rw [← hx0] at HNUM
  go_upto_if 30 with fail
  go_cut [7] (fun x wc => x = .int .i64 x0 ∧ w4 = wc)
  case first =>
    cases bd with
    | true =>
      go_wp2_with fail
      go_meet
      case rel => exact ⟨by rw [hx0]; rfl, rfl⟩
    | false =>
      go_wp2_with fail
      go_meet
      case rel => exact ⟨by rw [hx0]; rfl, rfl⟩
  case rest =>
    obtain ⟨rfl, rfl⟩ := hcut
    clear hcu d13 d4 hx0 b14 b24 b44
    go_wp2_with fail
    refine HNUM.out.mono ?_
    rintro e w5 ⟨ht5, c5, g5, hJ5, hres⟩
    obtain ⟨hx5, b15, b25⟩ := KEEP.out _ ht5
    have s45 := ht5.size
    clear HNUM ht5 hJ5
    rcases hres with ⟨ns, xs, vS, vR, vs', rows, rfl, hnum, hlen, hrep, hP, hrows, hvl⟩ | ⟨rfl, htm⟩
    case inr =>
      have rc0 := b25.cell 0 rfl; have rf0 := b25.fr 0; have rc1 := b25.cell 1 rfl; have rf1 := b25.fr 1; have rc2 := b25.cell 2 rfl; have rf2 := b25.fr 2
      have HW : Hid (WeakR t none) := Lib.hid (.inl ⟨rfl, .inr ⟨HT.out, .inl (many_good htm)⟩⟩)
      clear htm
      go_wp2_with fail
      refine bodyPost_ret (v := .tuple #[.agg #[.int .i64 0, .slice none 0 0, .slice none 0 0], .bool false]) (by simp [results, Tryz.results39, go_sem, rc0, rc1, rc2, rf0, rf1, rf2]) rfl ?_
      exact ⟨none, HW.out, (((hx5.setCell (p := ⟨(w.heap.size + 1), 0, none⟩) (by simp only []; omega) _).setCell (p := ⟨(w.heap.size + 1), 1, none⟩) (by simp only []; omega) _).setCell (p := ⟨(w.heap.size + 1), 2, none⟩) (by simp only []; omega) _), .inl ⟨rfl, rfl⟩⟩
    have hxl : xs.length = ns.length := hrep.len
    obtain ⟨aR, cR, rfl⟩ := own_any' (Pool.hd2 hP)
    obtain ⟨aS, cS, rfl⟩ := own_any' (Pool.hd hP)
    have HCON := Lib.hid (fun b (h : decide ((-1 : Int) ∈ xs) = b) => ContainsI_c _ xs (-1) w5 (own_ints (Pool.hd hP) hxl) (by omega) h)
    have HREP := Lib.hid hrep
    have HNU := Lib.hid hnum
    have HRW := Lib.hid hrows
    have HVL := Lib.hid hvl
    have HXL := Lib.hid hxl
    have HPP := Lib.hid hP
    clear hP hrep hnum hrows hvl hxl
    go_upto_region 10 with fail
    go_cut [50] (fun x wc => ∃ bb : Bool, x = .bool bb ∧ Hid (bb = true → TooGood t) ∧ Hid (bb = false → ¬ TooGood t) ∧ w5 = wc)
    case first =>
      by_cases h40 : ns.length ≤ 40
      · have HG : Hid (¬ TooGood t) := Lib.hid (nodes_few HNU.out (.inl h40))
        have h40' : ¬ ((40 : Int) < (ns.length : Int)) := by omega
        clear h40 HCON
        go_wp2_with fail
        go_meet
        case rel => exact ⟨_, rfl, Lib.hid (fun h => by cases h), Lib.hid (fun _ => HG.out), rfl⟩
      · have h40' : (40 : Int) < (ns.length : Int) := by omega
        by_cases hm : none ∈ ns
        · have HG : Hid (¬ TooGood t) := Lib.hid (nodes_few HNU.out (.inr ⟨hlen, hm⟩))
          have HC := Lib.hid (HCON.out true (by simpa using (reps_none HREP.out).2 hm))
          clear h40 HCON hm
          go_wp2_with (go_at_call 111; refine HC.out.mono ?_; rintro e w' ⟨rfl, rfl⟩)
          go_meet
          case rel => exact ⟨_, rfl, Lib.hid (fun h => by cases h), Lib.hid (fun _ => HG.out), rfl⟩
        · have HG : Hid (TooGood t) := Lib.hid (nodes_good HNU.out (by omega) hm)
          have HC := Lib.hid (HCON.out false (by simpa using fun h => hm ((reps_none HREP.out).1 h)))
          clear h40 HCON hm
          go_wp2_with (go_at_call 111; refine HC.out.mono ?_; rintro e w' ⟨rfl, rfl⟩)
          go_meet
          case rel => exact ⟨_, rfl, Lib.hid (fun _ => HG.out), Lib.hid (fun h => by cases h), rfl⟩
    case rest =>
      obtain ⟨bb, rfl, HB1, HB2, rfl⟩ := hcut
      cases bb with
      | true =>
        have rc0 := b25.cell 0 rfl; have rf0 := b25.fr 0; have rc1 := b25.cell 1 rfl; have rf1 := b25.fr 1; have rc2 := b25.cell 2 rfl; have rf2 := b25.fr 2
        have HW : Hid (WeakR t none) := Lib.hid (.inl ⟨rfl, .inr ⟨HT.out, .inl (HB1.out rfl)⟩⟩)
        go_wp2_with fail
        refine bodyPost_ret (v := .tuple #[.agg #[.int .i64 0, .slice none 0 0, .slice none 0 0], .bool false]) (by simp [results, Tryz.results39, go_sem, rc0, rc1, rc2, rf0, rf1, rf2]) rfl ?_
        exact ⟨none, HW.out, (((hx5.setCell (p := ⟨(w.heap.size + 1), 0, none⟩) (by simp only []; omega) _).setCell (p := ⟨(w.heap.size + 1), 1, none⟩) (by simp only []; omega) _).setCell (p := ⟨(w.heap.size + 1), 2, none⟩) (by simp only []; omega) _), .inl ⟨rfl, rfl⟩⟩
      | false =>
        have HNT := Lib.hid (HB2.out rfl)
        clear HB1 HB2 HCON
        obtain ⟨base, hbase⟩ : ∃ base, w4.heap.size = base := ⟨_, rfl⟩
        have hP := HPP.out
        rw [hbase] at hP s45
        have l2b : w.heap.size + 1 < base := by omega
        clear HPP
        have cc0 := b15.cell 0 rfl; have cc1 := b15.cell 1 rfl; have cc2 := b15.cell 2 rfl; have cc3 := b15.cell 3 rfl; have cc4 := b15.cell 4 rfl; have cc5 := b15.cell 5 rfl; have cc6 := b15.cell 6 rfl
        go_upto_region 13 with fail
        obtain ⟨w6, hw6⟩ : ∃ w6, w6 = w5.alloc (.cells #[.int .i64 t.alphabet, .slice aR ns.length cR, .slice none 0 0] 31) := ⟨_, rfl⟩
        have y6 : Ext w5 w6 := by rw [hw6]; exact Ext.alloc _ _
        have b7 : Blk w6 w5.heap.size #[.int .i64 t.alphabet, .slice aR ns.length cR, .slice none 0 0] 31 := by rw [hw6]; exact Blk.new _ _ _
        rw [← hw6]
        clear hw6
        have he6 := hx5.trans y6
        have b26 := b25.ext y6
        replace hP := (hP.ext y6).addNil 4 1
        have sN6 : base ≤ w6.heap.size := Nat.le_trans s45 y6.size
        clear y6 cc0 cc1 cc2 cc3 cc4 cc5 cc6 b15 b25 hx5
        obtain ⟨G, hG⟩ : ∃ G, w5.heap.size = G := ⟨_, rfl⟩
        rw [hG] at b7 s45 ⊢
        clear hG
        go_wp2_with fail
        go_loopw [58] (fun i wr => ∃ (k : Nat) (va : Value), k ≤ ns.length ∧ i = .int .i64 k ∧ Blk wr G #[.int .i64 t.alphabet, .slice aR ns.length cR, va] 31 ∧ Pool base wr (⟨4, 1, va, k, ((ns.take k).map Option.isSome).map Value.bool⟩ :: numPoolI (.slice aS ns.length cS) (.slice aR ns.length cR) ns.length xs ns.length vs' rows) ∧ Blk wr (w.heap.size + 1) #[.int .i64 0, .slice none 0 0, .slice none 0 0] 31 ∧ Ext w wr ∧ base ≤ wr.heap.size) (fun i _ => ns.length - (intOf i).toNat)
        case atStart => exact ⟨0, _, by omega, rfl, b7, hP, b26, he6, sN6⟩
        case round =>
          clear b7 hP b26 he6 sN6
          obtain ⟨k, va, hk, rfl, b7, hP, b2, he, hsz⟩ := hrel
          obtain ⟨aA, cA, rfl⟩ := own_any' (Pool.hd hP)
          by_cases hlt : k < ns.length
          · obtain ⟨n, hnk⟩ : ∃ n, ns[k]? = some n := ⟨_, List.getElem?_eq_getElem (by omega)⟩
            obtain ⟨x, hxk, hxz⟩ := reps_at HREP.out hnk
            obtain ⟨gS, cS', e6, gs⟩ := own_at (Pool.hd2 hP) (j := k) (u := .int .i64 x) (by rw [List.getElem?_map, hxk]; rfl)
            cases e6
            have HNK := Lib.hid hnk
            have i2 : (k : Int) < (ns.length : Int) := by omega
            have d72 := b7.cell 2 rfl
            have HZ := Lib.hid hxz
            have hfin : ∀ (w7 : World) (a1 : Option Addr) (c1 : Nat), Pool base w7 (⟨4, 1, .slice a1 (k + 1) c1, k + 1, ((ns.take k).map Option.isSome).map Value.bool ++ [Value.bool (x != -1)]⟩ :: numPoolI (.slice (some ⟨gS, 0, none⟩) ns.length cS) (.slice aR ns.length cR) ns.length xs ns.length vs' rows) → Blk w7 G #[.int .i64 t.alphabet, .slice aR ns.length cR, .slice aA k cA] 31 → Pool base (w7.setCell ⟨G, 2, none⟩ (.slice a1 (k + 1) c1)) (⟨4, 1, .slice a1 (k + 1) c1, k + 1, ((ns.take (k + 1)).map Option.isSome).map Value.bool⟩ :: numPoolI (.slice (some ⟨gS, 0, none⟩) ns.length cS) (.slice aR ns.length cR) ns.length xs ns.length vs' rows) := fun w7 a1 c1 hP1 b74 => by
              rw [List.take_add_one, HNK.out, List.map_append, List.map_append, Option.toList_some, List.map_singleton, List.map_singleton, HZ.out]
              exact Pool.set hP1 b74 (fun t ht => by
                rcases List.mem_cons.1 ht with e | ht
                · rw [e]; dsimp only; decide
                rcases numPoolI_e t ht with e | e
                · rw [e]; decide
                · rw [e]; decide) 2 (.slice a1 (k + 1) c1)
            have HFIN := Lib.hid hfin
            clear hxz hnk hxk hfin
            have hn32 : k ≤ 4294967296 := by omega
            go_wp2_with (at_builtin; refine appP (news := [Value.bool (x != -1)]) rfl rfl Tryz.underlying29 infoBool rfl (by decide) hP rfl rfl rfl (by simp [Value.oneCell']) hn32 (by decide) hsz ?_; intro v1 w7 hP1 hg1 hb1; obtain ⟨a1, c1, rfl⟩ := own_any' (Pool.hd hP1); have b74 := b7.grown (Pool.hd hP) hg1 (by decide); have g2 := b74.cell 2 rfl; have f2 := b74.fr 2)
            have hd := Pool.hd hP
            exact ⟨⟨k + 1, _, by omega, by go_num, b74.set 2 (.slice a1 (k + 1) c1), HFIN.out _ a1 c1 hP1 b74, (b2.grown hd hg1 (by decide)).other (p := ⟨G, 2, none⟩) (by simp only []; omega) _, (Below.trans he (hb1.mono (by omega))).setCell (p := ⟨G, 2, none⟩) (by simp only []; omega) _, by simp; exact Nat.le_trans hsz hg1.size⟩, by simp [intOf]; omega⟩
          · obtain rfl : k = ns.length := by omega
            have hAcc : (ns.take ns.length).map Option.isSome = (rawW t ns).accept := by rw [List.take_length]; rfl
            have hEND : AutoOwn base wr (.agg #[.int .i64 t.alphabet, .slice aR ns.length cR, .slice aA ns.length cA]) (rawW t ns) := by
              have hp := (hP.perm (((List.Perm.swap _ _ _).trans ((List.Perm.swap _ _ _).cons _)))).tail
              rw [hAcc] at hp
              refine Pool.auto (x := rawW t ns) (vs := vs') (vn := .slice aR ns.length cR) (va := .slice aA ns.length cA) (w := wr) (base := base) ?_ (by rw [HVL.out]; simp [rawW, autoN])
              have e1 : (rawW t ns).next = rows := by rw [HRW.out]; rfl
              have e2 : (rawW t ns).accept.length = ns.length := by simp [rawW, autoN]
              rw [e1, e2, show rows.length = ns.length by rw [HRW.out, List.length_map]]
              exact hp
            have HMI := Lib.hid (minimize_c _ (rawW t ns) wr hEND.auto (raw_fit ha0 ha63 HNU.out hlen) (by rw [raw_len]; omega))
            have gc0 := b7.cell 0 rfl; have gc1 := b7.cell 1 rfl; have gc2 := b7.cell 2 rfl
            clear hEND hP
            have l2w2 := b2.lt
            go_wp2_with fail
            refine HMI.out.mono ?_
            rintro e w7 ⟨v', B, rfl, he7, hB, hO⟩
            have hBm : IsMin (lngW t) t.alphabet B := by rw [← raw_res ha0 ha63 HNU.out]; exact hB
            have hBa : B.alphabet = t.alphabet := hBm.alphabet
            have HBM := Lib.hid hBm
            obtain ⟨vN', vA', rfl, hO'⟩ := hO
            obtain ⟨aN', cN', rfl⟩ := hO'.1.shape
            obtain ⟨aA', cA', rfl⟩ := hO'.2.shape
            have hOW : AutoOwn w.heap.size w7 (.agg #[.int .i64 B.alphabet, .slice aN' B.next.length cN', .slice aA' B.accept.length cA']) B := AutoOwn.low ⟨_, _, rfl, hO'⟩ he.size
            have b27 := b2.ext he7
            have he8 := he.trans he7
            clear gc0 gc1 gc2 hB hBm hO' b2 b7 hBa
            go_upto_region 19 with fail
            obtain ⟨w8, hw8⟩ : ∃ w8, w8 = w7.alloc (.cells #[.int .i64 B.alphabet, .slice aN' B.next.length cN', .slice aA' B.accept.length cA'] 31) := ⟨_, rfl⟩
            have y8 : Ext w7 w8 := by rw [hw8]; exact Ext.alloc _ _
            have b9 : Blk w8 w7.heap.size #[.int .i64 B.alphabet, .slice aN' B.next.length cN', .slice aA' B.accept.length cA'] 31 := by rw [hw8]; exact Blk.new _ _ _
            rw [← hw8]
            clear hw8
            have b28 := b27.ext y8
            have hO8 := hOW.ext y8
            have hx8 := he8.trans y8
            clear y8 b27 hOW he8
            generalize w7.heap.size = p9 at b9 ⊢
            have gd0 := b9.cell 0 rfl; have gd1 := b9.cell 1 rfl; have gd2 := b9.cell 2 rfl
            have rc0 := b28.cell 0 rfl; have rf0 := b28.fr 0; have rc1 := b28.cell 1 rfl; have rf1 := b28.fr 1; have rc2 := b28.cell 2 rfl; have rf2 := b28.fr 2
            by_cases h12 : B.next.length ≤ 12
            · have hl12 : ¬ ((12 : Int) < (B.next.length : Int)) := by omega
              have HW : Hid (WeakR t (some B)) := Lib.hid (.inr ⟨B, rfl, HT.out, HNT.out, HBM.out, h12⟩)
              have HO8 := Lib.hid hO8
              clear h12 hO8
              go_wp2_with fail
              refine bodyPost_ret (v := .tuple #[.agg #[.int .i64 B.alphabet, .slice aN' B.next.length cN', .slice aA' B.accept.length cA'], .bool true]) (by simp [results, Tryz.results39, go_sem, rc0, rc1, rc2, rf0, rf1, rf2]) rfl ?_
              refine ⟨some B, HW.out, (((hx8.setCell (p := ⟨(w.heap.size + 1), 0, none⟩) (by simp only []; omega) _).setCell (p := ⟨(w.heap.size + 1), 1, none⟩) (by simp only []; omega) _).setCell (p := ⟨(w.heap.size + 1), 2, none⟩) (by simp only []; omega) _), .inr ⟨B, _, rfl, rfl, ?_⟩⟩
              exact auto_store (auto_store (auto_store HO8.out b28 (by decide) (by decide) (by decide) 0 _) (b28.set 0 _) (by decide) (by decide) (by decide) 1 _) ((b28.set 0 _).set 1 _) (by decide) (by decide) (by decide) 2 _
            · have hl12 : (12 : Int) < (B.next.length : Int) := by omega
              have HW : Hid (WeakR t none) := Lib.hid (.inl ⟨rfl, .inr ⟨HT.out, .inr ⟨B, HBM.out, by omega⟩⟩⟩)
              clear h12 hO8
              go_wp2_with fail
              refine bodyPost_ret (v := .tuple #[.agg #[.int .i64 0, .slice none 0 0, .slice none 0 0], .bool false]) (by simp [results, Tryz.results39, go_sem, rc0, rc1, rc2, rf0, rf1, rf2]) rfl ?_
              exact ⟨none, HW.out, (((hx8.setCell (p := ⟨(w.heap.size + 1), 0, none⟩) (by simp only []; omega) _).setCell (p := ⟨(w.heap.size + 1), 1, none⟩) (by simp only []; omega) _).setCell (p := ⟨(w.heap.size + 1), 2, none⟩) (by simp only []; omega) _), .inl ⟨rfl, rfl⟩⟩
end Go.Proofs.YtadplnbadfnlfaaGreatDoor
