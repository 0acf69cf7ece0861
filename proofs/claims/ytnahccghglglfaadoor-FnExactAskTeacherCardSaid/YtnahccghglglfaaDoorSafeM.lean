/- The program's safe words: after, safe, newSafety, SafeWord. -/
import Derived.Test.YtnahccghglglfaaDoorSafeN
import Derived.Test.YtnahccghglglfaaDoorWalkH
import Derived.Test.YtnahccghglglfaaDoorWalkE

namespace Go.Proofs.YtnahccghglglfaaDoor
set_option linter.unusedSimpArgs false
set_option linter.unusedVariables false
open Go.RowKit Go.Maps
set_option maxHeartbeats 4000000
set_option maxRecDepth 100000

theorem flat_at {α : Type} (g : α → List Value) (k : Nat) : ∀ (xs : List α), (∀ x ∈ xs, (g x).length = k) → ∀ (i j : Nat) x u, xs[i]? = some x → (g x)[j]? = some u → (xs.flatMap g)[i * k + j]? = some u := by
  intro xs
  induction xs with
  | nil => intro _ i j x u h; simp at h
  | cons y xs ih =>
    intro hl i j x u hx hu
    rw [List.flatMap_cons]
    have hy := hl y (by simp)
    cases i with
    | zero =>
      simp at hx; subst hx
      have := (List.getElem?_eq_some_iff.1 hu).1
      rw [List.getElem?_append_left (by omega)]; simpa using hu
    | succ i =>
      have h1 := ih (fun z hz => hl z (by simp [hz])) i j x u (by simpa using hx) hu
      rw [List.getElem?_append_right (by rw [hy, Nat.add_mul]; omega), hy, Nat.add_mul]
      rw [show i * k + 1 * k + j - k = i * k + j by omega]
      exact h1
theorem flat_set {α : Type} (g : α → List Value) (k : Nat) : ∀ (xs : List α), (∀ x ∈ xs, (g x).length = k) → ∀ (i j : Nat) x x' u, xs[i]? = some x → j < k → g x' = (g x).set j u → (xs.flatMap g).set (i * k + j) u = (xs.set i x').flatMap g := by
  intro xs
  induction xs with
  | nil => intro _ i j x x' u h; simp at h
  | cons y xs ih =>
    intro hl i j x x' u hx hj hg
    rw [List.flatMap_cons]
    have hy := hl y (by simp)
    cases i with
    | zero =>
      simp at hx; subst hx
      rw [List.set_cons_zero, List.flatMap_cons, hg, Nat.zero_mul, Nat.zero_add, List.set_append_left _ _ (by omega)]
    | succ i =>
      have h1 := ih (fun z hz => hl z (by simp [hz])) i j x x' u (by simpa using hx) hj hg
      rw [List.set_append_right _ _ (by rw [hy, Nat.add_mul]; omega), hy, List.set_cons_succ, List.flatMap_cons, ← h1, Nat.add_mul]
      rw [show i * k + 1 * k + j - k = i * k + j by omega]
theorem prefix_get {α : Type} {l l' : List α} (h : l <+: l') {i : Nat} {x : α} (hx : l[i]? = some x) : l'[i]? = some x := by
  obtain ⟨m, rfl⟩ := h
  rw [List.getElem?_append_left (List.getElem?_eq_some_iff.1 hx).1]; exact hx
theorem own_ne_blk {w : World} {base : Nat} {e T : TypeId} {sz n g c b : Nat} {xs : List Value} {cs : Array Value} (h : w.ownsRow base e sz (.slice (some ⟨g, 0, none⟩) n c) n xs) (hB : Blk w b cs T) (hne : T ≠ e) : g ≠ b := by
  intro heq
  subst heq
  rcases h.2 with ⟨h1, _⟩ | ⟨g', cap, cur, h1, -, hg, _⟩
  · cases h1
  · injection h1 with h1
    injection h1 with h1
    injection h1 with h1
    subst h1
    have h2 : w.heap[g]? = _ := hB
    rw [hg] at h2
    injection h2 with h2
    injection h2 with _ h2
    exact hne h2.symm
theorem grown_set (w : World) (g j : Nat) (u : Value) : w.grownBy (w.setCell ⟨g, j, none⟩ u) (some g) :=
  ⟨rfl, rfl, rfl, by simp, fun k _ hne => Below.heap_setCell w ⟨g, j, none⟩ u k (fun e => hne (by rw [e]))⟩
theorem setCells_at {nodes : List Sets} {n : Nat} {f : Sets} (h : nodes[n]? = some f) {p : Nat} (hp : p < 12) : (setCells nodes)[n * 12 + p]? = some (.int .u16 (f p : Int)) :=
  flat_at (fun f => (pcells f).toList) 12 nodes (fun f _ => by rw [Array.length_toList, pcells_size]) n p f _ h (by rw [Array.getElem?_toList]; exact pcells_at hp)
theorem rowCells_at {rows : List (List Int)} (h6 : ∀ r ∈ rows, r.length = 6) {n : Nat} {r : List Int} (h : rows[n]? = some r) {l : Nat} {x : Int} (hl : r[l]? = some x) : (rowCells rows)[n * 6 + l]? = some (.int .i64 x) :=
  flat_at (fun r : List Int => r.map (Value.int .i64)) 6 rows (fun r hr => by rw [List.length_map]; exact h6 r hr) n l r _ h (by rw [List.getElem?_map, hl]; rfl)
theorem rowCells_set {rows : List (List Int)} (h6 : ∀ r ∈ rows, r.length = 6) {n : Nat} {r : List Int} (h : rows[n]? = some r) {l : Nat} (hl : l < 6) (x : Int) : (rowCells rows).set (n * 6 + l) (.int .i64 x) = rowCells (rows.set n (r.set l x)) :=
  flat_set (fun r : List Int => r.map (Value.int .i64)) 6 rows (fun r hr => by rw [List.length_map]; exact h6 r hr) n l r _ _ h hl (by rw [List.map_set])
section
variable {t : Task} {K : SK} {nodes : List Sets} {rows : List (List Int)} {us : List Bool} {vs vx vu : Value} {D : DataW Unit} {nm : Nat} {w w' : World} {pl : List Slc}
/-- A number of the table is stored. -/
theorem SafY.row (h : SafX t K nodes rows us vs vx vu D nm w) (h6 : ∀ r ∈ rows, r.length = 6) {n l : Nat} {r : List Int} (hr : rows[n]? = some r) (hl : l < 6) (x : Int) {g c : Nat} (hv : vx = .slice (some ⟨g, 0, none⟩) rows.length c) :
    SafX t K nodes (rows.set n (r.set l x)) us vs vx vu D nm (w.setCell ⟨g, n * 6 + l, none⟩ (.int .i64 x)) := by
  subst hv
  have h1 := h.perm (List.Perm.swap (slX (.slice (some ⟨g, 0, none⟩) rows.length c) rows) _ _)
  have hst := (World.ownsRow.stored h.pX (n * 6 + l) (.int .i64 x)).1
  have h2 := h1.pool.app (v' := .slice (some ⟨g, 0, none⟩) rows.length c) (n' := rows.length) (xs' := (rowCells rows).set (n * 6 + l) (.int .i64 x)) hst (grown_set w g (n * 6 + l) _) (.inl rfl)
  have h3 := h1.grown h2 (grown_set w g (n * 6 + l) _)
  have h4 := h3.perm (List.Perm.swap _ _ _)
  have e : slX (.slice (some ⟨g, 0, none⟩) rows.length c) (rows.set n (r.set l x)) = ⟨95, 6, .slice (some ⟨g, 0, none⟩) rows.length c, rows.length, (rowCells rows).set (n * 6 + l) (.int .i64 x)⟩ := by unfold slX; rw [rowCells_set h6 hr hl, List.length_set]
  show SafY t K _ _ _ [slS _ _, slX _ _, slU _ _] _ _ _
  rw [e]
  exact h4
end

theorem safeFrom_badN {t : Task} {f : Sets} (h : badM t f = true) (u : List Int) : safeFrom t f u = false := by
  cases u with
  | nil => show (!badM t f) = false; rw [h]; rfl
  | cons l u => show (if badM t f then false else _) = false; rw [h]; rfl
theorem safeFrom_stepN {t : Task} {f : Sets} (h : badM t f = false) (l : Int) (u : List Int) : safeFrom t f (l :: u) = safeFrom t (closeM t (moveM t f l)) u := by
  show (if badM t f then false else _) = _; rw [h]; rfl
theorem drop_charsN {s : ByteArray} {k : Nat} (h : k < s.size) : (chars s).drop k = chAt s k :: (chars s).drop (k + 1) := by
  have hk : k < (chars s).length := by rw [chars_len]; exact h
  rw [List.drop_eq_getElem_cons hk]
  have := chars_at s k h
  rw [List.getElem?_eq_getElem hk] at this
  injection this with this
  rw [this]
/-- What a call has found: k is the number of the set g. -/
def AfterEnd (t : Task) (K : SK) (w0 : World) (nodes : List Sets) (g : Sets) (e : Ending) (w' : World) : Prop :=
  ∃ (k : Nat) (nodes' : List Sets) (rows' : List (List Int)), e = .returned (.int .i64 (k : Int)) ∧ nodes'[k]? = some g ∧ nodes <+: nodes' ∧ nodes'.length ≤ nodes.length + 1 ∧ (∀ f ∈ nodes', f ∈ nodes ∨ f = g) ∧ SafAt t K nodes' rows' w' ∧ Tnd (SS K) w0 w'

theorem after_c (t : Task) (K : SK) (f : Sets) (n l : Nat) (nodes : List Sets) (rows : List (List Int)) (w0 w : World) (hs : sysValid t.sys = true) (hp : autoValid t.prop = true) (hn : nodes[n]? = some f) (hl : l < 6) (hlen : nodes.length ≤ 1000000) (hO : ∀ w', Tnd (SS K) w0 w' → SafO t K w') (hDeb : ∀ w', Tnd (SS K) w0 w' → Deb w') (ht : Tnd (SS K) w0 w) (hS : SafAt t K nodes rows w) :
    Calls Tryd.prog 73 #[.pointer (some ⟨K.B, 0, none⟩), .int .i64 (n : Int), .int .i64 (l : Int)] w (AfterEnd t K w0 nodes (afterM t f (l : Nat))) := by
  have HO := Lib.hid hO
  have HDb := Lib.hid hDeb
  have HS := Lib.hid hS
  obtain ⟨vs, vx, vu, D, nm, hX, hnm, hKM, hst⟩ := hS
  have HST := Lib.hid hst
  have hf := hst.within f (List.mem_of_getElem? hn)
  have hnl := (List.getElem?_eq_some_iff.1 hn).1
  obtain ⟨r, hr⟩ : ∃ r, rows[n]? = some r := ⟨_, List.getElem?_eq_getElem (by rw [hst.len]; exact hnl)⟩
  have hr6 := hst.six r (List.mem_of_getElem? hr)
  obtain ⟨x, hx⟩ : ∃ x, r[l]? = some x := ⟨_, List.getElem?_eq_getElem (by omega)⟩
  obtain ⟨gX, cX, rfl, hcx⟩ := own_at hX.pX (rowCells_at hst.six hr hx)
  have d12 := hX.c12
  have hrow := hst.row n f r hn hr l x hx
  have hnr : (n : Int) < (rows.length : Int) := by have := hst.len; omega
  have hl6 : (l : Int) < 6 := by omega
  have HN := Lib.hid hn
  clear hO hDeb hKM hst hn hx
  rcases hrow with rfl | ⟨k, rfl, hk⟩
  case inr =>
    have hfin : AfterEnd t K w0 nodes (afterM t f (l : Nat)) (.returned (.int .i64 (k : Int))) w := ⟨k, nodes, rows, rfl, hk, List.prefix_refl _, Nat.le_succ _, fun g hg => .inl hg, HS.out, ht⟩
    have HF := Lib.hid hfin
    clear hfin hk hr
    go_enter Tryd.func73, Tryd.ntmps73
    go_wp2_with fail
    go_ret
    exact HF.out
  obtain ⟨gS, cS, rfl, -⟩ := own_at hX.pS (setCells_at HN.out (p := 0) (by omega))
  have hcs : ∀ p, p < 12 → w.cell? ⟨gS, n * 12 + p, none⟩ = some (.int .u16 (f p : Int)) := fun p hp => own_cell hX.pS (setCells_at HN.out hp)
  have s0 := hcs 0 (by omega); have s1 := hcs 1 (by omega); have s2 := hcs 2 (by omega); have s3 := hcs 3 (by omega); have s4 := hcs 4 (by omega); have s5 := hcs 5 (by omega); have s6 := hcs 6 (by omega); have s7 := hcs 7 (by omega); have s8 := hcs 8 (by omega); have s9 := hcs 9 (by omega); have s10 := hcs 10 (by omega); have s11 := hcs 11 (by omega)
  rw [Nat.add_zero] at s0
  have d10 := hX.c10
  have hnn : (n : Int) < (nodes.length : Int) := by omega
  have HM := Lib.hid (move_c K.B l t f w (hX.read (HO.out w ht)) hs hp hf hl (HDb.out w ht))
  have HC := Lib.hid (fun w' (h : Ext w w') => close_c K.B t (moveM t f (l : Nat)) w' ((hX.ext h).read (HO.out _ (ht.trans (Tnd.ext h)))) hs hp (move_within hs hp hf _) (HDb.out _ (ht.trans (Tnd.ext h))))
  have HA := Lib.hid (fun w' (h : Ext w w') => add_c t K (afterM t f (l : Nat)) nodes rows w0 w' hs hp (afterM_within hs hp hf _) hlen (Nat.le_of_lt (hX.ext h).box.lt) HO.out (ht.trans (Tnd.ext h)) (HS.out.ext h))
  unfold afterM at HA
  clear hcs hr hX
  go_enter Tryd.func73, Tryd.ntmps73
  go_wp2_with fail
  refine HM.out.mono ?_
  rintro e w1 ⟨rfl, he1⟩
  go_wp2_with fail
  refine (HC.out w1 he1).mono ?_
  rintro e w2 ⟨rfl, he2⟩
  go_wp2_with fail
  refine (HA.out w2 (he1.trans he2)).mono ?_
  rintro e w3 ⟨k, nodes', rows', rfl, hk, hcase, hS3, ht3⟩
  clear d12 hcx d10 HM HC HA he1 he2 s0 s1 s2 s3 s4 s5 s6 s7 s8 s9 s10 s11
  have hpre : nodes <+: nodes' := by
    rcases hcase with ⟨-, rfl, -⟩ | ⟨-, rfl, -⟩
    · exact List.prefix_refl _
    · exact List.prefix_append _ _
  have hle : nodes'.length ≤ nodes.length + 1 := by
    rcases hcase with ⟨-, rfl, -⟩ | ⟨-, rfl, -⟩
    · omega
    · simp
  have hmem : ∀ g ∈ nodes', g ∈ nodes ∨ g = closeM t (moveM t f (l : Nat)) := by
    rcases hcase with ⟨-, rfl, -⟩ | ⟨-, rfl, -⟩
    · exact fun g hg => .inl hg
    · intro g hg; simpa using hg
  obtain ⟨vs, vx, vu, D, nm, hX, hnm, hKM, hst⟩ := hS3
  have hn' := prefix_get hpre HN.out
  have hnl' := (List.getElem?_eq_some_iff.1 hn').1
  obtain ⟨r, hr⟩ : ∃ r, rows'[n]? = some r := ⟨_, List.getElem?_eq_getElem (by rw [hst.len]; exact hnl')⟩
  have hr6 := hst.six r (List.mem_of_getElem? hr)
  obtain ⟨x, hx⟩ : ∃ x, r[l]? = some x := ⟨_, List.getElem?_eq_getElem (by omega)⟩
  obtain ⟨gX, cX, rfl, hcx⟩ := own_at hX.pX (rowCells_at hst.six hr hx)
  have d12 := hX.c12
  have hfx := World.ownsRow.frozenAt hX.pX (n * 6 + l)
  have hnr' : (n : Int) < (rows'.length : Int) := by have := hst.len; omega
  have hX9 := hX.row hst.six hr hl (k : Int) rfl
  have hst9 := hst.put (l := l) hn' hr hk
  have hgK : gX ≠ K.B := own_ne_blk hX.pX hX.box (show 113 ≠ 95 by decide)
  have hT9 := ht3.trans (tnd_set (S := SS K) w3 (b := gX) (.inr (own_lt hX.pX rfl).1) (n * 6 + l) (.int .i64 (k : Int)))
  have hfin : ∀ w9, w9 = w3.setCell ⟨gX, n * 6 + l, none⟩ (.int .i64 (k : Int)) → AfterEnd t K w0 nodes (closeM t (moveM t f (l : Nat))) (.returned (.int .i64 (k : Int))) w9 := fun w9 e => by
    subst e
    exact ⟨k, nodes', _, rfl, hk, hpre, hle, hmem, ⟨_, _, _, _, _, hX9, hnm, hKM, hst9⟩, hT9⟩
  have HF := Lib.hid hfin
  clear hfin hX9 hst9 hT9 hpre hle hmem hcase hk hr hx hn' hKM hst hX
  go_wp2_with fail
  go_ret
  exact HF.out _ rfl

theorem safe_c (t : Task) (K : SK) (s : ByteArray) (w0 w : World) (ht0 : taskValid t = true) (hw : wordIn s t.alphabet = true) (hO : ∀ w', Tnd (SS K) w0 w' → SafO t K w') (hDeb : ∀ w', Tnd (SS K) w0 w' → Deb w') (ht : Tnd (SS K) w0 w) (rows0 : List (List Int)) (hS : SafAt t K [closeM t startM] rows0 w) :
    Calls Tryd.prog 33 #[.pointer (some ⟨K.B, 0, none⟩), .string s] w (fun e w' => e = .returned (.bool (safeFrom t (closeM t startM) (chars s))) ∧ Tnd (SS K) w0 w') := by
  obtain ⟨hs, hp, hA⟩ := taskValid_facts ht0
  have ha63 := (alpha_facts hA).2
  have HLW := Lib.hid (fun i (h : i < s.size) => wordIn_at hw h)
  have hsz : s.size ≤ 50000 := by
    simp only [wordIn, Bool.and_eq_true, decide_eq_true_eq] at hw; exact hw.1.2
  have HO := Lib.hid hO
  have HDb := Lib.hid hDeb
  have HFW : Hid (safeFrom t (closeM t startM) (chars s) = safeFrom t (closeM t startM) ((chars s).drop 0)) := Lib.hid rfl
  obtain ⟨FW, hfw⟩ : ∃ FW, safeFrom t (closeM t startM) (chars s) = FW := ⟨_, rfl⟩
  rw [hfw] at HFW ⊢
  clear hO hDeb hw ht0 hfw
  go_enter Tryd.func33, Tryd.ntmps33
  go_wp2_with fail
  go_loopw [5, 6, 12, 13, 14, 15, 16, 17, 18, 19] (fun vn i _ _ _ _ _ _ _ _ wr => ∃ (k n : Nat) (f : Sets) (nodes : List Sets) (rows : List (List Int)), k ≤ s.size ∧ i = .int .i64 k ∧ vn = .int .i64 n ∧ nodes.length ≤ k + 1 ∧ Hid (nodes[n]? = some f) ∧ SafAt t K nodes rows wr ∧ Hid (FW = safeFrom t f ((chars s).drop k)) ∧ Tnd (SS K) w0 wr) (fun _ i _ _ _ _ _ _ _ _ _ => s.size - (intOf i).toNat)
  case atStart => exact ⟨0, 0, _, _, rows0, by omega, rfl, rfl, by simp, Lib.hid rfl, hS, HFW, ht⟩
  case round =>
    clear hS HFW ht
    obtain ⟨k, n, f, nodes, rows, hk, rfl, rfl, hnl, HN, hS, HFW, ht⟩ := hrel
    have HS := Lib.hid hS
    obtain ⟨vs, vx, vu, D, nm, hX, hnm, hKM, hst⟩ := hS
    have hnb := (List.getElem?_eq_some_iff.1 HN.out).1
    obtain ⟨us, hue⟩ : ∃ us, nodes.map (badM t) = us := ⟨_, rfl⟩
    rw [hue] at hX
    have hua : us[n]? = some (badM t f) := by rw [← hue, List.getElem?_map, HN.out]; rfl
    have hul : us.length = nodes.length := by rw [← hue, List.length_map]
    obtain ⟨gU, cU, rfl, hcu⟩ := own_at hX.pU (j := n) (u := .bool (badM t f)) (by rw [List.getElem?_map, hua]; rfl)
    have d13 := hX.c13
    have hnu : (n : Int) < (us.length : Int) := by omega
    have hf := hst.within f (List.mem_of_getElem? HN.out)
    clear hue hua hKM hst hX hul
    cases hb : badM t f with
    | true =>
      rw [hb] at hcu
      have HR := Lib.hid (safeFrom_badN hb ((chars s).drop k))
      clear hb
      by_cases hlt : k < s.size
      · go_wp2_with fail
        go_ret
        exact ⟨by rw [HFW.out, HR.out]; rfl, ht⟩
      · obtain rfl : k = s.size := by omega
        go_wp2_with fail
        go_ret
        exact ⟨by rw [HFW.out, HR.out]; rfl, ht⟩
    | false =>
      rw [hb] at hcu
      have HBD := Lib.hid hb
      clear hb
      by_cases hlt : k < s.size
      · have HD := Lib.hid (drop_charsN hlt)
        obtain ⟨l0, l6⟩ := bit_range ha63 (HLW.out k hlt)
        obtain ⟨l, hl⟩ := Int.eq_ofNat_of_zero_le l0
        have HLA := Lib.hid (letterAt_in s k l wr hlt (by omega) hl (by omega))
        have HAF := Lib.hid (after_c t K f n l nodes rows w0 wr hs hp HN.out (by omega) (by omega) HO.out HDb.out ht HS.out)
        have HN2 : Hid (FW = safeFrom t (afterM t f (l : Nat)) ((chars s).drop (k + 1))) := Lib.hid (by rw [HFW.out, HD.out, safeFrom_stepN HBD.out, hl]; rfl)
        clear l0 l6 hl
        go_wp2_with (go_at_call 45; refine HLA.out.mono ?_; rintro e w' ⟨rfl, rfl⟩)
        refine HAF.out.mono ?_
        rintro e w3 ⟨k', nodes', rows', rfl, hk', hpre, hle, -, hS3, ht3⟩
        have HK' := Lib.hid hk'
        clear hpre hk'
        go_wp2_with fail
        exact ⟨⟨k + 1, k', _, nodes', rows', by omega, by go_num, rfl, by omega, HK', hS3, HN2, ht3⟩, by simp [intOf]; omega⟩
      · obtain rfl : k = s.size := by omega
        have HR : Hid (safeFrom t f ((chars s).drop s.size) = true) := Lib.hid (by rw [List.drop_eq_nil_iff.2 (by rw [chars_len]; exact Nat.le_refl _)]; show (!badM t f) = true; rw [HBD.out]; rfl)
        go_wp2_with fail
        go_ret
        exact ⟨by rw [HFW.out, HR.out]; rfl, ht⟩

theorem andNot_all : ∀ a ∈ List.range 64, ∀ b ∈ List.range 64, bits .andNot .i64 (Int.ofNat a) (Int.ofNat b) = Int.ofNat (a - (a &&& b)) := by decide +kernel
theorem andNot_hidden {t : Task} (ht : taskValid t = true) : ∃ H : Int, bits .andNot .i64 t.sys.alphabet t.alphabet = H ∧ 0 ≤ H ∧ H ≤ 63 ∧ letters H = hiddenOf t := by
  obtain ⟨hs, -, ha⟩ := taskValid_facts ht
  obtain ⟨h1, h2⟩ := sys_alpha hs
  obtain ⟨h3, h4⟩ := alpha_facts ha
  obtain ⟨m, hm⟩ := Int.eq_ofNat_of_zero_le h1
  obtain ⟨n, hn⟩ := Int.eq_ofNat_of_zero_le h3
  have h5 := andNot_all m (List.mem_range.2 (by omega)) n (List.mem_range.2 (by omega))
  have h6 := hid_all m (List.mem_range.2 (by omega)) n (List.mem_range.2 (by omega))
  have hle : m - (m &&& n) ≤ m := Nat.sub_le _ _
  refine ⟨Int.ofNat (m - (m &&& n)), by rw [hm, hn]; exact h5, by simp, by simp; omega, ?_⟩
  rw [h6]; unfold hiddenOf; rw [hm, hn]; rfl
theorem cell_tnd {S : Nat → Prop} {w w' : World} (h : Tnd S w w') {p : Addr} {v : Value} (hv : w.cell? p = some v) (hS : ¬ S p.block) : w'.cell? p = some v := by
  have hlt := World.block_lt_of_cell? w p hv
  rw [← hv]; unfold World.cell?; rw [h.block _ hlt hS]
theorem cell_ne_map {w : World} {bm nm : Nat} {D : DataW Unit} (hm : w.ownsMap Tryd.prog 117 (plainElem (H := Unit) Tryd.prog 3) bm nm D) {p : Addr} {v : Value} (hv : w.cell? p = some v) : p.block ≠ bm := by
  intro e
  obtain ⟨es, clock, hb, -⟩ := hm
  unfold World.cell? at hv
  rw [e, hb] at hv; simp at hv
/-- What was there when the safety was made stays, whatever the safety does. -/
theorem SafO.of {t : Task} {K : SK} {wn : World} {nm : Nat} {D : DataW Unit} (hB : K.B = wn.heap.size) (hm : wn.ownsMap Tryd.prog 117 (plainElem (H := Unit) Tryd.prog 3) K.bm nm D) (h : SafO t K wn) {w' : World} (ht : Tnd (SS K) wn w') : SafO t K w' := by
  have hc : ∀ (p : Addr) v, p.block < wn.heap.size → wn.cell? p = some v → w'.cell? p = some v := fun p v hl hv => cell_tnd ht hv (fun hS => by
    rcases hS with hS | hS
    · exact cell_ne_map hm hv hS
    · omega)
  refine ⟨?_, ?_, ?_, ?_⟩
  · obtain ⟨b, cs, e, hM⟩ := h.mv
    refine ⟨b, cs, e, ⟨hM.blk.tnd ht (fun hS => ?_), hM.size, hM.cell⟩⟩
    rcases hS with hS | hS
    · exact blk_ne_map hM.blk hm hS
    · have := hM.blk.lt; omega
  · exact SlV.mono h.rule (fun b o x hb hx l hl => hc _ _ hb (hx l hl)) ht.size
  · exact SlV.mono h.hid (fun b o x hb hx => hc _ _ hb hx) ht.size
  · exact SlV.mono h.acc (fun b o x hb hx => hc _ _ hb hx) ht.size

def NewEnd (t : Task) (w : World) (e : Ending) (w' : World) : Prop := ∃ (K : SK) (rows : List (List Int)), e = .returned (.pointer (some ⟨K.B, 0, none⟩)) ∧ SafAt t K [closeM t startM] rows w' ∧ (∀ w'', Tnd (SS K) w' w'' → SafO t K w'') ∧ Ext w w' ∧ w.heap.size ≤ K.bm ∧ w.heap.size ≤ K.B
theorem pval_start : pval startM = .agg #[.int .u16 1, .int .u16 0, .int .u16 0, .int .u16 0, .int .u16 0, .int .u16 0, .int .u16 0, .int .u16 0, .int .u16 0, .int .u16 0, .int .u16 0, .int .u16 0] := rfl

theorem newSafety_c (v : Value) (t : Task) (w : World) (hV : TaskV w v t) (ht : taskValid t = true) (hT : Deb w) :
    Calls Tryd.prog 32 #[v] w (NewEnd t w) := by
  obtain ⟨hs, hp, hA⟩ := taskValid_facts ht
  obtain ⟨H, hand, hH0, hH63, hHL⟩ := andNot_hidden ht
  have HHL := Lib.hid hHL
  have HDb := Lib.hid hT
  obtain ⟨ve, vn, va, rfl, h1, h2, h3⟩ := hV
  obtain ⟨ae, ce, rfl, -, -⟩ := h1.open
  obtain ⟨an, cn, rfl, -, -⟩ := h2.open
  obtain ⟨aa, ca, rfl, -, -⟩ := h3.open
  have HSY := Lib.hid (show ∀ w', Ext w w' → SysV w' (.agg #[.int .i64 t.sys.alphabet, .int .i64 t.sys.states, .slice ae t.sys.edges.length ce]) t.sys from fun w' h => ⟨_, rfl, h1.mono h⟩)
  have HAU := Lib.hid (show ∀ w', Ext w w' → AutoV w' (.agg #[.int .i64 t.prop.alphabet, .slice an t.prop.next.length cn, .slice aa t.prop.accept.length ca]) t.prop from fun w' h => ⟨_, _, rfl, h2.mono h, h3.mono h⟩)
  have HAC := Lib.hid (show ∀ w', Ext w w' → BoolsV w' (.slice aa t.prop.accept.length ca) t.prop.accept from fun w' h => h3.mono h)
  clear h1 h2 h3 ht hA hHL hT
  obtain ⟨wo, hwo⟩ : ∃ wo, wo = w.alloc (.cells #[.int .i64 t.sys.alphabet, .int .i64 t.sys.states, .slice ae t.sys.edges.length ce, .int .i64 t.prop.alphabet, .slice an t.prop.next.length cn, .slice aa t.prop.accept.length ca, .int .i64 t.alphabet] 38) := ⟨_, rfl⟩
  have he : Ext w wo := by rw [hwo]; exact Ext.alloc _ _
  have hB : Blk wo w.heap.size #[.int .i64 t.sys.alphabet, .int .i64 t.sys.states, .slice ae t.sys.edges.length ce, .int .i64 t.prop.alphabet, .slice an t.prop.next.length cn, .slice aa t.prop.accept.length ca, .int .i64 t.alphabet] 38 := by rw [hwo]; exact Blk.new _ _ _
  have hmm := @run_makeMap Tryd.prog
  go_enter Tryd.func32, Tryd.ntmps32
  go_wp2_with fail
  rw [← hwo]
  clear hwo
  have D0 := fun d os => cell_regrown (hB.cell 0 rfl) d os; have D1 := fun d os => cell_regrown (hB.cell 1 rfl) d os; have D2 := fun d os => cell_regrown (hB.cell 2 rfl) d os; have D3 := fun d os => cell_regrown (hB.cell 3 rfl) d os; have D4 := fun d os => cell_regrown (hB.cell 4 rfl) d os; have D5 := fun d os => cell_regrown (hB.cell 5 rfl) d os; have D6 := fun d os => cell_regrown (hB.cell 6 rfl) d os
  obtain ⟨Kc, HKc⟩ : ∃ Kc : FuncId → Array Value → World → Value → World → Prop, Hid (Kc = fun (fn : FuncId) (_ : Array Value) (w0 : World) (v : Value) (w' : World) => Ext w0 w' ∧ (fn = 50 → MovesV w' v t.sys) ∧ (fn = 51 → TabV w' v (table t.prop)) ∧ (fn = 54 → IntsV w' v (hiddenOf t))) := ⟨_, rfl⟩
  refine wp_region_ext (Kc := Kc) 16 (by kernel_rfl) (by kernel_rfl) ?_
  simp only [List.take_succ_cons, List.take_zero]
  repeat (refine WalkE.pure rfl (fun K hK => ?_); simp only [PureDo]; go_simp; refine hK _ ?_; clear hK K)
  refine WalkE.step (fun K hK wc hwc hdc => ?_)
  simp only [OpDo, OpSafe, OpOut]
  go_simp
  refine ⟨(movesOf_c _ t.sys wc (HSY.out _ (he.trans ((Ext.drew _).trans hwc))) hs).mono ?_, ?_⟩
  · rintro e w' ⟨v, rfl, he', hv⟩
    exact ⟨_, rfl, by rw [HKc.out]; exact ⟨he', fun _ => hv, fun h => absurd h (by decide), fun h => absurd h (by decide)⟩⟩
  intro u4 w4 hk4
  rw [HKc.out] at hk4
  obtain ⟨hk4, hv4, -, -⟩ := hk4
  have hv4 := hv4 rfl
  obtain ⟨bM, csM, rfl, hMv⟩ := hv4
  refine ⟨hk4, hK _ _ ?_⟩
  clear hK K hdc
  repeat (refine WalkE.pure rfl (fun K hK => ?_); simp only [PureDo]; go_simp; refine hK _ ?_; clear hK K)
  refine WalkE.step (fun K hK wd hwd hdd => ?_)
  simp only [OpDo, OpSafe, OpOut]
  go_simp
  refine ⟨(tableOf_c _ t.prop wd (HAU.out _ (he.trans ((Ext.drew _).trans hwd))) hp).mono ?_, ?_⟩
  · rintro e w' ⟨v, rfl, he', hv⟩
    exact ⟨_, rfl, by rw [HKc.out]; exact ⟨he', fun h => absurd h (by decide), fun _ => hv, fun h => absurd h (by decide)⟩⟩
  intro u5 w5 hk5
  rw [HKc.out] at hk5
  obtain ⟨hk5, -, hv5, -⟩ := hk5
  have hv5 := hv5 rfl
  have hv5' := hv5
  obtain ⟨aR, cR, rfl, -, -⟩ := hv5'.open
  clear hv5'
  refine ⟨hk5, hK _ _ ?_⟩
  clear hK K hdd
  repeat (refine WalkE.pure rfl (fun K hK => ?_); simp only [PureDo]; go_simp; refine hK _ ?_; clear hK K)
  refine WalkE.step (fun K hK we hwe hde => ?_)
  simp only [OpDo, OpSafe, OpOut]
  go_simp
  refine ⟨(lettersOf_c H we hH0 hH63).mono ?_, ?_⟩
  · rintro e w' ⟨v, rfl, he', hv⟩
    exact ⟨_, rfl, by rw [HKc.out]; exact ⟨he', fun h => absurd h (by decide), fun h => absurd h (by decide), fun _ => by rw [← HHL.out]; exact hv⟩⟩
  intro u6 w6 hk6
  rw [HKc.out] at hk6
  obtain ⟨hk6, -, -, hv6⟩ := hk6
  have hv6 := hv6 rfl
  have hv6' := hv6
  obtain ⟨aH, cH, rfl, -, -⟩ := hv6'.open
  clear hv6'
  refine ⟨hk6, hK _ _ ?_⟩
  clear hK K hde
  repeat (refine WalkE.pure rfl (fun K hK => ?_); simp only [PureDo]; go_simp; refine hK _ ?_; clear hK K)
  refine WalkE.step (fun K hK wf hwf hdf => ?_)
  simp only [OpDo, OpSafe, OpOut]
  go_simp
  refine ⟨Ext.alloc _ _, hK _ _ ?_⟩
  clear hK K hdf
  repeat (refine WalkE.pure rfl (fun K hK => ?_); simp only [PureDo]; go_simp; refine hK _ ?_; clear hK K)
  refine WalkE.nil (fun wn hwn hmn => ?_)
  simp only [List.drop_succ_cons, List.drop_zero, List.drop_nil]
  have e4 : Ext w4 wn := hmn 3 (by omega)
  have e5 : Ext w5 wn := hmn 6 (by omega)
  have e6 : Ext w6 wn := hmn 13 (by omega)
  have e7 := hmn 14 (by omega)
  have hxn := he.trans ((Ext.drew wo).trans hwn)
  have hmap : wn.ownsMap Tryd.prog 117 (plainElem (H := Unit) Tryd.prog 3) wf.heap.size 0 (.map []) := map_ext (World.ownsMap_made wf _ _ _) e7
  have hwf2 : w.heap.size ≤ wf.heap.size := (he.trans ((Ext.drew wo).trans hwf)).size
  have hMv4 : MovesV wn (.pointer (some ⟨bM, 0, none⟩)) t.sys := (show MovesV w4 (.pointer (some ⟨bM, 0, none⟩)) t.sys from ⟨bM, csM, rfl, hMv⟩).mono e4
  have hTv5 := hv5.mono e5
  have hHv6 := hv6.mono e6
  clear hmn HKc D0 D1 D2 D3 D4 D5 D6 hwn hwc hwd hwe hwf hk4 hk5 hk6 hv5 hv6 hMv e4 e5 e6 e7 hB he hmm
  generalize wf.heap.size = bm at hmap hwf2 ⊢
  obtain ⟨wb, hwb⟩ : ∃ wb, wb = wn.alloc (.cells #[.int .i64 t.sys.alphabet, .int .i64 t.sys.states, .slice ae t.sys.edges.length ce, .int .i64 t.prop.alphabet, .slice an t.prop.next.length cn, .slice aa t.prop.accept.length ca, .int .i64 t.alphabet, .pointer (some ⟨bM, 0, none⟩), .slice aR (table t.prop).length cR, .slice aH (hiddenOf t).length cH, .slice none 0 0, .map (some bm), .slice none 0 0, .slice none 0 0] 113) := ⟨_, rfl⟩
  go_wp2_with fail
  rw [← hwb]
  obtain ⟨K, hK⟩ : ∃ K : SK, K = ⟨.slice ae t.sys.edges.length ce, .slice an t.prop.next.length cn, .slice aa t.prop.accept.length ca, .pointer (some ⟨bM, 0, none⟩), .slice aR (table t.prop).length cR, .slice aH (hiddenOf t).length cH, bm, wn.heap.size⟩ := ⟨_, rfl⟩
  have hKB : K.B = wn.heap.size := by rw [hK]
  have hKm : K.bm = bm := by rw [hK]
  have hxb : Ext wn wb := by rw [hwb]; exact Ext.alloc _ _
  have hbox : Blk wb K.B (sbox t K (.slice none 0 0) (.slice none 0 0) (.slice none 0 0)) 113 := by rw [hwb, hK]; exact Blk.new _ _ _
  have hO0 : SafO t K wn := by rw [hK]; exact ⟨hMv4, hTv5, hHv6, HAC.out _ hxn⟩
  rw [← hKB]
  rw [← hKm] at hmap hwf2
  have hTb : Tnd (SS K) wn wb := Tnd.ext hxb
  have HO := Lib.hid (fun w' (h : Tnd (SS K) wb w') => hO0.of hKB hmap (hTb.trans h))
  have hY0 : SafX t K [] [] [] (.slice none 0 0) (.slice none 0 0) (.slice none 0 0) (.map []) 0 wb := ⟨hbox, (((Pool.nil K.B wb).addNil 4 1).addNil 95 6).addNil 117 12, fun s hs => by
    have hs' : s = slS (.slice none 0 0) [] ∨ s = slX (.slice none 0 0) [] ∨ s = slU (.slice none 0 0) [] := by simpa using hs
    rcases hs' with rfl | rfl | rfl
    · exact (by decide : 113 ≠ 117)
    · exact (by decide : 113 ≠ 95)
    · exact (by decide : 113 ≠ 4), map_ext hmap hxb⟩
  have hA0 : SafAt t K [] [] wb := ⟨_, _, _, _, 0, hY0, Nat.le_refl _, KeyMap.nil t, SafeSt.nil t⟩
  have hxw : Ext w wb := hxn.trans hxb
  have hwB : w.heap.size ≤ K.B := by rw [hKB]; exact hxn.size
  have HCL := Lib.hid (close_c K.B t startM wb (hY0.read (HO.out wb (Tnd.refl _ _))) hs hp (start_within hp) (HDb.out.ext hxw))
  rw [pval_start] at HCL
  have HAD := Lib.hid (fun w' (h : Ext wb w') => add_c t K (closeM t startM) [] [] wb w' hs hp (startC_within hs hp) (by simp) (Nat.le_of_lt (hY0.ext h).box.lt) HO.out (Tnd.ext h) (hA0.ext h))
  have hbs : K.B < wb.heap.size := hbox.lt
  clear hwb hK hKB hKm hbox hO0 hTb hY0 hA0 hMv4 hTv5 hHv6 hmap hxb hxn
  clear hbs
  refine HCL.out.mono ?_
  rintro e w7 ⟨rfl, he7⟩
  go_wp2_with fail
  refine (HAD.out w7 he7).mono ?_
  rintro e w8 ⟨n, nodes', rows', rfl, hn', hcase, hS8, ht8⟩
  rcases hcase with ⟨h0, -, -⟩ | ⟨-, rfl, rfl⟩
  · simp at h0
  go_wp2_with fail
  go_ret
  refine ⟨K, _, rfl, hS8, fun w'' h => HO.out _ (ht8.trans h), Below.trans hxw (ht8.below hxw.size fun b hb => ?_), hwf2, hwB⟩
  rcases hb with rfl | hb
  · exact hwf2
  · omega

theorem SafeWord_c (v : Value) (t : Task) (s : ByteArray) (w : World) (hV : TaskV w v t) (hs : s.size ≤ 1048576) (hT : Deb w) :
    Calls Tryd.prog 10 #[v, .string s] w (Grows (.bool (safeWord t s)) w) := by
  have HDb := Lib.hid hT
  obtain ⟨ve, vn, va, rfl, h1, h2, h3⟩ := hV
  obtain ⟨ae, ce, rfl, -, -⟩ := h1.open
  obtain ⟨an, cn, rfl, -, -⟩ := h2.open
  obtain ⟨aa, ca, rfl, -, -⟩ := h3.open
  have HV := Lib.hid (show ∀ w', Ext w w' → TaskV w' (.agg #[.int .i64 t.sys.alphabet, .int .i64 t.sys.states, .slice ae t.sys.edges.length ce, .int .i64 t.prop.alphabet, .slice an t.prop.next.length cn, .slice aa t.prop.accept.length ca, .int .i64 t.alphabet]) t from fun w' h => ⟨_, _, _, rfl, h1.mono h, h2.mono h, h3.mono h⟩)
  clear h1 h2 h3 hT
  have HWW := Lib.hid (fun w' => WordWithin_c s t.alphabet w' hs)
  have HTV := Lib.hid (fun w' (h : Ext w w') => TaskValid_c _ t w' (HV.out w' h))
  by_cases ht : taskValid t = true
  case neg =>
    have ht : taskValid t = false := by simpa using ht
    rw [ht] at HTV
    go_enter Tryd.func10, Tryd.ntmps10
    go_wp2_with fail
    refine (HTV.out _ (Ext.alloc _ _)).mono ?_
    rintro e w1 ⟨rfl, he1⟩
    go_wp2_with fail
    go_ret
    exact Grows.mk (by unfold safeWord; rw [ht]; rfl) he1.peel
  rw [ht] at HTV
  by_cases hw : wordIn s t.alphabet = true
  case neg =>
    have hw : wordIn s t.alphabet = false := by simpa using hw
    rw [hw] at HWW
    go_enter Tryd.func10, Tryd.ntmps10
    go_wp2_with fail
    refine (HTV.out _ (Ext.alloc _ _)).mono ?_
    rintro e w1 ⟨rfl, he1⟩
    have c6 := he1.blk.cell 6 rfl
    go_wp2_with (go_at_call 14; refine (HWW.out _).mono ?_; rintro e w' ⟨rfl, rfl⟩)
    go_ret
    exact Grows.mk (by unfold safeWord; rw [ht, hw]; rfl) he1.peel
  rw [hw] at HWW
  have HFW : Hid (safeFrom t (closeM t startM) (chars s) = safeWord t s) := Lib.hid (by unfold safeWord; rw [ht, hw]; rfl)
  have HT := Lib.hid ht
  have HW := Lib.hid hw
  clear ht hw
  go_enter Tryd.func10, Tryd.ntmps10
  go_wp2_with fail
  refine (HTV.out _ (Ext.alloc _ _)).mono ?_
  rintro e w1 ⟨rfl, he1⟩
  have hB := he1.blk
  have hx := he1.peel
  clear he1
  have cc0 := hB.cell 0 rfl; have cc1 := hB.cell 1 rfl; have cc2 := hB.cell 2 rfl; have cc3 := hB.cell 3 rfl; have cc4 := hB.cell 4 rfl; have cc5 := hB.cell 5 rfl; have cc6 := hB.cell 6 rfl
  go_wp2_with (go_at_call 14; refine (HWW.out _).mono ?_; rintro e w' ⟨rfl, rfl⟩)
  refine (newSafety_c _ t _ (HV.out _ hx) HT.out (HDb.out.ext hx)).mono ?_
  rintro e w2 ⟨K, rows, rfl, hS, hO, he2, hm2, hB2⟩
  have hx2 := hx.trans he2
  have hlow : ∀ w', Tnd (SS K) w2 w' → Ext w w' := fun w' h => Below.trans hx2 (h.below hx2.size fun b hb => by
    have := hx.size
    rcases hb with rfl | hb
    · omega
    · omega)
  have HL := Lib.hid hlow
  have HSC := Lib.hid (safe_c t K s w2 w2 HT.out HW.out hO (fun w' h => HDb.out.ext (hlow w' h)) (Tnd.refl _ _) rows hS)
  rw [HFW.out] at HSC
  clear cc0 cc1 cc2 cc3 cc4 cc5 cc6 hB hS hO he2 hlow
  go_wp2_with fail
  refine HSC.out.mono ?_
  rintro e w3 ⟨rfl, ht3⟩
  go_wp2_with fail
  go_ret
  exact Grows.mk rfl (HL.out _ ht3)
end Go.Proofs.YtnahccghglglfaaDoor
