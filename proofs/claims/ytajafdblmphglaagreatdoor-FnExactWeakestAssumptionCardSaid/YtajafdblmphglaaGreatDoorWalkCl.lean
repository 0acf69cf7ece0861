/- Merged: KeyT, WalkCl. -/
import Derived.Test.YtajafdblmphglaaGreatDoorPlainM
import Derived.Test.YtajafdblmphglaaGreatDoorWalkN
import Derived.Shelf.Strconv.Itoa1
import Derived.Test.YtajafdblmphglaaGreatDoorSafeS
import Derived.Deep.RegionLaw

namespace Go.Proofs.YtajafdblmphglaaGreatDoor
open Go.RowKit Go.Maps
set_option maxHeartbeats 4000000
set_option maxRecDepth 100000

/-! ### Itoa below 100 -/
def ren283 : Go.Shelf.Ren where
  f := fun x => match x with | 283 => 261 | n => n
  t := fun x => match x with | 3 => 3 | 4 => 4 | 9 => 9 | n => n
  g := fun x => x
theorem lays283 : Lays.n283 Tryz.prog ren283 := by
  constructor
  all_goals first | kernel_rfl | (intro w; kernel_rfl)
def digs (c : Nat) : List UInt8 := Lib.decDigits c
theorem small_c (i : Nat) (hi : i < 100) (w : World) : Calls Tryz.prog 261 #[.int .i64 i] w (Same (.string ⟨(digs i).toArray⟩) w) :=
  (Any.internal_strconv_small lays283 i hi w).mono fun e w' ⟨h1, h2⟩ => ⟨h1, h2.symm⟩
theorem FormatInt_c (i : Nat) (hi : i < 100) (w : World) : Calls Tryz.prog 249 #[.int .i64 i, .int .i64 10] w (Same (.string ⟨(digs i).toArray⟩) w) := by
  go_enter Tryz.func249, Tryz.ntmps249
  go_wp2_with (go_at_call 261; refine (small_c i hi _).mono ?_; rintro e w' ⟨rfl, rfl⟩)
  go_ret
  exact Same.mk rfl
theorem Itoa1_c (i : Nat) (hi : i < 100) (w : World) : Calls Tryz.prog 218 #[.int .i64 i] w (Same (.string ⟨(digs i).toArray⟩) w) := by
  go_enter Tryz.func218, Tryz.ntmps218
  go_wp2_with (go_at_call 249; refine (FormatInt_c i hi _).mono ?_; rintro e w' ⟨rfl, rfl⟩)
  go_ret
  exact Same.mk rfl
theorem Itoa_c (i : Nat) (hi : i < 100) (w : World) : Calls Tryz.prog 156 #[.int .i64 i] w (Same (.string ⟨(digs i).toArray⟩) w) := by
  go_enter Tryz.func156, Tryz.ntmps156
  go_wp2_with (go_at_call 218; refine (Itoa1_c i hi _).mono ?_; rintro e w' ⟨rfl, rfl⟩)
  go_ret
  exact Same.mk rfl

/-! ### The texts -/
theorem digs_all : ∀ c ∈ List.range 100, (digs c).all (fun d => decide (d ≠ 44)) = true ∧ (digs c).length ≤ 2 := by decide +kernel
theorem digs_inj_all : ∀ c ∈ List.range 100, ∀ d ∈ List.range 100, decide (digs c = digs d) = decide (c = d) := by decide +kernel
theorem digs_ne {c : Nat} (h : c < 100) : ∀ d ∈ digs c, d ≠ 44 := fun d hd => by
  have := List.all_eq_true.1 (digs_all c (by simpa using h)).1 d hd
  simpa using this
theorem digs_len {c : Nat} (h : c < 100) : (digs c).length ≤ 2 := (digs_all c (by simpa using h)).2
theorem digs_inj {c d : Nat} (h : c < 100) (k : d < 100) (e : digs c = digs d) : c = d := by
  have := digs_inj_all c (by simpa using h) d (by simpa using k)
  rw [e] at this
  simpa using this.symm
def keyTail (l : List Nat) : List UInt8 := l.flatMap fun c => 44 :: digs c
def keyText : List Nat → List UInt8
  | [] => []
  | c :: l => digs c ++ keyTail l
def keyB (l : List Nat) : ByteArray := ⟨(keyText l).toArray⟩
theorem keyTail_begin (l : List Nat) : keyTail l = [] ∨ ∃ r, keyTail l = 44 :: r := by
  cases l with
  | nil => exact .inl rfl
  | cons c l => exact .inr ⟨digs c ++ keyTail l, rfl⟩
theorem split44 : ∀ (a b r s : List UInt8), (∀ x ∈ a, x ≠ 44) → (∀ x ∈ b, x ≠ 44) → (r = [] ∨ ∃ r', r = 44 :: r') → (s = [] ∨ ∃ s', s = 44 :: s') → a ++ r = b ++ s → a = b ∧ r = s
  | [], [], r, s, _, _, _, _, h => ⟨rfl, h⟩
  | x :: a, [], r, s, ha, _, _, hs, h => by
    rcases hs with rfl | ⟨s', rfl⟩
    · simp at h
    · simp at h; exact absurd h.1 (ha x (by simp))
  | [], y :: b, r, s, _, hb, hr, _, h => by
    rcases hr with rfl | ⟨r', rfl⟩
    · simp at h
    · simp at h; exact absurd h.1.symm (hb y (by simp))
  | x :: a, y :: b, r, s, ha, hb, hr, hs, h => by
    simp only [List.cons_append, List.cons.injEq] at h
    obtain ⟨h1, h2⟩ := split44 a b r s (fun z hz => ha z (by simp [hz])) (fun z hz => hb z (by simp [hz])) hr hs h.2
    exact ⟨by rw [h.1, h1], h2⟩
theorem keyTail_inj : ∀ l m : List Nat, (∀ c ∈ l, c < 100) → (∀ c ∈ m, c < 100) → keyTail l = keyTail m → l = m
  | [], [], _, _, _ => rfl
  | c :: l, [], _, _, h => by simp [keyTail] at h
  | [], d :: m, _, _, h => by simp [keyTail] at h
  | c :: l, d :: m, hl, hm, h => by
    have h' : digs c ++ keyTail l = digs d ++ keyTail m := by
      have : (44 : UInt8) :: (digs c ++ keyTail l) = 44 :: (digs d ++ keyTail m) := h
      simpa using this
    obtain ⟨h1, h2⟩ := split44 _ _ _ _ (digs_ne (hl c (by simp))) (digs_ne (hm d (by simp))) (keyTail_begin l) (keyTail_begin m) h'
    rw [digs_inj (hl c (by simp)) (hm d (by simp)) h1, keyTail_inj l m (fun x hx => hl x (by simp [hx])) (fun x hx => hm x (by simp [hx])) h2]
/-- A list that has a text. -/
structure OkSig (l : List Nat) : Prop where
  ne : l ≠ []
  lt : ∀ c ∈ l, c < 100
  len : l.length ≤ 7
theorem keyText_inj {l m : List Nat} (hl : OkSig l) (hm : OkSig m) (h : keyText l = keyText m) : l = m := by
  cases l with
  | nil => exact absurd rfl hl.ne
  | cons c l =>
    cases m with
    | nil => exact absurd rfl hm.ne
    | cons d m =>
      obtain ⟨h1, h2⟩ := split44 _ _ _ _ (digs_ne (hl.lt c (by simp))) (digs_ne (hm.lt d (by simp))) (keyTail_begin l) (keyTail_begin m) h
      rw [digs_inj (hl.lt c (by simp)) (hm.lt d (by simp)) h1, keyTail_inj l m (fun x hx => hl.lt x (by simp [hx])) (fun x hx => hm.lt x (by simp [hx])) h2]
theorem keyTail_len {l : List Nat} (h : ∀ c ∈ l, c < 100) : (keyTail l).length ≤ 3 * l.length := by
  induction l with
  | nil => simp [keyTail]
  | cons c l ih =>
    have h1 := ih fun x hx => h x (by simp [hx])
    have h2 := digs_len (h c (by simp))
    have e : keyTail (c :: l) = 44 :: (digs c ++ keyTail l) := rfl
    rw [e, List.length_cons, List.length_append, List.length_cons]
    omega
theorem keyText_len {l : List Nat} (h : ∀ c ∈ l, c < 100) : (keyText l).length ≤ 3 * l.length := by
  cases l with
  | nil => simp [keyText]
  | cons c l =>
    have h1 := keyTail_len (l := l) fun x hx => h x (by simp [hx])
    have h2 := digs_len (h c (by simp))
    show (digs c ++ keyTail l).length ≤ _
    rw [List.length_append, List.length_cons]
    omega
theorem keyB_size (l : List Nat) : (keyB l).size = (keyText l).length := by simp [keyB, ByteArray.size]
theorem keyB_one (c : Nat) : keyB [c] = ⟨(digs c).toArray⟩ := by simp [keyB, keyText, keyTail]
theorem keyB_push {l : List Nat} (hl : l ≠ []) (c : Nat) : keyB (l ++ [c]) = keyB l ++ (⟨#[44]⟩ ++ ⟨(digs c).toArray⟩) := by
  cases l with
  | nil => exact absurd rfl hl
  | cons x l =>
    apply ByteArray.ext
    rw [ByteArray.data_append, ByteArray.data_append]
    simp [keyB, keyText, keyTail]
theorem lawStr : Keyed Tryz.prog 9 := string_keyed Tryz.underlying9
def keySL (l : List Nat) : Lit := .string (keyText l)
theorem key_str {l : List Nat} (h : OkSig l) : keyOf Tryz.prog 9 (.string (keyB l)) = some (keySL l) := by
  have h1 := keyText_len h.lt
  have h2 := h.len
  have := Go.WideMaps.keyOf_string_mk (P := Tryz.prog) Tryz.underlying9 (s := keyB l) (by rw [keyB_size]; unfold maxLen; omega)
  rw [this]
  simp [keyB, keySL]
/-- What a map of such texts holds. -/
def StrMap (sigs : List (List Nat)) (D : DataW Unit) : Prop := Maps.size D = sigs.length ∧ ∀ l, OkSig l → Maps.has D (keySL l) = decide (l ∈ sigs) ∧ (l ∈ sigs → D.atKey (keySL l) (.lit (.int .i64 0)) = .lit (.int .i64 ((idxD sigs l : Nat) : Int)))
theorem StrMap.nil : StrMap [] (DataW.map []) := ⟨rfl, fun l _ => ⟨by simp [has_eq], fun h => by cases h⟩⟩
theorem StrMap.push {sigs : List (List Nat)} {D : DataW Unit} (h : StrMap sigs D) (hD : Tidy D) {x : List Nat} (hx : OkSig x) (hn : x ∉ sigs) : StrMap (sigs ++ [x]) (D.put (keySL x) (.lit (.int .i64 (sigs.length : Int)))) := by
  have hk := lawStr.key (key_str hx)
  have hh : Maps.has D (keySL x) = false := by rw [(h.2 x hx).1]; simpa using hn
  refine ⟨by rw [size_put hD, hh, h.1]; simp, fun y hy => ?_⟩
  by_cases hxy : y = x
  · subst hxy
    refine ⟨by rw [has_put_same hD.isMap hk]; simp, fun _ => ?_⟩
    rw [atKey_put_same hD.isMap hk, idxD_new hn]
  · have hne : keySL y ≠ keySL x := fun e => hxy (keyText_inj hy hx (by injection e))
    obtain ⟨h1, h2⟩ := h.2 y hy
    refine ⟨?_, fun hm => ?_⟩
    · rw [has_put_other hne, h1]; simp [hxy]
    · have hm' : y ∈ sigs := by simpa [hxy] using hm
      rw [atKey_put_other hne, h2 hm', idxD_app hm']
end Go.Proofs.YtajafdblmphglaaGreatDoor

namespace Go.Proofs.YtajafdblmphglaaGreatDoor
open Go.RowKit Go.Maps
set_option linter.unusedVariables false
set_option linter.unusedSimpArgs false
set_option maxHeartbeats 4000000
set_option maxRecDepth 100000

/-! ### Own slices of ints, told by functions -/
theorem SetsOwn.tnd {S : Nat → Prop} {base n g cap : Nat} {w w' : World} {f : Sets} (h : SetsOwn base n g cap w f) (ht : Tnd S w w') (hg : ¬ S g) : SetsOwn base n g cap w' f :=
  Tnd.own ht h fun k hk => by
    simp only [Value.ownBlock, Option.some.injEq] at hk
    subst hk; exact hg
theorem tnd_set1 (w : World) (b j : Nat) (v : Value) : Tnd (fun x => x = b) w (w.setCell ⟨b, j, none⟩ v) :=
  ⟨rfl, rfl, rfl, by simp, fun c _ hc => Below.heap_setCell w ⟨b, j, none⟩ v c hc⟩
theorem SetsOwn.apart {base n g cap bm nm : Nat} {w : World} {f : Sets} {D : DataW Unit} {k e : TypeId} (h : SetsOwn base n g cap w f) (hm : w.ownsMap Tryz.prog k (plainElem (H := Unit) Tryz.prog e) bm nm D) : g ≠ bm := fun e => by
  have := map_apart hm h
  simp only [Value.ownBlock] at this
  exact this (by rw [e])
theorem SetsOwn.eqOn {base n g cap : Nat} {w : World} {f f' : Sets} (h : SetsOwn base n g cap w f) (he : ∀ p, p < n → f p = f' p) : SetsOwn base n g cap w f' := by
  unfold SetsOwn at h ⊢
  rw [show setsL n f' = setsL n f by
    unfold setsL
    exact List.map_congr_left fun p hp => by rw [he p (by simpa using hp)]]
  exact h
/-- A function on its way: what is not yet done is nothing. -/
def upTo (k : Nat) (f : Sets) : Sets := fun q => if q < k then f q else 0
theorem upTo_zero (f : Sets) : upTo 0 f = fun _ => 0 := by funext q; simp [upTo]
theorem upTo_upd (k : Nat) (f : Sets) : updS (upTo k f) k (f k) = upTo (k + 1) f := by
  funext q
  simp only [updS, upTo]
  by_cases h : q = k
  · subst h; simp
  · by_cases h1 : q < k
    · rw [if_neg h, if_pos h1, if_pos (by omega)]
    · rw [if_neg h, if_neg h1, if_neg (by omega)]
theorem upTo_skip {k : Nat} {f : Sets} (h : f k = 0) : upTo (k + 1) f = upTo k f := by
  funext q
  simp only [upTo]
  by_cases h1 : q < k
  · rw [if_pos h1, if_pos (by omega)]
  · by_cases h2 : q = k
    · subst h2; rw [if_neg h1, h]; simp
    · rw [if_neg h1, if_neg (by omega)]

/-! ### The plain law -/
theorem stage_lt {A : Auto} (hn : A.next.length < 100) (i : Nat) {q : Nat} (hq : q < A.next.length) : stage A i q < 100 := by
  cases i with
  | zero => show (if accepts A q then 1 else 0) < 100; split <;> omega
  | succ i =>
    have h1 : idxD (sigD A (stage A i)) (sig A (stage A i) q) < (sigD A (stage A i)).length := idxD_lt (sig_mem hq)
    have h2 : (sigD A (stage A i)).length ≤ A.next.length := cnt_le (A := A) i
    exact Nat.lt_trans (Nat.lt_of_lt_of_le h1 h2) hn
theorem sig_ok {A : Auto} (hA : AutoFit A) (hn : A.next.length < 100) (i : Nat) {q : Nat} (hq : q < A.next.length) : OkSig (sig A (stage A i) q) where
  ne := by simp [sig]
  lt := fun c hc => by
    rcases List.mem_cons.1 hc with rfl | hc
    · exact stage_lt hn i hq
    · obtain ⟨l, -, rfl⟩ := List.mem_map.1 hc
      exact stage_lt hn i (hA.step_lt hq l)
  len := by
    have := lettersTo_len A.alphabet 6
    simp only [sig, List.length_cons, List.length_map]
    unfold letters; omega
/-- The classes told so far, of a state and of the first letters' targets. -/
def sigPre (A : Auto) (c : Nat → Nat) (q m : Nat) : List Nat := c q :: ((letters A.alphabet).take m).map fun l => c (step A q l)
theorem sigPre_succ {A : Auto} {c : Nat → Nat} {q m : Nat} {l : Int} (h : (letters A.alphabet)[m]? = some l) : sigPre A c q (m + 1) = sigPre A c q m ++ [c (step A q l)] := by
  unfold sigPre; rw [List.take_add_one, h]; simp
theorem sigPre_full (A : Auto) (c : Nat → Nat) (q : Nat) : sigPre A c q (letters A.alphabet).length = sig A c q := by unfold sigPre sig; rw [List.take_length]
theorem sigPre_size {A : Auto} (hA : AutoFit A) (hn : A.next.length < 100) (i : Nat) {q : Nat} (hq : q < A.next.length) (m : Nat) : (keyB (sigPre A (stage A i) q m)).size ≤ 21 := by
  rw [keyB_size]
  have h1 := keyText_len (l := sigPre A (stage A i) q m) fun c hc => by
    rcases List.mem_cons.1 hc with rfl | hc
    · exact stage_lt hn i hq
    · obtain ⟨l, -, rfl⟩ := List.mem_map.1 hc
      exact stage_lt hn i (hA.step_lt hq l)
  have h2 := lettersTo_len A.alphabet 6
  have h3 : (sigPre A (stage A i) q m).length ≤ 7 := by
    simp only [sigPre, List.length_cons, List.length_map, List.length_take]
    unfold letters; omega
  omega
/-- How far the rounds have come: c classes were found by the last one. -/
def Round (A : Auto) (i c : Nat) : Prop := (i = 0 ∧ c = 0) ∨ (∃ j, i = j + 1 ∧ c = many A i)
theorem Round.done {A : Auto} (hA : AutoFit A) {i : Nat} (h : Round A i (cnt A i)) {q : Nat} (hq : q < A.next.length) : stage A (i + 1) q = clsOf A q := by
  rcases h with ⟨rfl, h⟩ | ⟨j, rfl, h⟩
  · rw [cnt_many] at h
    have := many_pos hA (0 + 1)
    omega
  · rw [cnt_many] at h
    exact stage_cls hA h hq
theorem Round.next {A : Auto} (hA : AutoFit A) {i c : Nat} (h : Round A i c) (hc : cnt A i ≠ c) : Round A (i + 1) (cnt A i) ∧ c < cnt A i := by
  refine ⟨.inr ⟨i, rfl, cnt_many i⟩, ?_⟩
  rw [cnt_many] at hc ⊢
  rcases h with ⟨rfl, rfl⟩ | ⟨j, rfl, rfl⟩
  · have := many_pos hA (0 + 1); omega
  · have := many_mono (A := A) (j + 1); omega

/-! ### The walk -/
/-- The classes, in a slice of the call's own. -/
def ClsEnd (A : Auto) (w : World) (e : Ending) (w' : World) : Prop := ∃ g cap, e = .returned (.slice (some ⟨g, 0, none⟩) A.next.length cap) ∧ Ext w w' ∧ SetsOwn w.heap.size A.next.length g cap w' (clsOf A)
theorem classesOf_c (v : Value) (A : Auto) (w : World) (hv : AutoV w v A) (hA : AutoFit A) (hM : A.next.length < 100) :
    Calls Tryz.prog 113 #[v] w (ClsEnd A w) := by
  obtain ⟨vn, va, rfl, hN1, hA1⟩ := hv
  obtain ⟨an, cn, rfl, -, hn2⟩ := hN1.open
  obtain ⟨aa, ca, rfl, -, hat⟩ := hA1.open
  have HN2 := Lib.hid hn2
  have HAT := Lib.hid hat
  have HX := Lib.hid hA
  have hn1 := hA.n1
  have HACC := Lib.hid hA.acc
  have hL6 : (letters A.alphabet).length ≤ 6 := lettersTo_len A.alphabet 6
  clear hN1 hA1 hn2 hat hA
  go_enter Tryz.func113, Tryz.ntmps113
  go_wp2_with (at_make; refine make1 rfl rfl Tryz.underlying81 infoInt rfl rfl rfl rfl (by omega) (by decide) (Nat.le_refl _) ?_; intro w1 hown hext hlt; have hs0 := made_sets (b := w.heap.size) (g' := w.heap.size + 1) hown (World.size_alloc _ _) (Nat.le_succ _))
  have hB := hext.blk
  have hx := hext.peel
  rw [← upTo_zero (stage A 0)] at hs0
  clear hext hown hlt
  go_loopw [21] (fun i wr => ∃ k : Nat, k ≤ A.next.length ∧ i = .int .i64 k ∧ SetsOwn w.heap.size A.next.length (w.heap.size + 1) A.next.length wr (upTo k (stage A 0)) ∧ Blk wr w.heap.size #[.int .i64 A.alphabet, .slice an A.next.length cn, .slice aa A.accept.length ca] 29 ∧ Ext w wr) (fun i _ => A.next.length - (intOf i).toNat)
  case atStart => exact ⟨0, by omega, rfl, hs0, hB, hx⟩
  case round =>
    clear hs0 hB hx
    obtain ⟨k, hk, rfl, hs, hB, hx⟩ := hrel
    by_cases hlt : k < A.next.length
    · obtain ⟨b9, o9, rfl, -, hc9⟩ := HAT.out k _ (HX.out.accepts_at hlt)
      have g9 : wr.cell? ⟨b9, o9 + k, none⟩ = some (.bool (accepts A k)) := by have := hc9 k _ (HX.out.accepts_at hlt); rw [Nat.mul_one] at this; exact hx.cell this
      obtain ⟨z, hz⟩ : ∃ z, accepts A k = z := ⟨_, rfl⟩
      rw [hz] at g9
      have HZ := Lib.hid hz
      have i1 : (k : Int) < (A.accept.length : Int) := by have := HACC.out; omega
      have i2 : (k : Int) < (A.next.length : Int) := by omega
      have d2 := hB.cell 2 rfl
      clear hc9 hz
      cases z with
      | true =>
        have gc := hs.cell (p := k) (by omega)
        have gf := hs.fr k
        have hs2 := hs.set (p := k) (by omega) 1
        rw [show (1 : Nat) = stage A 0 k by show 1 = if accepts A k then 1 else 0; rw [HZ.out]; rfl, upTo_upd, show stage A 0 k = 1 by show (if accepts A k then 1 else 0) = 1; rw [HZ.out]; rfl] at hs2
        go_wp2_with fail
        exact ⟨⟨k + 1, by omega, by go_num, hs2, hB.other (p := ⟨w.heap.size + 1, k, none⟩) (by simp only []; omega) _, hx.setCell (p := ⟨w.heap.size + 1, k, none⟩) (by simp only []; omega) _⟩, by simp [intOf]; omega⟩
      | false =>
        have hs2 : SetsOwn w.heap.size A.next.length (w.heap.size + 1) A.next.length wr (upTo (k + 1) (stage A 0)) := by
          rw [upTo_skip (by show (if accepts A k then 1 else 0) = 0; rw [HZ.out]; rfl)]; exact hs
        go_wp2_with fail
        exact ⟨⟨k + 1, by omega, by go_num, hs2, hB, hx⟩, by simp [intOf]; omega⟩
    · obtain rfl : k = A.next.length := by omega
      have hs0 := hs.eqOn (f' := stage A 0) (fun p hp => by simp [upTo, hp])
      have hR0 : Hid (Round A 0 0) := Lib.hid (.inl ⟨rfl, rfl⟩)
      clear hs
      go_wp2_with fail
      go_loopw [3, 5] (fun vC vK wr => ∃ (i c gC cap : Nat), vC = .slice (some ⟨gC, 0, none⟩) A.next.length cap ∧ vK = .int .i64 c ∧ c ≤ A.next.length ∧ Hid (Round A i c) ∧ SetsOwn w.heap.size A.next.length gC cap wr (stage A i) ∧ Blk wr w.heap.size #[.int .i64 A.alphabet, .slice an A.next.length cn, .slice aa A.accept.length ca] 29 ∧ Ext w wr) (fun _ vK _ => A.next.length + 1 - (intOf vK).toNat)
      case atStart => exact ⟨0, 0, _, _, rfl, rfl, by omega, hR0, hs0, hB, hx⟩
      case round =>
        clear hs0 hB hx hR0
        obtain ⟨i, c, gC, cap, rfl, rfl, hc, HR, hC, hB, hx⟩ := hrel
        obtain ⟨cf, hcf⟩ : ∃ cf, stage A i = cf := ⟨_, rfl⟩
        have HCF := Lib.hid hcf
        rw [hcf] at hC
        clear hcf
        have hmm := @run_makeMap Tryz.prog
        obtain ⟨wm, hwm⟩ : ∃ wm, wm = wr.alloc (.map #[] 0) := ⟨_, rfl⟩
        have hm0 : wm.ownsMap Tryz.prog 9 (plainElem (H := Unit) Tryz.prog 3) wr.heap.size 0 (.map []) := by rw [hwm]; exact World.ownsMap_made _ _ _ _
        have hxm : Ext wr wm := by rw [hwm]; exact Ext.alloc _ _
        have hmsz : wm.heap.size = wr.heap.size + 1 := by rw [hwm]; exact World.size_alloc _ _
        have hwrs : w.heap.size < wr.heap.size := hB.lt
        go_wp2_with (at_make; rw [← hwm]; refine make1 (base := wm.heap.size) rfl rfl Tryz.underlying81 infoInt rfl rfl rfl rfl (by omega) (by decide) (Nat.le_refl _) ?_; intro w1 hown hext hlt; have hs0 := made_sets (b := wr.heap.size) (g' := wr.heap.size + 1) hown hmsz (Nat.le_succ _); have d1 := ((hB.ext hxm).ext hext).cell 1 rfl)
        clear hwm hmm
        have hC1 := (hC.ext hxm).ext hext
        have hB1 := (hB.ext hxm).ext hext
        have hx1 := (hx.trans hxm).trans hext
        have hm1 := map_ext hm0 hext
        have hgC : gC < wr.heap.size := (own_lt hC (k := gC) rfl).2
        rw [← upTo_zero (refine1 A cf)] at hs0
        generalize wr.heap.size = bm at hm1 hs0 hgC hwrs ⊢
        have hM0 : Hid (StrMap (ddTo (sig A cf) 0) (DataW.map [])) := Lib.hid StrMap.nil
        clear hC hB hx hm0 hxm hext hlt hown hmsz d1
        generalize (DataW.map [] : DataW Unit) = D0 at hm1 hM0
        go_loopw [40] (fun j wr => ∃ (k nm : Nat) (D : DataW Unit), k ≤ A.next.length ∧ j = .int .i64 k ∧ nm ≤ k ∧ SetsOwn w.heap.size A.next.length gC cap wr cf ∧ SetsOwn w.heap.size A.next.length (bm + 1) A.next.length wr (upTo k (refine1 A cf)) ∧ wr.ownsMap Tryz.prog 9 (plainElem (H := Unit) Tryz.prog 3) bm nm D ∧ Hid (StrMap (ddTo (sig A cf) k) D) ∧ Blk wr w.heap.size #[.int .i64 A.alphabet, .slice an A.next.length cn, .slice aa A.accept.length ca] 29 ∧ Ext w wr) (fun j _ => A.next.length - (intOf j).toNat)
        case atStart => exact ⟨0, 0, D0, by omega, rfl, by omega, hC1, own_base hs0 (by omega), hm1, hM0, hB1, hx1⟩
        case round =>
          clear hC1 hs0 hm1 hM0 hB1 hx1
          obtain ⟨k, nm, D, hk, rfl, hnm, hC, hs, hm, HM, hB, hx⟩ := hrel
          have hsz := hx.size
          by_cases hlt : k < A.next.length
          · have HOK := Lib.hid (by have := sig_ok HX.out hM i hlt; rwa [HCF.out] at this : OkSig (sig A cf k))
            have HLT := Lib.hid (fun q (hq : q < A.next.length) => (by have := stage_lt hM i hq; rwa [HCF.out] at this : cf q < 100))
            have HKS := Lib.hid (fun m => (by have := sigPre_size HX.out hM i hlt m; rwa [HCF.out] at this : (keyB (sigPre A cf k m)).size ≤ 21))
            obtain ⟨row, hr, hrl, -⟩ := HX.out.row hlt
            obtain ⟨b, off, rfl, -, hc3⟩ := HN2.out k row hr
            obtain ⟨vr, g1, hvr⟩ := hc3 k row hr
            rw [Nat.mul_one] at g1
            have g1r := hx.cell g1
            obtain ⟨ar, cr, rfl, -, hrr⟩ := hvr.open
            have HRR := Lib.hid hrr
            have HR1 := Lib.hid hr
            have hrl2 : row.length = (letters A.alphabet).length := hrl
            have HRL := Lib.hid hrl2
            have hki : (k : Int) < (A.next.length : Int) := by omega
            have gc := hC.cell (p := k) hlt
            have HI0 := Lib.hid (fun w' => Itoa_c (cf k) (HLT.out k hlt) w')
            rw [show (⟨(digs (cf k)).toArray⟩ : ByteArray) = keyB (sigPre A cf k 0) from (keyB_one _).symm] at HI0
            clear hc3 hr hvr hrr hrl hrl2 g1
            have hrl3 : (row.length : Int) = ((letters A.alphabet).length : Int) := by rw [HRL.out]
            have HRLI := Lib.hid hrl3
            clear hrl3
            go_wp2_with (go_at_call 156; refine (HI0.out _).mono ?_; rintro e w' ⟨rfl, rfl⟩)
            go_loop [10, 52] (fun t j => ∃ m : Nat, m ≤ row.length ∧ j = .int .i64 m ∧ t = .string (keyB (sigPre A cf k m))) (fun _ j => row.length - (intOf j).toNat)
            case atStart => exact ⟨0, by omega, rfl, rfl⟩
            case round =>
              obtain ⟨m, hm', rfl, rfl⟩ := hrel
              by_cases hml : m < row.length
              · obtain ⟨l, hl⟩ : ∃ l, (letters A.alphabet)[m]? = some l := ⟨_, List.getElem?_eq_getElem (by rw [← HRL.out]; exact hml)⟩
                obtain ⟨hb, h0, h6, hm6⟩ := letters_mem _ _ _ HX.out.a63 hl
                have hp := ((letters_place _ _ m HX.out.a0 HX.out.a63 h0 h6 hm6).1 hl).2
                obtain ⟨row', z, hr', hz, rfl, hzn⟩ := HX.out.step_facts hlt hb
                rw [HR1.out] at hr'
                cases hr'
                rw [hp] at hz
                obtain ⟨y, hy⟩ : ∃ y, step A k l = y := ⟨_, rfl⟩
                rw [hy] at hz hzn
                obtain ⟨b2, off2, rfl, -, hc2⟩ := HRR.out m _ hz
                have g2 := hx.cell (hc2 m _ hz)
                rw [Nat.mul_one] at g2
                have gy := hC.cell (p := y) hzn
                have hyi : (y : Int) < (A.next.length : Int) := by omega
                have hmi : (m : Int) < (row.length : Int) := by omega
                have HIY := Lib.hid (fun w' => Itoa_c (cf y) (HLT.out y hzn) w')
                obtain ⟨dB, hdB⟩ : ∃ dB : ByteArray, (⟨(digs (cf y)).toArray⟩ : ByteArray) = dB := ⟨_, rfl⟩
                have hd2 : dB.size ≤ 2 := by rw [← hdB]; exact (by simpa [ByteArray.size] using digs_len (HLT.out y hzn))
                have HKN : Hid (keyB (sigPre A cf k m) ++ ((⟨#[44]⟩ : ByteArray) ++ dB) = keyB (sigPre A cf k (m + 1))) := Lib.hid (by rw [sigPre_succ hl, hy, keyB_push (by simp [sigPre]), hdB])
                have hks := HKS.out m
                rw [hdB] at HIY
                generalize keyB (sigPre A cf k m) = kB at HKN hks ⊢
                have hz1 : ¬ (9223372036854775807 < 1 + dB.size) := by omega
                have hz2 : ¬ (9223372036854775807 < kB.size + (1 + dB.size)) := by omega
                clear hc2 hz hb hp h0 h6 hl hy hdB
                go_wp2_with (go_at_call 156; refine (HIY.out _).mono ?_; rintro e w' ⟨rfl, rfl⟩)
                exact ⟨⟨m + 1, by omega, by go_num, congrArg Value.string HKN.out⟩, by simp [intOf]; omega⟩
              · obtain rfl : m = row.length := by omega
                have HKF : Hid (keyB (sigPre A cf k row.length) = keyB (sig A cf k)) := Lib.hid (by rw [HRL.out, sigPre_full])
                rw [HKF.out]
                have hkey := Lib.hid (key_str HOK.out)
                obtain ⟨ix, hix⟩ : ∃ ix, refine1 A cf k = ix := ⟨_, rfl⟩
                have hixn : ix < 100000 := by
                  rw [← hix]
                  have h1 := idxD_lt (sig_mem (A := A) (c := cf) hlt)
                  have h2 := ddTo_len (f := sig A cf) A.next.length
                  have h3 : (sigD A cf).length = (ddTo (sig A cf) A.next.length).length := rfl
                  have h4 : idxD (sigD A cf) (sig A cf k) = refine1 A cf k := rfl
                  omega
                have gf := hs.fr k
                have gn := hs.cell (p := k) hlt
                have hs2 := hs.set (p := k) hlt ix
                rw [← hix, upTo_upd, hix] at hs2
                have hne : gC ≠ bm + 1 := by omega
                have HIX := Lib.hid hix
                generalize keyB (sig A cf k) = kB at hkey ⊢
                by_cases hmem : sig A cf k ∈ ddTo (sig A cf) k
                · have hhas : Maps.has D (keySL (sig A cf k)) = true := by rw [(HM.out.2 _ HOK.out).1]; simpa using hmem
                  have hat := (HM.out.2 _ HOK.out).2 hmem
                  rw [show idxD (ddTo (sig A cf) k) (sig A cf k) = ix from (ddTo_old hlt hmem).symm.trans hix] at hat
                  have HAT2 := Lib.hid hat
                  have HM2 : Hid (StrMap (ddTo (sig A cf) (k + 1)) D) := Lib.hid (by rw [ddTo_succ, show addN (ddTo (sig A cf) k) (sig A cf k) = ddTo (sig A cf) k from if_pos hmem]; exact HM.out)
                  clear hat hmem
                  go_wp2_with (at_lookup; refine wpList_lookup_own_ok_int _ rfl _ _ 208 rfl 9 3 .i64 lawStr Tryz.underlying208 Tryz.underlying3 (zeroInt _) bm nm D rfl hm _ _ rfl hkey.out ?_; intro c hat hwc; rw [hhas]; obtain rfl : c = (ix : Int) := (by have h9 := hat.symm.trans HAT2.out; injection h9 with h9; injection h9); clear hat hwc)
                  exact ⟨⟨k + 1, nm, D, by omega, by go_num, by omega, hC.tnd (tnd_set1 _ _ _ _) hne, hs2, hm.setCell (fun e => hs.apart hm e.symm) _, HM2, hB.other (p := ⟨bm + 1, k, none⟩) (by simp only []; omega) _, hx.setCell (p := ⟨bm + 1, k, none⟩) (by simp only []; omega) _⟩, by simp [intOf]; omega⟩
                · have hhas : Maps.has D (keySL (sig A cf k)) = false := by rw [(HM.out.2 _ HOK.out).1]; simpa using hmem
                  have hsz2 : Maps.size D = ix := by rw [HM.out.1, ← hix]; exact (ddTo_new hlt hmem).symm
                  have HSZ := Lib.hid hsz2
                  have HM2 := HM.out.push (hm.tidy lawStr) HOK.out hmem
                  rw [← HM.out.1, hsz2, ← show addN (ddTo (sig A cf) k) (sig A cf k) = ddTo (sig A cf) k ++ [sig A cf k] from if_neg hmem, ← ddTo_succ] at HM2
                  have HM3 := Lib.hid HM2
                  have hnm2 : nm < maxLen := by unfold maxLen; omega
                  have hbg := hs.apart hm
                  have hbg2 := hC.apart hm
                  clear HM2 hmem hsz2 hix
                  go_wp2_with (first
                    | (at_lookup; refine wpList_lookup_own_ok_int _ rfl _ _ 208 rfl 9 3 .i64 lawStr Tryz.underlying208 Tryz.underlying3 (zeroInt _) bm nm D rfl hm _ _ rfl hkey.out ?_; intro c hat hwc; rw [hhas]; clear hat hwc)
                    | (at_len; refine wpList_len_own _ rfl _ 208 rfl 9 3 Tryz.underlying208 _ bm nm D rfl hm ?_; rw [HSZ.out])
                    | (at_mapUpdate; refine wpList_mapUpdate_own _ rfl _ _ _ 208 rfl 9 3 lawStr Tryz.underlying208 _ bm nm D rfl hm hnm2 _ _ _ rfl rfl hkey.out _ [] (elem_int (x := ix) (by omega)) ?_; intro w6 hm6 hg6; have hC6 := hC.tnd (Tnd.grown hg6 (S := fun x => x = bm) fun g hg => by cases hg; rfl) hbg2; have hs6 := hs.tnd (Tnd.grown hg6 (S := fun x => x = bm) fun g hg => by cases hg; rfl) hbg; have gn6 := hs6.cell (p := k) hlt; have gf6 := hs6.fr k))
                  have hs7 := hs6.set (p := k) hlt ix
                  rw [← HIX.out, upTo_upd, HIX.out] at hs7
                  have hB6 := (hg6.block _ hB.lt (fun e => by have e' := Option.some.inj e; omega)).trans hB
                  exact ⟨⟨k + 1, nm + 1, _, by omega, by go_num, by omega, hC6.tnd (tnd_set1 _ _ _ _) hne, hs7, hm6.setCell (fun e => by simp at e) _, HM3, Blk.other hB6 (p := ⟨bm + 1, k, none⟩) (by simp only []; omega) _, (grown_below (B := w.heap.size) hx hg6 hx.size (fun k hk => by cases hk; omega)).setCell (p := ⟨bm + 1, k, none⟩) (by simp only []; omega) _⟩, by simp [intOf]; omega⟩
          · obtain rfl : k = A.next.length := by omega
            have hsN : SetsOwn w.heap.size A.next.length (bm + 1) A.next.length wr (stage A (i + 1)) := hs.eqOn fun p hp => by
              show upTo A.next.length (refine1 A cf) p = refine1 A (stage A i) p
              rw [HCF.out]; simp [upTo, hp]
            have hcnt : Maps.size D = cnt A i := by
              rw [HM.out.1]
              show (ddTo (sig A cf) A.next.length).length = (sigD A (stage A i)).length
              rw [HCF.out]; rfl
            have HCNT := Lib.hid hcnt
            have hcle := cnt_le (A := A) i
            obtain ⟨cn', hcn⟩ : ∃ cn', cnt A i = cn' := ⟨_, rfl⟩
            rw [hcn] at HCNT hcle
            clear hs hC hcnt
            by_cases hdone : cn' = c
            · subst hdone
              have hR := HR.out
              rw [← hcn] at hR
              have hfin : ClsEnd A w (.returned (.slice (some ⟨bm + 1, 0, none⟩) A.next.length A.next.length)) wr := ⟨_, _, rfl, hx, hsN.eqOn fun p hp => hR.done HX.out hp⟩
              have HF := Lib.hid hfin
              clear hfin hsN hR hcn
              go_wp2_with (at_len; refine wpList_len_own _ rfl _ 208 rfl 9 3 Tryz.underlying208 _ bm nm D rfl hm ?_; rw [HCNT.out])
              go_ret
              exact HF.out
            · have hR := HR.out.next HX.out (by rw [hcn]; exact hdone)
              rw [hcn] at hR
              obtain ⟨hR1, hR2⟩ := hR
              have HR1 := Lib.hid hR1
              have hne' : ¬ (cn' : Int) = (c : Int) := by omega
              clear hR1 hcn hdone
              go_wp2_with (at_len; refine wpList_len_own _ rfl _ 208 rfl 9 3 Tryz.underlying208 _ bm nm D rfl hm ?_; rw [HCNT.out])
              exact ⟨⟨i + 1, cn', _, _, rfl, rfl, by omega, HR1, hsN, hB, hx⟩, by simp [intOf]; omega⟩
end Go.Proofs.YtajafdblmphglaaGreatDoor
