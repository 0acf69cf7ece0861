/- Part of this seat's proofs, cut to what its law needs. -/

import Derived.Test.YtadplnbadfnlfaaGreatDoorPlainM
import Derived.Test.YtadplnbadfnlfaaGreatDoorWalkN
import Derived.Shelf.Strconv.Itoa1
import Derived.Test.YtadplnbadfnlfaaGreatDoorSafeS
import Derived.Deep.RegionLaw
import Derived.Test.YtadplnbadfnlfaaGreatDoorWalkFB
import Derived.Test.YtadplnbadfnlfaaGreatDoorDet
import Derived.Test.YtadplnbadfnlfaaGreatDoorRead

namespace Go.Proofs.YtadplnbadfnlfaaGreatDoor
set_option linter.unusedSimpArgs false
set_option linter.unusedVariables false
open Go.RowKit Go.Maps
set_option maxHeartbeats 4000000
set_option maxRecDepth 100000


def ren283 : Go.Shelf.Ren where
  f := fun x => match x with | 283 => 314 | n => n
  t := fun x => match x with | 3 => 3 | 4 => 4 | 9 => 9 | n => n
  g := fun x => x
theorem lays283 : Lays.n283 Tryz.prog ren283 := by
  constructor
  all_goals first | kernel_rfl | (intro w; kernel_rfl)
def digs (c : Nat) : List UInt8 := Lib.decDigits c
theorem small_c (i : Nat) (hi : i < 100) (w : World) : Calls Tryz.prog 314 #[.int .i64 i] w (Same (.string ⟨(digs i).toArray⟩) w) :=
  (Any.internal_strconv_small lays283 i hi w).mono fun e w' ⟨h1, h2⟩ => ⟨h1, h2.symm⟩
theorem FormatInt_c (i : Nat) (hi : i < 100) (w : World) : Calls Tryz.prog 313 #[.int .i64 i, .int .i64 10] w (Same (.string ⟨(digs i).toArray⟩) w) := by
  go_enter Tryz.func313, Tryz.ntmps313
  go_wp2_with (go_at_call 314; refine (small_c i hi _).mono ?_; rintro e w' ⟨rfl, rfl⟩)
  go_ret
  exact Same.mk rfl
theorem Itoa1_c (i : Nat) (hi : i < 100) (w : World) : Calls Tryz.prog 305 #[.int .i64 i] w (Same (.string ⟨(digs i).toArray⟩) w) := by
  go_enter Tryz.func305, Tryz.ntmps305
  go_wp2_with (go_at_call 313; refine (FormatInt_c i hi _).mono ?_; rintro e w' ⟨rfl, rfl⟩)
  go_ret
  exact Same.mk rfl
theorem Itoa_c (i : Nat) (hi : i < 100) (w : World) : Calls Tryz.prog 268 #[.int .i64 i] w (Same (.string ⟨(digs i).toArray⟩) w) := by
  go_enter Tryz.func268, Tryz.ntmps268
  go_wp2_with (go_at_call 305; refine (Itoa1_c i hi _).mono ?_; rintro e w' ⟨rfl, rfl⟩)
  go_ret
  exact Same.mk rfl


theorem digs_all : ∀ c ∈ List.range 100, (digs c).all (fun d => decide (d ≠ 44)) = true ∧ (digs c).length ≤ 2 := by decide +kernel
theorem digs_inj_all : ∀ c ∈ List.range 100, ∀ d ∈ List.range 100, decide (digs c = digs d) = decide (c = d) := by decide +kernel
theorem digs_ne {c : Nat} (h : c < 100) : ∀ d ∈ digs c, d ≠ 44 := fun d hd => by
  have := List.all_eq_true.1 (digs_all c (by simpa using h)).1 d hd
  simpa using this
theorem digs_len {c : Nat} (h : c < 100) : (digs c).length ≤ 2 := (digs_all c (by simpa using h)).2
theorem digs_inj {c d : Nat} (h : c < 100) (k : d < 100) (e : digs c = digs d) : c = d := by
  have := digs_inj_all c (by simpa using h) d (by simpa using k)
  rw [e] at this
  simpa using this.symm
def keyTail (l : List Nat) : List UInt8 := l.flatMap fun c => 44 :: digs c
def keyText : List Nat → List UInt8
  | [] => []
  | c :: l => digs c ++ keyTail l
def keyB (l : List Nat) : ByteArray := ⟨(keyText l).toArray⟩
theorem keyTail_begin (l : List Nat) : keyTail l = [] ∨ ∃ r, keyTail l = 44 :: r := by
  cases l with
  | nil => exact .inl rfl
  | cons c l => exact .inr ⟨digs c ++ keyTail l, rfl⟩
theorem split44 : ∀ (a b r s : List UInt8), (∀ x ∈ a, x ≠ 44) → (∀ x ∈ b, x ≠ 44) → (r = [] ∨ ∃ r', r = 44 :: r') → (s = [] ∨ ∃ s', s = 44 :: s') → a ++ r = b ++ s → a = b ∧ r = s
  | [], [], r, s, _, _, _, _, h => ⟨rfl, h⟩
  | x :: a, [], r, s, ha, _, _, hs, h => by
    rcases hs with rfl | ⟨s', rfl⟩
    · simp at h
    · simp at h; exact absurd h.1 (ha x (by simp))
  | [], y :: b, r, s, _, hb, hr, _, h => by
    rcases hr with rfl | ⟨r', rfl⟩
    · simp at h
    · simp at h; exact absurd h.1.symm (hb y (by simp))
  | x :: a, y :: b, r, s, ha, hb, hr, hs, h => by
    simp only [List.cons_append, List.cons.injEq] at h
    obtain ⟨h1, h2⟩ := split44 a b r s (fun z hz => ha z (by simp [hz])) (fun z hz => hb z (by simp [hz])) hr hs h.2
    exact ⟨by rw [h.1, h1], h2⟩
theorem keyTail_inj : ∀ l m : List Nat, (∀ c ∈ l, c < 100) → (∀ c ∈ m, c < 100) → keyTail l = keyTail m → l = m
  | [], [], _, _, _ => rfl
  | c :: l, [], _, _, h => by simp [keyTail] at h
  | [], d :: m, _, _, h => by simp [keyTail] at h
  | c :: l, d :: m, hl, hm, h => by
    have h' : digs c ++ keyTail l = digs d ++ keyTail m := by
      have : (44 : UInt8) :: (digs c ++ keyTail l) = 44 :: (digs d ++ keyTail m) := h
      simpa using this
    obtain ⟨h1, h2⟩ := split44 _ _ _ _ (digs_ne (hl c (by simp))) (digs_ne (hm d (by simp))) (keyTail_begin l) (keyTail_begin m) h'
    rw [digs_inj (hl c (by simp)) (hm d (by simp)) h1, keyTail_inj l m (fun x hx => hl x (by simp [hx])) (fun x hx => hm x (by simp [hx])) h2]
structure OkSig (l : List Nat) : Prop where
  ne : l ≠ []
  lt : ∀ c ∈ l, c < 100
  len : l.length ≤ 7
theorem keyText_inj {l m : List Nat} (hl : OkSig l) (hm : OkSig m) (h : keyText l = keyText m) : l = m := by
  cases l with
  | nil => exact absurd rfl hl.ne
  | cons c l =>
    cases m with
    | nil => exact absurd rfl hm.ne
    | cons d m =>
      obtain ⟨h1, h2⟩ := split44 _ _ _ _ (digs_ne (hl.lt c (by simp))) (digs_ne (hm.lt d (by simp))) (keyTail_begin l) (keyTail_begin m) h
      rw [digs_inj (hl.lt c (by simp)) (hm.lt d (by simp)) h1, keyTail_inj l m (fun x hx => hl.lt x (by simp [hx])) (fun x hx => hm.lt x (by simp [hx])) h2]
theorem keyTail_len {l : List Nat} (h : ∀ c ∈ l, c < 100) : (keyTail l).length ≤ 3 * l.length := by
  induction l with
  | nil => simp [keyTail]
  | cons c l ih =>
    have h1 := ih fun x hx => h x (by simp [hx])
    have h2 := digs_len (h c (by simp))
    have e : keyTail (c :: l) = 44 :: (digs c ++ keyTail l) := rfl
    rw [e, List.length_cons, List.length_append, List.length_cons]
    omega
theorem keyText_len {l : List Nat} (h : ∀ c ∈ l, c < 100) : (keyText l).length ≤ 3 * l.length := by
  cases l with
  | nil => simp [keyText]
  | cons c l =>
    have h1 := keyTail_len (l := l) fun x hx => h x (by simp [hx])
    have h2 := digs_len (h c (by simp))
    show (digs c ++ keyTail l).length ≤ _
    rw [List.length_append, List.length_cons]
    omega
theorem keyB_size (l : List Nat) : (keyB l).size = (keyText l).length := by simp [keyB, ByteArray.size]
theorem keyB_one (c : Nat) : keyB [c] = ⟨(digs c).toArray⟩ := by simp [keyB, keyText, keyTail]
theorem keyB_push {l : List Nat} (hl : l ≠ []) (c : Nat) : keyB (l ++ [c]) = keyB l ++ (⟨#[44]⟩ ++ ⟨(digs c).toArray⟩) := by
  cases l with
  | nil => exact absurd rfl hl
  | cons x l =>
    apply ByteArray.ext
    rw [ByteArray.data_append, ByteArray.data_append]
    simp [keyB, keyText, keyTail]
theorem lawStr : Keyed Tryz.prog 9 := string_keyed Tryz.underlying9
def keySL (l : List Nat) : Lit := .string (keyText l)
theorem key_str {l : List Nat} (h : OkSig l) : keyOf Tryz.prog 9 (.string (keyB l)) = some (keySL l) := by
  have h1 := keyText_len h.lt
  have h2 := h.len
  have := Go.WideMaps.keyOf_string_mk (P := Tryz.prog) Tryz.underlying9 (s := keyB l) (by rw [keyB_size]; unfold maxLen; omega)
  rw [this]
  simp [keyB, keySL]
def StrMap (sigs : List (List Nat)) (D : DataW Unit) : Prop := Maps.size D = sigs.length ∧ ∀ l, OkSig l → Maps.has D (keySL l) = decide (l ∈ sigs) ∧ (l ∈ sigs → D.atKey (keySL l) (.lit (.int .i64 0)) = .lit (.int .i64 ((idxD sigs l : Nat) : Int)))
theorem StrMap.nil : StrMap [] (DataW.map []) := ⟨rfl, fun l _ => ⟨by simp [has_eq], fun h => by cases h⟩⟩
theorem StrMap.push {sigs : List (List Nat)} {D : DataW Unit} (h : StrMap sigs D) (hD : Tidy D) {x : List Nat} (hx : OkSig x) (hn : x ∉ sigs) : StrMap (sigs ++ [x]) (D.put (keySL x) (.lit (.int .i64 (sigs.length : Int)))) := by
  have hk := lawStr.key (key_str hx)
  have hh : Maps.has D (keySL x) = false := by rw [(h.2 x hx).1]; simpa using hn
  refine ⟨by rw [size_put hD, hh, h.1]; simp, fun y hy => ?_⟩
  by_cases hxy : y = x
  · subst hxy
    refine ⟨by rw [has_put_same hD.isMap hk]; simp, fun _ => ?_⟩
    rw [atKey_put_same hD.isMap hk, idxD_new hn]
  · have hne : keySL y ≠ keySL x := fun e => hxy (keyText_inj hy hx (by injection e))
    obtain ⟨h1, h2⟩ := h.2 y hy
    refine ⟨?_, fun hm => ?_⟩
    · rw [has_put_other hne, h1]; simp [hxy]
    · have hm' : y ∈ sigs := by simpa [hxy] using hm
      rw [atKey_put_other hne, h2 hm', idxD_app hm']
end Go.Proofs.YtadplnbadfnlfaaGreatDoor

namespace Go.Proofs.YtadplnbadfnlfaaGreatDoor
open Go.RowKit Go.Maps
set_option linter.unusedVariables false
set_option linter.unusedSimpArgs false
set_option maxHeartbeats 4000000
set_option maxRecDepth 100000


theorem SetsOwn.tnd {S : Nat → Prop} {base n g cap : Nat} {w w' : World} {f : Sets} (h : SetsOwn base n g cap w f) (ht : Tnd S w w') (hg : ¬ S g) : SetsOwn base n g cap w' f :=
  Tnd.own ht h fun k hk => by
    simp only [Value.ownBlock, Option.some.injEq] at hk
    subst hk; exact hg
theorem tnd_set1 (w : World) (b j : Nat) (v : Value) : Tnd (fun x => x = b) w (w.setCell ⟨b, j, none⟩ v) :=
  ⟨rfl, rfl, rfl, by simp, fun c _ hc => Below.heap_setCell w ⟨b, j, none⟩ v c hc⟩
theorem SetsOwn.apart {base n g cap bm nm : Nat} {w : World} {f : Sets} {D : DataW Unit} {k e : TypeId} (h : SetsOwn base n g cap w f) (hm : w.ownsMap Tryz.prog k (plainElem (H := Unit) Tryz.prog e) bm nm D) : g ≠ bm := fun e => by
  have := map_apart hm h
  simp only [Value.ownBlock] at this
  exact this (by rw [e])
theorem SetsOwn.eqOn {base n g cap : Nat} {w : World} {f f' : Sets} (h : SetsOwn base n g cap w f) (he : ∀ p, p < n → f p = f' p) : SetsOwn base n g cap w f' := by
  unfold SetsOwn at h ⊢
  rw [show setsL n f' = setsL n f by
    unfold setsL
    exact List.map_congr_left fun p hp => by rw [he p (by simpa using hp)]]
  exact h
def upTo (k : Nat) (f : Sets) : Sets := fun q => if q < k then f q else 0
theorem upTo_zero (f : Sets) : upTo 0 f = fun _ => 0 := by funext q; simp [upTo]
theorem upTo_upd (k : Nat) (f : Sets) : updS (upTo k f) k (f k) = upTo (k + 1) f := by
  funext q
  simp only [updS, upTo]
  by_cases h : q = k
  · subst h; simp
  · by_cases h1 : q < k
    · rw [if_neg h, if_pos h1, if_pos (by omega)]
    · rw [if_neg h, if_neg h1, if_neg (by omega)]
theorem upTo_skip {k : Nat} {f : Sets} (h : f k = 0) : upTo (k + 1) f = upTo k f := by
  funext q
  simp only [upTo]
  by_cases h1 : q < k
  · rw [if_pos h1, if_pos (by omega)]
  · by_cases h2 : q = k
    · subst h2; rw [if_neg h1, h]; simp
    · rw [if_neg h1, if_neg (by omega)]


theorem stage_lt {A : Auto} (hn : A.next.length < 100) (i : Nat) {q : Nat} (hq : q < A.next.length) : stage A i q < 100 := by
  cases i with
  | zero => show (if accepts A q then 1 else 0) < 100; split <;> omega
  | succ i =>
    have h1 : idxD (sigD A (stage A i)) (sig A (stage A i) q) < (sigD A (stage A i)).length := idxD_lt (sig_mem hq)
    have h2 : (sigD A (stage A i)).length ≤ A.next.length := cnt_le (A := A) i
    exact Nat.lt_trans (Nat.lt_of_lt_of_le h1 h2) hn
theorem sig_ok {A : Auto} (hA : AutoFit A) (hn : A.next.length < 100) (i : Nat) {q : Nat} (hq : q < A.next.length) : OkSig (sig A (stage A i) q) where
  ne := by simp [sig]
  lt := fun c hc => by
    rcases List.mem_cons.1 hc with rfl | hc
    · exact stage_lt hn i hq
    · obtain ⟨l, -, rfl⟩ := List.mem_map.1 hc
      exact stage_lt hn i (hA.step_lt hq l)
  len := by
    have := lettersTo_len A.alphabet 6
    simp only [sig, List.length_cons, List.length_map]
    unfold letters; omega
def sigPre (A : Auto) (c : Nat → Nat) (q m : Nat) : List Nat := c q :: ((letters A.alphabet).take m).map fun l => c (step A q l)
theorem sigPre_succ {A : Auto} {c : Nat → Nat} {q m : Nat} {l : Int} (h : (letters A.alphabet)[m]? = some l) : sigPre A c q (m + 1) = sigPre A c q m ++ [c (step A q l)] := by
  unfold sigPre; rw [List.take_add_one, h]; simp
theorem sigPre_full (A : Auto) (c : Nat → Nat) (q : Nat) : sigPre A c q (letters A.alphabet).length = sig A c q := by unfold sigPre sig; rw [List.take_length]
theorem sigPre_size {A : Auto} (hA : AutoFit A) (hn : A.next.length < 100) (i : Nat) {q : Nat} (hq : q < A.next.length) (m : Nat) : (keyB (sigPre A (stage A i) q m)).size ≤ 21 := by
  rw [keyB_size]
  have h1 := keyText_len (l := sigPre A (stage A i) q m) fun c hc => by
    rcases List.mem_cons.1 hc with rfl | hc
    · exact stage_lt hn i hq
    · obtain ⟨l, -, rfl⟩ := List.mem_map.1 hc
      exact stage_lt hn i (hA.step_lt hq l)
  have h2 := lettersTo_len A.alphabet 6
  have h3 : (sigPre A (stage A i) q m).length ≤ 7 := by
    simp only [sigPre, List.length_cons, List.length_map, List.length_take]
    unfold letters; omega
  omega
def Round (A : Auto) (i c : Nat) : Prop := (i = 0 ∧ c = 0) ∨ (∃ j, i = j + 1 ∧ c = many A i)
theorem Round.done {A : Auto} (hA : AutoFit A) {i : Nat} (h : Round A i (cnt A i)) {q : Nat} (hq : q < A.next.length) : stage A (i + 1) q = clsOf A q := by
  rcases h with ⟨rfl, h⟩ | ⟨j, rfl, h⟩
  · rw [cnt_many] at h
    have := many_pos hA (0 + 1)
    omega
  · rw [cnt_many] at h
    exact stage_cls hA h hq
theorem Round.next {A : Auto} (hA : AutoFit A) {i c : Nat} (h : Round A i c) (hc : cnt A i ≠ c) : Round A (i + 1) (cnt A i) ∧ c < cnt A i := by
  refine ⟨.inr ⟨i, rfl, cnt_many i⟩, ?_⟩
  rw [cnt_many] at hc ⊢
  rcases h with ⟨rfl, rfl⟩ | ⟨j, rfl, rfl⟩
  · have := many_pos hA (0 + 1); omega
  · have := many_mono (A := A) (j + 1); omega


def ClsEnd (A : Auto) (w : World) (e : Ending) (w' : World) : Prop := ∃ g cap, e = .returned (.slice (some ⟨g, 0, none⟩) A.next.length cap) ∧ Ext w w' ∧ SetsOwn w.heap.size A.next.length g cap w' (clsOf A)
theorem classesOf_c (v : Value) (A : Auto) (w : World) (hv : AutoV w v A) (hA : AutoFit A) (hM : A.next.length < 100) :
    Calls Tryz.prog 197 #[v] w (ClsEnd A w) := by
  obtain ⟨vn, va, rfl, hN1, hA1⟩ := hv
  obtain ⟨an, cn, rfl, -, hn2⟩ := hN1.open
  obtain ⟨aa, ca, rfl, -, hat⟩ := hA1.open
  have HN2 := Lib.hid hn2
  have HAT := Lib.hid hat
  have HX := Lib.hid hA
  have hn1 := hA.n1
  have HACC := Lib.hid hA.acc
  have hL6 : (letters A.alphabet).length ≤ 6 := lettersTo_len A.alphabet 6
  clear hN1 hA1 hn2 hat hA
  go_enter Tryz.func197, Tryz.ntmps197
  go_wp2_with (at_make; refine make1 rfl rfl Tryz.underlying96 infoInt rfl rfl rfl rfl (by omega) (by decide) (Nat.le_refl _) ?_; intro w1 hown hext hlt; have hs0 := made_sets (b := w.heap.size) (g' := w.heap.size + 1) hown (World.size_alloc _ _) (Nat.le_succ _))
  have hB := hext.blk
  have hx := hext.peel
  rw [← upTo_zero (stage A 0)] at hs0
  clear hext hown hlt
  go_loopw [21] (fun i wr => ∃ k : Nat, k ≤ A.next.length ∧ i = .int .i64 k ∧ SetsOwn w.heap.size A.next.length (w.heap.size + 1) A.next.length wr (upTo k (stage A 0)) ∧ Blk wr w.heap.size #[.int .i64 A.alphabet, .slice an A.next.length cn, .slice aa A.accept.length ca] 31 ∧ Ext w wr) (fun i _ => A.next.length - (intOf i).toNat)
  case atStart => exact ⟨0, by omega, rfl, hs0, hB, hx⟩
  case round =>
    clear hs0 hB hx
    obtain ⟨k, hk, rfl, hs, hB, hx⟩ := hrel
    by_cases hlt : k < A.next.length
    · obtain ⟨b9, o9, rfl, -, hc9⟩ := HAT.out k _ (HX.out.accepts_at hlt)
      have g9 : wr.cell? ⟨b9, o9 + k, none⟩ = some (.bool (accepts A k)) := by have := hc9 k _ (HX.out.accepts_at hlt); rw [Nat.mul_one] at this; exact hx.cell this
      obtain ⟨z, hz⟩ : ∃ z, accepts A k = z := ⟨_, rfl⟩
      rw [hz] at g9
      have HZ := Lib.hid hz
      have i1 : (k : Int) < (A.accept.length : Int) := by have := HACC.out; omega
      have i2 : (k : Int) < (A.next.length : Int) := by omega
      have d2 := hB.cell 2 rfl
      clear hc9 hz
      cases z with
      | true =>
        have gc := hs.cell (p := k) (by omega)
        have gf := hs.fr k
        have hs2 := hs.set (p := k) (by omega) 1
        rw [show (1 : Nat) = stage A 0 k by show 1 = if accepts A k then 1 else 0; rw [HZ.out]; rfl, upTo_upd, show stage A 0 k = 1 by show (if accepts A k then 1 else 0) = 1; rw [HZ.out]; rfl] at hs2
        go_wp2_with fail
        exact ⟨⟨k + 1, by omega, by go_num, hs2, hB.other (p := ⟨w.heap.size + 1, k, none⟩) (by simp only []; omega) _, hx.setCell (p := ⟨w.heap.size + 1, k, none⟩) (by simp only []; omega) _⟩, by simp [intOf]; omega⟩
      | false =>
        have hs2 : SetsOwn w.heap.size A.next.length (w.heap.size + 1) A.next.length wr (upTo (k + 1) (stage A 0)) := by
          rw [upTo_skip (by show (if accepts A k then 1 else 0) = 0; rw [HZ.out]; rfl)]; exact hs
        go_wp2_with fail
        exact ⟨⟨k + 1, by omega, by go_num, hs2, hB, hx⟩, by simp [intOf]; omega⟩
    · obtain rfl : k = A.next.length := by omega
      have hs0 := hs.eqOn (f' := stage A 0) (fun p hp => by simp [upTo, hp])
      have hR0 : Hid (Round A 0 0) := Lib.hid (.inl ⟨rfl, rfl⟩)
      clear hs
      go_wp2_with fail
      go_loopw [3, 5] (fun vC vK wr => ∃ (i c gC cap : Nat), vC = .slice (some ⟨gC, 0, none⟩) A.next.length cap ∧ vK = .int .i64 c ∧ c ≤ A.next.length ∧ Hid (Round A i c) ∧ SetsOwn w.heap.size A.next.length gC cap wr (stage A i) ∧ Blk wr w.heap.size #[.int .i64 A.alphabet, .slice an A.next.length cn, .slice aa A.accept.length ca] 31 ∧ Ext w wr) (fun _ vK _ => A.next.length + 1 - (intOf vK).toNat)
      case atStart => exact ⟨0, 0, _, _, rfl, rfl, by omega, hR0, hs0, hB, hx⟩
      case round =>
        clear hs0 hB hx hR0
        obtain ⟨i, c, gC, cap, rfl, rfl, hc, HR, hC, hB, hx⟩ := hrel
        obtain ⟨cf, hcf⟩ : ∃ cf, stage A i = cf := ⟨_, rfl⟩
        have HCF := Lib.hid hcf
        rw [hcf] at hC
        clear hcf
        have hmm := @run_makeMap Tryz.prog
        obtain ⟨wm, hwm⟩ : ∃ wm, wm = wr.alloc (.map #[] 0) := ⟨_, rfl⟩
        have hm0 : wm.ownsMap Tryz.prog 9 (plainElem (H := Unit) Tryz.prog 3) wr.heap.size 0 (.map []) := by rw [hwm]; exact World.ownsMap_made _ _ _ _
        have hxm : Ext wr wm := by rw [hwm]; exact Ext.alloc _ _
        have hmsz : wm.heap.size = wr.heap.size + 1 := by rw [hwm]; exact World.size_alloc _ _
        have hwrs : w.heap.size < wr.heap.size := hB.lt
        go_wp2_with (at_make; rw [← hwm]; refine make1 (base := wm.heap.size) rfl rfl Tryz.underlying96 infoInt rfl rfl rfl rfl (by omega) (by decide) (Nat.le_refl _) ?_; intro w1 hown hext hlt; have hs0 := made_sets (b := wr.heap.size) (g' := wr.heap.size + 1) hown hmsz (Nat.le_succ _); have d1 := ((hB.ext hxm).ext hext).cell 1 rfl)
        clear hwm hmm
        have hC1 := (hC.ext hxm).ext hext
        have hB1 := (hB.ext hxm).ext hext
        have hx1 := (hx.trans hxm).trans hext
        have hm1 := map_ext hm0 hext
        have hgC : gC < wr.heap.size := (own_lt hC (k := gC) rfl).2
        rw [← upTo_zero (refine1 A cf)] at hs0
        generalize wr.heap.size = bm at hm1 hs0 hgC hwrs ⊢
        have hM0 : Hid (StrMap (ddTo (sig A cf) 0) (DataW.map [])) := Lib.hid StrMap.nil
        clear hC hB hx hm0 hxm hext hlt hown hmsz d1
        generalize (DataW.map [] : DataW Unit) = D0 at hm1 hM0
        go_loopw [40] (fun j wr => ∃ (k nm : Nat) (D : DataW Unit), k ≤ A.next.length ∧ j = .int .i64 k ∧ nm ≤ k ∧ SetsOwn w.heap.size A.next.length gC cap wr cf ∧ SetsOwn w.heap.size A.next.length (bm + 1) A.next.length wr (upTo k (refine1 A cf)) ∧ wr.ownsMap Tryz.prog 9 (plainElem (H := Unit) Tryz.prog 3) bm nm D ∧ Hid (StrMap (ddTo (sig A cf) k) D) ∧ Blk wr w.heap.size #[.int .i64 A.alphabet, .slice an A.next.length cn, .slice aa A.accept.length ca] 31 ∧ Ext w wr) (fun j _ => A.next.length - (intOf j).toNat)
        case atStart => exact ⟨0, 0, D0, by omega, rfl, by omega, hC1, own_base hs0 (by omega), hm1, hM0, hB1, hx1⟩
        case round =>
          clear hC1 hs0 hm1 hM0 hB1 hx1
          obtain ⟨k, nm, D, hk, rfl, hnm, hC, hs, hm, HM, hB, hx⟩ := hrel
          have hsz := hx.size
          by_cases hlt : k < A.next.length
          · have HOK := Lib.hid (by have := sig_ok HX.out hM i hlt; rwa [HCF.out] at this : OkSig (sig A cf k))
            have HLT := Lib.hid (fun q (hq : q < A.next.length) => (by have := stage_lt hM i hq; rwa [HCF.out] at this : cf q < 100))
            have HKS := Lib.hid (fun m => (by have := sigPre_size HX.out hM i hlt m; rwa [HCF.out] at this : (keyB (sigPre A cf k m)).size ≤ 21))
            obtain ⟨row, hr, hrl, -⟩ := HX.out.row hlt
            obtain ⟨b, off, rfl, -, hc3⟩ := HN2.out k row hr
            obtain ⟨vr, g1, hvr⟩ := hc3 k row hr
            rw [Nat.mul_one] at g1
            have g1r := hx.cell g1
            obtain ⟨ar, cr, rfl, -, hrr⟩ := hvr.open
            have HRR := Lib.hid hrr
            have HR1 := Lib.hid hr
            have hrl2 : row.length = (letters A.alphabet).length := hrl
            have HRL := Lib.hid hrl2
            have hki : (k : Int) < (A.next.length : Int) := by omega
            have gc := hC.cell (p := k) hlt
            have HI0 := Lib.hid (fun w' => Itoa_c (cf k) (HLT.out k hlt) w')
            rw [show (⟨(digs (cf k)).toArray⟩ : ByteArray) = keyB (sigPre A cf k 0) from (keyB_one _).symm] at HI0
            clear hc3 hr hvr hrr hrl hrl2 g1
            have hrl3 : (row.length : Int) = ((letters A.alphabet).length : Int) := by rw [HRL.out]
            have HRLI := Lib.hid hrl3
            clear hrl3
            go_wp2_with (go_at_call 268; refine (HI0.out _).mono ?_; rintro e w' ⟨rfl, rfl⟩)
            go_loop [10, 52] (fun t j => ∃ m : Nat, m ≤ row.length ∧ j = .int .i64 m ∧ t = .string (keyB (sigPre A cf k m))) (fun _ j => row.length - (intOf j).toNat)
            case atStart => exact ⟨0, by omega, rfl, rfl⟩
            case round =>
              obtain ⟨m, hm', rfl, rfl⟩ := hrel
              by_cases hml : m < row.length
              · obtain ⟨l, hl⟩ : ∃ l, (letters A.alphabet)[m]? = some l := ⟨_, List.getElem?_eq_getElem (by rw [← HRL.out]; exact hml)⟩
                obtain ⟨hb, h0, h6, hm6⟩ := letters_mem _ _ _ HX.out.a63 hl
                have hp := ((letters_place _ _ m HX.out.a0 HX.out.a63 h0 h6 hm6).1 hl).2
                obtain ⟨row', z, hr', hz, rfl, hzn⟩ := HX.out.step_facts hlt hb
                rw [HR1.out] at hr'
                cases hr'
                rw [hp] at hz
                obtain ⟨y, hy⟩ : ∃ y, step A k l = y := ⟨_, rfl⟩
                rw [hy] at hz hzn
                obtain ⟨b2, off2, rfl, -, hc2⟩ := HRR.out m _ hz
                have g2 := hx.cell (hc2 m _ hz)
                rw [Nat.mul_one] at g2
                have gy := hC.cell (p := y) hzn
                have hyi : (y : Int) < (A.next.length : Int) := by omega
                have hmi : (m : Int) < (row.length : Int) := by omega
                have HIY := Lib.hid (fun w' => Itoa_c (cf y) (HLT.out y hzn) w')
                obtain ⟨dB, hdB⟩ : ∃ dB : ByteArray, (⟨(digs (cf y)).toArray⟩ : ByteArray) = dB := ⟨_, rfl⟩
                have hd2 : dB.size ≤ 2 := by rw [← hdB]; exact (by simpa [ByteArray.size] using digs_len (HLT.out y hzn))
                have HKN : Hid (keyB (sigPre A cf k m) ++ ((⟨#[44]⟩ : ByteArray) ++ dB) = keyB (sigPre A cf k (m + 1))) := Lib.hid (by rw [sigPre_succ hl, hy, keyB_push (by simp [sigPre]), hdB])
                have hks := HKS.out m
                rw [hdB] at HIY
                generalize keyB (sigPre A cf k m) = kB at HKN hks ⊢
                have hz1 : ¬ (9223372036854775807 < 1 + dB.size) := by omega
                have hz2 : ¬ (9223372036854775807 < kB.size + (1 + dB.size)) := by omega
                clear hc2 hz hb hp h0 h6 hl hy hdB
                go_wp2_with (go_at_call 268; refine (HIY.out _).mono ?_; rintro e w' ⟨rfl, rfl⟩)
                exact ⟨⟨m + 1, by omega, by go_num, congrArg Value.string HKN.out⟩, by simp [intOf]; omega⟩
              · obtain rfl : m = row.length := by omega
                have HKF : Hid (keyB (sigPre A cf k row.length) = keyB (sig A cf k)) := Lib.hid (by rw [HRL.out, sigPre_full])
                rw [HKF.out]
                have hkey := Lib.hid (key_str HOK.out)
                obtain ⟨ix, hix⟩ : ∃ ix, refine1 A cf k = ix := ⟨_, rfl⟩
                have hixn : ix < 100000 := by
                  rw [← hix]
                  have h1 := idxD_lt (sig_mem (A := A) (c := cf) hlt)
                  have h2 := ddTo_len (f := sig A cf) A.next.length
                  have h3 : (sigD A cf).length = (ddTo (sig A cf) A.next.length).length := rfl
                  have h4 : idxD (sigD A cf) (sig A cf k) = refine1 A cf k := rfl
                  omega
                have gf := hs.fr k
                have gn := hs.cell (p := k) hlt
                have hs2 := hs.set (p := k) hlt ix
                rw [← hix, upTo_upd, hix] at hs2
                have hne : gC ≠ bm + 1 := by omega
                have HIX := Lib.hid hix
                generalize keyB (sig A cf k) = kB at hkey ⊢
                by_cases hmem : sig A cf k ∈ ddTo (sig A cf) k
                · have hhas : Maps.has D (keySL (sig A cf k)) = true := by rw [(HM.out.2 _ HOK.out).1]; simpa using hmem
                  have hat := (HM.out.2 _ HOK.out).2 hmem
                  rw [show idxD (ddTo (sig A cf) k) (sig A cf k) = ix from (ddTo_old hlt hmem).symm.trans hix] at hat
                  have HAT2 := Lib.hid hat
                  have HM2 : Hid (StrMap (ddTo (sig A cf) (k + 1)) D) := Lib.hid (by rw [ddTo_succ, show addN (ddTo (sig A cf) k) (sig A cf k) = ddTo (sig A cf) k from if_pos hmem]; exact HM.out)
                  clear hat hmem
                  go_wp2_with (at_lookup; refine wpList_lookup_own_ok_int _ rfl _ _ 201 rfl 9 3 .i64 lawStr Tryz.underlying201 Tryz.underlying3 (zeroInt _) bm nm D rfl hm _ _ rfl hkey.out ?_; intro c hat hwc; rw [hhas]; obtain rfl : c = (ix : Int) := (by have h9 := hat.symm.trans HAT2.out; injection h9 with h9; injection h9); clear hat hwc)
                  exact ⟨⟨k + 1, nm, D, by omega, by go_num, by omega, hC.tnd (tnd_set1 _ _ _ _) hne, hs2, hm.setCell (fun e => hs.apart hm e.symm) _, HM2, hB.other (p := ⟨bm + 1, k, none⟩) (by simp only []; omega) _, hx.setCell (p := ⟨bm + 1, k, none⟩) (by simp only []; omega) _⟩, by simp [intOf]; omega⟩
                · have hhas : Maps.has D (keySL (sig A cf k)) = false := by rw [(HM.out.2 _ HOK.out).1]; simpa using hmem
                  have hsz2 : Maps.size D = ix := by rw [HM.out.1, ← hix]; exact (ddTo_new hlt hmem).symm
                  have HSZ := Lib.hid hsz2
                  have HM2 := HM.out.push (hm.tidy lawStr) HOK.out hmem
                  rw [← HM.out.1, hsz2, ← show addN (ddTo (sig A cf) k) (sig A cf k) = ddTo (sig A cf) k ++ [sig A cf k] from if_neg hmem, ← ddTo_succ] at HM2
                  have HM3 := Lib.hid HM2
                  have hnm2 : nm < maxLen := by unfold maxLen; omega
                  have hbg := hs.apart hm
                  have hbg2 := hC.apart hm
                  clear HM2 hmem hsz2 hix
                  go_wp2_with (first
                    | (at_lookup; refine wpList_lookup_own_ok_int _ rfl _ _ 201 rfl 9 3 .i64 lawStr Tryz.underlying201 Tryz.underlying3 (zeroInt _) bm nm D rfl hm _ _ rfl hkey.out ?_; intro c hat hwc; rw [hhas]; clear hat hwc)
                    | (at_len; refine wpList_len_own _ rfl _ 201 rfl 9 3 Tryz.underlying201 _ bm nm D rfl hm ?_; rw [HSZ.out])
                    | (at_mapUpdate; refine wpList_mapUpdate_own _ rfl _ _ _ 201 rfl 9 3 lawStr Tryz.underlying201 _ bm nm D rfl hm hnm2 _ _ _ rfl rfl hkey.out _ [] (elem_int (x := ix) (by omega)) ?_; intro w6 hm6 hg6; have hC6 := hC.tnd (Tnd.grown hg6 (S := fun x => x = bm) fun g hg => by cases hg; rfl) hbg2; have hs6 := hs.tnd (Tnd.grown hg6 (S := fun x => x = bm) fun g hg => by cases hg; rfl) hbg; have gn6 := hs6.cell (p := k) hlt; have gf6 := hs6.fr k))
                  have hs7 := hs6.set (p := k) hlt ix
                  rw [← HIX.out, upTo_upd, HIX.out] at hs7
                  have hB6 := (hg6.block _ hB.lt (fun e => by have e' := Option.some.inj e; omega)).trans hB
                  exact ⟨⟨k + 1, nm + 1, _, by omega, by go_num, by omega, hC6.tnd (tnd_set1 _ _ _ _) hne, hs7, hm6.setCell (fun e => by simp at e) _, HM3, Blk.other hB6 (p := ⟨bm + 1, k, none⟩) (by simp only []; omega) _, (grown_below (B := w.heap.size) hx hg6 hx.size (fun k hk => by cases hk; omega)).setCell (p := ⟨bm + 1, k, none⟩) (by simp only []; omega) _⟩, by simp [intOf]; omega⟩
          · obtain rfl : k = A.next.length := by omega
            have hsN : SetsOwn w.heap.size A.next.length (bm + 1) A.next.length wr (stage A (i + 1)) := hs.eqOn fun p hp => by
              show upTo A.next.length (refine1 A cf) p = refine1 A (stage A i) p
              rw [HCF.out]; simp [upTo, hp]
            have hcnt : Maps.size D = cnt A i := by
              rw [HM.out.1]
              show (ddTo (sig A cf) A.next.length).length = (sigD A (stage A i)).length
              rw [HCF.out]; rfl
            have HCNT := Lib.hid hcnt
            have hcle := cnt_le (A := A) i
            obtain ⟨cn', hcn⟩ : ∃ cn', cnt A i = cn' := ⟨_, rfl⟩
            rw [hcn] at HCNT hcle
            clear hs hC hcnt
            by_cases hdone : cn' = c
            · subst hdone
              have hR := HR.out
              rw [← hcn] at hR
              have hfin : ClsEnd A w (.returned (.slice (some ⟨bm + 1, 0, none⟩) A.next.length A.next.length)) wr := ⟨_, _, rfl, hx, hsN.eqOn fun p hp => hR.done HX.out hp⟩
              have HF := Lib.hid hfin
              clear hfin hsN hR hcn
              go_wp2_with (at_len; refine wpList_len_own _ rfl _ 201 rfl 9 3 Tryz.underlying201 _ bm nm D rfl hm ?_; rw [HCNT.out])
              go_ret
              exact HF.out
            · have hR := HR.out.next HX.out (by rw [hcn]; exact hdone)
              rw [hcn] at hR
              obtain ⟨hR1, hR2⟩ := hR
              have HR1 := Lib.hid hR1
              have hne' : ¬ (cn' : Int) = (c : Int) := by omega
              clear hR1 hcn hdone
              go_wp2_with (at_len; refine wpList_len_own _ rfl _ 201 rfl 9 3 Tryz.underlying201 _ bm nm D rfl hm ?_; rw [HCNT.out])
              exact ⟨⟨i + 1, cn', _, _, rfl, rfl, by omega, HR1, hsN, hB, hx⟩, by simp [intOf]; omega⟩
end Go.Proofs.YtadplnbadfnlfaaGreatDoor

namespace Go.Proofs.YtadplnbadfnlfaaGreatDoor
open Go Go.RowKit
set_option linter.unusedVariables false
set_option linter.unusedSimpArgs false
set_option maxHeartbeats 4000000
set_option maxRecDepth 100000


theorem trim_few {A : Auto} (hA : AutoFit A) {M : Nat} (hM : A.next.length ≤ M) : ¬ TooMany (nxT A) (letters A.alphabet) 0 M := by
  rintro ⟨l, h1, h2, h3⟩
  have h0 : 0 < A.next.length := hA.n1
  have := nodup_len l A.next.length h1 fun x hx => reach_lt h0 (fun q l hq _ => hA.step_lt hq l) (h3 x hx)
  omega

theorem trimNext_c (b : Nat) (A : Auto) (q lt : Nat) (w : World) (h : ∃ v, Blk w b #[v] 146 ∧ TabV w v (table A)) (hA : AutoFit A) (hq : q < A.next.length) (hl : lt < 6) :
    Calls Tryz.prog 269 #[.int .i64 q, .int .i64 lt, .pointer (some ⟨b, 0, none⟩)] w (Grows (.int .i64 (nxT A q (lt : Nat) : Nat)) w) := by
  obtain ⟨vu, hu1, hu2⟩ := h
  obtain ⟨au, cu, rfl, -, hu3⟩ := hu2.open
  rw [table_len] at hu1
  obtain ⟨b1, o1, rfl, -, hc1⟩ := hu3 q _ (table_at A q hq)
  have g1 := hc1 q _ (table_at A q hq) lt hl
  simp only [tabRow] at g1
  obtain ⟨z, hz⟩ : ∃ z, nxT A q (lt : Nat) = z := ⟨_, rfl⟩
  have hz' : step A q (lt : Int) = z := hz
  rw [hz'] at g1
  rw [hz]
  have i1 : (q : Int) < (A.next.length : Int) := by omega
  have i2 : (lt : Int) < 6 := by omega
  clear hu3 hc1 hu2 hz hz'
  have D1 := hu1.cell 0 rfl
  go_enter Tryz.func269, Tryz.ntmps269
  go_wp2_with fail
  go_ret
  exact Grows.mk rfl (Ext.refl _)
theorem enter_trim (args : Array Value) (w : World) : (callFunc 269 args).run Tryz.prog w = .ok (.enter 269 args) w := rfl
theorem nx_trim {w0 : World} {b : Nat} {A : Auto} (h : ∃ v, Blk w0 b #[v] 146 ∧ TabV w0 v (table A)) (hA : AutoFit A) :
    NxIs w0 A.next.length (letters A.alphabet) (.func (.func 269) #[] #[.pointer (some ⟨b, 0, none⟩)]) (nxT A) := by
  have a1 := hA.a63
  refine ⟨⟨_, _, rfl, enter_trim, fun w' k l hx hk hl => ?_⟩, fun k l hk _ => hA.step_lt hk l⟩
  obtain ⟨hl0, hl6⟩ := letters_lt6 a1 l hl
  obtain ⟨lt, rfl⟩ := Int.eq_ofNat_of_zero_le hl0
  obtain ⟨v, h1, h2⟩ := h
  exact trimNext_c b A k lt w' ⟨v, h1.ext hx, h2.mono hx⟩ hA hk (by omega)

theorem trim_f (v : Value) (A : Auto) (w : World) (hv : AutoV w v A) (hA : AutoFit A) (hM : A.next.length ≤ 100) :
    Calls Tryz.prog 198 #[v] w (fun e w' => ∃ v' B, e = .returned v' ∧ Ext w w' ∧ IsTrimF A B ∧ AutoOwn w.heap.size w' v' B) := by
  obtain ⟨vn, va, rfl, hN1, hA1⟩ := hv
  obtain ⟨an, cn, rfl, -, -⟩ := hN1.open
  obtain ⟨aa, ca, rfl, -, hat⟩ := hA1.open
  have HV := Lib.hid (show ∀ w', Ext w w' → AutoV w' (.agg #[.int .i64 A.alphabet, .slice an A.next.length cn, .slice aa A.accept.length ca]) A from fun w' h => ⟨_, _, rfl, hN1.mono h, hA1.mono h⟩)
  have HAT := Lib.hid hat
  have HX := Lib.hid hA
  clear hN1 hA1 hat
  have ha0 := hA.a0
  have ha63 := hA.a63
  have hn1 := hA.n1
  have hn12 := hM
  have hna := hA.acc
  have HNA := Lib.hid hna
  clear hna hA
  obtain ⟨wo, hwo⟩ : ∃ wo, wo = (w.alloc (.cells #[.int .i64 A.alphabet, .slice an A.next.length cn, .slice aa A.accept.length ca] 31)).alloc (.cells #[.int .i64 0, .slice none 0 0, .slice none 0 0] 31) := ⟨_, rfl⟩
  have he : Ext w wo := by rw [hwo]; exact (Ext.alloc _ _).trans (Ext.alloc _ _)
  have b1 : Blk wo w.heap.size #[.int .i64 A.alphabet, .slice an A.next.length cn, .slice aa A.accept.length ca] 31 := by rw [hwo]; exact Ext.blk (Ext.alloc _ _)
  have b2 : Blk wo (w.heap.size + 1) #[.int .i64 0, .slice none 0 0, .slice none 0 0] 31 := by rw [hwo]; exact Ext.blk1 (Ext.refl _)
  go_enter Tryz.func198, Tryz.ntmps198
  go_upto_region 1 with fail
  rw [← hwo]
  clear hwo
  have c0 := b1.cell 0 rfl; have c1 := b1.cell 1 rfl; have c2 := b1.cell 2 rfl
  go_wp2_with fail
  refine (tableOf_f _ A _ (HV.out _ he) HX.out (by omega)).mono ?_
  rintro e w1 ⟨vt, rfl, he1, htb⟩
  obtain ⟨aT, cT, rfl, -, -⟩ := htb.tab.open
  rw [table_len] at *
  clear c0 c1 c2
  go_upto_region 2 with fail
  obtain ⟨w2, hw2⟩ : ∃ w2, w2 = w1.alloc (.cells #[.slice aT A.next.length cT] 146) := ⟨_, rfl⟩
  have y2 : Ext w1 w2 := by rw [hw2]; exact Ext.alloc _ _
  have b3 : Blk w2 w1.heap.size #[.slice aT A.next.length cT] 146 := by rw [hw2]; exact Blk.new _ _ _
  rw [← hw2]
  clear hw2
  have l1 := (he.trans he1).size
  have l12 := (b2.ext he1).lt
  generalize w1.heap.size = p3 at b3 l1 l12 ⊢
  have HT := Lib.hid (show ∃ v, Blk w2 p3 #[v] 146 ∧ TabV w2 v (table A) from ⟨_, b3, htb.tab.mono y2⟩)
  replace he := (he.trans he1).trans y2
  replace b1 := (b1.ext he1).ext y2
  replace b2 := (b2.ext he1).ext y2
  clear htb he1 y2
  have D0 := fun d os => cell_regrown (b1.cell 0 rfl) d os
  have D3 := fun d os => cell_regrown (b3.cell 0 rfl) d os
  obtain ⟨nx, hnx⟩ : ∃ nx, nxT A = nx := ⟨_, rfl⟩
  obtain ⟨L, hL⟩ : ∃ L, letters A.alphabet = L := ⟨_, rfl⟩
  have hL6 : L.length ≤ 6 := by rw [← hL]; exact lettersTo_len A.alphabet 6
  have HNX := Lib.hid hnx
  have HLE := Lib.hid hL
  clear hnx hL
  obtain ⟨Kc, HKc⟩ : ∃ Kc : FuncId → Array Value → World → Value → World → Prop, Hid (Kc = fun f args w0 v w' => Ext w0 w' ∧ (f = 61 → IntsV w' v L) ∧ (f = 110 → NumbsEnd nx L 0 A.next.length w0 (.returned v) w')) := ⟨_, rfl⟩
  refine wp_region_ext (Kc := Kc) 14 (by kernel_rfl) (by kernel_rfl) ?_
  simp only [List.take_succ_cons, List.take_zero]
  repeat (refine WalkE.pure rfl (fun K hK => ?_); simp only [PureDo]; go_simp; refine hK _ ?_; clear hK K)
  refine WalkE.step (fun K hK wc hwc hdc => ?_)
  simp only [OpDo, OpSafe, OpOut]
  go_simp
  refine ⟨(lettersOf_c _ _ ha0 ha63).mono ?_, ?_⟩
  · rintro e w' ⟨v, rfl, he', hl⟩
    exact ⟨v, rfl, by rw [HKc.out, ← HLE.out]; exact ⟨he', fun _ => hl, fun h => absurd h (by decide)⟩⟩
  intro u4 w4 hk4
  rw [HKc.out] at hk4
  have hl4 := hk4.2.1 rfl
  refine ⟨hk4.1, hK _ _ ?_⟩
  clear hK K hdc hk4
  obtain ⟨aL, cL, rfl, -, -⟩ := hl4.open
  repeat (refine WalkE.pure rfl (fun K hK => ?_); simp only [PureDo]; go_simp; refine hK _ ?_; clear hK K)
  refine WalkE.step (fun K hK wd hwd hdd => ?_)
  simp only [OpDo, OpSafe, OpOut]
  go_simp
  have x2d : Ext w2 wd := (Ext.drew _).trans hwd
  have hN : NxIs wd A.next.length L (.func (.func 269) #[] #[.pointer (some ⟨p3, 0, none⟩)]) nx := by
    rw [← HNX.out, ← HLE.out]
    exact nx_trim (let ⟨v, h1, h2⟩ := HT.out; ⟨v, h1.ext x2d, h2.mono x2d⟩) HX.out
  refine ⟨(numbered_c 0 A.next.length A.next.length _ _ L nx _ (hl4.mono (hdd ⟨2, .data⟩ (by simp) rfl)) hL6 (by omega) (by omega) (by omega) (by omega) hN).mono ?_, ?_⟩
  · rintro e w' hne
    have hne' := hne
    obtain ⟨he', hr⟩ := hne'
    obtain ⟨v, rfl⟩ : ∃ v, e = .returned v := by
      rcases hr with ⟨_, _, _, _, _, e1, -⟩ | ⟨e1, -⟩ <;> exact ⟨_, e1⟩
    exact ⟨v, rfl, by rw [HKc.out]; exact ⟨he', fun h => absurd h (by decide), fun _ => hne⟩⟩
  intro u6 w6 hk6
  rw [HKc.out] at hk6
  have hn6 := hk6.2.2 rfl
  obtain ⟨x6, nodes, vS, vR, vs, rows, e6, hnum, hlen, hP, hrows, hvl⟩ | htm : Ext wd w6 ∧ (∃ nodes vS vR vs rows, u6 = .tuple #[vS, vR, .bool true] ∧ Numbers nx L 0 nodes ∧ nodes.length ≤ A.next.length ∧ Pool wd.heap.size w6 (numPool vS vR nodes.length nodes nodes.length vs rows) ∧ rows = nodes.map (rowN nx L nodes) ∧ vs.length = nodes.length) ∨ TooMany nx L 0 A.next.length := by
    obtain ⟨x6, h | h⟩ := hn6
    · obtain ⟨nodes, vS, vR, vs, rows, e6, h⟩ := h
      exact .inl ⟨x6, nodes, vS, vR, vs, rows, by injection e6, h⟩
    · exact .inr h.2
  case inr =>
    rw [← HNX.out, ← HLE.out] at htm
    exact absurd htm (trim_few HX.out (Nat.le_refl _))
  subst e6
  refine ⟨hk6.1, hK _ _ ?_⟩
  clear hK K hdd hk6 hn6 hl4 hN
  repeat (refine WalkE.pure rfl (fun K hK => ?_); simp only [PureDo]; go_simp; refine hK _ ?_; clear hK K)
  refine WalkE.nil (fun wn hwn hmn => ?_)
  simp only [List.drop_succ_cons, List.drop_zero, List.drop_nil]
  have hPn := hP.ext (hmn 6 (by omega))
  have xn : Ext w2 wn := (Ext.drew _).trans hwn
  have sB : w2.heap.size ≤ wd.heap.size := x2d.size
  have sN : wd.heap.size ≤ wn.heap.size := Nat.le_trans x6.size (hmn 6 (by omega)).size
  clear hmn HKc D0 D3 hwn hwd hwc hP x6 x2d
  generalize wd.heap.size = base at hPn sB sN ⊢
  clear wd wc w4
  replace he := he.trans xn
  replace b1 := b1.ext xn
  replace b2 := b2.ext xn
  have l2w : w.heap.size + 1 < w2.heap.size := by have := b3.lt; omega
  clear b3 xn HT
  obtain ⟨aR, cR, rfl⟩ := own_any' (Pool.hd2 hPn)
  obtain ⟨aS, cS, rfl⟩ := own_any' (Pool.hd hPn)
  have HB := Lib.hid (show ∀ n ∈ nodes, n < A.next.length from fun n hn => by
    have := hnum.reach n hn
    rw [← HNX.out, ← HLE.out] at this
    exact reach_lt (by omega) (fun k l hk _ => HX.out.step_lt hk l) this)
  have HNU := Lib.hid hnum
  have HRW := Lib.hid hrows
  have HVL := Lib.hid hvl
  clear hnum hrows hvl
  have c0 := b1.cell 0 rfl; have c1 := b1.cell 1 rfl; have c2 := b1.cell 2 rfl
  go_upto_region 4 with fail
  obtain ⟨w3, hw3⟩ : ∃ w3, w3 = wn.alloc (.cells #[.int .i64 A.alphabet, .slice aR nodes.length cR, .slice none 0 0] 31) := ⟨_, rfl⟩
  have y3 : Ext wn w3 := by rw [hw3]; exact Ext.alloc _ _
  have b7 : Blk w3 wn.heap.size #[.int .i64 A.alphabet, .slice aR nodes.length cR, .slice none 0 0] 31 := by rw [hw3]; exact Blk.new _ _ _
  rw [← hw3]
  clear hw3
  replace he := he.trans y3
  replace b1 := b1.ext y3
  replace b2 := b2.ext y3
  replace hPn := (hPn.ext y3).addNil 4 1
  have sN3 : base ≤ w3.heap.size := Nat.le_trans sN y3.size
  clear y3 c0 c1 c2
  generalize wn.heap.size = G at b7 sN ⊢
  clear wn
  go_wp2_with fail
  go_loopw [29] (fun i wr => ∃ (k : Nat) (va : Value), k ≤ nodes.length ∧ i = .int .i64 k ∧ Blk wr G #[.int .i64 A.alphabet, .slice aR nodes.length cR, va] 31 ∧ Pool base wr (⟨4, 1, va, k, ((nodes.take k).map (accepts A)).map Value.bool⟩ :: numPool (.slice aS nodes.length cS) (.slice aR nodes.length cR) nodes.length nodes nodes.length vs rows) ∧ Blk wr w.heap.size #[.int .i64 A.alphabet, .slice an A.next.length cn, .slice aa A.accept.length ca] 31 ∧ Blk wr (w.heap.size + 1) #[.int .i64 0, .slice none 0 0, .slice none 0 0] 31 ∧ Ext w wr ∧ base ≤ wr.heap.size) (fun i _ => nodes.length - (intOf i).toNat)
  case atStart => exact ⟨0, _, by omega, rfl, b7, hPn, b1, b2, he, sN3⟩
  case round =>
    clear b7 hPn b1 b2 he sN3
    obtain ⟨k, va, hk, rfl, b7, hP, b1, b2, he, hsz⟩ := hrel
    obtain ⟨aA, cA, rfl⟩ := own_any' (Pool.hd hP)
    by_cases hlt : k < nodes.length
    · obtain ⟨n, hnk⟩ : ∃ n, nodes[k]? = some n := ⟨_, List.getElem?_eq_getElem (by omega)⟩
      obtain ⟨gS, cS', e6, gs⟩ := own_at (Pool.hd2 hP) (j := k) (u := .int .i64 n) (by rw [List.getElem?_map, ints_at hnk]; rfl)
      cases e6
      have hnB := HB.out n (List.mem_of_getElem? hnk)
      obtain ⟨b9, o9, rfl, -, hc9⟩ := HAT.out n _ (HX.out.accepts_at hnB)
      have g9 : wr.cell? ⟨b9, o9 + n, none⟩ = some (.bool (accepts A n)) := by have := hc9 n _ (HX.out.accepts_at hnB); rw [Nat.mul_one] at this; exact he.cell this
      obtain ⟨z, hz⟩ : ∃ z, accepts A n = z := ⟨_, rfl⟩
      rw [hz] at g9
      have HZ := Lib.hid hz
      have HNK := Lib.hid hnk
      have i1 : (n : Int) < (A.accept.length : Int) := by have := HNA.out; omega
      have i2 : (k : Int) < (nodes.length : Int) := by omega
      clear hc9 hz hnk hnB
      go_wp2_with fail
      clear gs
      have D0 := fun d os => cell_regrown (b7.cell 2 rfl) d os
      have D1 := fun d os => cell_regrown (b1.cell 2 rfl) d os
      have D2 := fun d os => cell_regrown g9 d os
      obtain ⟨Kc, HKc⟩ : ∃ Kc : FuncId → Array Value → World → Value → World → Prop, Hid (Kc = fun _ _ _ _ _ => False) := ⟨_, rfl⟩
      refine wp_region_ext (Kc := Kc) 8 (by kernel_rfl) (by kernel_rfl) ?_
      simp only [List.take_succ_cons, List.take_zero]
      repeat (refine WalkE.pure rfl (fun K hK => ?_); simp only [PureDo]; go_simp; refine hK _ ?_; clear hK K)
      refine WalkE.step (fun K hK we hwe hde => ?_)
      simp only [OpDo, OpSafe, OpOut]
      go_simp
      refine ⟨Ext.alloc _ _, hK _ _ ?_⟩
      clear hK K hde
      refine WalkE.nil (fun wn hwn hmn => ?_)
      simp only [List.drop_succ_cons, List.drop_zero, List.drop_nil]
      have x0 : Ext wr wn := (Ext.drew _).trans hwn
      have hbn : Blk wn we.heap.size #[.bool z] 4 := (Blk.new we _ _).ext (hmn 7 (by omega))
      have hcell : ∀ (j : Nat) u, [Value.bool z][j]? = some u → wn.cell? ((⟨we.heap.size, 0, none⟩ : Addr).add j) = some u := fun j u hu => by
        rw [add_none, Nat.zero_add]
        exact hbn.cell j (by simpa using hu)
      have hP3 := hP.ext x0
      have b73 := b7.ext x0
      have b13 := b1.ext x0
      have b23 := b2.ext x0
      have he3 := he.trans x0
      have hs3 := Nat.le_trans hsz x0.size
      clear hmn HKc D0 D1 D2 hwn hwe hbn x0 hP b7 b1 b2 he hsz g9 i1 i2
      generalize we.heap.size = gN at hcell ⊢
      go_wp2_with (at_builtin; refine appPN (news := [Value.bool z]) rfl rfl Tryz.underlying29 infoBool rfl (by decide) hP3 rfl rfl (by simp) hcell (by simp [Value.oneCell']) (by omega) (by decide) hs3 ?_; intro v1 w7 hP1 hg1 hb1; obtain ⟨a1, c1, rfl⟩ := own_any' (Pool.hd hP1); have b74 := b73.grown (Pool.hd hP3) hg1 (by decide); have g2 := b74.cell 2 rfl; have f2 := b74.fr 2)
      have hd := Pool.hd hP3
      refine ⟨⟨k + 1, _, by omega, by go_num, b74.set 2 (.slice a1 (k + 1) c1), ?_, (b13.grown hd hg1 (by decide)).other (p := ⟨G, 2, none⟩) (by simp only []; omega) _, (b23.grown hd hg1 (by decide)).other (p := ⟨G, 2, none⟩) (by simp only []; omega) _, (Below.trans he3 (hb1.mono (by omega))).setCell (p := ⟨G, 2, none⟩) (by simp only []; omega) _, by simp; exact Nat.le_trans hs3 hg1.size⟩, by simp [intOf]; omega⟩
      rw [List.take_add_one, HNK.out, List.map_append, List.map_append, Option.toList_some, List.map_singleton, List.map_singleton, HZ.out]
      exact Pool.set hP1 b74 (fun t ht => by
        rcases List.mem_cons.1 ht with e | ht
        · rw [e]; dsimp only; decide
        rcases List.mem_cons.1 ht with e | ht
        · rw [e]; dsimp only; decide
        rcases List.mem_cons.1 ht with e | ht
        · rw [e]; dsimp only; decide
        · rw [slRows_e t ht]; decide) 2 (.slice a1 (k + 1) c1)
    · obtain rfl : k = nodes.length := by omega
      have hEND : AutoOwn base wr (.agg #[.int .i64 A.alphabet, .slice aR nodes.length cR, .slice aA nodes.length cA]) (autoN (nxT A) A.alphabet (accepts A) nodes) := by
        have hp := (hP.perm (((List.Perm.swap _ _ _).trans ((List.Perm.swap _ _ _).cons _)))).tail
        rw [List.take_length] at hp
        refine Pool.auto (x := autoN (nxT A) A.alphabet (accepts A) nodes) (vs := vs) (vn := .slice aR nodes.length cR) (va := .slice aA nodes.length cA) (w := wr) (base := base) ?_ (by rw [HVL.out]; simp [autoN])
        have e1 : (autoN (nxT A) A.alphabet (accepts A) nodes).next = rows := by rw [HRW.out, ← HNX.out, ← HLE.out]; rfl
        have e2 : (autoN (nxT A) A.alphabet (accepts A) nodes).accept = nodes.map (accepts A) := rfl
        rw [e1, e2, HRW.out, List.length_map, List.length_map, ← HRW.out]
        exact hp
      have HEND := Lib.hid hEND
      have hlB : w.heap.size ≤ base := by omega
      have gc0 := b7.cell 0 rfl; have gc1 := b7.cell 1 rfl; have gc2 := b7.cell 2 rfl
      have rc0 := b2.cell 0 rfl; have rf0 := b2.fr 0; have rc1 := b2.cell 1 rfl; have rf1 := b2.fr 1; have rc2 := b2.cell 2 rfl; have rf2 := b2.fr 2
      clear hEND hP b1
      go_wp2_with fail
      refine bodyPost_ret (v := .agg #[.int .i64 A.alphabet, .slice aR nodes.length cR, .slice aA nodes.length cA]) (by simp [results, Tryz.results198, go_sem, rc0, rc1, rc2, rf0, rf1, rf2]) rfl ?_
      have hnu := HNU.out
      rw [← HNX.out, ← HLE.out] at hnu
      refine ⟨_, _, rfl, (((he.setCell (p := ⟨(w.heap.size + 1), 0, none⟩) (by simp only []; omega) _).setCell (p := ⟨(w.heap.size + 1), 1, none⟩) (by simp only []; omega) _).setCell (p := ⟨(w.heap.size + 1), 2, none⟩) (by simp only []; omega) _), ⟨nodes, hnu, rfl⟩, ?_⟩
      exact (auto_store (auto_store (auto_store HEND.out b2 (by decide) (by decide) (by decide) 0 _) (b2.set 0 _) (by decide) (by decide) (by decide) 1 _) ((b2.set 0 _).set 1 _) (by decide) (by decide) (by decide) 2 _).low hlB
end Go.Proofs.YtadplnbadfnlfaaGreatDoor

namespace Go.Proofs.YtadplnbadfnlfaaGreatDoor
open Go Go.RowKit
set_option linter.unusedVariables false
set_option linter.unusedSimpArgs false
set_option maxHeartbeats 4000000
set_option maxRecDepth 100000

theorem quo_next (A : Auto) : (quo A).next = (clsD A).map (rowN nxR (letters A.alphabet) (clsD A)) := rfl
theorem quo_acc (A : Auto) : (quo A).accept = (clsD A).map fun g => g [] := rfl
theorem perm_min (a n w c : Slc) (R : List Slc) : (a :: n :: w :: c :: R).Perm (n :: a :: c :: (R ++ [w])) :=
  (List.Perm.swap n a _).trans ((((List.Perm.swap c w R).trans ((List.perm_append_singleton w R).symm.cons c)).cons a).cons n)
def MinEnd (A : Auto) (w : World) (e : Ending) (w' : World) : Prop := ∃ v' B, e = .returned v' ∧ Ext w w' ∧ IsMin (res A 0) A.alphabet B ∧ AutoOwn w.heap.size w' v' B

theorem minimize_c (v : Value) (A : Auto) (w : World) (hv : AutoV w v A) (hA : AutoFit A) (hM : A.next.length < 100) :
    Calls Tryz.prog 112 #[v] w (MinEnd A w) := by
  obtain ⟨vn, va, rfl, hN1, hA1⟩ := hv
  obtain ⟨an, cn, rfl, -, hn2⟩ := hN1.open
  obtain ⟨aa, ca, rfl, -, hat⟩ := hA1.open
  have HV := Lib.hid (show ∀ w', Ext w w' → AutoV w' (.agg #[.int .i64 A.alphabet, .slice an A.next.length cn, .slice aa A.accept.length ca]) A from fun w' h => ⟨_, _, rfl, hN1.mono h, hA1.mono h⟩)
  have HN2 := Lib.hid hn2
  have HAT := Lib.hid hat
  have HX := Lib.hid hA
  have HACC := Lib.hid hA.acc
  have hn1 := hA.n1
  have hL6 : (letters A.alphabet).length ≤ 6 := lettersTo_len A.alphabet 6
  clear hN1 hA1 hat hn2 hA
  obtain ⟨wo, hwo⟩ : ∃ wo, wo = (w.alloc (.cells #[.int .i64 A.alphabet, .slice an A.next.length cn, .slice aa A.accept.length ca] 31)).alloc (.cells #[.int .i64 0, .slice none 0 0, .slice none 0 0] 31) := ⟨_, rfl⟩
  have he : Ext w wo := by rw [hwo]; exact (Ext.alloc _ _).trans (Ext.alloc _ _)
  have b1 : Blk wo w.heap.size #[.int .i64 A.alphabet, .slice an A.next.length cn, .slice aa A.accept.length ca] 31 := by rw [hwo]; exact Ext.blk (Ext.alloc _ _)
  have b2 : Blk wo (w.heap.size + 1) #[.int .i64 0, .slice none 0 0, .slice none 0 0] 31 := by rw [hwo]; exact Ext.blk1 (Ext.refl _)
  go_enter Tryz.func112, Tryz.ntmps112
  go_upto_region 1 with fail
  rw [← hwo]
  clear hwo
  have c0 := b1.cell 0 rfl; have c1 := b1.cell 1 rfl; have c2 := b1.cell 2 rfl
  go_wp2_with fail
  refine (classesOf_c _ A _ (HV.out _ he) HX.out hM).mono ?_
  rintro e w1 ⟨gC, capC, rfl, he1, hC⟩
  have hwl := he.size
  have l2w : w.heap.size + 1 < wo.heap.size := b2.lt
  have hC1 : SetsOwn wo.heap.size A.next.length gC capC w1 (clsOf A) := hC
  replace he := he.trans he1
  replace b1 := b1.ext he1
  replace b2 := b2.ext he1
  have sB : wo.heap.size ≤ w1.heap.size := he1.size
  clear c0 c1 c2 he1 hC
  generalize wo.heap.size = base at hC1 sB l2w hwl
  clear wo
  have c0 := b1.cell 0 rfl; have c1 := b1.cell 1 rfl; have c2 := b1.cell 2 rfl
  go_upto_region 3 with fail
  obtain ⟨w3, hw3⟩ : ∃ w3, w3 = w1.alloc (.cells #[.int .i64 A.alphabet, .slice none 0 0, .slice none 0 0] 31) := ⟨_, rfl⟩
  have y3 : Ext w1 w3 := by rw [hw3]; exact Ext.alloc _ _
  have b7 : Blk w3 w1.heap.size #[.int .i64 A.alphabet, .slice none 0 0, .slice none 0 0] 31 := by rw [hw3]; exact Blk.new _ _ _
  rw [← hw3]
  clear hw3
  replace he := he.trans y3
  replace b1 := b1.ext y3
  replace b2 := b2.ext y3
  have hP0 : Pool base w3 [⟨96, 1, .slice none 0 0, 0, []⟩, ⟨4, 1, .slice none 0 0, 0, []⟩, ⟨3, 1, .slice (some ⟨gC, 0, none⟩) A.next.length capC, A.next.length, (setsL A.next.length (clsOf A)).map (Value.int .i64)⟩] := by
    have p0 : Pool base w3 [⟨3, 1, .slice (some ⟨gC, 0, none⟩) A.next.length capC, A.next.length, (setsL A.next.length (clsOf A)).map (Value.int .i64)⟩] := ⟨fun s hs => by
      obtain rfl : s = _ := by simpa using hs
      exact hC1.ext y3, List.pairwise_cons.2 ⟨fun s hs => by (cases hs), List.Pairwise.nil⟩⟩
    exact (p0.addNil 4 1).addNil 96 1
  have sN3 : base ≤ w3.heap.size := Nat.le_trans sB y3.size
  clear y3 c0 c1 c2 hC1
  generalize w1.heap.size = G at b7 sB ⊢
  clear w1
  go_wp2_with fail
  have hR0 : Hid (([] : List Value).length = 0) := Lib.hid rfl
  go_loopw [17] (fun i wr => ∃ (k : Nat) (va vN : Value) (m : Nat) (vs : List Value) (rows : List (List Int)), k ≤ A.next.length ∧ i = .int .i64 k ∧ m ≤ k ∧ Hid ((ddTo (res A) k).length = m) ∧ Hid (vs.length = m) ∧ Hid (rows = (ddTo (res A) k).map (rowN nxR (letters A.alphabet) (clsD A))) ∧ Blk wr G #[.int .i64 A.alphabet, vN, va] 31 ∧ Pool base wr (⟨96, 1, vN, m, vs⟩ :: ⟨4, 1, va, m, ((ddTo (res A) k).map fun g => g []).map Value.bool⟩ :: ⟨3, 1, .slice (some ⟨gC, 0, none⟩) A.next.length capC, A.next.length, (setsL A.next.length (clsOf A)).map (Value.int .i64)⟩ :: slRows 3 vs rows) ∧ Blk wr w.heap.size #[.int .i64 A.alphabet, .slice an A.next.length cn, .slice aa A.accept.length ca] 31 ∧ Blk wr (w.heap.size + 1) #[.int .i64 0, .slice none 0 0, .slice none 0 0] 31 ∧ Ext w wr ∧ base ≤ wr.heap.size) (fun i _ => A.next.length - (intOf i).toNat)
  case atStart => exact ⟨0, _, _, 0, [], [], by omega, rfl, by omega, Lib.hid rfl, hR0, Lib.hid rfl, b7, hP0, b1, b2, he, sN3⟩
  case round =>
    clear b7 hP0 b1 b2 he sN3 hR0
    obtain ⟨k, va, vN, m, vs, rows, hk, rfl, hmk, HM, HVL, HRW, b7, hP, b1, b2, he, hsz⟩ := hrel
    obtain ⟨aN, cN, rfl⟩ := own_any' (Pool.hd hP)
    obtain ⟨aA, cA, rfl⟩ := own_any' (Pool.hd2 hP)
    by_cases hlt : k < A.next.length
    · have hkn : (k : Int) < (A.next.length : Int) := by omega
      have gk : wr.cell? ⟨gC, k, none⟩ = some (.int .i64 (clsOf A k : Int)) := own_cell (Pool.hd3 hP) (by rw [List.getElem?_map, setsL_at _ hlt]; rfl)
      have hold := ddTo_lt (f := res A) hlt
      obtain ⟨ck, hck⟩ : ∃ ck, clsOf A k = ck := ⟨_, rfl⟩
      rw [show (ddTo (res A) A.next.length).idxOf (res A k) = ck from hck, HM.out] at hold
      rw [hck] at gk
      have HCK := Lib.hid hck
      have d71 := b7.cell 1 rfl
      clear hck
      by_cases hmem : res A k ∈ ddTo (res A) k
      · have hlt2 : (ck : Int) < (m : Int) := by have := hold.2 hmem; omega
        have e1 : ddTo (res A) (k + 1) = ddTo (res A) k := by rw [ddTo_succ]; exact if_pos hmem
        have HE := Lib.hid e1
        clear hold hmem e1
        go_wp2_with fail
        refine ⟨⟨k + 1, _, _, m, vs, rows, by omega, by go_num, by omega, Lib.hid (by rw [HE.out]; exact HM.out), HVL, Lib.hid (by rw [HE.out]; exact HRW.out), b7, ?_, b1, b2, he, hsz⟩, by simp [intOf]; omega⟩
        rw [HE.out]; exact hP
      · have hlt2 : ¬ (ck : Int) < (m : Int) := by
          intro h
          exact hmem (hold.1 (by omega))
        have e1 : ddTo (res A) (k + 1) = ddTo (res A) k ++ [res A k] := by rw [ddTo_succ]; exact if_neg hmem
        have HE := Lib.hid e1
        obtain ⟨row, hr, hrl, -⟩ := HX.out.row hlt
        obtain ⟨b, off, rfl, -, hc3⟩ := HN2.out k row hr
        obtain ⟨vr, g1, hvr⟩ := hc3 k row hr
        rw [Nat.mul_one] at g1
        have g1r := he.cell g1
        obtain ⟨ar, cr, rfl, -, hrr⟩ := hvr.open
        have HRR := Lib.hid hrr
        have HR1 := Lib.hid hr
        have HRL := Lib.hid (show row.length = (letters A.alphabet).length from hrl)
        have d11 := b1.cell 1 rfl
        clear hold hmem e1 hc3 hr hvr hrr hrl g1
        have hPW := hP.addNil 3 1
        go_wp2_with fail
        go_loopw [7, 33] (fun vW j wr => ∃ q : Nat, q ≤ row.length ∧ j = .int .i64 q ∧ Blk wr G #[.int .i64 A.alphabet, .slice aN m cN, .slice aA m cA] 31 ∧ Pool base wr (⟨3, 1, vW, q, (((letters A.alphabet).take q).map fun l => (clsOf A (step A k l) : Int)).map (Value.int .i64)⟩ :: ⟨96, 1, .slice aN m cN, m, vs⟩ :: ⟨4, 1, .slice aA m cA, m, ((ddTo (res A) k).map fun g => g []).map Value.bool⟩ :: ⟨3, 1, .slice (some ⟨gC, 0, none⟩) A.next.length capC, A.next.length, (setsL A.next.length (clsOf A)).map (Value.int .i64)⟩ :: slRows 3 vs rows) ∧ Blk wr w.heap.size #[.int .i64 A.alphabet, .slice (some ⟨b, off, none⟩) A.next.length cn, .slice aa A.accept.length ca] 31 ∧ Blk wr (w.heap.size + 1) #[.int .i64 0, .slice none 0 0, .slice none 0 0] 31 ∧ Ext w wr ∧ base ≤ wr.heap.size) (fun _ j _ => row.length - (intOf j).toNat)
        case atStart => exact ⟨0, by omega, rfl, b7, hPW, b1, b2, he, hsz⟩
        case round =>
          clear hP hPW b7 b1 b2 he hsz g1r d11 d71 gk
          obtain ⟨q, hq, rfl, b7, hP, b1, b2, he, hsz⟩ := hrel
          obtain ⟨aW, cW, rfl⟩ := own_any' (Pool.hd hP)
          by_cases hql : q < row.length
          · obtain ⟨l, hl⟩ : ∃ l, (letters A.alphabet)[q]? = some l := ⟨_, List.getElem?_eq_getElem (by rw [← HRL.out]; exact hql)⟩
            obtain ⟨hb, h0, h6, hm6⟩ := letters_mem _ _ _ HX.out.a63 hl
            have hp := ((letters_place _ _ q HX.out.a0 HX.out.a63 h0 h6 hm6).1 hl).2
            obtain ⟨row', z, hr', hz, rfl, hzn⟩ := HX.out.step_facts hlt hb
            rw [HR1.out] at hr'
            cases hr'
            rw [hp] at hz
            obtain ⟨y, hy⟩ : ∃ y, step A k l = y := ⟨_, rfl⟩
            rw [hy] at hz hzn
            obtain ⟨b5, off5, rfl, -, hc2⟩ := HRR.out q _ hz
            have g2 := he.cell (hc2 q _ hz)
            rw [Nat.mul_one] at g2
            have gy : wr.cell? ⟨gC, y, none⟩ = some (.int .i64 (clsOf A y : Int)) := own_cell (Pool.hd4 hP) (by rw [List.getElem?_map, setsL_at _ hzn]; rfl)
            obtain ⟨cy, hcy⟩ : ∃ cy, clsOf A y = cy := ⟨_, rfl⟩
            rw [hcy] at gy
            have HCY : Hid (clsOf A (step A k l) = cy) := Lib.hid (by rw [hy]; exact hcy)
            have HL := Lib.hid hl
            have hyi : (y : Int) < (A.next.length : Int) := by omega
            have hqi : (q : Int) < (row.length : Int) := by omega
            clear hc2 hz hb hp h0 h6 hl hy hcy
            go_wp2_with (at_builtin; refine appP (news := [Value.int .i64 (cy : Int)]) rfl rfl Tryz.underlying96 infoInt rfl (by decide) hP rfl rfl rfl (by simp [Value.oneCell']) (by omega) (by decide) hsz ?_; intro v1 w6 hP1 hg1 hb1)
            have hd := Pool.hd hP
            refine ⟨⟨q + 1, by omega, by go_num, b7.grown hd hg1 (by decide), ?_, b1.grown hd hg1 (by decide), b2.grown hd hg1 (by decide), Below.trans he (hb1.mono (by omega)), Nat.le_trans hsz hg1.size⟩, by simp [intOf]; omega⟩
            rw [List.take_add_one, HL.out, List.map_append, List.map_append, Option.toList_some, List.map_singleton, List.map_singleton, HCY.out]
            exact hP1
          · obtain rfl : q = row.length := by omega
            have HROW : Hid (((letters A.alphabet).take row.length).map (fun l => (clsOf A (step A k l) : Int)) = rowN nxR (letters A.alphabet) (clsD A) (res A k)) := Lib.hid (by rw [HRL.out, List.take_length]; rfl)
            rw [HROW.out] at hP
            have HRLN : Hid ((rowN nxR (letters A.alphabet) (clsD A) (res A k)).length = row.length) := Lib.hid (by rw [HRL.out]; simp [rowN])
            have hPN := hP.perm (List.Perm.swap _ _ _)
            have d71 := b7.cell 1 rfl
            have hm32 : m ≤ 4294967296 := by omega
            clear hP
            go_wp2_with (at_builtin; refine appP (news := [Value.slice aW row.length cW]) rfl rfl Tryz.underlying28 infoInts rfl (by decide) hPN rfl rfl rfl (by simp [Value.oneCell']) hm32 (by decide) hsz ?_; intro v1 w6 hP1 hg1 hb1; obtain ⟨a1, c1, rfl⟩ := own_any' (Pool.hd hP1); have b76 := b7.grown (Pool.hd hPN) hg1 (by decide); have g2 := b76.cell 1 rfl; have f2 := b76.fr 1)
            have hd := Pool.hd hPN
            have b77 := b76.set 1 (.slice a1 (m + 1) c1)
            have b17 := (b1.grown hd hg1 (by decide)).other (p := ⟨G, 1, none⟩) (by simp only []; omega) (.slice a1 (m + 1) c1)
            have b27 := (b2.grown hd hg1 (by decide)).other (p := ⟨G, 1, none⟩) (by simp only []; omega) (.slice a1 (m + 1) c1)
            have he7 : Ext w (w6.setCell ⟨G, 1, none⟩ (.slice a1 (m + 1) c1)) := (Below.trans he (hb1.mono (by omega))).setCell (p := ⟨G, 1, none⟩) (by simp only []; omega) (.slice a1 (m + 1) c1)
            have hs7 : base ≤ (w6.setCell ⟨G, 1, none⟩ (.slice a1 (m + 1) c1)).heap.size := by simp; exact Nat.le_trans hsz hg1.size
            have hP7 := Pool.set hP1 b76 (fun t ht => by
              rcases List.mem_cons.1 ht with e | ht
              · rw [e]; dsimp only; decide
              rcases List.mem_cons.1 ht with e | ht
              · rw [e]; dsimp only; decide
              rcases List.mem_cons.1 ht with e | ht
              · rw [e]; dsimp only; decide
              rcases List.mem_cons.1 ht with e | ht
              · rw [e]; dsimp only; decide
              · rw [slRows_e t ht]; decide) 1 (.slice a1 (m + 1) c1)
            clear hP1 hPN hd b7 b76 b1 b2 he hb1 hg1 hsz g2 f2 d71
            generalize w6.setCell ⟨G, 1, none⟩ (.slice a1 (m + 1) c1) = w7 at b77 b17 b27 he7 hs7 hP7 ⊢
            clear w6
            have hP8 := hP7.perm (((List.Perm.swap _ _ _).cons _).trans (List.Perm.swap _ _ _))
            obtain ⟨b9, o9, rfl, -, hc9⟩ := HAT.out k _ (HX.out.accepts_at hlt)
            have g9 : w7.cell? ⟨b9, o9 + k, none⟩ = some (.bool (accepts A k)) := by have := hc9 k _ (HX.out.accepts_at hlt); rw [Nat.mul_one] at this; exact he7.cell this
            obtain ⟨z, hz⟩ : ∃ z, accepts A k = z := ⟨_, rfl⟩
            rw [hz] at g9
            have HZ := Lib.hid hz
            have i1 : (k : Int) < (A.accept.length : Int) := by have := HACC.out; omega
            have i2 : (k : Int) < (A.next.length : Int) := by omega
            have D0 := fun d os => cell_regrown (b77.cell 2 rfl) d os
            have D1 := fun d os => cell_regrown (b17.cell 2 rfl) d os
            have D2 := fun d os => cell_regrown g9 d os
            clear hP7 hc9 hz
            obtain ⟨Kc, HKc⟩ : ∃ Kc : FuncId → Array Value → World → Value → World → Prop, Hid (Kc = fun _ _ _ _ _ => False) := ⟨_, rfl⟩
            refine wp_region_ext (Kc := Kc) 8 (by kernel_rfl) (by kernel_rfl) ?_
            simp only [List.take_succ_cons, List.take_zero]
            repeat (refine WalkE.pure rfl (fun K hK => ?_); simp only [PureDo]; go_simp; refine hK _ ?_; clear hK K)
            refine WalkE.step (fun K hK we hwe hde => ?_)
            simp only [OpDo, OpSafe, OpOut]
            go_simp
            refine ⟨Ext.alloc _ _, hK _ _ ?_⟩
            clear hK K hde
            refine WalkE.nil (fun wn hwn hmn => ?_)
            simp only [List.drop_succ_cons, List.drop_zero, List.drop_nil]
            have x0 : Ext w7 wn := (Ext.drew _).trans hwn
            have hbn : Blk wn we.heap.size #[.bool z] 4 := (Blk.new we _ _).ext (hmn 7 (by omega))
            have hcell : ∀ (j : Nat) u, [Value.bool z][j]? = some u → wn.cell? ((⟨we.heap.size, 0, none⟩ : Addr).add j) = some u := fun j u hu => by
              rw [add_none, Nat.zero_add]
              exact hbn.cell j (by simpa using hu)
            have hP9 := hP8.ext x0
            have b73 := b77.ext x0
            have b13 := b17.ext x0
            have b23 := b27.ext x0
            have he3 := he7.trans x0
            have hs3 := Nat.le_trans hs7 x0.size
            clear hmn HKc D0 D1 D2 hwn hwe hbn x0 hP8 b77 b17 b27 he7 hs7 g9 i1 i2
            generalize we.heap.size = gN at hcell ⊢
            go_wp2_with (at_builtin; refine appPN (news := [Value.bool z]) rfl rfl Tryz.underlying29 infoBool rfl (by decide) hP9 rfl rfl (by simp) hcell (by simp [Value.oneCell']) (by omega) (by decide) hs3 ?_; intro v1 w8 hP1 hg1 hb1; obtain ⟨a2, c2, rfl⟩ := own_any' (Pool.hd hP1); have b74 := b73.grown (Pool.hd hP9) hg1 (by decide); have g2 := b74.cell 2 rfl; have f2 := b74.fr 2)
            have hd := Pool.hd hP9
            refine ⟨⟨k + 1, _, _, m + 1, vs ++ [.slice aW row.length cW], rows ++ [rowN nxR (letters A.alphabet) (clsD A) (res A k)], by omega, by go_num, by omega, Lib.hid (by rw [HE.out, List.length_append, HM.out]; rfl), Lib.hid (by rw [List.length_append, HVL.out]; rfl), Lib.hid (by rw [HE.out, HRW.out]; simp), b74.set 2 (.slice a2 (m + 1) c2), ?_, (b13.grown hd hg1 (by decide)).other (p := ⟨G, 2, none⟩) (by simp only []; omega) _, (b23.grown hd hg1 (by decide)).other (p := ⟨G, 2, none⟩) (by simp only []; omega) _, (Below.trans he3 (hb1.mono (by omega))).setCell (p := ⟨G, 2, none⟩) (by simp only []; omega) _, by simp; exact Nat.le_trans hs3 hg1.size⟩, by simp [intOf]; omega⟩
            have hPS := Pool.set hP1 b74 (fun t ht => by
              rcases List.mem_cons.1 ht with e | ht
              · rw [e]; dsimp only; decide
              rcases List.mem_cons.1 ht with e | ht
              · rw [e]; dsimp only; decide
              rcases List.mem_cons.1 ht with e | ht
              · rw [e]; dsimp only; decide
              rcases List.mem_cons.1 ht with e | ht
              · rw [e]; dsimp only; decide
              · rw [slRows_e t ht]; decide) 2 (.slice a2 (m + 1) c2)
            have hF := hPS.perm (perm_min _ _ _ _ _)
            rw [slRows_push (by rw [HVL.out, HRW.out, List.length_map, HM.out]), HE.out]
            have e9 : ((ddTo (res A) k ++ [res A k]).map fun g => g []).map Value.bool = ((ddTo (res A) k).map fun g => g []).map Value.bool ++ [Value.bool z] := by
              rw [List.map_append, List.map_append]
              simp [res_nil, HZ.out]
            rw [e9]
            unfold slInts
            rw [HRLN.out]
            exact hF
    · obtain rfl : k = A.next.length := by omega
      have hQL : (clsD A).length = m := HM.out
      have hEND : AutoOwn base wr (.agg #[.int .i64 A.alphabet, .slice aN m cN, .slice aA m cA]) (quo A) := by
        have hp := (hP.perm ((((List.Perm.swap _ _ _).cons _).trans (List.Perm.swap _ _ _)))).tail
        refine Pool.auto (x := quo A) (vs := vs) (vn := .slice aN m cN) (va := .slice aA m cA) (w := wr) (base := base) ?_ (by rw [HVL.out, quo_next, List.length_map, hQL])
        rw [quo_next, quo_acc, List.length_map, List.length_map, hQL]
        rw [show (clsD A).map (rowN nxR (letters A.alphabet) (clsD A)) = rows from HRW.out.symm]
        exact hp
      have hQF := quo_fit HX.out
      have hQn : (quo A).next.length = m := by rw [quo_next, List.length_map, hQL]
      have HQ := Lib.hid hQF
      have HT := Lib.hid (trim_f _ (quo A) wr hEND.auto hQF (by omega))
      have HMIN := Lib.hid (fun B (h : IsTrimF (quo A) B) => min_of_quo HX.out h)
      have gc0 := b7.cell 0 rfl; have gc1 := b7.cell 1 rfl; have gc2 := b7.cell 2 rfl
      clear hEND hP b1 hQL hQF hQn
      go_wp2_with fail
      refine HT.out.mono ?_
      rintro e w4 ⟨v', B, rfl, he4, hT, vN', vA', rfl, hO⟩
      obtain ⟨aN', cN', rfl⟩ := hO.1.shape
      obtain ⟨aA', cA', rfl⟩ := hO.2.shape
      have hBm := HMIN.out B hT
      have HBM := Lib.hid hBm
      have hOW : AutoOwn wr.heap.size w4 (.agg #[.int .i64 B.alphabet, .slice aN' B.next.length cN', .slice aA' B.accept.length cA']) B := ⟨_, _, rfl, hO⟩
      have b24 := b2.ext he4
      have hwB : w.heap.size ≤ wr.heap.size := he.size
      have hx4 := he.trans he4
      have rc0 := b24.cell 0 rfl; have rf0 := b24.fr 0; have rc1 := b24.cell 1 rfl; have rf1 := b24.fr 1; have rc2 := b24.cell 2 rfl; have rf2 := b24.fr 2
      clear gc0 gc1 gc2 hT hBm hO
      go_wp2_with fail
      refine bodyPost_ret (v := .agg #[.int .i64 B.alphabet, .slice aN' B.next.length cN', .slice aA' B.accept.length cA']) (by simp [results, Tryz.results112, go_sem, rc0, rc1, rc2, rf0, rf1, rf2]) rfl ?_
      refine ⟨_, B, rfl, (((hx4.setCell (p := ⟨(w.heap.size + 1), 0, none⟩) (by simp only []; omega) _).setCell (p := ⟨(w.heap.size + 1), 1, none⟩) (by simp only []; omega) _).setCell (p := ⟨(w.heap.size + 1), 2, none⟩) (by simp only []; omega) _), HBM.out, ?_⟩
      exact (auto_store (auto_store (auto_store hOW b24 (by decide) (by decide) (by decide) 0 _) (b24.set 0 _) (by decide) (by decide) (by decide) 1 _) ((b24.set 0 _).set 1 _) (by decide) (by decide) (by decide) 2 _).low hwB
end Go.Proofs.YtadplnbadfnlfaaGreatDoor
