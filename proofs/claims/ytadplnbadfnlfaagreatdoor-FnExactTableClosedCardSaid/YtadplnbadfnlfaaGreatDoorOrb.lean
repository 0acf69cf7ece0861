/- Part of this seat's proofs, cut to what its law needs. -/

import Derived.Test.YtadplnbadfnlfaaGreatDoorOra
import Derived.StringKeys
namespace Go.Proofs.YtadplnbadfnlfaaGreatDoor
set_option linter.unusedSimpArgs false
set_option linter.unusedVariables false
open Go Go.RowKit Go.Maps
set_option maxHeartbeats 2000000
set_option maxRecDepth 100000

section
variable {α : Type} [DecidableEq α]
theorem foldl_addN_le (L : List α) : ∀ acc : List α, (L.foldl addN acc).length ≤ acc.length + L.length := by
  induction L with
  | nil => intro acc; exact Nat.le_refl _
  | cons x L ih =>
    intro acc
    refine Nat.le_trans (ih _) ?_
    have : (addN acc x).length ≤ acc.length + 1 := by unfold addN; split <;> simp
    simp only [List.length_cons]; omega
theorem foldl_addN_len (L : List α) : ∀ acc : List α, acc.Nodup → ((L.foldl addN acc).length = acc.length + L.length ↔ (acc ++ L).Nodup) := by
  induction L with
  | nil => intro acc h; simpa using h
  | cons x L ih =>
    intro acc h
    rw [List.foldl_cons]
    by_cases hx : x ∈ acc
    · have e : addN acc x = acc := by unfold addN; rw [if_pos hx]
      rw [e]
      have := foldl_addN_le L acc
      constructor
      · intro h2; simp only [List.length_cons] at h2; omega
      · intro h2
        exact absurd rfl ((List.nodup_append.1 h2).2.2 x hx x (by simp))
    · have e : addN acc x = acc ++ [x] := by unfold addN; rw [if_neg hx]
      have hnd := addN_nodup h x
      rw [e] at hnd ⊢
      have := ih (acc ++ [x]) hnd
      rw [List.append_assoc, List.singleton_append] at this
      rw [← this]
      simp only [List.length_append, List.length_cons, List.length_nil]
      omega
end
def keyS (s : ByteArray) : Lit := .string s.data.toList
theorem keyS_inj {a b : ByteArray} (h : keyS a = keyS b) : a = b := by
  unfold keyS at h
  injection h with h
  exact ByteArray.ext (Array.toList_inj.1 h)
theorem lawStr : Keyed Tryz.prog 9 := string_keyed Tryz.underlying9
theorem key_str {s : ByteArray} (h : s.size ≤ maxLen) : keyOf Tryz.prog 9 (.string s) = some (keyS s) := WideMaps.keyOf_string_mk Tryz.underlying9 h
def MarkMap (S : List ByteArray) (D : DataW Unit) : Prop := (∀ s : ByteArray, Maps.has D (keyS s) = decide (s ∈ S)) ∧ Maps.size D = S.length
theorem MarkMap.nil : MarkMap [] (DataW.map []) := ⟨fun s => by simp [has_eq], rfl⟩
theorem MarkMap.push {S : List ByteArray} {D : DataW Unit} (h : MarkMap S D) (hD : IsMap D) (hT : Tidy D) {s : ByteArray} (hs : s.size ≤ maxLen) (hn : s ∉ S) (d : DataW Unit) : MarkMap (S ++ [s]) (D.put (keyS s) d) := by
  have hk := lawStr.key (key_str hs)
  refine ⟨fun y => ?_, ?_⟩
  · by_cases hy : y = s
    · subst hy; rw [has_put_same hD hk]; simp
    · rw [has_put_other (fun e => hy (keyS_inj e)), h.1 y]; simp [hy]
  · rw [size_put hT, h.1 s, decide_eq_false hn, h.2]; simp

section
variable {al : Int} {f : ByteArray → Bool} {m lo bs : Nat} {vo : Value} {J : Nat → World → Prop}
def seenM (f : ByteArray → Bool) (rows cols : List ByteArray) : List ByteArray := (rows.map (rowB f cols)).foldl addN []
theorem seenM_snoc (f : ByteArray → Bool) (rows cols : List ByteArray) (r : ByteArray) : seenM f (rows ++ [r]) cols = addN (seenM f rows cols) (rowB f cols r) := by
  unfold seenM; rw [List.map_append, List.foldl_append]; rfl
theorem seenM_mem {f : ByteArray → Bool} {rows cols : List ByteArray} {x : ByteArray} : x ∈ seenM f rows cols ↔ x ∈ rows.map (rowB f cols) :=
  ⟨fun h => (mem_foldl_addN h).resolve_left (by simp), fun h => foldl_addN_mem _ _ h⟩
theorem seenM_len {f : ByteArray → Bool} {rows cols : List ByteArray} : (seenM f rows cols).length = rows.length ↔ (rows.map (rowB f cols)).Nodup := by
  have := foldl_addN_len (rows.map (rowB f cols)) [] List.nodup_nil
  simp only [List.length_nil, Nat.zero_add, List.length_map, List.nil_append] at this
  exact this
def NumsEnd (f : ByteArray → Bool) (m lo : Nat) (J : Nat → World → Prop) (rows cols : List ByteArray) (c : Nat) (w : World) (e : Ending) (w' : World) : Prop :=
  ∃ bm D nm, e = .returned (.map (some bm)) ∧ w'.ownsMap Tryz.prog 9 (plainElem (H := Unit) Tryz.prog 3) bm nm D ∧ w.heap.size ≤ bm ∧ MarkMap (seenM f rows cols) D ∧ (∃ c', c' ≤ c + 2400000 ∧ J c' w') ∧ Touch eK m lo w w'

theorem rowNumbers_c (hO : Ora al f m lo bs vo J) (vr vc : Value) (rows cols : List ByteArray) (c : Nat) (w : World) (hJ : J c w) (hc : c + 3000000 ≤ 90000000) (hA : Asks al cols) (hrw : ∀ r ∈ rows, wordIn r al = true ∧ r.size ≤ 4000) (hrl : rows.length ≤ 12) (hR : ∀ w', Touch eK m lo w w' → StrsV w' vr rows) (hC : ∀ w', Touch eK m lo w w' → StrsV w' vc cols) (hbs : bs ≤ w.heap.size) :
    Calls Tryz.prog 175 #[.agg #[.int .i64 al, vo], .agg #[vr, vc]] w (NumsEnd f m lo J rows cols c w) := by
  obtain ⟨aR, cR, rfl, -, -⟩ := SlV.open (hR w (Touch.refl _ _ _ _))
  have HCV := Lib.hid hC
  have HRV := Lib.hid hR
  have HO := Lib.hid hO
  have hm := hO.mlt
  have hlo := hO.llt
  have HA := Lib.hid hA
  have hc20 := hA.len
  have HRW := Lib.hid hrw
  have hmm := @run_makeMap Tryz.prog
  obtain ⟨wo, hwo⟩ : ∃ wo, wo = (w.alloc (.cells #[.int .i64 al, vo] 126)).alloc (.cells #[.slice aR rows.length cR, vc] 61) := ⟨_, rfl⟩
  have he : Ext w wo := by rw [hwo]; exact (Ext.alloc _ _).trans (Ext.alloc _ _)
  have b1 : Blk wo w.heap.size #[.int .i64 al, vo] 126 := by rw [hwo]; exact Ext.blk (Ext.alloc _ _)
  have b2 : Blk wo (w.heap.size + 1) #[.slice aR rows.length cR, vc] 61 := by rw [hwo]; exact Ext.blk1 (Ext.refl _)
  have hsz : wo.heap.size = w.heap.size + 2 := by rw [hwo]; simp
  have hm0 : (wo.alloc (.map #[] 0)).ownsMap Tryz.prog 9 (plainElem (H := Unit) Tryz.prog 3) wo.heap.size 0 (.map []) := World.ownsMap_made _ _ _ _
  have hx1 := he.trans (Ext.alloc wo (.map #[] 0))
  have hJ1 := hO.ext hbs hJ hx1
  have b11 := b1.ext (Ext.alloc wo (.map #[] 0))
  have b21 := b2.ext (Ext.alloc wo (.map #[] 0))
  have ht1 : Touch eK m lo w (wo.alloc (.map #[] 0)) := Touch.ext hx1
  clear hC hR hO hA hrw hJ he b1 b2 hx1
  go_enter Tryz.func175, Tryz.ntmps175
  have b21_0 := b21.cell 0 rfl
  go_upto_region 1 with fail
  rw [← hwo]
  clear hwo
  go_wp2_with fail
  generalize wo.alloc (.map #[] 0) = w1 at hm0 hJ1 b11 b21 ht1 b21_0 ⊢
  rw [hsz] at hm0
  clear hmm b21_0
  obtain ⟨bm, hbm⟩ : ∃ bm, w.heap.size + 2 = bm := ⟨_, rfl⟩
  rw [hbm] at hm0 ⊢
  have hMM : Hid (MarkMap (seenM f (rows.take 0) cols) (DataW.map [])) := Lib.hid (by simpa [seenM] using MarkMap.nil)
  generalize (DataW.map [] : DataW Unit) = D0 at hm0 hMM
  clear hsz
  clear wo
  go_loopw [15] (fun i wr => ∃ (k c' nm : Nat) (D : DataW Unit), k ≤ rows.length ∧ i = .int .i64 k ∧ c' ≤ c + k * 200000 ∧ J c' wr ∧ wr.ownsMap Tryz.prog 9 (plainElem (H := Unit) Tryz.prog 3) bm nm D ∧ nm ≤ k ∧ Hid (MarkMap (seenM f (rows.take k) cols) D) ∧ Touch eK m lo w wr ∧ Blk wr w.heap.size #[.int .i64 al, vo] 126 ∧ Blk wr (w.heap.size + 1) #[.slice aR rows.length cR, vc] 61) (fun i _ => rows.length - (intOf i).toNat)
  case atStart => exact ⟨0, c, 0, D0, by omega, rfl, by omega, hJ1, hm0, by omega, hMM, ht1, b11, b21⟩
  case round =>
    clear hJ1 hm0 hMM ht1 b11 b21
    obtain ⟨k, c', nm, D, hk, rfl, hc', hJ, hmo, hnm, HM, ht, b1, b2⟩ := hrel
    by_cases hlt : k < rows.length
    · obtain ⟨r, hr⟩ : ∃ r, rows[k]? = some r := ⟨_, List.getElem?_eq_getElem hlt⟩
      obtain ⟨aR', cR', eR, -, hat⟩ := SlV.open (HRV.out wr ht)
      cases eR
      obtain ⟨bc, oc, rfl, -, hcc⟩ := hat k r hr
      have q1 : wr.cell? ⟨bc, oc + k, none⟩ = some (.string r) := by have := hcc k r hr; unfold StrAt' at this; rwa [Nat.mul_one] at this
      have hks : (k : Int) < (rows.length : Int) := by omega
      obtain ⟨hrin, hrz⟩ := HRW.out r (List.mem_of_getElem? hr)
      have hszr := ht.size
      have HMK := Lib.hid (marks_c HO.out (.slice (some ⟨bc, oc, none⟩) rows.length cR) vc cols r c' wr hJ (by omega) HA.out hrin hrz (fun w' h => HCV.out w' (ht.trans h)) (by omega))
      have b1_0 := b1.cell 0 rfl
      have b1_1 := b1.cell 1 rfl
      have b2_0 := b2.cell 0 rfl
      have b2_1 := b2.cell 1 rfl
      obtain ⟨mk, hmk⟩ : ∃ mk, rowB f cols r = mk := ⟨_, rfl⟩
      rw [hmk] at HMK
      have hmz : mk.size ≤ maxLen := by rw [← hmk, rowB_size]; unfold maxLen; omega
      have HSN : Hid (seenM f (rows.take (k + 1)) cols = addN (seenM f (rows.take k) cols) mk) := Lib.hid (by rw [List.take_add_one, hr, Option.toList_some, seenM_snoc, hmk])
      clear hr hat hcc hmk hrin hrz
      go_wp2_with fail
      refine HMK.out.mono ?_
      rintro e w3 ⟨rfl, ⟨c3, hc3, hJ3⟩, ht3⟩
      have hm3 := ht3.mapKept hmo (by omega)
      have b13 := ht3.blk b1 (by decide) (by omega)
      have b23 := ht3.blk b2 (by decide) (by omega)
      have t3 := ht.trans ht3
      have hkey := Lib.hid (key_str hmz)
      obtain ⟨ok, hok⟩ : ∃ ok, decide (mk ∈ seenM f (rows.take k) cols) = ok := ⟨_, rfl⟩
      have hhas : Maps.has D (keyS mk) = ok := by rw [HM.out.1 mk, hok]
      have HOK := Lib.hid hok
      clear b1_0 b1_1 b2_0 b2_1 hok HMK
      cases ok with
      | true =>
        have HM2 : Hid (MarkMap (seenM f (rows.take (k + 1)) cols) D) := Lib.hid (by rw [HSN.out, addN, if_pos (of_decide_eq_true HOK.out)]; exact HM.out)
        go_wp2_with (at_lookup; refine wpList_lookup_own_ok_int _ rfl _ _ 201 rfl 9 3 .i64 lawStr Tryz.underlying201 Tryz.underlying3 (zeroInt _) bm nm D rfl hm3 _ _ rfl hkey.out ?_; intro c0 hat hwc; rw [hhas]; clear hat hwc)
        exact ⟨⟨k + 1, c3, nm, D, by omega, by go_num, by omega, hJ3, hm3, by omega, HM2, t3, b13, b23⟩, by simp [intOf]; omega⟩
      | false =>
        have hn := of_decide_eq_false HOK.out
        have HM2 : Hid (MarkMap (seenM f (rows.take (k + 1)) cols) (D.put (keyS mk) (.lit (.int .i64 (k : Int))))) := Lib.hid (by rw [HSN.out, addN, if_neg hn]; exact HM.out.push hm3.isMap (hm3.tidy lawStr) hmz hn _)
        have hnm2 : nm < maxLen := by unfold maxLen; omega
        clear hn
        go_wp2_with (first
          | (at_lookup; refine wpList_lookup_own_ok_int _ rfl _ _ 201 rfl 9 3 .i64 lawStr Tryz.underlying201 Tryz.underlying3 (zeroInt _) bm nm D rfl hm3 _ _ rfl hkey.out ?_; intro c0 hat hwc; rw [hhas]; clear hat hwc)
          | (at_mapUpdate; refine wpList_mapUpdate_own _ rfl _ _ _ 201 rfl 9 3 lawStr Tryz.underlying201 _ bm nm D rfl hm3 hnm2 _ _ _ rfl rfl hkey.out _ [] (elem_int (x := k) (by omega)) ?_; intro w6 hm6 hg6))
        have hJ6 := HO.out.keep c3 w3 w6 bm (by omega) (map_nc hm3) hJ3 (Touch.map hg6)
        have t6 : Touch eK m lo w w6 := t3.low ((Below.refl _ _).grown hg6 t3.size (fun j hj => by cases hj; omega))
        have b16 : Blk w6 w.heap.size #[.int .i64 al, vo] 126 := (hg6.block _ b13.lt (fun e => by simp at e; omega)).trans b13
        have b26 : Blk w6 (w.heap.size + 1) #[.slice (some ⟨bc, oc, none⟩) rows.length cR, vc] 61 := (hg6.block _ b23.lt (fun e => by simp at e; omega)).trans b23
        exact ⟨⟨k + 1, c3, nm + 1, _, by omega, by go_num, by omega, hJ6, hm6, by omega, HM2, t6, b16, b26⟩, by simp [intOf]; omega⟩
    · obtain rfl : k = rows.length := by omega
      have hmf := HM.out
      rw [List.take_length] at hmf
      have HMF := Lib.hid hmf
      clear hmf
      go_wp2_with fail
      go_ret
      exact ⟨bm, D, nm, rfl, hmo, by omega, HMF.out, ⟨c', by omega, hJ⟩, ht⟩
end
--CUT--
end Go.Proofs.YtadplnbadfnlfaaGreatDoor
