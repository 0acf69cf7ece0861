/- Part of this seat's proofs, cut to what its law needs. -/

import Derived.Test.YtanekmfifmkbmaaGreatDoorNumG
namespace Go.Proofs.YtanekmfifmkbmaaGreatDoor
set_option linter.unusedSimpArgs false
set_option linter.unusedVariables false
open Go.RowKit Go.Maps
set_option maxHeartbeats 4000000
set_option maxRecDepth 100000

theorem safe_k (t : Task) (K : SK) (s : ByteArray) (w0 w : World) (ht0 : taskValid t = true) (hw : ∀ i, i < s.size → bit t.alphabet (chAt s i) = true) (hsz : s.size ≤ 200000) (hO : ∀ w', TK K w0 w' → SafO t K w') (hDeb : ∀ w', TK K w0 w' → Deb w') (ht : TK K w0 w) (nodes0 : List Sets) (rows0 : List (List Int)) (hn0 : nodes0[0]? = some (closeM t startM)) (hlen0 : nodes0.length + s.size ≤ 99000000) (hS : SafAt t K nodes0 rows0 w) :
    Calls Tryz.prog 107 #[.pointer (some ⟨K.B, 0, none⟩), .string s] w (fun e w' => e = .returned (.bool (safeFrom t (closeM t startM) (chars s))) ∧ TK K w0 w' ∧ ∃ nodes' rows', nodes'[0]? = some (closeM t startM) ∧ nodes'.length ≤ nodes0.length + s.size ∧ SafAt t K nodes' rows' w') := by
  obtain ⟨hs, hp, hA⟩ := taskValid_facts ht0
  have ha63 := (alpha_facts hA).2
  have HLW := Lib.hid hw
  have HN0 := Lib.hid hn0
  have HO := Lib.hid hO
  have HDb := Lib.hid hDeb
  have HFW : Hid (safeFrom t (closeM t startM) (chars s) = safeFrom t (closeM t startM) ((chars s).drop 0)) := Lib.hid rfl
  obtain ⟨FW, hfw⟩ : ∃ FW, safeFrom t (closeM t startM) (chars s) = FW := ⟨_, rfl⟩
  rw [hfw] at HFW ⊢
  clear hO hDeb hw ht0 hfw hn0
  go_enter Tryz.func107, Tryz.ntmps107
  go_wp2_with fail
  go_loopw [5, 6, 12, 13, 14, 15, 16, 17, 18, 19] (fun vn i _ _ _ _ _ _ _ _ wr => ∃ (k n : Nat) (f : Sets) (nodes : List Sets) (rows : List (List Int)), k ≤ s.size ∧ i = .int .i64 k ∧ vn = .int .i64 n ∧ nodes.length ≤ nodes0.length + k ∧ Hid (nodes[0]? = some (closeM t startM)) ∧ Hid (nodes[n]? = some f) ∧ SafAt t K nodes rows wr ∧ Hid (FW = safeFrom t f ((chars s).drop k)) ∧ TK K w0 wr) (fun _ i _ _ _ _ _ _ _ _ _ => s.size - (intOf i).toNat)
  case atStart => exact ⟨0, 0, _, nodes0, rows0, by omega, rfl, rfl, by simp, HN0, HN0, hS, HFW, ht⟩
  case round =>
    clear hS HFW ht
    obtain ⟨k, n, f, nodes, rows, hk, rfl, rfl, hnl, HZ0, HN, hS, HFW, ht⟩ := hrel
    have HS := Lib.hid hS
    obtain ⟨vs, vx, vu, D, nm, hX, hnm, hKM, hst⟩ := hS
    have hnb := (List.getElem?_eq_some_iff.1 HN.out).1
    obtain ⟨us, hue⟩ : ∃ us, nodes.map (badM t) = us := ⟨_, rfl⟩
    rw [hue] at hX
    have hua : us[n]? = some (badM t f) := by rw [← hue, List.getElem?_map, HN.out]; rfl
    have hul : us.length = nodes.length := by rw [← hue, List.length_map]
    obtain ⟨gU, cU, rfl, hcu⟩ := own_at hX.pU (j := n) (u := .bool (badM t f)) (by rw [List.getElem?_map, hua]; rfl)
    have d13 := hX.c13
    have hnu : (n : Int) < (us.length : Int) := by omega
    have hf := hst.within f (List.mem_of_getElem? HN.out)
    clear hue hua hKM hst hX hul
    cases hb : badM t f with
    | true =>
      rw [hb] at hcu
      have HR := Lib.hid (safeFrom_badN hb ((chars s).drop k))
      clear hb
      by_cases hlt : k < s.size
      · go_wp2_with fail
        go_ret
        exact ⟨by rw [HFW.out, HR.out]; rfl, ht, nodes, rows, HZ0.out, by omega, HS.out⟩
      · obtain rfl : k = s.size := by omega
        go_wp2_with fail
        go_ret
        exact ⟨by rw [HFW.out, HR.out]; rfl, ht, nodes, rows, HZ0.out, by omega, HS.out⟩
    | false =>
      rw [hb] at hcu
      have HBD := Lib.hid hb
      clear hb
      by_cases hlt : k < s.size
      · have HD := Lib.hid (drop_charsN hlt)
        obtain ⟨l0, l6⟩ := bit_range ha63 (HLW.out k hlt)
        obtain ⟨l, hl⟩ := Int.eq_ofNat_of_zero_le l0
        have HLA := Lib.hid (letterAt_in s k l wr hlt (by omega) hl (by omega))
        have HAF := Lib.hid (after_k t K f n l nodes rows w0 wr hs hp HN.out (by omega) (by omega) HO.out HDb.out ht HS.out)
        have HN2 : Hid (FW = safeFrom t (afterM t f (l : Nat)) ((chars s).drop (k + 1))) := Lib.hid (by rw [HFW.out, HD.out, safeFrom_stepN HBD.out, hl]; rfl)
        clear l0 l6 hl
        go_wp2_with (go_at_call 105; refine HLA.out.mono ?_; rintro e w' ⟨rfl, rfl⟩)
        refine HAF.out.mono ?_
        rintro e w3 ⟨k', nodes', rows', rfl, hk', hpre, hle, -, hS3, ht3⟩
        have HK' := Lib.hid hk'
        have HZ' := Lib.hid (show nodes'[0]? = some (closeM t startM) from by
          obtain ⟨tl, htl⟩ := hpre
          rw [← htl, List.getElem?_append_left (List.getElem?_eq_some_iff.1 HZ0.out).1]
          exact HZ0.out)
        clear hpre hk'
        go_wp2_with fail
        exact ⟨⟨k + 1, k', _, nodes', rows', by omega, by go_num, rfl, by omega, HZ', HK', hS3, HN2, ht3⟩, by simp [intOf]; omega⟩
      · obtain rfl : k = s.size := by omega
        have HR : Hid (safeFrom t f ((chars s).drop s.size) = true) := Lib.hid (by rw [List.drop_eq_nil_iff.2 (by rw [chars_len]; exact Nat.le_refl _)]; show (!badM t f) = true; rw [HBD.out]; rfl)
        go_wp2_with fail
        go_ret
        exact ⟨by rw [HFW.out, HR.out]; rfl, ht, nodes, rows, HZ0.out, by omega, HS.out⟩

end Go.Proofs.YtanekmfifmkbmaaGreatDoor
