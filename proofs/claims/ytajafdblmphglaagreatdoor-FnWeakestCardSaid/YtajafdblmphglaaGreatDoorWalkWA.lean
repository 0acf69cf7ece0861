/- Part of this seat's proofs, cut to what its law needs. -/

import Derived.Test.YtajafdblmphglaaGreatDoorPlain9
import Derived.Test.YtajafdblmphglaaGreatDoorWalkY
import Derived.Test.YtajafdblmphglaaGreatDoorWalkFB
import Derived.Test.YtajafdblmphglaaGreatDoorDrawA

namespace Go.Proofs.YtajafdblmphglaaGreatDoor
set_option linter.unusedSimpArgs false
set_option linter.unusedVariables false
open Go.RowKit
set_option maxHeartbeats 1000000
set_option maxRecDepth 100000

end Go.Proofs.YtajafdblmphglaaGreatDoor

namespace Go.Proofs.YtajafdblmphglaaGreatDoor
set_option linter.unusedSimpArgs false
set_option linter.unusedVariables false
open Go.RowKit
set_option maxHeartbeats 1000000
set_option maxRecDepth 100000

theorem place_of_get {a : Int} (ha : 0 ≤ a) (ha2 : a ≤ 63) {m : Nat} {x : Int} (h : (letters a)[m]? = some x) : bit a x = true ∧ 0 ≤ x ∧ x < 6 ∧ place a x = m := by
  obtain ⟨h1, h2, h3, h4⟩ := letters_mem a x m ha2 h
  exact ⟨h1, h2, h3, ((letters_place a x m ha ha2 h2 h3 h4).1 h).2⟩
theorem idx_cons (a : Int) (k : Nat) (x : Int) (u : List Int) : idxFrom a k (x :: u) = idxFrom a (k * nletters a + place a x + 1) u := rfl

theorem WordAt_c (n : Nat) (a : Int) (w : World) (hn : n ≤ 1000000) :
    Calls Tryz.prog 28 #[.int .i64 n, .int .i64 a] w (fun e w' => ∃ r : Option (List Int), e = .returned (.tuple #[.string (rtext r), .bool r.isSome]) ∧ (∀ u, r = some u → isAlpha a = true ∧ WordOf a n u ∧ u.length ≤ 7) ∧ Ext w w') := by
  have hn0 : ¬ (n : Int) < 0 := by omega
  by_cases ha : isAlpha a = true
  case neg =>
    have ha : isAlpha a = false := by simpa using ha
    go_enter Tryz.func28, Tryz.ntmps28
    go_wp2_with fail
    refine (isAlphabet_c a _).mono ?_
    rintro e w1 ⟨rfl, rfl⟩
    go_wp2_with fail
    go_ret2
    exact ⟨none, rfl, (fun u h => by cases h), Ext.refl _⟩
  have HA := Lib.hid ha
  have hra := ha
  simp only [isAlpha, Bool.and_eq_true, decide_eq_true_eq] at hra
  obtain ⟨ha0, ha63⟩ := hra
  go_enter Tryz.func28, Tryz.ntmps28
  go_wp2_with fail
  refine (isAlphabet_c a _).mono ?_
  rintro e w1 ⟨rfl, rfl⟩
  go_wp2_with fail
  refine (lettersOf_c a _ ha0 ha63).mono ?_
  rintro e w2 ⟨vl, rfl, he2, hl⟩
  have HLV := Lib.hid hl
  obtain ⟨al, cl, rfl, -, hcl⟩ := hl.open
  have hl6 : (letters a).length ≤ 6 := lettersTo_len a 6
  have HCL := Lib.hid hcl
  clear hcl hl ha
  go_wp2_with fail
  go_loopw [0, 7, 23, 24, 25] (fun m o _ _ _ wr => ∃ (k : Nat) (u : List Int) (bs : List UInt8), m = .int .i64 k ∧ k ≤ n ∧ BytesOwn 5 w2.heap.size wr o bs ∧ bs.length ≤ 7 ∧ Hid (bs = u.map lb) ∧ Hid (∀ x ∈ u, bit a x = true) ∧ Hid (idxFrom a k u.reverse = n) ∧ Ext w2 wr) (fun m _ _ _ _ _ => (intOf m).toNat)
  case atStart => exact ⟨n, [], [], rfl, Nat.le_refl _, BytesOwn.nil _ _ _, by simp, by show _ = _; rfl, by show ∀ x ∈ [], _; simp, by show _ = _; rfl, Ext.refl _⟩
  case round =>
    obtain ⟨k, u, bs, rfl, hk, hown, hu7, HBS, HU, HI, hext⟩ := hrel
    by_cases h0 : k = 0
    · have HK0 := Lib.hid h0
      subst h0
      go_wp2_with (go_at_call 77; refine (Reverse_c _ bs w2.heap.size _ hown (by omega) hext.size).mono ?_; rintro e w3 ⟨rfl, hown1, hgr1⟩; have hst := hown1.string)
      go_ret2
      refine ⟨some u.reverse, ?_, ?_, he2.trans (hext.grown hgr1 hext.size fun q hq => (World.ownsRow.lt hown q hq).1)⟩
      · have e : rtext (some u.reverse) = ⟨bs.reverse.toArray⟩ := by rw [HBS.out, ← List.map_reverse]; rfl
        rw [e]; rfl
      · intro x hx
        cases hx
        refine ⟨HA.out, ⟨fun y hy => HU.out y (by simpa using hy), HI.out⟩, ?_⟩
        have := HBS.out
        have h7 : bs.length = u.length := by rw [this, List.length_map]
        simp; omega
    · obtain ⟨k', rfl⟩ : ∃ k', k = k' + 1 := ⟨k - 1, by omega⟩
      have hk0 : (0 : Int) < ((k' + 1 : Nat) : Int) := by omega
      obtain ⟨ab, cb, rfl⟩ := own_any' hown.own
      by_cases hL : (letters a).length = 0
      · have hL' : (((letters a).length : Int) == 0) = true := by rw [hL]; rfl
        clear hL
        go_wp2_with fail
        go_ret2
        exact ⟨none, rfl, (fun u h => by cases h), he2.trans hext⟩
      by_cases h7 : bs.length = 7
      · have hL' : (((letters a).length : Int) == 0) = false := beq_eq_false_iff_ne.2 (by omega)
        have h7' : ((bs.length : Int) == 7) = true := by rw [h7]; rfl
        clear h7
        go_wp2_with fail
        go_ret2
        exact ⟨none, rfl, (fun u h => by cases h), he2.trans hext⟩
      have hL' : (((letters a).length : Int) == 0) = false := beq_eq_false_iff_ne.2 (by omega)
      have h7' : ((bs.length : Int) == 7) = false := beq_eq_false_iff_ne.2 (by omega)
      have hj : k' % (letters a).length < (letters a).length := Nat.mod_lt _ (by omega)
      obtain ⟨x, hx⟩ : ∃ x, (letters a)[k' % (letters a).length]? = some x := ⟨_, List.getElem?_eq_getElem hj⟩
      obtain ⟨b, off, rfl, -, hc⟩ := HCL.out _ x hx
      have hcx : w2.cell? ⟨b, off + (k' % (letters a).length) * 1, none⟩ = some (.int .i64 x) := hc _ x hx
      have hcx' := hext.cell hcx
      rw [Nat.mul_one] at hcx'
      obtain ⟨p1, p2, p3, p4⟩ := place_of_get ha0 ha63 hx
      obtain ⟨l, rfl⟩ := Int.eq_ofNat_of_zero_le p2
      have hl6' : l < 6 := by omega
      have HP4 := Lib.hid p4
      have HP1 := Lib.hid p1
      have hlb := lb_val l hl6'
      have HLB := Lib.hid hlb
      have hsub : ((k' + 1 : Nat) : Int) - 1 = (k' : Int) := by omega
      have hmod : Int.tmod (k' : Int) ((letters a).length : Int) = ((k' % (letters a).length : Nat) : Int) := tmod_cast _ _
      have hdq : k' / (letters a).length ≤ k' := Nat.div_le_self _ _
      have HDM := Lib.hid (Nat.div_add_mod' k' (letters a).length)
      obtain ⟨Q, hQ⟩ : ∃ Q, Q = k' / (letters a).length := ⟨_, rfl⟩
      have hdiv : Int.tdiv (k' : Int) ((letters a).length : Int) = (Q : Int) := by rw [hQ]; exact tdiv_cast _ _
      have hdiv2 : (k' : Int) / ((letters a).length : Int) = (Q : Int) := by rw [hQ]; simp
      have HQ := Lib.hid hQ
      have hQ2 : Q ≤ k' := by omega
      have hji : ((k' % (letters a).length : Nat) : Int) < ((letters a).length : Int) := by omega
      obtain ⟨J, hJ⟩ : ∃ J, J = k' % (letters a).length := ⟨_, rfl⟩
      rw [← hJ] at hmod hcx' hji
      have HJ := Lib.hid hJ
      clear p1 p2 p3 p4 hlb hx hc hcx hj hQ hJ hdq
      have hne0 : ((letters a).length : Int) ≠ 0 := by omega
      go_wp2_with (first | (go_at_call 76; refine (letterByte_c l _ hl6').mono ?_; rintro e w' ⟨rfl, rfl⟩) | (at_builtin; refine app1 rfl rfl Tryz.underlying22 infoByte rfl (by decide) hown.own rfl rfl rfl (by simp [Value.oneCell']) (by omega) (by decide) hext.size ?_; intro v1 w4 hown1 hgr1 hbl1))
      refine ⟨⟨Q, u ++ [(l : Int)], bs ++ [lb l], by go_num, by omega, BytesOwn.push hown1 HLB.out.symm rfl, by simp; omega, ?_, ?_, ?_, Below.trans hext hbl1⟩, by simp [intOf]; omega⟩
      · show _ = _
        rw [HBS.out]; simp
      · intro y hy
        rcases List.mem_append.1 hy with hy | hy
        · exact HU.out y hy
        · rw [List.mem_singleton] at hy; subst hy; exact HP1.out
      · show _ = _
        rw [List.reverse_append, List.reverse_singleton, List.singleton_append, idx_cons, HP4.out, show nletters a = (letters a).length from rfl, HQ.out, HDM.out]
        exact HI.out
end Go.Proofs.YtajafdblmphglaaGreatDoor
