/- Part of this seat's proofs, cut to what its law needs. -/

import Derived.Test.YtanekmfifmkbmaaGreatDoorDrawX
import Derived.Test.YtanekmfifmkbmaaGreatDoorRead
import Derived.OpenShut
namespace Go.Proofs.YtanekmfifmkbmaaGreatDoor
set_option linter.unusedSimpArgs false
set_option linter.unusedVariables false
open Go.RowKit
set_option maxHeartbeats 1000000
set_option maxRecDepth 100000

abbrev BytesV := SlV ByteAt 1

section
variable {H : Type} {enc : TypeId × Value → H} {W : World} {spare : Nat → Bool} {held : Bool} {fuel : Nat} {cs : List Value} {x : DataW H × List MemPlace}
theorem cU : Tryz.prog.cellsOf 5 = 1 := by kernel_rfl
theorem read_u8 {t : TypeId} {P : Program} (ht : P.underlying t = some (.int .u8)) (h : DataW.trod enc P W 0 spare held fuel t cs = some x) : ∃ b : UInt8, cs = [.int .u8 (b.toNat : Int)] := by
  cases fuel with
  | zero => simp [DataW.trod] at h
  | succ n =>
    unfold DataW.trod at h
    rw [ht] at h
    rcases cs with _ | ⟨v, _ | ⟨v2, r⟩⟩
    · simp at h
    · cases v with
      | int k n =>
        simp only at h
        by_cases hk : k = .u8 ∧ (Lit.int .u8 n).wf = true
        · obtain ⟨rfl, hw⟩ := hk
          obtain ⟨h1, h2⟩ := bounds_u8 hw
          exact ⟨UInt8.ofNat n.toNat, by simp; omega⟩
        · rw [if_neg hk] at h; cases h
      | _ => simp at h
    · simp at h
theorem read_bytes (h : DataW.trod enc Tryz.prog W 0 spare held fuel 22 cs = some x) : ∃ v l, cs = [v] ∧ BytesV W v l :=
  read_slice Tryz.underlying22 cU (by decide) (fun n b o cs' y h1 h2 => by
    obtain ⟨k, rfl⟩ := read_u8 Tryz.underlying5 h2
    have := (cells_at h1).2 0 _ rfl
    rw [Go.Proofs.YtanekmfifmkbmaaGreatDoor.add_none] at this
    exact ⟨k, this⟩) h
end

theorem l19Open_t (v : Value) (l : List UInt8) (w : World) (hv : BytesV w v l) (hl : l.length ≤ 1048576) :
    Calls Tryz.prog 21 #[v] w (fun e w' => ∃ g, e = .returned (.pointer (some ⟨g, 0, none⟩)) ∧ w.heap.size ≤ g ∧ Ext w w' ∧ St (fun _ => False) g 2000 w') := by
  have hv0 := hv
  obtain ⟨a, c, rfl, -, ho⟩ := hv.open
  obtain ⟨a1, c1, e1, hlc, hcm, -⟩ := hv0
  cases e1
  have HO := Lib.hid ho
  clear ho hv
  have fin : ∀ (a' : Option Addr) (l' : List UInt8) (c' : Nat), l'.length ≤ 2000 → (∀ (k : Nat) (x : UInt8), l'[k]? = some x → ∃ b off, a' = some ⟨b, off, none⟩ ∧ b < w.heap.size ∧ ∀ (i : Nat) (x : UInt8), l'[i]? = some x → ByteAt w b (off + i * 1) x) →
      St (fun _ => False) w.heap.size 2000 (w.alloc (.cells #[.slice a' l'.length c', .int .i64 0] 119)) := fun a' l' c' hl' ho' => by
    refine ⟨⟨0, by omega, a', c', l', Blk.new _ _ _, hl', fun h0 => ?_⟩, fun _ h => h.elim, fun _ h => h.elim⟩
    obtain ⟨b, off, e1, hb, hx⟩ := ho' 0 l'[0] (List.getElem?_eq_getElem h0)
    exact ⟨b, off, e1, hb, fun i x hi => (Ext.alloc _ _).cell (by have := hx i x hi; rw [Nat.mul_one] at this; exact this)⟩
  by_cases h2 : l.length ≤ 2000
  · go_enter Tryz.func21, Tryz.ntmps21
    go_wp2_with fail
    go_ret
    exact ⟨w.heap.size, rfl, Nat.le_refl _, Ext.alloc _ _, fin a l c h2 HO.out⟩
  · obtain ⟨b, off, rfl, hb, -⟩ := HO.out 0 l[0] (List.getElem?_eq_getElem (by omega))
    have hl2 : (l.take 2000).length = 2000 := by rw [List.length_take]; omega
    have hst := fin (some ⟨b, off, none⟩) (l.take 2000) c (by omega) fun k x hk => ⟨b, off, rfl, hb, fun i y hi => by
      obtain ⟨b', off', e', -, hx⟩ := HO.out 0 l[0] (List.getElem?_eq_getElem (by omega))
      cases e'
      refine hx i y ?_
      rw [List.getElem?_take] at hi
      split at hi
      · exact hi
      · cases hi⟩
    rw [hl2] at hst
    have HS := Lib.hid hst
    clear hst hl2 fin
    have hc1 : (2000 : Int) ≤ (c : Int) := by omega
    have hc2 : 2000 ≤ c := by omega
    go_enter Tryz.func21, Tryz.ntmps21
    go_wp2_with fail
    go_ret
    exact ⟨w.heap.size, rfl, Nat.le_refl _, Ext.alloc _ _, HS.out⟩
end Go.Proofs.YtanekmfifmkbmaaGreatDoor
