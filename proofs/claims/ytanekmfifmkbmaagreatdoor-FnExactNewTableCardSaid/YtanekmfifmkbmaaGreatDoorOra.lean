/- Part of this seat's proofs, cut to what its law needs. -/

import Derived.Test.YtanekmfifmkbmaaGreatDoorTabR
import Derived.Test.YtanekmfifmkbmaaGreatDoorSafeK
import Derived.Test.YtanekmfifmkbmaaGreatDoorOrC
namespace Go.Proofs.YtanekmfifmkbmaaGreatDoor
set_option linter.unusedSimpArgs false
set_option linter.unusedVariables false
open Go Go.RowKit Go.Maps
set_option maxHeartbeats 2000000
set_option maxRecDepth 100000

def AskEnd (f : ByteArray → Bool) (m lo : Nat) (J : Nat → World → Prop) (c : Nat) (s : ByteArray) (w : World) (e : Ending) (w' : World) : Prop := e = .returned (.bool (f s)) ∧ J (c + s.size) w' ∧ Touch eK m lo w w'
def eT (T : TypeId) : Bool := !eK T
structure Ora (al : Int) (f : ByteArray → Bool) (m lo bs : Nat) (vo : Value) (J : Nat → World → Prop) : Prop where
  fn : (∃ ff p1 p2, vo = .func (.func ff) #[] #[p1, p2] ∧ (∀ args w, (callFunc ff args).run Tryz.prog w = .ok (.enter ff args) w) ∧
      ∀ c w s, J c w → c ≤ 90000000 → wordIn s al = true → s.size ≤ 10000 → Calls Tryz.prog ff #[.string s, p1, p2] w (AskEnd f m lo J c s w)) ∨
    (∃ ff p, vo = .func (.func ff) #[p] #[] ∧ (∀ args w, (callFunc ff args).run Tryz.prog w = .ok (.enter ff args) w) ∧
      ∀ c w s, J c w → c ≤ 90000000 → wordIn s al = true → s.size ≤ 10000 → Calls Tryz.prog ff #[p, .string s] w (AskEnd f m lo J c s w))
  keep : ∀ c w w' mN, bs ≤ mN → NoCells w mN → J c w → Touch eT mN bs w w' → J c w'
  mlt : m < bs
  llt : lo ≤ bs

section
variable {al : Int} {f : ByteArray → Bool} {m lo bs : Nat} {vo : Value} {J : Nat → World → Prop}
theorem Ora.ext (h : Ora al f m lo bs vo J) {c : Nat} {w w' : World} (hb : bs ≤ w.heap.size) (hJ : J c w) (he : Ext w w') : J c w' := h.keep c w w' w.heap.size hb (out_nc (Nat.le_refl _)) hJ (Touch.ext he)
theorem Ora.cell (h : Ora al f m lo bs vo J) {c : Nat} {w : World} (hb : bs ≤ w.heap.size) (hJ : J c w) {base g n sz : Nat} {e : TypeId} {v : Value} {xs : List Value} (ho : w.ownsRow base e sz v n xs) (hg : v.ownBlock = some g) (hE : eK e = false) (hl : bs ≤ base) (j : Nat) (u : Value) : J c (w.setCell ⟨g, j, none⟩ u) :=
  h.keep c w _ w.heap.size hb (out_nc (Nat.le_refl _)) hJ (Touch.cell ho hg (by unfold eT; rw [hE]; rfl) hl j u)

end
--CUT--
end Go.Proofs.YtanekmfifmkbmaaGreatDoor
