/- Part of this seat's proofs, cut to what its law needs. -/

import Derived.Test.YtajafdblmphglaaGreatDoorPlainC
namespace Go.Proofs.YtajafdblmphglaaGreatDoor
set_option linter.unusedSimpArgs false
set_option linter.unusedVariables false
open Go

def PrefClosed (A : Auto) : Prop := ∀ u v, accepts A (run A 0 (u ++ v)) = true → accepts A (run A 0 u) = true

def IsPC (B : Auto) : Prop := ∀ q l v, q < B.next.length → bit B.alphabet l = true → accepts B q = false → accepts B (run B (step B q l) v) = false
theorem pc_word {B : Auto} (hB : autoValid B = true) (h : IsPC B) (v : List Int) : ∀ q, q < B.next.length → accepts B (run B q v) = true → accepts B q = true := by
  induction v with
  | nil => intro q _ ha; exact ha
  | cons l v ih =>
    intro q hq ha
    by_cases hb : bit B.alphabet l = true
    · cases hc : accepts B q with
      | true => rfl
      | false =>
        have := h q l v hq hb hc
        rw [show run B q (l :: v) = run B (step B q l) v from rfl, this] at ha
        cases ha
    · refine ih q hq ?_
      rwa [show run B q (l :: v) = run B (step B q l) v from rfl, show step B q l = q by simp [step, hb]] at ha
theorem prefClosed_of {A B : Auto} (hB : autoValid B = true) (h : IsPC B) (hacc : ∀ w, accepts A (run A 0 w) = accepts B (run B 0 w)) : PrefClosed A := fun u v hv => by
  have hn : 0 < B.next.length := by have := autoValid_facts hB; omega
  rw [hacc] at hv ⊢
  rw [show run B 0 (u ++ v) = run B (run B 0 u) v from List.foldl_append ..] at hv
  exact pc_word hB h v _ (run_lt hB u hn) hv


end Go.Proofs.YtajafdblmphglaaGreatDoor
