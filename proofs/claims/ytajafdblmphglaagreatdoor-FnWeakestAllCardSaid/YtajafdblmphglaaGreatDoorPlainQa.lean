/- Part of this seat's proofs, cut to what its law needs. -/

import Derived.Test.YtajafdblmphglaaGreatDoorPlainM
namespace Go.Proofs.YtajafdblmphglaaGreatDoor
set_option linter.unusedSimpArgs false
set_option linter.unusedVariables false
open Go
set_option linter.unusedSectionVars false

theorem IsMin.const {c : Bool} {a : Int} {B : Auto} (h : IsMin (fun _ => c) a B) : B.next.length = 1 ∧ B.accept = [c] := by
  obtain ⟨nodes, h1, rfl⟩ := h
  have hf : ∀ v : List Int, v.foldl nxR (fun _ => c) = fun _ => c := fun v => by
    induction v with
    | nil => rfl
    | cons l v ih => exact ih
  have h2 := nodup_le (m := [fun _ => c]) h1.nodup fun g hg => by
    obtain ⟨v, -, rfl⟩ := h1.reach g hg
    rw [hf]; simp
  have h3 := h1.head
  match nodes, h2, h3 with
  | [], _, h3 => simp at h3
  | [g], _, h3 =>
    simp only [List.getElem?_cons_zero, Option.some.injEq] at h3
    subst h3
    exact ⟨rfl, rfl⟩
  | _ :: _ :: _, h2, _ => simp at h2
def withP (t : Task) (p : Auto) : Task := ⟨t.sys, p, t.alphabet⟩
theorem withP_valid {t : Task} {p : Auto} (h : taskValid t = true) (hp : autoValid p = true) : taskValid (withP t p) = true := by
  obtain ⟨h1, -, h3⟩ := taskValid_facts h
  unfold taskValid withP
  rw [h1, hp, h3]; rfl
theorem run_one {b : Bool} (v : List Int) : run ⟨0, [[]], [b]⟩ 0 v = 0 := by
  have hst : ∀ l, step ⟨0, [[]], [b]⟩ 0 l = 0 := fun l => by simp [step, bit]
  induction v with
  | nil => rfl
  | cons l v ih => show run _ (step _ 0 l) v = 0; rw [hst, ih]
theorem all_lng {t : Task} (h : taskValid t = true) : lngW (withP t ⟨0, [[]], [true]⟩) = fun _ => true := by
  have hT := taskValid_facts (withP_valid (p := ⟨0, [[]], [true]⟩) h (by decide))
  funext v
  refine (startW_safe v hT.1 hT.2.1).2 fun u _ _ _ => ?_
  show accepts ⟨0, [[]], [true]⟩ (run ⟨0, [[]], [true]⟩ 0 u) = true
  rw [run_one]; rfl
theorem none_lng {t : Task} (h : taskValid t = true) : lngW (withP t ⟨0, [[]], [false]⟩) = fun _ => false := by
  have hT := taskValid_facts (withP_valid (p := ⟨0, [[]], [false]⟩) h (by decide))
  funext v
  cases hc : lngW (withP t ⟨0, [[]], [false]⟩) v with
  | false => rfl
  | true =>
    have h1 : accepts ⟨0, [[]], [false]⟩ (run ⟨0, [[]], [false]⟩ 0 []) = true := (startW_safe v hT.1 hT.2.1).1 hc [] (by simp) (List.nil_prefix) ⟨0, rfl⟩
    exact absurd h1 (by decide)
theorem none_few {t : Task} (h : taskValid t = true) : ¬ TooGood (withP t ⟨0, [[]], [false]⟩) := by
  rintro ⟨l, -, h2, h3⟩
  have hs : startW (withP t ⟨0, [[]], [false]⟩) = none := by
    have := startW_run (t := withP t ⟨0, [[]], [false]⟩) []
    rw [none_lng h] at this
    cases hc : startW (withP t ⟨0, [[]], [false]⟩) with
    | none => rfl
    | some f => rw [hc] at this; cases this
  have hn : ∀ w : List Int, w.foldl (nxW (withP t ⟨0, [[]], [false]⟩)) none = none := fun w => by induction w with | nil => rfl | cons x w ih => exact ih
  cases l with
  | nil => simp at h2
  | cons n l =>
    obtain ⟨k1, v, -, k3⟩ := h3 n (by simp)
    rw [hs, hn] at k3
    exact k1 k3.symm
theorem all_weak {t : Task} (h : taskValid t = true) {r : Option Auto} (hr : WeakR (withP t ⟨0, [[]], [true]⟩) r) : r = none ∨ ∃ B, r = some B ∧ B.next.length = 1 ∧ B.accept = [true] := by
  rcases hr with ⟨e, -⟩ | ⟨B, rfl, -, -, hB, -⟩
  · exact .inl e
  · rw [all_lng h] at hB
    exact .inr ⟨B, rfl, hB.const⟩
theorem none_weak {t : Task} (h : taskValid t = true) {r : Option Auto} (hr : WeakR (withP t ⟨0, [[]], [false]⟩) r) : ∃ B, r = some B ∧ B.next.length = 1 ∧ B.accept = [false] := by
  rcases hr with ⟨-, h1 | ⟨-, h1 | ⟨B, hB, h1⟩⟩⟩ | ⟨B, rfl, -, -, hB, -⟩
  · rw [withP_valid h (by decide)] at h1; cases h1
  · exact absurd h1 (none_few h)
  · rw [none_lng h] at hB
    have := hB.const.1
    omega
  · rw [none_lng h] at hB
    exact ⟨B, rfl, hB.const⟩
end Go.Proofs.YtajafdblmphglaaGreatDoor
