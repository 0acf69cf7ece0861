/- Part of this seat's proofs, cut to what its law needs. -/

import Derived.Test.YtanekmfifmkbmaaGreatDoorOra
import Derived.StringKeys
namespace Go.Proofs.YtanekmfifmkbmaaGreatDoor
set_option linter.unusedSimpArgs false
set_option linter.unusedVariables false
open Go Go.RowKit Go.Maps
set_option maxHeartbeats 2000000
set_option maxRecDepth 100000

section
variable {α : Type} [DecidableEq α]
end
def keyS (s : ByteArray) : Lit := .string s.data.toList
theorem keyS_inj {a b : ByteArray} (h : keyS a = keyS b) : a = b := by
  unfold keyS at h
  injection h with h
  exact ByteArray.ext (Array.toList_inj.1 h)
theorem lawStr : Keyed Tryz.prog 9 := string_keyed Tryz.underlying9
theorem key_str {s : ByteArray} (h : s.size ≤ maxLen) : keyOf Tryz.prog 9 (.string s) = some (keyS s) := WideMaps.keyOf_string_mk Tryz.underlying9 h
def MarkMap (S : List ByteArray) (D : DataW Unit) : Prop := (∀ s : ByteArray, Maps.has D (keyS s) = decide (s ∈ S)) ∧ Maps.size D = S.length
theorem MarkMap.nil : MarkMap [] (DataW.map []) := ⟨fun s => by simp [has_eq], rfl⟩
theorem MarkMap.push {S : List ByteArray} {D : DataW Unit} (h : MarkMap S D) (hD : IsMap D) (hT : Tidy D) {s : ByteArray} (hs : s.size ≤ maxLen) (hn : s ∉ S) (d : DataW Unit) : MarkMap (S ++ [s]) (D.put (keyS s) d) := by
  have hk := lawStr.key (key_str hs)
  refine ⟨fun y => ?_, ?_⟩
  · by_cases hy : y = s
    · subst hy; rw [has_put_same hD hk]; simp
    · rw [has_put_other (fun e => hy (keyS_inj e)), h.1 y]; simp [hy]
  · rw [size_put hT, h.1 s, decide_eq_false hn, h.2]; simp

section
variable {al : Int} {f : ByteArray → Bool} {m lo bs : Nat} {vo : Value} {J : Nat → World → Prop}
def seenM (f : ByteArray → Bool) (rows cols : List ByteArray) : List ByteArray := (rows.map (rowB f cols)).foldl addN []
theorem seenM_snoc (f : ByteArray → Bool) (rows cols : List ByteArray) (r : ByteArray) : seenM f (rows ++ [r]) cols = addN (seenM f rows cols) (rowB f cols r) := by
  unfold seenM; rw [List.map_append, List.foldl_append]; rfl
theorem seenM_mem {f : ByteArray → Bool} {rows cols : List ByteArray} {x : ByteArray} : x ∈ seenM f rows cols ↔ x ∈ rows.map (rowB f cols) :=
  ⟨fun h => (mem_foldl_addN h).resolve_left (by simp), fun h => foldl_addN_mem _ _ h⟩
end
--CUT--
end Go.Proofs.YtanekmfifmkbmaaGreatDoor
