/- Extensions of automata. -/
import Derived.Test.YtccklliljdembaaPlain7
namespace Go.Proofs.Ytccklliljdembaa
set_option linter.unusedSimpArgs false
set_option linter.unusedVariables false
open Go

def extA (p : Auto) (n : Int) : Auto := ⟨n, (List.range p.next.length).map fun q => (letters n).map fun l => ((step p q l : Nat) : Int), p.accept⟩
theorem extA_len (p : Auto) (n : Int) : (extA p n).next.length = p.next.length := by simp [extA]
theorem extA_valid {p : Auto} {n : Int} (hp : autoValid p = true) (hn : 0 ≤ n) (hn2 : n ≤ 63) : autoValid (extA p n) = true := by
  obtain ⟨f1, f2, f3, f4, f5⟩ := autoValid_facts hp
  simp only [autoValid, Bool.and_eq_true, decide_eq_true_eq, List.all_eq_true]
  rw [extA_len]
  refine ⟨⟨⟨⟨by simp [isAlpha, extA, hn, hn2], f3⟩, f4⟩, f5⟩, fun row hr => ?_⟩
  obtain ⟨q, hq, rfl⟩ := List.mem_map.1 hr
  simp only [rowOk, Bool.and_eq_true, decide_eq_true_eq, List.all_eq_true, qOk]
  refine ⟨by simp [extA, nletters], fun y hy => ?_⟩
  obtain ⟨l, _, rfl⟩ := List.mem_map.1 hy
  have := step_lt hp (List.mem_range.1 hq) l
  omega
theorem extA_step {p : Auto} {n : Int} (hn : 0 ≤ n) (hn2 : n ≤ 63) (h : ∀ l, bit p.alphabet l = true → bit n l = true) {q : Nat} (hq : q < p.next.length) (l : Int) : step (extA p n) q l = step p q l := by
  by_cases hb : bit n l = true
  case neg =>
    have h2 : ¬ bit p.alphabet l = true := fun h3 => hb (h l h3)
    unfold step
    rw [if_neg (show ¬ bit (extA p n).alphabet l = true from hb), if_neg h2]
  have hl := bit_range hn2 hb
  have hm6 : place n l < 6 := by
    have h1 := place_lt_all n.toNat (List.mem_range.2 (by omega)) l.toNat (List.mem_range.2 (by omega))
    simp only [Int.ofNat_eq_natCast] at h1
    rw [Int.toNat_of_nonneg hn, Int.toNat_of_nonneg hl.1] at h1
    have := h1 hb
    have h6 := lettersTo_len n 6
    unfold nletters letters at this
    omega
  have hp := (letters_place n l (place n l) hn hn2 hl.1 hl.2 hm6).2 ⟨hb, rfl⟩
  have e : entry (extA p n) q (place n l) = ((step p q l : Nat) : Int) := by
    unfold entry extA
    simp only [List.getElem?_map, List.getElem?_range hq, Option.map_some, Option.getD_some, hp]
  have : step (extA p n) q l = (entry (extA p n) q (place n l)).toNat := by
    conv => lhs; unfold step
    rw [if_pos (show bit (extA p n).alphabet l = true from hb)]; rfl
  rw [this, e]; rfl
theorem extA_run {p : Auto} {n : Int} (hp : autoValid p = true) (hn : 0 ≤ n) (hn2 : n ≤ 63) (h : ∀ l, bit p.alphabet l = true → bit n l = true) (v : List Int) : ∀ q, q < p.next.length → run (extA p n) q v = run p q v := by
  induction v with
  | nil => intro q _; rfl
  | cons l v ih =>
    intro q hq
    show run (extA p n) (step (extA p n) q l) v = run p (step p q l) v
    rw [extA_step hn hn2 h hq, ih _ (step_lt hp hq l)]
theorem breaks_ext {p : Auto} {n : Int} (hp : autoValid p = true) (hn : 0 ≤ n) (hn2 : n ≤ 63) (h : ∀ l, bit p.alphabet l = true → bit n l = true) (s : ByteArray) : breaks (extA p n) s = breaks p s := by
  have h0 := (autoValid_facts hp).2.2.1
  unfold breaks
  rw [extA_valid hp hn hn2, hp, extA_run hp hn hn2 h _ 0 (by omega)]; rfl
end Go.Proofs.Ytccklliljdembaa
