/- Draws, typed: parts. -/
import Derived.Test.YtloampfmlhmlhaaGreatDoorDrawP
import Derived.Test.YtloampfmlhmlhaaGreatDoorWalkV
import Derived.Deep.RegionHeld3
import Derived.Deep.CutBlock
import Derived.Deep.DeepCutAuto
namespace Go.Proofs.YtloampfmlhmlhaaGreatDoor
set_option linter.unusedSimpArgs false
set_option linter.unusedVariables false
open Go.RowKit
set_option maxHeartbeats 1000000
set_option maxRecDepth 100000
attribute [local go_sem ↓] Go.wp_at_zero Go.wp_at_succ

variable {D D' D'' : Nat → Prop} {g q q' : Nat} {w w' : World}

theorem kin_sys {al st : Int} {ve : Value} {n : Nat} (h : SlOk D w 108 3 ve n) (hn : n ≤ q) : Kin D q w 29 [.int .i64 al, .int .i64 st, ve] := fun i u hu => by
  match i, hu with
  | 0, hu => exact ⟨.int, rfl, al, by simpa using hu.symm⟩
  | 1, hu => exact ⟨.int, rfl, st, by simpa using hu.symm⟩
  | 2, hu => exact ⟨.sl 108 3, rfl, n, hn, by simp at hu; subst hu; exact h⟩
  | i + 3, hu => simp at hu
theorem zk_sys : ∀ (D : Nat → Prop) q w, Kin D q w 29 (Value.agg #[.int .i64 0, .int .i64 0, .slice none 0 0]).cells.toList := fun D q w => by
  show Kin D q w 29 [.int .i64 0, .int .i64 0, .slice none 0 0]
  exact kin_sys SlOk.nil (Nat.zero_le _)

/-- Systems, as a typed slice. -/
def SyssT (k : Nat) (D : Nat → Prop) (_ : Nat) (w : World) (v : Value) : Prop := ∃ n, n ≤ k ∧ SlOk D w 29 3 v n
def SyssT1 (k : Nat) (D : Nat → Prop) (_ : Nat) (w : World) (v : Value) : Prop := ∃ n, 1 ≤ n ∧ n ≤ k ∧ SlOk D w 29 3 v n



/-- A system of a typed slice of systems, and a store there. -/
theorem SlOk.sys_at {n i : Nat} {v : Value} (hs : SlOk D w 29 3 v n) (h : St D g q w) (hi : i < n) :
    ∃ b cap al st a1 n1 c1, v = .slice (some ⟨b, 0, none⟩) n cap ∧ w.cell? ⟨b, i * 3, none⟩ = some (.int .i64 al) ∧ w.cell? ⟨b, i * 3 + 1, none⟩ = some (.int .i64 st) ∧ w.cell? ⟨b, i * 3 + 2, none⟩ = some (.slice a1 n1 c1) ∧ n1 ≤ q ∧ SlOk D w 108 3 (.slice a1 n1 c1) n1 ∧
      (∀ j, w.frozen? ⟨b, i * 3 + j, none⟩ = false) ∧ ∀ (al' st' : Int) (ve' : Value) (m : Nat), m ≤ q → SlOk D w 108 3 ve' m →
        St D g q (((w.setCell ⟨b, i * 3, none⟩ (.int .i64 al')).setCell ⟨b, i * 3 + 1, none⟩ (.int .i64 st')).setCell ⟨b, i * 3 + 2, none⟩ ve') ∧ Tr D g w (((w.setCell ⟨b, i * 3, none⟩ (.int .i64 al')).setCell ⟨b, i * 3 + 1, none⟩ (.int .i64 st')).setCell ⟨b, i * 3 + 2, none⟩ ve') := by
  obtain ⟨b, cap, cs, u0, k0, rfl, hb, hh, h0, hf0, hk0, hc0⟩ := hs.at h.typ hi (j := 0) (by omega)
  obtain ⟨b1, cap1, cs1, u1, k1, hv1, hb1, hh1, h1, hf1, hk1, hc1⟩ := hs.at h.typ hi (j := 1) (by omega)
  cases hv1
  obtain ⟨b2, cap2, cs2, u2, k2, hv2, hb2, hh2, h2, hf2, hk2, hc2⟩ := hs.at h.typ hi (j := 2) (by omega)
  cases hv2
  have e0 : ck 29 (i * 3 + 0) = some .int := per_sys i 0
  have e1 : ck 29 (i * 3 + 1) = some .int := per_sys i 1
  have e2 : ck 29 (i * 3 + 2) = some (.sl 108 3) := per_sys i 2
  rw [e0] at hk0; rw [e1] at hk1; rw [e2] at hk2
  cases hk0; cases hk1; cases hk2
  obtain ⟨al, rfl⟩ := hc0
  obtain ⟨st, rfl⟩ := hc1
  obtain ⟨n1, hn1, hE1⟩ := hc2
  obtain ⟨a1, c1, rfl⟩ := hE1.shape
  have hB : Blk w b cs 29 := hh
  refine ⟨b, cap, al, st, a1, n1, c1, rfl, by simpa using h0, h1, h2, hn1, hE1, fun j => hB.fr _, fun al' st' ve' m hm hE' => ?_⟩
  obtain ⟨s1, t1⟩ := h.set (k := .int) (u := .int .i64 al') hb hh e0 ⟨al', rfl⟩
  have B1 : Blk _ b _ 29 := hB.set (i * 3) (.int .i64 al')
  obtain ⟨s2, t2⟩ := s1.set (k := .int) (u := .int .i64 st') hb B1 e1 ⟨st', rfl⟩
  have B2 := B1.set (i * 3 + 1) (.int .i64 st')
  have t12 := t1.trans (Inc.refl _ _) t2
  obtain ⟨s3, t3⟩ := s2.set (k := .sl 108 3) (u := ve') hb B2 e2 ⟨m, hm, hE'.tr (fun _ h => h) t12.shp⟩
  exact ⟨s3, t12.trans (Inc.refl _ _) t3⟩
/-- A typed slice of systems reads as some systems. -/
theorem SlOk.syss {n : Nat} {v : Value} (hs : SlOk D w 29 3 v n) (h : St D g q w) : ∃ l : List Sys, l.length = n ∧ SyssV w v l ∧ ∀ s ∈ l, s.edges.length ≤ q := by
  rcases hs with ⟨rfl, rfl⟩ | ⟨b, cap, cs, rfl, hb, hh, h1, h2, h3⟩
  · exact ⟨[], rfl, ⟨none, 0, rfl, by simp, by simp, fun h => by simp at h⟩, fun s hs => by cases hs⟩
  · obtain ⟨l, h4, h5⟩ := exists_list n (fun i (x : Sys) => SysAt w b (0 + i * 3) x ∧ x.edges.length ≤ q) fun i hi => by
      have hs : SlOk D w 29 3 (.slice (some ⟨b, 0, none⟩) n cap) n := .inr ⟨b, cap, cs, rfl, hb, hh, h1, h2, h3⟩
      obtain ⟨b', cap', al, st, a1, n1, c1, hv, g0, g1, g2, hn1, hE, -⟩ := hs.sys_at h hi
      cases hv
      obtain ⟨es, rfl, he⟩ := hE.edges h.typ
      exact ⟨⟨al, st, es⟩, by rw [Nat.zero_add]; exact ⟨_, g0, g1, g2, he⟩, hn1⟩
    subst h4
    refine ⟨l, rfl, ⟨_, cap, rfl, h1, h2, fun _ => ⟨b, 0, rfl, (Array.getElem?_eq_some_iff.1 hh).1, fun i x hx => (h5 i x hx).1⟩⟩, fun s hs => ?_⟩
    obtain ⟨i, hi⟩ := List.getElem?_of_mem hs
    exact (h5 i s hi).2
end Go.Proofs.YtloampfmlhmlhaaGreatDoor
