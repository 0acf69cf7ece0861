/- Draws: an automaton and a word. -/
import Derived.Test.YtccklliljdembaaDrawAny
namespace Go.Proofs.Ytccklliljdembaa
set_option linter.unusedSimpArgs false
set_option linter.unusedVariables false
open Go.RowKit
set_option maxHeartbeats 1000000
set_option maxRecDepth 100000
attribute [local go_sem ↓] Go.wp_at_zero Go.wp_at_succ

variable {D D' D'' : Nat → Prop} {g q q' : Nat} {w w' : World}

theorem DrawBreaksProperty_t (v : Value) (l : List UInt8) (w : World) (hv : BytesV w v l) (hl : l.length ≤ 1048576) :
    Calls Try.prog 4 #[v] w (Drew 46000 w AutoS) := by
  obtain ⟨wo, hwo⟩ : ∃ wo, wo = w.alloc (.cells #[.int .i64 0, .slice none 0 0, .slice none 0 0] 26) := ⟨_, rfl⟩
  have he : Ext w wo := by rw [hwo]; exact Ext.alloc _ _
  have b0 : Blk wo w.heap.size #[.int .i64 0, .slice none 0 0, .slice none 0 0] 26 := by rw [hwo]; exact Blk.new _ _ _
  have hso : wo.heap.size = w.heap.size + 1 := by rw [hwo]; simp
  go_enter Try.func4, Try.ntmps4
  go_wp2_with fail
  rw [← hwo]
  clear hwo
  refine (l19Open_t v l wo (hv.mono (fun b o x _ h => he.cell h) he.size) hl).mono ?_
  rintro e w1 ⟨g, rfl, hgb, he1, hs1⟩
  have b0 := b0.ext he1
  have hw1 : w.heap.size + 1 ≤ w1.heap.size := by have := he1.size; omega
  have hb1 : Ext w w1 := he.trans he1
  clear he he1 hv
  have N0 := Bare.new hs1
  go_wp2_with fail
  refine (l3Any_t hs1 (by omega)).mono ?_
  rintro e w2 ⟨r, D2, rfl, hi2, hs2, ht2, hR⟩
  obtain ⟨al, n, m, aN, cN, aA, cA, rfl, hn, hm, hN, hA⟩ := hR.boxed
  have b0 := b0.tr ht2 (fun h => h) (by omega)
  have N2 := N0.drawn (c' := 43100) hi2 ht2 hs2
  clear N0 hi2 ht2 hs2 hR
  go_wp2_with fail
  refine (l1Word_t 7 7 (by omega) N2.st (by omega)).mono ?_
  rintro e w4 ⟨v4, D4, rfl, hi4, hs4, ht4, s, rfl, hsz⟩
  have b0 := b0.tr ht4 (fun h => by have := (N2.st.dom _ h).1; omega) (by omega)
  have hN := hN.tr' hi4 ht4
  have hA := hA.tr' hi4 ht4
  have N4 := N2.drawn (c' := 43300) hi4 ht4 (hs4.up (by omega))
  clear hi4 hs4 ht4 N2
  go_wp2_with fail
  refine (l1Bad_t s (by omega) N4.st (by omega)).mono ?_
  rintro e w8 ⟨v8, D8, rfl, hi8, hs8, ht8, t, rfl, htz⟩
  have bK := b0.tr ht8 (fun h => by have := (N4.st.dom _ h).1; omega) (by omega)
  have hN := hN.tr' hi8 ht8
  have hA := hA.tr' hi8 ht8
  have N8 := N4.drawn (c' := 43504) hi8 ht8 (hs8.up (by omega))
  have y0 := bK.cell 0 rfl; have f0 := bK.fr 0; have y1 := bK.cell 1 rfl; have f1 := bK.fr 1; have y2 := bK.cell 2 rfl; have f2 := bK.fr 2
  have hbn : Below w.heap.size w w8 := Below.trans hb1 (N8.tr.tnd.below (lo := w.heap.size) (by omega) (fun b hb => by rcases hb with hb | hb; exact hb.elim; omega))
  have hX : AutoS D8 46000 w8 (.tuple #[.agg #[.int .i64 al, .slice aN n cN, .slice aA m cA], .string t]) := ⟨_, _, rfl, ⟨_, _, _, _, _, rfl, by omega, by omega, hN, hA⟩, htz⟩
  have hsn : St D8 g 46000 w8 := hs8.up (by omega)
  clear hi8 hs8 ht8 N4 N8 hN hA
  have y9 : Tnd (fun b => w.heap.size ≤ b ∧ b < w.heap.size + 1) w8 (((w8.setCell ⟨w.heap.size, 0, none⟩ (.int .i64 al)).setCell ⟨w.heap.size, 1, none⟩ (.slice aN n cN)).setCell ⟨w.heap.size, 2, none⟩ (.slice aA m cA)) := Tnd.set3 (b := w.heap.size) (by omega) _ _ _
  have B9 := bK.set3 (.int .i64 al) (.slice aN n cN) (.slice aA m cA)
  go_wp2_with fail
  clear y0 y1 y2 f0 f1 f2
  generalize (((w8.setCell ⟨w.heap.size, 0, none⟩ (.int .i64 al)).setCell ⟨w.heap.size, 1, none⟩ (.slice aN n cN)).setCell ⟨w.heap.size, 2, none⟩ (.slice aA m cA)) = w9 at y9 B9 ⊢
  have g0 := B9.cell 0 rfl
  have g1 := B9.cell 1 rfl
  have g2 := B9.cell 2 rfl
  refine bodyPost_ret (v := .tuple #[.agg #[.int .i64 al, .slice aN n cN, .slice aA m cA], .string t]) (by simp [results, Try.results4, go_sem, g0, g1, g2]) rfl ?_
  exact Drew.mk' (fun w' hw' => hX.tr (fun _ h => h) hw' (by omega)) hbn (fun b hb => by have := (hsn.dom b hb).1; omega) hsn.typ y9
end Go.Proofs.Ytccklliljdembaa
