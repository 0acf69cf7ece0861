/- Part of this seat's proofs, cut to what its law needs. -/

import Derived.Test.YtccklliljdembaaGreatDoorDrawTe
namespace Go.Proofs.YtccklliljdembaaGreatDoor
set_option linter.unusedSimpArgs false
set_option linter.unusedVariables false
open Go.RowKit
set_option maxHeartbeats 2000000
set_option maxRecDepth 100000
attribute [local go_sem ↓] Go.wp_at_zero Go.wp_at_succ

theorem TeachE.set {D : Nat → Prop} {g q : Nat} {w : World} {v : Value} {b : Nat} (h : TeachE D g q w v) (hb : b < g) (hD : ¬ D b) (j : Nat) (u : Value) : TeachE D g q (w.setCell ⟨b, j, none⟩ u) v := by
  obtain ⟨kn, c1, c2, c3, c4, c5, c6, c7, c8, c9, c10, rfl, h1, h2⟩ := h
  exact ⟨kn, c1, c2, c3, c4, c5, c6, c7, c8, c9, c10, rfl, h1.set1 hD j u, h2.set hb hD j u⟩

def TeachWordDrawn (w : World) (e : Ending) (w' : World) : Prop := ∃ vt s t, e = .returned (.tuple #[vt, .string s]) ∧ Ext w w' ∧ TeacherV w' vt t ∧ t.task.sys.edges.length ≤ 70000 ∧ s.size ≤ 205

theorem DrawAskTeacher_t (v : Value) (l : List UInt8) (w : World) (hv : BytesV w v l) (hl : l.length ≤ 1048576) :
    Calls Tryz.prog 24 #[v] w (TeachWordDrawn w) := by
  obtain ⟨wo, hwo⟩ : ∃ wo, wo = w.alloc (.cells #[.bool false, .int .i64 0, .slice none 0 0, .slice none 0 0, .int .i64 0, .int .i64 0, .slice none 0 0, .int .i64 0, .slice none 0 0, .slice none 0 0, .int .i64 0] 50) := ⟨_, rfl⟩
  have he : Ext w wo := by rw [hwo]; exact Ext.alloc _ _
  have b0 : Blk wo w.heap.size #[.bool false, .int .i64 0, .slice none 0 0, .slice none 0 0, .int .i64 0, .int .i64 0, .slice none 0 0, .int .i64 0, .slice none 0 0, .slice none 0 0, .int .i64 0] 50 := by rw [hwo]; exact Blk.new _ _ _
  have hso : w.heap.size < wo.heap.size := by rw [hwo]; simp
  go_enter Tryz.func24, Tryz.ntmps24
  go_wp2_with fail
  rw [← hwo]
  clear hwo
  refine (l19Open_t v l wo (hv.mono (fun b o x _ h => he.cell h) he.size) hl).mono ?_
  rintro e w1 ⟨g, rfl, hgb, he1, hs1⟩
  have b0 := b0.ext he1
  have hlo1 : Below w.heap.size w w1 := he.trans he1
  have hz1 : w.heap.size ≤ w1.heap.size := hlo1.size
  go_wp2_with fail
  refine (l9Teacher_t hs1 (by omega)).mono ?_
  rintro e w2 ⟨r, D2, rfl, hi2, hs2, ht2, hE⟩
  have hlow : ∀ (D : Nat → Prop) q' (wa wb : World), St D g q' wa → Tr D g wa wb → w.heap.size ≤ wa.heap.size → Below w.heap.size wa wb := fun D q' wa wb hs ht hz => ht.tnd.below hz fun b hb => by
    rcases hb with hb | hb
    · have := (hs.dom b hb).1; omega
    · omega
  have HLOW := Lib.hid hlow
  have hng : ∀ (D : Nat → Prop) q' (wa : World), St D g q' wa → ¬ D w.heap.size := fun D q' wa hs hb => by have := (hs.dom _ hb).1; omega
  have HNG := Lib.hid hng
  have b0 := b0.tr ht2 (fun h => h) (by omega)
  have hlo2 := Below.trans hlo1 (hlow _ _ _ _ hs1 ht2 hz1)
  clear hlow hng
  obtain ⟨kn, a1, s1, s2, s3, s4, s5, s6, al, st, pal, tal, r1, r2, r3, r4, r5, r6, r7, r8, r9, rfl⟩ := hE.shape
  clear hs1 ht2 hi2 hlo1 hz1
  go_wp2_with fail
  have hx3 := Ext.alloc w2 (.cells #[.bool kn, .int .i64 a1, .slice s1 s2 s3, .slice s4 s5 s6, .int .i64 al, .int .i64 st, .slice r1 r2 r3, .int .i64 pal, .slice r4 r5 r6, .slice r7 r8 r9, .int .i64 tal] 50)
  have b5 : Blk (w2.alloc (.cells #[.bool kn, .int .i64 a1, .slice s1 s2 s3, .slice s4 s5 s6, .int .i64 al, .int .i64 st, .slice r1 r2 r3, .int .i64 pal, .slice r4 r5 r6, .slice r7 r8 r9, .int .i64 tal] 50)) w2.heap.size #[.bool kn, .int .i64 a1, .slice s1 s2 s3, .slice s4 s5 s6, .int .i64 al, .int .i64 st, .slice r1 r2 r3, .int .i64 pal, .slice r4 r5 r6, .slice r7 r8 r9, .int .i64 tal] 50 := Blk.new _ _ _
  have b0 := b0.ext hx3
  have hE := hE.go (Inc.refl _ _) (Tr.ext hs2 hx3) (Nat.le_refl _)
  have ho5 : ¬ D2 w2.heap.size := hs2.out (Nat.le_refl _)
  have hg5 : g < w2.heap.size := hs2.g_lt
  have hs3 := hs2.ext hx3
  have hz2 : w.heap.size ≤ w2.heap.size := hlo2.size
  have hlo3 := Below.trans hlo2 (hx3.mono hz2)
  have hz3 : w.heap.size < w2.heap.size := by omega
  generalize w2.alloc (.cells #[.bool kn, .int .i64 a1, .slice s1 s2 s3, .slice s4 s5 s6, .int .i64 al, .int .i64 st, .slice r1 r2 r3, .int .i64 pal, .slice r4 r5 r6, .slice r7 r8 r9, .int .i64 tal] 50) = w3 at hx3 b5 b0 hE hs3 hlo3 ⊢
  generalize w2.heap.size = G at b5 ho5 hg5 hz3 ⊢
  clear hs2 hlo2 hx3 hz2
  have hxd := Ext.drew w3
  have hE := hE.go (Inc.refl _ _) (Tr.ext hs3 hxd) (Nat.le_refl _)
  have hlo3 := Below.trans hlo3 (hxd.mono hlo3.size)
  have b0 := b0.ext hxd
  have bD := b5.ext hxd
  have hs3 := hs3.ext hxd
  obtain ⟨t, hte, htv⟩ := hE.teacher hs3.typ
  have p0 := bD.cell 0 rfl; have pa0 := fun o => (Ext.alloc w3 o).cell (b5.cell 0 rfl); have pb0 := b5.cell 0 rfl; have p1 := bD.cell 1 rfl; have pa1 := fun o => (Ext.alloc w3 o).cell (b5.cell 1 rfl); have pb1 := b5.cell 1 rfl; have p2 := bD.cell 2 rfl; have pa2 := fun o => (Ext.alloc w3 o).cell (b5.cell 2 rfl); have pb2 := b5.cell 2 rfl; have p3 := bD.cell 3 rfl; have pa3 := fun o => (Ext.alloc w3 o).cell (b5.cell 3 rfl); have pb3 := b5.cell 3 rfl; have p4 := bD.cell 4 rfl; have pa4 := fun o => (Ext.alloc w3 o).cell (b5.cell 4 rfl); have pb4 := b5.cell 4 rfl; have p5 := bD.cell 5 rfl; have pa5 := fun o => (Ext.alloc w3 o).cell (b5.cell 5 rfl); have pb5 := b5.cell 5 rfl; have p6 := bD.cell 6 rfl; have pa6 := fun o => (Ext.alloc w3 o).cell (b5.cell 6 rfl); have pb6 := b5.cell 6 rfl; have p7 := bD.cell 7 rfl; have pa7 := fun o => (Ext.alloc w3 o).cell (b5.cell 7 rfl); have pb7 := b5.cell 7 rfl; have p8 := bD.cell 8 rfl; have pa8 := fun o => (Ext.alloc w3 o).cell (b5.cell 8 rfl); have pb8 := b5.cell 8 rfl; have p9 := bD.cell 9 rfl; have pa9 := fun o => (Ext.alloc w3 o).cell (b5.cell 9 rfl); have pb9 := b5.cell 9 rfl; have p10 := bD.cell 10 rfl; have pa10 := fun o => (Ext.alloc w3 o).cell (b5.cell 10 rfl); have pb10 := b5.cell 10 rfl
  have HTV := Lib.hid htv
  clear htv
  go_wp2_with fail
  go_region_law (go_simp; go_wp2_with (first
    | (go_at_call 69; refine (TeacherAlphabet_s _ t _ HTV.out).mono ?_; rintro e w4 ⟨rfl, hx4⟩; have hs4 := hs3.ext hx4; have m0 := (bD.ext hx4).cell 0 rfl; have m1 := (bD.ext hx4).cell 1 rfl; have m2 := (bD.ext hx4).cell 2 rfl; have m3 := (bD.ext hx4).cell 3 rfl; have m4 := (bD.ext hx4).cell 4 rfl; have m5 := (bD.ext hx4).cell 5 rfl; have m6 := (bD.ext hx4).cell 6 rfl; have m7 := (bD.ext hx4).cell 7 rfl; have m8 := (bD.ext hx4).cell 8 rfl; have m9 := (bD.ext hx4).cell 9 rfl; have m10 := (bD.ext hx4).cell 10 rfl)
    | (go_at_call 62; refine (l1Word_t _ 5 (by omega) hs4 (by omega)).mono ?_; rintro e w5 ⟨v5, D5, rfl, hi5, hs5, ht5, s, rfl, hsz⟩; have bK := (b0.ext hx4).tr ht5 (HNG.out _ _ _ hs4) (by omega); have bL := (bD.ext hx4).tr ht5 ho5 (by omega); have y0 := bK.cell 0 rfl; have f0 := bK.fr 0; have z0 := bL.cell 0 rfl; have y1 := bK.cell 1 rfl; have f1 := bK.fr 1; have z1 := bL.cell 1 rfl; have y2 := bK.cell 2 rfl; have f2 := bK.fr 2; have z2 := bL.cell 2 rfl; have y3 := bK.cell 3 rfl; have f3 := bK.fr 3; have z3 := bL.cell 3 rfl; have y4 := bK.cell 4 rfl; have f4 := bK.fr 4; have z4 := bL.cell 4 rfl; have y5 := bK.cell 5 rfl; have f5 := bK.fr 5; have z5 := bL.cell 5 rfl; have y6 := bK.cell 6 rfl; have f6 := bK.fr 6; have z6 := bL.cell 6 rfl; have y7 := bK.cell 7 rfl; have f7 := bK.fr 7; have z7 := bL.cell 7 rfl; have y8 := bK.cell 8 rfl; have f8 := bK.fr 8; have z8 := bL.cell 8 rfl; have y9 := bK.cell 9 rfl; have f9 := bK.fr 9; have z9 := bL.cell 9 rfl; have y10 := bK.cell 10 rfl; have f10 := bK.fr 10; have z10 := bL.cell 10 rfl)))
  all_goals
   have hno := HNG.out _ _ _ hs5
   have hgw : w.heap.size < g := by omega
   have hE5 := (hE.go (Inc.refl _ _) (Tr.ext hs3 hx4) (Nat.le_refl _)).go hi5 ht5 (q' := 2000 + 44000 + 200) (by omega)
   have hE9 := hE5.set hgw hno 0 (.bool kn) |>.set hgw hno 1 (.int .i64 a1) |>.set hgw hno 2 (.slice s1 s2 s3) |>.set hgw hno 3 (.slice s4 s5 s6) |>.set hgw hno 4 (.int .i64 al) |>.set hgw hno 5 (.int .i64 st) |>.set hgw hno 6 (.slice r1 r2 r3) |>.set hgw hno 7 (.int .i64 pal) |>.set hgw hno 8 (.slice r4 r5 r6) |>.set hgw hno 9 (.slice r7 r8 r9) |>.set hgw hno 10 (.int .i64 tal)
   have hk9 : Tnd (fun b => b = w.heap.size) w5 _ := (Kept.set w5 w.heap.size 0 (.bool kn)) |>.trans (Kept.set _ w.heap.size 1 (.int .i64 a1)) |>.trans (Kept.set _ w.heap.size 2 (.slice s1 s2 s3)) |>.trans (Kept.set _ w.heap.size 3 (.slice s4 s5 s6)) |>.trans (Kept.set _ w.heap.size 4 (.int .i64 al)) |>.trans (Kept.set _ w.heap.size 5 (.int .i64 st)) |>.trans (Kept.set _ w.heap.size 6 (.slice r1 r2 r3)) |>.trans (Kept.set _ w.heap.size 7 (.int .i64 pal)) |>.trans (Kept.set _ w.heap.size 8 (.slice r4 r5 r6)) |>.trans (Kept.set _ w.heap.size 9 (.slice r7 r8 r9)) |>.trans (Kept.set _ w.heap.size 10 (.int .i64 tal))
   have hT9 := hs5.typ.tnd hk9 (fun b hb => by subst hb; exact hno)
   obtain ⟨T, hTe, hTV⟩ := hE9.teacher hT9
   have hlo5 := Below.trans (Below.trans hlo3 (hx4.mono hlo3.size)) (HLOW.out _ _ _ _ hs4 ht5 (Nat.le_trans hlo3.size hx4.size))
   have hx9 := Below.trans hlo5 (hk9.below hlo5.size fun b hb => by omega)
   have HEnd := Lib.hid (show TeachWordDrawn w (.returned (.tuple #[.agg #[.bool kn, .int .i64 a1, .slice s1 s2 s3, .slice s4 s5 s6, .int .i64 al, .int .i64 st, .slice r1 r2 r3, .int .i64 pal, .slice r4 r5 r6, .slice r7 r8 r9, .int .i64 tal], .string s])) _ from ⟨_, s, T, rfl, hx9, hTV, by omega, by omega⟩)
   have B9 := Blk.put11 bK (.bool kn) (.int .i64 a1) (.slice s1 s2 s3) (.slice s4 s5 s6) (.int .i64 al) (.int .i64 st) (.slice r1 r2 r3) (.int .i64 pal) (.slice r4 r5 r6) (.slice r7 r8 r9) (.int .i64 tal)
   clear p0 pa0 pb0 p1 pa1 pb1 p2 pa2 pb2 p3 pa3 pb3 p4 pa4 pb4 p5 pa5 pb5 p6 pa6 pb6 p7 pa7 pb7 p8 pa8 pb8 p9 pa9 pb9 p10 pa10 pb10
   clear m0 y0 z0 f0 m1 y1 z1 f1 m2 y2 z2 f2 m3 y3 z3 f3 m4 y4 z4 f4 m5 y5 z5 f5 m6 y6 z6 f6 m7 y7 z7 f7 m8 y8 z8 f8 m9 y9 z9 f9 m10 y10 z10 f10
   generalize (((((((((((w5.setCell ⟨w.heap.size, 0, none⟩ (.bool kn)).setCell ⟨w.heap.size, 1, none⟩ (.int .i64 a1)).setCell ⟨w.heap.size, 2, none⟩ (.slice s1 s2 s3)).setCell ⟨w.heap.size, 3, none⟩ (.slice s4 s5 s6)).setCell ⟨w.heap.size, 4, none⟩ (.int .i64 al)).setCell ⟨w.heap.size, 5, none⟩ (.int .i64 st)).setCell ⟨w.heap.size, 6, none⟩ (.slice r1 r2 r3)).setCell ⟨w.heap.size, 7, none⟩ (.int .i64 pal)).setCell ⟨w.heap.size, 8, none⟩ (.slice r4 r5 r6)).setCell ⟨w.heap.size, 9, none⟩ (.slice r7 r8 r9)).setCell ⟨w.heap.size, 10, none⟩ (.int .i64 tal)) = w9 at B9 HEnd ⊢
   have g0 := B9.cell 0 rfl; have g1 := B9.cell 1 rfl; have g2 := B9.cell 2 rfl; have g3 := B9.cell 3 rfl; have g4 := B9.cell 4 rfl; have g5 := B9.cell 5 rfl; have g6 := B9.cell 6 rfl; have g7 := B9.cell 7 rfl; have g8 := B9.cell 8 rfl; have g9 := B9.cell 9 rfl; have g10 := B9.cell 10 rfl
   go_wp2_with fail
   refine bodyPost_ret (v := .tuple #[.agg #[.bool kn, .int .i64 a1, .slice s1 s2 s3, .slice s4 s5 s6, .int .i64 al, .int .i64 st, .slice r1 r2 r3, .int .i64 pal, .slice r4 r5 r6, .slice r7 r8 r9, .int .i64 tal], .string s]) (by simp [results, Tryz.results24, go_sem, g0, g1, g2, g3, g4, g5, g6, g7, g8, g9, g10]) rfl HEnd.out
end Go.Proofs.YtccklliljdembaaGreatDoor
