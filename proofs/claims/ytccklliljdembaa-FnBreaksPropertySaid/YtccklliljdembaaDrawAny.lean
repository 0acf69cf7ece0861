/- Draws: any automaton, a teacher. -/
import Derived.Test.YtccklliljdembaaDrawLp
import Derived.Test.YtccklliljdembaaDrawBad
import Derived.Deep.RegionLaw
import Derived.Deep.DrawnRows
namespace Go.Proofs.Ytccklliljdembaa
set_option linter.unusedSimpArgs false
set_option linter.unusedVariables false
open Go.RowKit
set_option maxHeartbeats 1000000
set_option maxRecDepth 100000
attribute [local go_sem ↓] Go.wp_at_zero Go.wp_at_succ

variable {D D' D'' : Nat → Prop} {g q q' : Nat} {w w' : World}

theorem l3Any_t (h : St D g q w) (hq : q + 43100 ≤ 1000000) :
    Calls Try.prog 13 #[.pointer (some ⟨g, 0, none⟩)] w (Drawn D g q 43100 w AutoT) := by
  have hg := h.g_lt
  have hd := fun x hx => (h.dom x hx).2
  have B0 := Box.new h #[.int .i64 0, .slice none 0 0, .slice none 0 0] 26
  go_enter Try.func13, Try.ntmps13
  go_wp2_with fail
  generalize w.alloc (.cells #[.int .i64 0, .slice none 0 0, .slice none 0 0] 26) = w1 at B0 ⊢
  refine (pick_t 12 B0.st (by omega) (by omega)).mono ?_
  rintro e w2 ⟨x, rfl, -, -, hs2, hk2⟩
  have B1 := B0.kept hg hk2 (c' := 1) hs2
  clear hs2 hk2 B0
  by_cases hx : x = 0
  · subst hx
    go_wp2_with fail
    refine (l3Big_t B1.st (by omega)).mono ?_
    rintro e wd ⟨vd, Dd, rfl, hid, hsd, htd, hSd⟩
    have Bd := B1.drawn hg hid htd (c' := 43100) (hsd.up (by omega))
    obtain ⟨ald, nd, md, aNd, cNd, aAd, cAd, rfl, hnd, hmd, hNd, hAd⟩ := hSd.boxed
    have rc0 := Bd.blk.cell 0 rfl; have rf0 := Bd.blk.fr 0; have rc1 := Bd.blk.cell 1 rfl; have rf1 := Bd.blk.fr 1; have rc2 := Bd.blk.cell 2 rfl; have rf2 := Bd.blk.fr 2
    go_wp2_with fail
    refine bodyPost_ret (v := .agg #[.int .i64 ald, .slice aNd nd cNd, .slice aAd md cAd]) (by simp [results, Try.results13, go_sem, rc0, rc1, rc2, rf0, rf1, rf2]) rfl ?_
    have BZ := ((Bd.set hg hd (Nat.le_refl _) 0 (.int .i64 ald)).set hg hd (Nat.le_refl _) 1 (.slice aNd nd cNd)).set hg hd (Nat.le_refl _) 2 (.slice aAd md cAd)
    have oZ := Bd.out
    exact ⟨_, Dd, rfl, BZ.inc, BZ.st.up (by omega), BZ.tr, _, _, _, _, _, rfl, by omega, by omega, (((hNd.tr (fun _ h => h) (Shp.box oZ)).tr (fun _ h => h) (Shp.box oZ)).tr (fun _ h => h) (Shp.box oZ)), (((hAd.tr (fun _ h => h) (Shp.box oZ)).tr (fun _ h => h) (Shp.box oZ)).tr (fun _ h => h) (Shp.box oZ))⟩
  · have hx' : ((x : Int) == 0) = false := beq_eq_false_iff_ne.2 (by omega)
    go_wp2_with fail
    refine (l3Draw_t B1.st (by omega)).mono ?_
    rintro e wb ⟨vb, Db, rfl, hib, hsb, htb, hSb⟩
    have Bb := B1.drawn hg hib htb (c' := 43001) (hsb.up (by omega))
    go_wp2_with fail
    refine (l3Wrong_t _ hSb Bb.st (by omega)).mono ?_
    rintro e wd ⟨vd, Dd, rfl, hid, hsd, htd, hSd⟩
    have Bd := Bb.drawn hg hid htd (c' := 43100) (hsd.up (by omega))
    obtain ⟨ald, nd, md, aNd, cNd, aAd, cAd, rfl, hnd, hmd, hNd, hAd⟩ := hSd.boxed
    have rc0 := Bd.blk.cell 0 rfl; have rf0 := Bd.blk.fr 0; have rc1 := Bd.blk.cell 1 rfl; have rf1 := Bd.blk.fr 1; have rc2 := Bd.blk.cell 2 rfl; have rf2 := Bd.blk.fr 2
    go_wp2_with fail
    refine bodyPost_ret (v := .agg #[.int .i64 ald, .slice aNd nd cNd, .slice aAd md cAd]) (by simp [results, Try.results13, go_sem, rc0, rc1, rc2, rf0, rf1, rf2]) rfl ?_
    have BZ := ((Bd.set hg hd (Nat.le_refl _) 0 (.int .i64 ald)).set hg hd (Nat.le_refl _) 1 (.slice aNd nd cNd)).set hg hd (Nat.le_refl _) 2 (.slice aAd md cAd)
    have oZ := Bd.out
    exact ⟨_, Dd, rfl, BZ.inc, BZ.st.up (by omega), BZ.tr, _, _, _, _, _, rfl, by omega, by omega, (((hNd.tr (fun _ h => h) (Shp.box oZ)).tr (fun _ h => h) (Shp.box oZ)).tr (fun _ h => h) (Shp.box oZ)), (((hAd.tr (fun _ h => h) (Shp.box oZ)).tr (fun _ h => h) (Shp.box oZ)).tr (fun _ h => h) (Shp.box oZ))⟩

/-- An automaton and a text. -/
def AutoS (D : Nat → Prop) (q : Nat) (w : World) (v : Value) : Prop := ∃ a s, v = .tuple #[a, .string s] ∧ AutoT D q w a ∧ s.size ≤ 60000
theorem AutoS.tr {v : Value} (h : AutoS D q w v) (hi : ∀ b, D b → D' b) (hs : Shp D w w') (hq : q ≤ q') : AutoS D' q' w' v := by
  obtain ⟨a, s, rfl, h1, h2⟩ := h
  exact ⟨a, s, rfl, h1.tr hi hs hq, h2⟩

end Go.Proofs.Ytccklliljdembaa
