/- Walks: tasks, interfaces, teachers' alphabets. -/
import Derived.Test.YtdaafbjgjjhklaaWalkI2
namespace Go.Proofs.Ytdaafbjgjjhklaa
open Go.RowKit

set_option maxHeartbeats 400000

theorem TaskValid_c (v : Value) (t : Task) (w : World) (hv : TaskV w v t) :
    Calls Try.prog 23 #[v] w (Grows (.bool (taskValid t)) w) := by
  obtain ⟨ve, vn, va, rfl, h1, h2, h3⟩ := hv
  obtain ⟨S, A, al⟩ := t
  simp only at h1 h2 h3
  by_cases hs : sysValid S = true
  · by_cases ha : autoValid A = true
    · go_enter Try.func23, Try.ntmps23
      go_wp2_with fail
      refine (SystemValid_c _ S _ ⟨ve, rfl, h1.mono (Ext.alloc _ _)⟩).mono ?_
      rintro e w1 ⟨rfl, he1⟩
      have cc3 := he1.blk.cell 3 rfl; have cc4 := he1.blk.cell 4 rfl; have cc5 := he1.blk.cell 5 rfl; have cc6 := he1.blk.cell 6 rfl
      go_wp2_with fail
      refine (AutomatonValid_c _ A _ ⟨vn, va, rfl, h2.mono he1.peel, h3.mono he1.peel⟩).mono ?_
      rintro e w2 ⟨rfl, he2⟩
      have d6 := he2.cell cc6
      clear cc3 cc4 cc5 cc6
      go_wp2_with (go_at_call 62; refine (isAlphabet_c _ _).mono ?_; rintro e w' ⟨rfl, rfl⟩)
      go_ret
      exact Grows.mk (by simp [taskValid, hs, ha]) (he1.peel.trans he2)
    · have ha : autoValid A = false := by simpa using ha
      go_enter Try.func23, Try.ntmps23
      go_wp2_with fail
      refine (SystemValid_c _ S _ ⟨ve, rfl, h1.mono (Ext.alloc _ _)⟩).mono ?_
      rintro e w1 ⟨rfl, he1⟩
      have cc3 := he1.blk.cell 3 rfl; have cc4 := he1.blk.cell 4 rfl; have cc5 := he1.blk.cell 5 rfl; have cc6 := he1.blk.cell 6 rfl
      go_wp2_with fail
      refine (AutomatonValid_c _ A _ ⟨vn, va, rfl, h2.mono he1.peel, h3.mono he1.peel⟩).mono ?_
      rintro e w2 ⟨rfl, he2⟩
      go_wp2_with fail
      go_ret
      exact Grows.mk (by simp [taskValid, ha]) (he1.peel.trans he2)
  · have hs : sysValid S = false := by simpa using hs
    go_enter Try.func23, Try.ntmps23
    go_wp2_with fail
    refine (SystemValid_c _ S _ ⟨ve, rfl, h1.mono (Ext.alloc _ _)⟩).mono ?_
    rintro e w1 ⟨rfl, he1⟩
    go_wp2_with fail
    go_ret
    exact Grows.mk (by simp [taskValid, hs]) he1.peel

theorem InterfaceOf_c (v u z : Value) (S : Sys) (A : Auto) (O : Sys) (w : World) (hv : SysV w v S) (hu : AutoV w u A) (hz : SysV w z O) :
    Calls Try.prog 18 #[v, u, z] w (Grows (.int .i64 (interfaceOf S A O)) w) := by
  obtain ⟨ve, rfl, h1⟩ := hv
  obtain ⟨vn, va, rfl, h2, h3⟩ := hu
  obtain ⟨ze, rfl, h4⟩ := hz
  have hE : ∀ a b c, Ext w (((w.alloc a).alloc b).alloc c) := fun _ _ _ => ((Ext.alloc _ _).trans (Ext.alloc _ _)).trans (Ext.alloc _ _)
  go_enter Try.func18, Try.ntmps18
  go_wp2_with fail
  refine (SystemValid_c _ S _ ⟨ve, rfl, h1.mono (hE _ _ _)⟩).mono ?_
  rintro e w1 ⟨rfl, he1⟩
  have b0 := he1.peel.peel.blk
  have b1 := he1.peel.blk1
  have b2 := he1.blk2
  have hw := he1.peel.peel.peel
  clear hE
  by_cases hs : sysValid S = true
  case neg =>
    have hs : sysValid S = false := by simpa using hs
    go_wp2_with fail
    go_ret
    exact Grows.mk (by simp [interfaceOf, hs]) hw
  have cc0 := b1.cell 0 rfl; have cc1 := b1.cell 1 rfl; have cc2 := b1.cell 2 rfl
  go_wp2_with fail
  refine (AutomatonValid_c _ A _ ⟨vn, va, rfl, h2.mono hw, h3.mono hw⟩).mono ?_
  rintro e w2 ⟨rfl, he2⟩
  clear cc0 cc1 cc2
  by_cases ha : autoValid A = true
  case neg =>
    have ha : autoValid A = false := by simpa using ha
    go_wp2_with fail
    go_ret
    exact Grows.mk (by simp [interfaceOf, ha]) (hw.trans he2)
  replace b2 := b2.ext he2
  have cc0 := b2.cell 0 rfl; have cc1 := b2.cell 1 rfl; have cc2 := b2.cell 2 rfl
  go_wp2_with fail
  refine (SystemValid_c _ O _ ⟨ze, rfl, h4.mono (hw.trans he2)⟩).mono ?_
  rintro e w3 ⟨rfl, he3⟩
  by_cases ho : sysValid O = true
  case neg =>
    have ho : sysValid O = false := by simpa using ho
    go_wp2_with fail
    go_ret
    exact Grows.mk (by simp [interfaceOf, ho]) ((hw.trans he2).trans he3)
  have d0 := ((b0.ext he2).ext he3).cell 0 rfl
  have d1 := ((b1.ext he2).ext he3).cell 0 rfl
  have d2 := (b2.ext he3).cell 0 rfl
  clear cc0 cc1 cc2
  go_wp2_with fail
  go_ret
  exact Grows.mk (by simp [interfaceOf, hs, ha, ho]) ((hw.trans he2).trans he3)

theorem TeacherAlphabet_c (v : Value) (t : Teacher) (w : World) (hv : TeacherV w v t) :
    Calls Try.prog 28 #[v] w (Grows (.int .i64 (teacherAlphabet t)) w) := by
  obtain ⟨vn, va, ve, vn2, va2, rfl, h1, h2, h3, h4, h5⟩ := hv
  obtain ⟨kn, A, T⟩ := t
  simp only at h1 h2 h3 h4 h5
  have hE := Ext.alloc w
  cases kn
  · go_enter Try.func28, Try.ntmps28
    go_wp2_with fail
    refine (TaskValid_c _ T _ ⟨ve, vn2, va2, rfl, h3.mono (hE _), h4.mono (hE _), h5.mono (hE _)⟩).mono ?_
    rintro e w1 ⟨rfl, he1⟩
    have c10 := he1.new 10 rfl
    by_cases ht : taskValid T = true
    · go_wp2_with fail
      go_ret
      exact Grows.mk (by simp [teacherAlphabet, ht]) he1.peel
    · have ht : taskValid T = false := by simpa using ht
      go_wp2_with fail
      go_ret
      exact Grows.mk (by simp [teacherAlphabet, ht]) he1.peel
  · go_enter Try.func28, Try.ntmps28
    go_wp2_with fail
    refine (AutomatonValid_c _ A _ ⟨vn, va, rfl, h1.mono (hE _), h2.mono (hE _)⟩).mono ?_
    rintro e w1 ⟨rfl, he1⟩
    have c0 := he1.new 0 rfl
    have c1 := he1.new 1 rfl
    by_cases ht : autoValid A = true
    · go_wp2_with fail
      go_ret
      exact Grows.mk (by simp [teacherAlphabet, ht]) he1.peel
    · have ht : autoValid A = false := by simpa using ht
      go_wp2_with fail
      go_ret
      exact Grows.mk (by simp [teacherAlphabet, ht]) he1.peel

theorem TaskValid_s (v : Value) (t : Task) (w : World) (hv : TaskV w v t) :
    Calls Try.prog 21 #[v] w (Grows (.bool (taskValid t)) w) := by
  obtain ⟨ve, vn, va, rfl, h1, h2, h3⟩ := hv
  obtain ⟨S, A, al⟩ := t
  simp only at h1 h2 h3
  by_cases hs : sysValid S = true
  · by_cases ha : autoValid A = true
    · go_enter Try.func21, Try.ntmps21
      go_wp2_with fail
      refine (SystemValid_s _ S _ ⟨ve, rfl, h1.mono (Ext.alloc _ _)⟩).mono ?_
      rintro e w1 ⟨rfl, he1⟩
      have cc3 := he1.blk.cell 3 rfl; have cc4 := he1.blk.cell 4 rfl; have cc5 := he1.blk.cell 5 rfl; have cc6 := he1.blk.cell 6 rfl
      go_wp2_with fail
      refine (AutomatonValid_s _ A _ ⟨vn, va, rfl, h2.mono he1.peel, h3.mono he1.peel⟩).mono ?_
      rintro e w2 ⟨rfl, he2⟩
      have d6 := he2.cell cc6
      clear cc3 cc4 cc5 cc6
      go_wp2_with (go_at_call 61; refine (l1Alphabet_c _ _).mono ?_; rintro e w' ⟨rfl, rfl⟩)
      go_ret
      exact Grows.mk (by simp [taskValid, hs, ha]) (he1.peel.trans he2)
    · have ha : autoValid A = false := by simpa using ha
      go_enter Try.func21, Try.ntmps21
      go_wp2_with fail
      refine (SystemValid_s _ S _ ⟨ve, rfl, h1.mono (Ext.alloc _ _)⟩).mono ?_
      rintro e w1 ⟨rfl, he1⟩
      have cc3 := he1.blk.cell 3 rfl; have cc4 := he1.blk.cell 4 rfl; have cc5 := he1.blk.cell 5 rfl; have cc6 := he1.blk.cell 6 rfl
      go_wp2_with fail
      refine (AutomatonValid_s _ A _ ⟨vn, va, rfl, h2.mono he1.peel, h3.mono he1.peel⟩).mono ?_
      rintro e w2 ⟨rfl, he2⟩
      go_wp2_with fail
      go_ret
      exact Grows.mk (by simp [taskValid, ha]) (he1.peel.trans he2)
  · have hs : sysValid S = false := by simpa using hs
    go_enter Try.func21, Try.ntmps21
    go_wp2_with fail
    refine (SystemValid_s _ S _ ⟨ve, rfl, h1.mono (Ext.alloc _ _)⟩).mono ?_
    rintro e w1 ⟨rfl, he1⟩
    go_wp2_with fail
    go_ret
    exact Grows.mk (by simp [taskValid, hs]) he1.peel

theorem InterfaceOf_s (v u z : Value) (S : Sys) (A : Auto) (O : Sys) (w : World) (hv : SysV w v S) (hu : AutoV w u A) (hz : SysV w z O) :
    Calls Try.prog 16 #[v, u, z] w (Grows (.int .i64 (interfaceOf S A O)) w) := by
  obtain ⟨ve, rfl, h1⟩ := hv
  obtain ⟨vn, va, rfl, h2, h3⟩ := hu
  obtain ⟨ze, rfl, h4⟩ := hz
  have hE : ∀ a b c, Ext w (((w.alloc a).alloc b).alloc c) := fun _ _ _ => ((Ext.alloc _ _).trans (Ext.alloc _ _)).trans (Ext.alloc _ _)
  go_enter Try.func16, Try.ntmps16
  go_wp2_with fail
  refine (SystemValid_s _ S _ ⟨ve, rfl, h1.mono (hE _ _ _)⟩).mono ?_
  rintro e w1 ⟨rfl, he1⟩
  have b0 := he1.peel.peel.blk
  have b1 := he1.peel.blk1
  have b2 := he1.blk2
  have hw := he1.peel.peel.peel
  clear hE
  by_cases hs : sysValid S = true
  case neg =>
    have hs : sysValid S = false := by simpa using hs
    go_wp2_with fail
    go_ret
    exact Grows.mk (by simp [interfaceOf, hs]) hw
  have cc0 := b1.cell 0 rfl; have cc1 := b1.cell 1 rfl; have cc2 := b1.cell 2 rfl
  go_wp2_with fail
  refine (AutomatonValid_s _ A _ ⟨vn, va, rfl, h2.mono hw, h3.mono hw⟩).mono ?_
  rintro e w2 ⟨rfl, he2⟩
  clear cc0 cc1 cc2
  by_cases ha : autoValid A = true
  case neg =>
    have ha : autoValid A = false := by simpa using ha
    go_wp2_with fail
    go_ret
    exact Grows.mk (by simp [interfaceOf, ha]) (hw.trans he2)
  replace b2 := b2.ext he2
  have cc0 := b2.cell 0 rfl; have cc1 := b2.cell 1 rfl; have cc2 := b2.cell 2 rfl
  go_wp2_with fail
  refine (SystemValid_s _ O _ ⟨ze, rfl, h4.mono (hw.trans he2)⟩).mono ?_
  rintro e w3 ⟨rfl, he3⟩
  by_cases ho : sysValid O = true
  case neg =>
    have ho : sysValid O = false := by simpa using ho
    go_wp2_with fail
    go_ret
    exact Grows.mk (by simp [interfaceOf, ho]) ((hw.trans he2).trans he3)
  have d0 := ((b0.ext he2).ext he3).cell 0 rfl
  have d1 := ((b1.ext he2).ext he3).cell 0 rfl
  have d2 := (b2.ext he3).cell 0 rfl
  clear cc0 cc1 cc2
  go_wp2_with fail
  go_ret
  exact Grows.mk (by simp [interfaceOf, hs, ha, ho]) ((hw.trans he2).trans he3)

theorem TeacherAlphabet_s (v : Value) (t : Teacher) (w : World) (hv : TeacherV w v t) :
    Calls Try.prog 26 #[v] w (Grows (.int .i64 (teacherAlphabet t)) w) := by
  obtain ⟨vn, va, ve, vn2, va2, rfl, h1, h2, h3, h4, h5⟩ := hv
  obtain ⟨kn, A, T⟩ := t
  simp only at h1 h2 h3 h4 h5
  have hE := Ext.alloc w
  cases kn
  · go_enter Try.func26, Try.ntmps26
    go_wp2_with fail
    refine (TaskValid_s _ T _ ⟨ve, vn2, va2, rfl, h3.mono (hE _), h4.mono (hE _), h5.mono (hE _)⟩).mono ?_
    rintro e w1 ⟨rfl, he1⟩
    have c10 := he1.new 10 rfl
    by_cases ht : taskValid T = true
    · go_wp2_with fail
      go_ret
      exact Grows.mk (by simp [teacherAlphabet, ht]) he1.peel
    · have ht : taskValid T = false := by simpa using ht
      go_wp2_with fail
      go_ret
      exact Grows.mk (by simp [teacherAlphabet, ht]) he1.peel
  · go_enter Try.func26, Try.ntmps26
    go_wp2_with fail
    refine (AutomatonValid_s _ A _ ⟨vn, va, rfl, h1.mono (hE _), h2.mono (hE _)⟩).mono ?_
    rintro e w1 ⟨rfl, he1⟩
    have c0 := he1.new 0 rfl
    have c1 := he1.new 1 rfl
    by_cases ht : autoValid A = true
    · go_wp2_with fail
      go_ret
      exact Grows.mk (by simp [teacherAlphabet, ht]) he1.peel
    · have ht : autoValid A = false := by simpa using ht
      go_wp2_with fail
      go_ret
      exact Grows.mk (by simp [teacherAlphabet, ht]) he1.peel

end Go.Proofs.Ytdaafbjgjjhklaa
