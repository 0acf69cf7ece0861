/- Draws: tasks: l9Draw, DrawSafeWord. -/
import Derived.Test.YtloampfmlhmlhaaGreatDoorDrawT
namespace Go.Proofs.YtloampfmlhmlhaaGreatDoor
set_option linter.unusedSimpArgs false
set_option linter.unusedVariables false
open Go.RowKit
set_option maxHeartbeats 1000000
set_option maxRecDepth 100000
attribute [local go_sem ↓] Go.wp_at_zero Go.wp_at_succ

variable {D D' D'' : Nat → Prop} {g q q' : Nat} {w w' : World}

/-! ### Parts that are known exactly: they lie in a window that nothing writes -/
def Agr (lo hi : Nat) (wx w : World) : Prop := ∀ b, lo ≤ b → b < hi → w.heap[b]? = wx.heap[b]?
theorem Agr.refl (lo hi : Nat) (w : World) : Agr lo hi w w := fun _ _ _ => rfl
theorem Agr.trans {lo hi : Nat} {a b c : World} (h : Agr lo hi a b) (k : Agr lo hi b c) : Agr lo hi a c := fun x h1 h2 => (k x h1 h2).trans (h x h1 h2)
theorem Agr.ext {lo hi : Nat} (he : Ext w w') (hh : hi ≤ w.heap.size) : Agr lo hi w w' := fun b _ h2 => he.block b (by omega)
theorem Agr.tr {lo hi : Nat} (ht : Tr D g w w') (hh : hi ≤ w.heap.size) (hD : ∀ b, lo ≤ b → b < hi → ¬ D b) (hg : g < lo) : Agr lo hi w w' := fun b h1 h2 => ht.tnd.block b (by omega) (fun h => by
  rcases h with h | h
  · exact hD b h1 h2 h
  · omega)
theorem Agr.set {lo hi b : Nat} (hb : b < lo ∨ hi ≤ b) (j : Nat) (u : Value) : Agr lo hi w (w.setCell ⟨b, j, none⟩ u) := fun c h1 h2 => Below.heap_setCell w ⟨b, j, none⟩ u c (fun e => by simp only [] at e; omega)
theorem own_agr {lo hi : Nat} {e : TypeId} {sz n : Nat} {v : Value} {xs : List Value} (h : w.ownsRow lo e sz v n xs) (hh : hi = w.heap.size) (ha : Agr lo hi w w') : w'.ownsRow lo e sz v n xs := by
  refine ⟨h.1, ?_⟩
  rcases h.2 with h1 | ⟨g, cap, cur, rfl, hb, hg, r⟩
  · exact .inl h1
  · exact .inr ⟨g, cap, cur, rfl, hb, by rw [ha g hb (by rw [hh]; exact (Array.getElem?_eq_some_iff.1 hg).1)]; exact hg, r⟩
/-- The edges are known exactly. -/
def ExS (lo hi : Nat) (ve : Value) (es : List Edge) (w : World) : Prop := ∃ wx, Agr lo hi wx w ∧ hi ≤ w.heap.size ∧ ∀ w', Agr lo hi wx w' → EdgesV w' ve es
def ExA (lo hi : Nat) (vn va : Value) (x : Auto) (w : World) : Prop := ∃ wx, Agr lo hi wx w ∧ hi ≤ w.heap.size ∧ ∀ w', Agr lo hi wx w' → AutoOwn lo w' (.agg #[.int .i64 x.alphabet, vn, va]) x
theorem ExS.go {lo hi : Nat} {ve : Value} {es : List Edge} (h : ExS lo hi ve es w) (ha : Agr lo hi w w') (hs : w.heap.size ≤ w'.heap.size) : ExS lo hi ve es w' :=
  let ⟨wx, h1, h2, h3⟩ := h; ⟨wx, h1.trans ha, by omega, h3⟩
theorem ExA.go {lo hi : Nat} {vn va : Value} {x : Auto} (h : ExA lo hi vn va x w) (ha : Agr lo hi w w') (hs : w.heap.size ≤ w'.heap.size) : ExA lo hi vn va x w' :=
  let ⟨wx, h1, h2, h3⟩ := h; ⟨wx, h1.trans ha, by omega, h3⟩
theorem ExS.of {lo : Nat} {ve : Value} {es : List Edge} (h : EdgesOwn 108 lo w ve es) : ExS lo w.heap.size ve es w :=
  ⟨w, Agr.refl _ _ _, Nat.le_refl _, fun w' ha => EdgesOwn.edges (own_agr h rfl ha)⟩
theorem ExA.of {lo : Nat} {vn va : Value} {x : Auto} (h : IntssOwn 93 3 lo w vn x.next) (h' : BoolsOwn 4 lo w va x.accept) : ExA lo w.heap.size vn va x w := by
  refine ⟨w, Agr.refl _ _ _, Nat.le_refl _, fun w' ha => ⟨vn, va, rfl, ?_, own_agr h' rfl ha⟩⟩
  obtain ⟨vs, h1, h2, h3⟩ := h
  exact ⟨vs, own_agr h1 rfl ha, ⟨h2.len, fun j x l hx hl => own_agr (h2.row j x l hx hl) rfl ha, h2.apart⟩, h3⟩
/-- A system's edges, an automaton's slices: of known kind, or known exactly. -/
def SysE (lo hi : Nat) (D : Nat → Prop) (q : Nat) (w : World) (ve : Value) : Prop := (∃ n, n ≤ q ∧ SlOk D w 108 3 ve n) ∨ ∃ es, es.length ≤ q ∧ ExS lo hi ve es w
def AutoE (lo hi : Nat) (D : Nat → Prop) (q : Nat) (w : World) (pal : Int) (vn va : Value) : Prop := (∃ n m, n ≤ q ∧ m ≤ q ∧ SlOk D w 93 1 vn n ∧ SlOk D w 4 1 va m) ∨ ∃ x : Auto, x.alphabet = pal ∧ ExA lo hi vn va x w
theorem SysE.go {lo hi : Nat} {ve : Value} (h : SysE lo hi D q w ve) (hi' : ∀ b, D b → D' b) (hs : Shp D w w') (hq : q ≤ q') (ha : Agr lo hi w w') (hz : w.heap.size ≤ w'.heap.size) : SysE lo hi D' q' w' ve := by
  rcases h with ⟨n, h1, h2⟩ | ⟨es, h1, h2⟩
  · exact .inl ⟨n, by omega, h2.tr hi' hs⟩
  · exact .inr ⟨es, by omega, h2.go ha hz⟩
theorem AutoE.go {lo hi : Nat} {pal : Int} {vn va : Value} (h : AutoE lo hi D q w pal vn va) (hi' : ∀ b, D b → D' b) (hs : Shp D w w') (hq : q ≤ q') (ha : Agr lo hi w w') (hz : w.heap.size ≤ w'.heap.size) : AutoE lo hi D' q' w' pal vn va := by
  rcases h with ⟨n, m, h1, h2, h3, h4⟩ | ⟨x, h1, h2⟩
  · exact .inl ⟨n, m, by omega, by omega, h3.tr hi' hs, h4.tr hi' hs⟩
  · exact .inr ⟨x, h1, h2.go ha hz⟩
theorem SysE.set {lo hi b : Nat} {ve : Value} (h : SysE lo hi D q w ve) (hb : ¬ D b) (hl : b < lo ∨ hi ≤ b) (j : Nat) (u : Value) : SysE lo hi D q (w.setCell ⟨b, j, none⟩ u) ve := h.go (fun _ h => h) (Shp.box hb) (Nat.le_refl _) (Agr.set hl j u) (by simp)
theorem AutoE.set {lo hi b : Nat} {pal : Int} {vn va : Value} (h : AutoE lo hi D q w pal vn va) (hb : ¬ D b) (hl : b < lo ∨ hi ≤ b) (j : Nat) (u : Value) : AutoE lo hi D q (w.setCell ⟨b, j, none⟩ u) pal vn va := h.go (fun _ h => h) (Shp.box hb) (Nat.le_refl _) (Agr.set hl j u) (by simp)
theorem SysE.shape {lo hi : Nat} {ve : Value} (h : SysE lo hi D q w ve) : ∃ a n c, ve = .slice a n c := by
  rcases h with ⟨n, -, h2⟩ | ⟨es, -, wx, h3, -, h4⟩
  · obtain ⟨a, c, e⟩ := h2.shape; exact ⟨a, n, c, e⟩
  · obtain ⟨a, c, e, -⟩ := (h4 w h3).open; exact ⟨a, _, c, e⟩
theorem AutoE.shape {lo hi : Nat} {pal : Int} {vn va : Value} (h : AutoE lo hi D q w pal vn va) : (∃ a n c, vn = .slice a n c) ∧ ∃ a n c, va = .slice a n c := by
  rcases h with ⟨n, m, -, -, h2, h3⟩ | ⟨x, -, wx, h3, -, h4⟩
  · obtain ⟨a, c, e⟩ := h2.shape
    obtain ⟨a', c', e'⟩ := h3.shape
    exact ⟨⟨a, n, c, e⟩, a', m, c', e'⟩
  · obtain ⟨vn', va', e, h5, h6⟩ := h4 w h3
    simp at e
    obtain ⟨rfl, rfl⟩ := e
    obtain ⟨a, c, e⟩ := h5.shape
    obtain ⟨a', c', e'⟩ := h6.shape
    exact ⟨⟨a, _, c, e⟩, a', _, c', e'⟩
/-- A drawn task. -/
def TaskE (D : Nat → Prop) (g q : Nat) (w : World) (v : Value) : Prop := ∃ (lo hi : Nat) (al st pal tal : Int) (ve vn va : Value), v = .agg #[.int .i64 al, .int .i64 st, ve, .int .i64 pal, vn, va, .int .i64 tal] ∧
  SysE lo hi D q w ve ∧ AutoE lo hi D q w pal vn va ∧ (∀ b, lo ≤ b → b < hi → ¬ D b) ∧ g < lo ∧ hi ≤ w.heap.size
theorem TaskE.go {v : Value} (h : TaskE D g q w v) (hi' : Inc D D' w) (ht : Tr D g w w') (hq : q ≤ q') : TaskE D' g q' w' v := by
  obtain ⟨lo, hi, al, st, pal, tal, ve, vn, va, rfl, h1, h2, h3, h4, h5⟩ := h
  have ha := Agr.tr ht h5 h3 h4
  exact ⟨lo, hi, al, st, pal, tal, ve, vn, va, rfl, h1.go hi'.sub ht.shp hq ha ht.size, h2.go hi'.sub ht.shp hq ha ht.size, fun b h6 h7 => hi'.out (h3 b h6 h7) (by omega), h4, by have := ht.size; omega⟩
theorem TaskE.task {v : Value} (h : TaskE D g q w v) (hT : Typed D q w) : ∃ t : Task, t.sys.edges.length ≤ q ∧ TaskV w v t := by
  obtain ⟨lo, hi, al, st, pal, tal, ve, vn, va, rfl, h1, h2, -⟩ := h
  obtain ⟨es, he, hE⟩ : ∃ es : List Edge, es.length ≤ q ∧ EdgesV w ve es := by
    rcases h1 with ⟨n, h1, h3⟩ | ⟨es, h1, wx, h3, -, h4⟩
    · obtain ⟨es, h5, h6⟩ := h3.edges hT; exact ⟨es, by omega, h6⟩
    · exact ⟨es, h1, h4 w h3⟩
  obtain ⟨x, hxa, hN, hA⟩ : ∃ x : Auto, x.alphabet = pal ∧ IntssV w vn x.next ∧ BoolsV w va x.accept := by
    rcases h2 with ⟨n, m, -, -, h3, h4⟩ | ⟨x, h1, wx, h3, -, h4⟩
    · obtain ⟨xs, -, h5⟩ := h3.intss hT
      obtain ⟨ys, -, h6⟩ := h4.bools hT
      exact ⟨⟨pal, xs, ys⟩, rfl, h5, h6⟩
    · obtain ⟨vn', va', e, h5, h6⟩ := h4 w h3
      simp at e
      obtain ⟨rfl, rfl⟩ := e
      exact ⟨x, h1, h5.intss, h6.bools⟩
  subst hxa
  exact ⟨⟨⟨al, st, es⟩, x, tal⟩, he, ve, vn, va, rfl, hE, hN, hA⟩

/-- What stands behind l9Draw's choice. -/
def L9D (D : Nat → Prop) (g q : Nat) (w : World) (lo hi G6 c : Nat) (wc : World) : Prop :=
  ∃ (D' : Nat → Prop) (al st pal tal : Int) (ve vn va : Value),
    Box D g q w w.heap.size c #[.int .i64 0, .int .i64 0, .slice none 0 0, .int .i64 0, .slice none 0 0, .slice none 0 0, .int .i64 0] 31 wc D' ∧ Box D g q w G6 c #[.int .i64 al, .int .i64 st, ve, .int .i64 pal, vn, va, .int .i64 tal] 31 wc D' ∧
    SysE lo hi D' (q + c) wc ve ∧ AutoE lo hi D' (q + c) wc pal vn va ∧ (∀ b, lo ≤ b → b < hi → ¬ D' b)
theorem taskOf_small (S : Sys) (A : Auto) (O : Sys) : (taskOf S A O).sys.edges.length ≤ S.edges.length ∧ (taskOf S A O).prop.next.length ≤ 12 ∧ (taskOf S A O).prop.accept.length ≤ 12 ∧ ∀ r ∈ (taskOf S A O).prop.next, r.length ≤ 12 := by
  unfold taskOf
  split
  · exact ⟨Nat.zero_le _, Nat.zero_le _, Nat.zero_le _, fun r hr => by cases hr⟩
  · next hneg =>
    obtain ⟨vS, vA, -⟩ := interface_valid hneg
    have h := autoValid_facts vA
    refine ⟨Nat.le_refl _, h.2.2.2.1, (by have := h.2.2.2.1; have := h.2.2.2.2; show A.accept.length ≤ 12; omega), fun r hr => ?_⟩
    obtain ⟨q, hq⟩ := List.getElem?_of_mem hr
    obtain ⟨row, h5, h6, -⟩ := autoValid_row vA (List.getElem?_eq_some_iff.1 hq).1
    rw [hq] at h5; cases h5
    rw [h6]; have := lettersTo_len A.alphabet 6; unfold nletters letters; omega

theorem l9Draw_t (h : St D g q w) (hq : q + 18060 ≤ 1000000) :
    Calls Tryz.prog 110 #[.pointer (some ⟨g, 0, none⟩)] w (Drawn D g q 18060 w fun D' q' w' v => TaskE D' g q' w' v) := by
  have hg := h.g_lt
  have hd := fun x hx => (h.dom x hx).2
  have B0 := Box.new h #[.int .i64 0, .int .i64 0, .slice none 0 0, .int .i64 0, .slice none 0 0, .slice none 0 0, .int .i64 0] 31
  have hs1 : w.heap.size < (w.alloc (.cells #[.int .i64 0, .int .i64 0, .slice none 0 0, .int .i64 0, .slice none 0 0, .slice none 0 0, .int .i64 0] 31)).heap.size := by simp
  go_enter Tryz.func110, Tryz.ntmps110
  go_wp2_with fail
  generalize w.alloc (.cells #[.int .i64 0, .int .i64 0, .slice none 0 0, .int .i64 0, .slice none 0 0, .slice none 0 0, .int .i64 0] 31) = w1 at B0 hs1 ⊢
  refine (l9Three_t B0.st (by omega)).mono ?_
  rintro e w2 ⟨r, D2, rfl, hi2, hs2, ht2, s, p, t, rfl, hS, hP, hT⟩
  have B0 := B0.drawn hg hi2 ht2 (c' := 18000) (hs2.up (by omega))
  have hsz2 := ht2.size
  clear hi2 ht2
  obtain ⟨S, hSe, hSV⟩ := hS.sys hs2.typ
  obtain ⟨P, hPn, hPa, hPV⟩ := hP.auto hs2.typ
  obtain ⟨O, hOe, hOV⟩ := hT.sys hs2.typ
  obtain ⟨vE, rfl, hE⟩ := hSV
  obtain ⟨aE, cE, rfl, -, -⟩ := hE.open
  obtain ⟨vN, vA, rfl, hN, hA⟩ := hPV
  obtain ⟨aN, cN, rfl, -, -⟩ := hN.open
  obtain ⟨aA, cA, rfl, -, -⟩ := hA.open
  obtain ⟨vO, rfl, hO⟩ := hOV
  obtain ⟨aO, cO, rfl, -, -⟩ := hO.open
  go_wp2_with fail
  have hx3 : Ext w2 (((w2.alloc (.cells #[.int .i64 S.alphabet, .int .i64 S.states, .slice aE S.edges.length cE] 29)).alloc (.cells #[.int .i64 P.alphabet, .slice aN P.next.length cN, .slice aA P.accept.length cA] 26)).alloc (.cells #[.int .i64 O.alphabet, .int .i64 O.states, .slice aO O.edges.length cO] 29)) := ((Ext.alloc _ _).trans (Ext.alloc _ _)).trans (Ext.alloc _ _)
  generalize ((w2.alloc (.cells #[.int .i64 S.alphabet, .int .i64 S.states, .slice aE S.edges.length cE] 29)).alloc (.cells #[.int .i64 P.alphabet, .slice aN P.next.length cN, .slice aA P.accept.length cA] 26)).alloc (.cells #[.int .i64 O.alphabet, .int .i64 O.states, .slice aO O.edges.length cO] 29) = w3 at hx3 ⊢
  have B0 := B0.ext hx3
  have hsz3 := hx3.size
  refine (TaskOf_s _ _ _ S P O w3 ⟨_, rfl, hE.mono hx3⟩ ⟨_, _, rfl, hN.mono hx3, hA.mono hx3⟩ ⟨_, rfl, hO.mono hx3⟩ (by omega)).mono ?_
  have hDb : ∀ b, D2 b → b < w3.heap.size := fun b hb => by have := (hs2.dom b hb).2; omega
  rintro e w4 ⟨vt, rfl, he4, hO4⟩
  obtain ⟨t1, t2, t3, t4⟩ := taskOf_small S P O
  obtain ⟨T, hTe⟩ : ∃ T, taskOf S P O = T := ⟨_, rfl⟩
  rw [hTe] at hO4 t1 t2 t3 t4
  have B0 := B0.ext he4
  obtain ⟨ve, vn, va, rfl, o1, o2, o3⟩ := hO4
  have hES := ExS.of o1
  have hEA := ExA.of o2 o3
  have hsz4 := he4.size
  obtain ⟨a1, c1', e1⟩ := o1.shape
  obtain ⟨a2, c2', e2⟩ := o2.shape
  obtain ⟨a3, c3', e3⟩ := o3.shape
  have hDlo : ∀ b, D2 b → b < w3.heap.size := hDb
  have hTl : T.sys.edges.length ≤ q + 18000 := by omega
  have hWin : ∀ b, w3.heap.size ≤ b → b < w4.heap.size → ¬ D2 b := fun b h1 _ hb => by have := hDb b hb; omega
  clear hS hP hT hSe hPn hPa hOe hE hN hA hO hx3 o1 o2 o3 hs2 hDb hTe he4
  subst e1 e2 e3
  go_wp2_with fail
  have hx5 := Ext.alloc w4 (.cells #[.int .i64 T.sys.alphabet, .int .i64 T.sys.states, .slice a1 T.sys.edges.length c1', .int .i64 T.prop.alphabet, .slice a2 T.prop.next.length c2', .slice a3 T.prop.accept.length c3', .int .i64 T.alphabet] 31)
  have B6 : Box D g q w w4.heap.size 18000 #[.int .i64 T.sys.alphabet, .int .i64 T.sys.states, .slice a1 T.sys.edges.length c1', .int .i64 T.prop.alphabet, .slice a2 T.prop.next.length c2', .slice a3 T.prop.accept.length c3', .int .i64 T.alphabet] 31 _ D2 := ⟨B0.inc, (B0.ext hx5).st, (B0.ext hx5).tr, Blk.new _ _ _, B0.st.out (Nat.le_refl _)⟩
  have B0 := B0.ext hx5
  have hES := hES.go (Agr.ext hx5 (Nat.le_refl _)) hx5.size
  have hEA := hEA.go (Agr.ext hx5 (Nat.le_refl _)) hx5.size
  have hlh : w3.heap.size ≤ w4.heap.size := hsz4
  generalize w4.alloc (.cells #[.int .i64 T.sys.alphabet, .int .i64 T.sys.states, .slice a1 T.sys.edges.length c1', .int .i64 T.prop.alphabet, .slice a2 T.prop.next.length c2', .slice a3 T.prop.accept.length c3', .int .i64 T.alphabet] 31) = w5 at B0 B6 hES hEA ⊢
  obtain ⟨lo, hlo⟩ : ∃ lo, w3.heap.size = lo := ⟨_, rfl⟩
  obtain ⟨hi, hhi⟩ : ∃ hi, w4.heap.size = hi := ⟨_, rfl⟩
  rw [hlo, hhi] at hES hEA hWin hlh
  rw [hlo] at hDlo
  rw [hhi] at B6 ⊢
  have hglo : g < lo := by omega
  have hwlo : w.heap.size < lo := by omega
  clear hsz4 hsz3 hsz2 hs1 hx5
  refine (pick_t 16 B0.st (by omega) (by omega)).mono ?_
  rintro e w6 ⟨x, rfl, -, -, hs6, hk6⟩
  have hA6 : Agr lo hi w5 w6 := Agr.tr (Tr.kept B0.st hk6) (Nat.le_of_lt B6.blk.lt) hWin hglo
  have hES := hES.go hA6 hk6.size
  have hEA := hEA.go hA6 hk6.size
  have B0 := B0.kept hg hk6 (c' := 18001) (hs6.up (by omega))
  have B6 := B6.kept (by omega) hk6 (c' := 18001) (hs6.up (by omega))
  clear hs6 hk6 hA6
  have hh6 : hi ≤ w6.heap.size := Nat.le_of_lt B6.blk.lt
  go_upto_block 0 with fail
  go_cut [] (fun wc => L9D D g q w lo hi hi 18060 wc)
  case first =>
    by_cases hx0 : x = 0
    · subst hx0
      go_wp2_with fail
      refine (l1Some_t B0.st (by omega)).mono ?_
      rintro e w7 ⟨v7, D7, rfl, hi7, hs7, ht7, y, hy, rfl⟩
      have hA7 : Agr lo hi w6 w7 := Agr.tr ht7 hh6 hWin hglo
      have hES := hES.go hA7 ht7.size
      have hEA := hEA.go hA7 ht7.size
      have hWin7 : ∀ b, lo ≤ b → b < hi → ¬ D7 b := fun b h1 h2 => hi7.out (hWin b h1 h2) (by omega)
      have hh7 : hi ≤ w7.heap.size := Nat.le_trans hh6 ht7.size
      have B0 := B0.drawn hg hi7 ht7 (c' := 18002) (hs7.up (by omega))
      have B6 := B6.drawn (by omega) hi7 ht7 (c' := 18002) (hs7.up (by omega))
      clear hi7 hs7 ht7 hA7
      go_wp2_with fail
      refine (l1Wrong_t (y : Int) B0.st (by omega)).mono ?_
      rintro e w8 ⟨v8, D8, rfl, hi8, hs8, ht8, z, rfl⟩
      have hA8 : Agr lo hi w7 w8 := Agr.tr ht8 hh7 hWin7 hglo
      have hES := hES.go hA8 ht8.size
      have hEA := hEA.go hA8 ht8.size
      have hWin8 : ∀ b, lo ≤ b → b < hi → ¬ D8 b := fun b h1 h2 => hi8.out (hWin7 b h1 h2) (by omega)
      have B0 := B0.drawn hg hi8 ht8 (c' := 18060) (hs8.up (by omega))
      have B6 := B6.drawn (by omega) hi8 ht8 (c' := 18060) (hs8.up (by omega))
      clear hi8 hs8 ht8 hA8
      have g6 := B6.blk.cell 6 rfl
      have f6 := B6.blk.fr 6
      have o6 := B6.out
      go_wp2_with fail
      go_meet
      case rel => exact ⟨D8, _, _, _, _, _, _, _, (B0.other (b' := hi) (by omega) hd (by omega) (by omega) o6 6 (.int .i64 z)), (B6.set (by omega) hd (by omega) 6 (.int .i64 z)), .inr ⟨_, by omega, hES.go (Agr.set (.inr (Nat.le_refl _)) 6 _) (by simp)⟩, .inr ⟨T.prop, rfl, hEA.go (Agr.set (.inr (Nat.le_refl _)) 6 _) (by simp)⟩, hWin8⟩
    have hx0' : ((x : Int) == 0) = false := beq_eq_false_iff_ne.2 (by omega)
    by_cases hx1 : x = 1
    · subst hx1
      have c0 := B6.blk.cell 0 rfl
      have c1 := B6.blk.cell 1 rfl
      have c2 := B6.blk.cell 2 rfl
      have hEE : EdgesV w6 (.slice a1 T.sys.edges.length c1') T.sys.edges := let ⟨wx, h1, h2, h3⟩ := hES; h3 w6 h1
      go_wp2_with fail
      refine (l2Wrong_x _ T.sys.alphabet T.sys.states T.sys.edges T.sys.edges.length rfl ⟨_, rfl, hEE⟩ (by omega) B0.st (by omega)).mono ?_
      rintro e w7 ⟨v7, D7, rfl, hi7, hs7, ht7, hS7⟩
      have hA7 : Agr lo hi w6 w7 := Agr.tr ht7 hh6 hWin hglo
      have hEA := hEA.go hA7 ht7.size
      have hWin7 : ∀ b, lo ≤ b → b < hi → ¬ D7 b := fun b h1 h2 => hi7.out (hWin b h1 h2) (by omega)
      have B0 := B0.drawn hg hi7 ht7 (c' := 18060) (hs7.up (by omega))
      have B6 := B6.drawn (by omega) hi7 ht7 (c' := 18060) (hs7.up (by omega))
      obtain ⟨al7, st7, n7, a7, c7, rfl, hn7, hE7⟩ := hS7.boxed
      clear c0 c1 c2 hi7 hs7 ht7 hA7 hES hEE hS7
      have g0 := B6.blk.cell 0 rfl; have f0 := B6.blk.fr 0; have g1 := B6.blk.cell 1 rfl; have f1 := B6.blk.fr 1; have g2 := B6.blk.cell 2 rfl; have f2 := B6.blk.fr 2
      have o6 := B6.out
      go_wp2_with fail
      go_meet
      case rel => exact ⟨D7, _, _, _, _, _, _, _, (((B0.other (b' := hi) (by omega) hd (by omega) (by omega) o6 0 (.int .i64 al7)).other (b' := hi) (by omega) hd (by omega) (by omega) o6 1 (.int .i64 st7)).other (b' := hi) (by omega) hd (by omega) (by omega) o6 2 (.slice a7 n7 c7)), (((B6.set (by omega) hd (by omega) 0 (.int .i64 al7)).set (by omega) hd (by omega) 1 (.int .i64 st7)).set (by omega) hd (by omega) 2 (.slice a7 n7 c7)), .inl ⟨n7, by omega, hE7.box3 o6 _ _ _⟩, .inr ⟨T.prop, rfl, ((hEA.go (Agr.set (.inr (Nat.le_refl _)) 0 _) (by simp)).go (Agr.set (.inr (Nat.le_refl _)) 1 _) (by simp)).go (Agr.set (.inr (Nat.le_refl _)) 2 _) (by simp)⟩, hWin7⟩
    have hx1' : ((x : Int) == 1) = false := beq_eq_false_iff_ne.2 (by omega)
    by_cases hx2 : x = 2
    · subst hx2
      have c3 := B6.blk.cell 3 rfl
      have c4 := B6.blk.cell 4 rfl
      have c5 := B6.blk.cell 5 rfl
      have hAO : AutoOwn lo w6 (.agg #[.int .i64 T.prop.alphabet, .slice a2 T.prop.next.length c2', .slice a3 T.prop.accept.length c3']) T.prop := let ⟨wx, h1, h2, h3⟩ := hEA; h3 w6 h1
      go_wp2_with fail
      refine (l3Wrong_x _ T.prop lo hAO hDlo hglo (by omega) (by omega) (fun r hr => by have := t4 r hr; omega) B0.st (by omega)).mono ?_
      rintro e w7 ⟨v7, D7, rfl, hi7, hs7, ht7, hS7⟩
      have hA7 : Agr lo hi w6 w7 := Agr.tr ht7 hh6 hWin hglo
      have hES := hES.go hA7 ht7.size
      have hWin7 : ∀ b, lo ≤ b → b < hi → ¬ D7 b := fun b h1 h2 => hi7.out (hWin b h1 h2) (by omega)
      have B0 := B0.drawn hg hi7 ht7 (c' := 18060) (hs7.up (by omega))
      have B6 := B6.drawn (by omega) hi7 ht7 (c' := 18060) (hs7.up (by omega))
      obtain ⟨al7, n7, m7, aN7, cN7, aA7, cA7, rfl, hn7, hm7, hN7, hA7'⟩ := hS7.boxed
      clear c3 c4 c5 hi7 hs7 ht7 hA7 hEA hAO hS7
      have g3 := B6.blk.cell 3 rfl; have f3 := B6.blk.fr 3; have g4 := B6.blk.cell 4 rfl; have f4 := B6.blk.fr 4; have g5 := B6.blk.cell 5 rfl; have f5 := B6.blk.fr 5
      have o6 := B6.out
      go_wp2_with fail
      go_meet
      case rel => exact ⟨D7, _, _, _, _, _, _, _, (((B0.other (b' := hi) (by omega) hd (by omega) (by omega) o6 3 (.int .i64 al7)).other (b' := hi) (by omega) hd (by omega) (by omega) o6 4 (.slice aN7 n7 cN7)).other (b' := hi) (by omega) hd (by omega) (by omega) o6 5 (.slice aA7 m7 cA7)), (((B6.set (by omega) hd (by omega) 3 (.int .i64 al7)).set (by omega) hd (by omega) 4 (.slice aN7 n7 cN7)).set (by omega) hd (by omega) 5 (.slice aA7 m7 cA7)), .inr ⟨_, by omega, ((hES.go (Agr.set (.inr (Nat.le_refl _)) 3 _) (by simp)).go (Agr.set (.inr (Nat.le_refl _)) 4 _) (by simp)).go (Agr.set (.inr (Nat.le_refl _)) 5 _) (by simp)⟩, .inl ⟨n7, m7, by omega, by omega, hN7.tr (fun _ h => h) (((Shp.box o6).trans (fun _ h => h) (Shp.box o6)).trans (fun _ h => h) (Shp.box o6)), hA7'.tr (fun _ h => h) (((Shp.box o6).trans (fun _ h => h) (Shp.box o6)).trans (fun _ h => h) (Shp.box o6))⟩, hWin7⟩
    have hx2' : ((x : Int) == 2) = false := beq_eq_false_iff_ne.2 (by omega)
    by_cases hx3 : x = 3
    · subst hx3
      have g6 := B6.blk.cell 6 rfl
      have f6 := B6.blk.fr 6
      have o6 := B6.out
      go_wp2_with fail
      go_meet
      case rel => exact ⟨D2, _, _, _, _, _, _, _, ((B0.up (c' := 18060) (by omega)).other (b' := hi) (by omega) hd (by omega) (by omega) o6 6 _), ((B6.up (c' := 18060) (by omega)).set (by omega) hd (by omega) 6 _), .inr ⟨_, by omega, hES.go (Agr.set (.inr (Nat.le_refl _)) 6 _) (by simp)⟩, .inr ⟨T.prop, rfl, hEA.go (Agr.set (.inr (Nat.le_refl _)) 6 _) (by simp)⟩, hWin⟩
    have hx3' : ((x : Int) == 3) = false := beq_eq_false_iff_ne.2 (by omega)
    go_wp2_with fail
    go_meet
    case rel => exact ⟨D2, _, _, _, _, _, _, _, B0.up (by omega), B6.up (by omega), .inr ⟨_, by omega, hES⟩, .inr ⟨T.prop, rfl, hEA⟩, hWin⟩
  case rest =>
    clear B0 B6 hES hEA hWin hh6
    obtain ⟨D', al, st, pal, tal, ve, vn, va, B0, B6, hES, hEA, hWin⟩ := hcut
    obtain ⟨s1, s2, s3, rfl⟩ := hES.shape
    obtain ⟨⟨s4, s5, s6, rfl⟩, s7, s8, s9, rfl⟩ := hEA.shape
    have o0 := B0.out
    have hh6 : hi ≤ wc.heap.size := Nat.le_of_lt B6.blk.lt
    have g0 := B6.blk.cell 0 rfl; have g1 := B6.blk.cell 1 rfl; have g2 := B6.blk.cell 2 rfl; have g3 := B6.blk.cell 3 rfl; have g4 := B6.blk.cell 4 rfl; have g5 := B6.blk.cell 5 rfl; have g6 := B6.blk.cell 6 rfl
    have r0 := B0.blk.cell 0 rfl; have f0 := B0.blk.fr 0; have r1 := B0.blk.cell 1 rfl; have f1 := B0.blk.fr 1; have r2 := B0.blk.cell 2 rfl; have f2 := B0.blk.fr 2; have r3 := B0.blk.cell 3 rfl; have f3 := B0.blk.fr 3; have r4 := B0.blk.cell 4 rfl; have f4 := B0.blk.fr 4; have r5 := B0.blk.cell 5 rfl; have f5 := B0.blk.fr 5; have r6 := B0.blk.cell 6 rfl; have f6 := B0.blk.fr 6
    go_wp2_with fail
    have B9 := (((((((B0.set (by omega) hd (by omega) 0 (.int .i64 al)).set (by omega) hd (by omega) 1 (.int .i64 st)).set (by omega) hd (by omega) 2 (.slice s1 s2 s3)).set (by omega) hd (by omega) 3 (.int .i64 pal)).set (by omega) hd (by omega) 4 (.slice s4 s5 s6)).set (by omega) hd (by omega) 5 (.slice s7 s8 s9)).set (by omega) hd (by omega) 6 (.int .i64 tal))
    have hS9 := hES |>.set o0 (.inl hwlo) 0 (.int .i64 al) |>.set o0 (.inl hwlo) 1 (.int .i64 st) |>.set o0 (.inl hwlo) 2 (.slice s1 s2 s3) |>.set o0 (.inl hwlo) 3 (.int .i64 pal) |>.set o0 (.inl hwlo) 4 (.slice s4 s5 s6) |>.set o0 (.inl hwlo) 5 (.slice s7 s8 s9) |>.set o0 (.inl hwlo) 6 (.int .i64 tal)
    have hA9 := hEA |>.set o0 (.inl hwlo) 0 (.int .i64 al) |>.set o0 (.inl hwlo) 1 (.int .i64 st) |>.set o0 (.inl hwlo) 2 (.slice s1 s2 s3) |>.set o0 (.inl hwlo) 3 (.int .i64 pal) |>.set o0 (.inl hwlo) 4 (.slice s4 s5 s6) |>.set o0 (.inl hwlo) 5 (.slice s7 s8 s9) |>.set o0 (.inl hwlo) 6 (.int .i64 tal)
    clear g0 r0 f0 g1 r1 f1 g2 r2 f2 g3 r3 f3 g4 r4 f4 g5 r5 f5 g6 r6 f6 hES hEA B0 B6
    have hz9 : hi ≤ ((((((((wc.setCell ⟨w.heap.size, 0, none⟩ (.int .i64 al)).setCell ⟨w.heap.size, 1, none⟩ (.int .i64 st)).setCell ⟨w.heap.size, 2, none⟩ (.slice s1 s2 s3)).setCell ⟨w.heap.size, 3, none⟩ (.int .i64 pal)).setCell ⟨w.heap.size, 4, none⟩ (.slice s4 s5 s6)).setCell ⟨w.heap.size, 5, none⟩ (.slice s7 s8 s9)).setCell ⟨w.heap.size, 6, none⟩ (.int .i64 tal))).heap.size := by simp; exact hh6
    generalize (((((((wc.setCell ⟨w.heap.size, 0, none⟩ (.int .i64 al)).setCell ⟨w.heap.size, 1, none⟩ (.int .i64 st)).setCell ⟨w.heap.size, 2, none⟩ (.slice s1 s2 s3)).setCell ⟨w.heap.size, 3, none⟩ (.int .i64 pal)).setCell ⟨w.heap.size, 4, none⟩ (.slice s4 s5 s6)).setCell ⟨w.heap.size, 5, none⟩ (.slice s7 s8 s9)).setCell ⟨w.heap.size, 6, none⟩ (.int .i64 tal)) = w9 at B9 hS9 hA9 hz9 ⊢
    have B9' : Blk w9 w.heap.size #[.int .i64 al, .int .i64 st, (.slice s1 s2 s3), .int .i64 pal, (.slice s4 s5 s6), (.slice s7 s8 s9), .int .i64 tal] 31 := B9.blk
    have g0 := B9'.cell 0 rfl; have g1 := B9'.cell 1 rfl; have g2 := B9'.cell 2 rfl; have g3 := B9'.cell 3 rfl; have g4 := B9'.cell 4 rfl; have g5 := B9'.cell 5 rfl; have g6 := B9'.cell 6 rfl
    refine bodyPost_ret (v := .agg #[.int .i64 al, .int .i64 st, (.slice s1 s2 s3), .int .i64 pal, (.slice s4 s5 s6), (.slice s7 s8 s9), .int .i64 tal]) (by simp [results, Tryz.results110, go_sem, g0, g1, g2, g3, g4, g5, g6]) rfl ?_
    exact ⟨_, D', rfl, B9.inc, B9.st, B9.tr, lo, hi, al, st, pal, tal, (.slice s1 s2 s3), (.slice s4 s5 s6), (.slice s7 s8 s9), rfl, hS9, hA9, hWin, hglo, hz9⟩

/-- An element of a literal list of three texts. -/
theorem of_three (x y z : ByteArray) (hx : x.size ≤ 200) (hy : y.size ≤ 200) (hz : z.size ≤ 200) (h : St D g q w) (hq : q + 1 ≤ 1000000) :
    Calls Tryz.prog 151 #[.pointer (some ⟨g, 0, none⟩), .slice (some ⟨w.heap.size, 0, none⟩) 3 3] (w.alloc (.cells #[.string x, .string y, .string z] 9)) (fun e w' => ∃ x, x.size ≤ 200 ∧ e = .returned (.string x) ∧ St D g (q + 1) w' ∧ Kept g w w') := by
  have hv : SlV StrAt 1 (w.alloc (.cells #[.string x, .string y, .string z] 9)) (.slice (some ⟨w.heap.size, 0, none⟩) 3 3) [x, y, z] := by
    refine ⟨_, 3, rfl, Nat.le_refl _, by unfold maxLen; omega, fun _ => ⟨w.heap.size, 0, rfl, by simp, fun i u hu => ?_⟩⟩
    unfold StrAt
    refine (Blk.new w _ _).cell _ ?_
    match i, hu with
    | 0, hu => simp at hu; subst hu; rfl
    | 1, hu => simp at hu; subst hu; rfl
    | 2, hu => simp at hu; subst hu; rfl
    | n + 3, hu => simp at hu
  have := of_t (.slice (some ⟨w.heap.size, 0, none⟩) 3 3) [x, y, z] 3 w.heap.size rfl (h.ext (Ext.alloc w (.cells #[.string x, .string y, .string z] 9))) hq hv h.g_lt (by simp) (by simp)
  refine this.mono fun e w' ⟨u, hu, h1, h2, h3⟩ => ⟨u, ?_, h1, h2, (Tnd.ext (Ext.alloc _ _)).trans h3⟩
  have hu' : u = x ∨ u = y ∨ u = z := by simpa using hu
  rcases hu' with rfl | rfl | rfl <;> assumption

/-- A drawn task and a word. -/
def TaskWordEnd (w : World) (e : Ending) (w' : World) : Prop := ∃ vt s T, e = .returned (.tuple #[vt, .string s]) ∧ Ext w w' ∧ TaskV w' vt T ∧ T.sys.edges.length ≤ 30000 ∧ s.size ≤ 205 ∧ ∀ w'', Tnd (fun b => b < w.heap.size) w' w'' → ∃ T, TaskV w'' vt T ∧ T.sys.edges.length ≤ 30000
theorem TaskE.tnd {S : Nat → Prop} {v : Value} (h : TaskE D g q w v) (ht : Tnd S w w') (hS : ∀ b, S b → b < g) (hD : ∀ b, D b → g < b) : TaskE D g q w' v := by
  obtain ⟨lo, hi, al, st, pal, tal, ve, vn, va, rfl, h1, h2, h3, h4, h5⟩ := h
  have hsh : Shp D w w' := Shp.tnd ht fun b hb hs => by have := hS b hs; have := hD b hb; omega
  have ha : Agr lo hi w w' := fun b k1 k2 => ht.block b (by omega) fun hs => by have := hS b hs; omega
  exact ⟨lo, hi, al, st, pal, tal, ve, vn, va, rfl, h1.go (fun _ h => h) hsh (Nat.le_refl _) ha ht.size, h2.go (fun _ h => h) hsh (Nat.le_refl _) ha ht.size, h3, h4, by have := ht.size; omega⟩
theorem TaskE.set {v : Value} {b : Nat} (h : TaskE D g q w v) (hb : b < g) (hD : ¬ D b) (j : Nat) (u : Value) : TaskE D g q (w.setCell ⟨b, j, none⟩ u) v := by
  obtain ⟨lo, hi, al, st, pal, tal, ve, vn, va, rfl, h1, h2, h3, h4, h5⟩ := h
  exact ⟨lo, hi, al, st, pal, tal, ve, vn, va, rfl, h1.set hD (.inl (by omega)) j u, h2.set hD (.inl (by omega)) j u, h3, h4, by simp; exact h5⟩
theorem TaskE.shape {v : Value} (h : TaskE D g q w v) : ∃ (al st pal tal : Int) (s1 : Option Addr) (s2 s3 : Nat) (s4 : Option Addr) (s5 s6 : Nat) (s7 : Option Addr) (s8 s9 : Nat), v = .agg #[.int .i64 al, .int .i64 st, .slice s1 s2 s3, .int .i64 pal, .slice s4 s5 s6, .slice s7 s8 s9, .int .i64 tal] := by
  obtain ⟨lo, hi, al, st, pal, tal, ve, vn, va, rfl, h1, h2, h3, h4, h5⟩ := h
  obtain ⟨s1, s2, s3, rfl⟩ := h1.shape
  obtain ⟨⟨s4, s5, s6, rfl⟩, s7, s8, s9, rfl⟩ := h2.shape
  exact ⟨_, _, _, _, _, _, _, _, _, _, _, _, _, rfl⟩
theorem TaskE.up {v : Value} (h : TaskE D g q w v) (hq : q ≤ q') : TaskE D g q' w v := h.go (Inc.refl _ _) (Tr.refl _ _ _) hq

theorem DrawSafeWord_t (v : Value) (l : List UInt8) (w : World) (hv : BytesV w v l) (hl : l.length ≤ 1048576) :
    Calls Tryz.prog 71 #[v] w (TaskWordEnd w) := by
  obtain ⟨wo, hwo⟩ : ∃ wo, wo = w.alloc (.cells #[.int .i64 0, .int .i64 0, .slice none 0 0, .int .i64 0, .slice none 0 0, .slice none 0 0, .int .i64 0] 31) := ⟨_, rfl⟩
  have he : Ext w wo := by rw [hwo]; exact Ext.alloc _ _
  have b0 : Blk wo w.heap.size #[.int .i64 0, .int .i64 0, .slice none 0 0, .int .i64 0, .slice none 0 0, .slice none 0 0, .int .i64 0] 31 := by rw [hwo]; exact Blk.new _ _ _
  have hso : w.heap.size < wo.heap.size := by rw [hwo]; simp
  go_enter Tryz.func71, Tryz.ntmps71
  go_wp2_with fail
  rw [← hwo]
  clear hwo
  refine (l19Open_t v l wo (hv.mono (fun b o x _ h => he.cell h) he.size) hl).mono ?_
  rintro e w1 ⟨g, rfl, hgb, he1, hs1⟩
  have b0 := b0.ext he1
  have hlo1 : Below w.heap.size w w1 := he.trans he1
  have hz1 : w.heap.size ≤ w1.heap.size := hlo1.size
  go_wp2_with fail
  refine (l9Draw_t hs1 (by omega)).mono ?_
  rintro e w2 ⟨r, D2, rfl, hi2, hs2, ht2, hE⟩
  have hlow : ∀ (D : Nat → Prop) q' (wa wb : World), St D g q' wa → Tr D g wa wb → w.heap.size ≤ wa.heap.size → Below w.heap.size wa wb := fun D q' wa wb hs ht hz => ht.tnd.below hz fun b hb => by
    rcases hb with hb | hb
    · have := (hs.dom b hb).1; omega
    · omega
  have HLOW := Lib.hid hlow
  have hng : ∀ (D : Nat → Prop) q' (wa : World), St D g q' wa → ¬ D w.heap.size := fun D q' wa hs hb => by have := (hs.dom _ hb).1; omega
  have HNG := Lib.hid hng
  have b0 := b0.tr ht2 (fun h => h) (by omega)
  have hlo2 := Below.trans hlo1 (hlow _ _ _ _ hs1 ht2 hz1)
  clear hlow hng
  obtain ⟨al, st, pal, tal, s1, s2, s3, s4, s5, s6, s7, s8, s9, rfl⟩ := hE.shape
  clear hs1 ht2 hi2 hlo1 hz1
  go_wp2_with fail
  have hx3 := Ext.alloc w2 (.cells #[.int .i64 al, .int .i64 st, .slice s1 s2 s3, .int .i64 pal, .slice s4 s5 s6, .slice s7 s8 s9, .int .i64 tal] 31)
  have b5 : Blk (w2.alloc (.cells #[.int .i64 al, .int .i64 st, .slice s1 s2 s3, .int .i64 pal, .slice s4 s5 s6, .slice s7 s8 s9, .int .i64 tal] 31)) w2.heap.size #[.int .i64 al, .int .i64 st, .slice s1 s2 s3, .int .i64 pal, .slice s4 s5 s6, .slice s7 s8 s9, .int .i64 tal] 31 := Blk.new _ _ _
  have b0 := b0.ext hx3
  have hE := hE.go (Inc.refl _ _) (Tr.ext hs2 hx3) (Nat.le_refl _)
  have ho5 : ¬ D2 w2.heap.size := hs2.out (Nat.le_refl _)
  have hg5 : g < w2.heap.size := hs2.g_lt
  have hs3 := hs2.ext hx3
  have hz2 : w.heap.size ≤ w2.heap.size := hlo2.size
  have hlo3 := Below.trans hlo2 (hx3.mono hz2)
  have hz3 : w.heap.size < w2.heap.size := by omega
  generalize w2.alloc (.cells #[.int .i64 al, .int .i64 st, .slice s1 s2 s3, .int .i64 pal, .slice s4 s5 s6, .slice s7 s8 s9, .int .i64 tal] 31) = w3 at hx3 b5 b0 hE hs3 hlo3 ⊢
  generalize w2.heap.size = G at b5 ho5 hg5 hz3 ⊢
  clear hs2 hlo2 hx3 hz2
  refine (l1Word_t tal 5 (by omega) hs3 (by omega)).mono ?_
  rintro e w4 ⟨v4, D4, rfl, hi4, hs4, ht4, s, rfl, hsz⟩
  have hlo4 := Below.trans hlo3 (HLOW.out _ _ _ _ hs3 ht4 hlo3.size)
  have b0 := b0.tr ht4 (HNG.out _ _ _ hs3) (by omega)
  have b5' := b5.tr ht4 ho5 (by omega)
  have ho5' := hi4.out ho5 b5.lt
  have hE := hE.go hi4 ht4 (q' := 2000 + 18060 + 200) (by omega)
  clear hs3 hi4 ht4 hlo3 b5 ho5
  go_wp2_with fail
  refine (pick_t 16 hs4 (by omega) (by omega)).mono ?_
  rintro e w5 ⟨x, rfl, -, -, hs5, hk5⟩
  have hlo5 := Below.trans hlo4 (HLOW.out _ _ _ _ hs4 (Tr.kept hs4 hk5) hlo4.size)
  have b0 := b0.kept hk5 (by omega)
  have b5 := b5'.kept hk5 (by omega)
  have hE := hE.go (Inc.refl _ _) (Tr.kept hs4 hk5) (q' := 2000 + 18060 + 200 + 2) (by omega)
  clear hs4 hk5 hlo4 b5'
  have hfin : ∀ (w6 : World) (u : ByteArray), u.size ≤ 205 → St D4 g (2000 + 18060 + 200 + 2) w6 → Below w.heap.size w w6 → Blk w6 w.heap.size #[.int .i64 0, .int .i64 0, .slice none 0 0, .int .i64 0, .slice none 0 0, .slice none 0 0, .int .i64 0] 31 → TaskE D4 g (2000 + 18060 + 200 + 2) w6 (.agg #[.int .i64 al, .int .i64 st, .slice s1 s2 s3, .int .i64 pal, .slice s4 s5 s6, .slice s7 s8 s9, .int .i64 tal]) →
      ∃ w9, w9 = (((((((w6.setCell ⟨w.heap.size, 0, none⟩ (.int .i64 al)).setCell ⟨w.heap.size, 1, none⟩ (.int .i64 st)).setCell ⟨w.heap.size, 2, none⟩ (.slice s1 s2 s3)).setCell ⟨w.heap.size, 3, none⟩ (.int .i64 pal)).setCell ⟨w.heap.size, 4, none⟩ (.slice s4 s5 s6)).setCell ⟨w.heap.size, 5, none⟩ (.slice s7 s8 s9)).setCell ⟨w.heap.size, 6, none⟩ (.int .i64 tal)) ∧
        Blk w9 w.heap.size #[.int .i64 al, .int .i64 st, .slice s1 s2 s3, .int .i64 pal, .slice s4 s5 s6, .slice s7 s8 s9, .int .i64 tal] 31 ∧ TaskWordEnd w (.returned (.tuple #[.agg #[.int .i64 al, .int .i64 st, .slice s1 s2 s3, .int .i64 pal, .slice s4 s5 s6, .slice s7 s8 s9, .int .i64 tal], .string u])) w9 := fun w6 u hu hs6 hlo6 hb6 hE6 => by
    refine ⟨_, rfl, ((((((hb6.set 0 _).set 1 _).set 2 _).set 3 _).set 4 _).set 5 _).set 6 _, ?_⟩
    have hno := HNG.out _ _ _ hs6
    have hgw : w.heap.size < g := by omega
    have hE9 := hE6 |>.set hgw hno 0 (.int .i64 al) |>.set hgw hno 1 (.int .i64 st) |>.set hgw hno 2 (.slice s1 s2 s3) |>.set hgw hno 3 (.int .i64 pal) |>.set hgw hno 4 (.slice s4 s5 s6) |>.set hgw hno 5 (.slice s7 s8 s9) |>.set hgw hno 6 (.int .i64 tal)
    have hk9 : Tnd (fun b => b = w.heap.size) w6 _ := (Kept.set w6 w.heap.size 0 (.int .i64 al)) |>.trans (Kept.set _ w.heap.size 1 (.int .i64 st)) |>.trans (Kept.set _ w.heap.size 2 (.slice s1 s2 s3)) |>.trans (Kept.set _ w.heap.size 3 (.int .i64 pal)) |>.trans (Kept.set _ w.heap.size 4 (.slice s4 s5 s6)) |>.trans (Kept.set _ w.heap.size 5 (.slice s7 s8 s9)) |>.trans (Kept.set _ w.heap.size 6 (.int .i64 tal))
    have hT9 := hs6.typ.tnd hk9 (fun b hb => by subst hb; exact hno)
    obtain ⟨T, hTe, hTV⟩ := hE9.task hT9
    refine ⟨_, u, T, rfl, Below.trans hlo6 (hk9.below hlo6.size fun b hb => by omega), hTV, by omega, hu, fun w'' h'' => ?_⟩
    obtain ⟨T', hT1, hT2⟩ := (hE9.tnd h'' (fun b hb => by omega) (fun b hb => (hs6.dom b hb).1)).task (hT9.tnd h'' fun b hb hd => by have := (hs6.dom b hd).1; omega)
    exact ⟨T', hT2, by omega⟩
  have HFIN := Lib.hid hfin
  clear hfin
  have fin := 0
  by_cases hx : x = 0
  · subst hx
    go_wp2_with fail
    refine (of_three _ _ _ (by decide) (by decide) (by decide) hs5 (by omega)).mono ?_
    rintro e w6 ⟨u, hu, rfl, hs6, hk6⟩
    have hlo6 := Below.trans hlo5 (HLOW.out _ _ _ _ hs5 (Tr.kept hs5 hk6) hlo5.size)
    have b0 := b0.kept hk6 (by omega)
    have b5 := b5.kept hk6 (by omega)
    have hE := hE.go (Inc.refl _ _) (Tr.kept hs5 hk6) (q' := 2000 + 18060 + 200 + 2) (by omega)
    obtain ⟨w9, hw9, B9, hEnd⟩ := HFIN.out w6 (s ++ u) (by rw [ByteArray.size_append]; omega) hs6 hlo6 b0 hE
    have HEnd := Lib.hid hEnd
    have hov : ¬ 9223372036854775807 < s.size + u.size := by omega
    have g0 := b5.cell 0 rfl; have g1 := b5.cell 1 rfl; have g2 := b5.cell 2 rfl; have g3 := b5.cell 3 rfl; have g4 := b5.cell 4 rfl; have g5 := b5.cell 5 rfl; have g6 := b5.cell 6 rfl
    have r0 := b0.cell 0 rfl; have f0 := b0.fr 0; have r1 := b0.cell 1 rfl; have f1 := b0.fr 1; have r2 := b0.cell 2 rfl; have f2 := b0.fr 2; have r3 := b0.cell 3 rfl; have f3 := b0.fr 3; have r4 := b0.cell 4 rfl; have f4 := b0.fr 4; have r5 := b0.cell 5 rfl; have f5 := b0.fr 5; have r6 := b0.cell 6 rfl; have f6 := b0.fr 6
    clear hE hlo6 hs6 hk6 hEnd hs5 hlo5
    go_wp2_with fail
    rw [← hw9]
    clear g0 r0 f0 g1 r1 f1 g2 r2 f2 g3 r3 f3 g4 r4 f4 g5 r5 f5 g6 r6 f6 hw9
    have g0 := B9.cell 0 rfl; have g1 := B9.cell 1 rfl; have g2 := B9.cell 2 rfl; have g3 := B9.cell 3 rfl; have g4 := B9.cell 4 rfl; have g5 := B9.cell 5 rfl; have g6 := B9.cell 6 rfl
    refine bodyPost_ret (v := .tuple #[.agg #[.int .i64 al, .int .i64 st, .slice s1 s2 s3, .int .i64 pal, .slice s4 s5 s6, .slice s7 s8 s9, .int .i64 tal], .string (s ++ u)]) (by simp [results, Tryz.results71, go_sem, g0, g1, g2, g3, g4, g5, g6]) rfl HEnd.out
  · have hx' : ((x : Int) == 0) = false := beq_eq_false_iff_ne.2 (by omega)
    obtain ⟨w9, hw9, B9, hEnd⟩ := HFIN.out w5 s (by omega) (hs5.up (by omega)) hlo5 b0 hE
    have HEnd := Lib.hid hEnd
    have g0 := b5.cell 0 rfl; have g1 := b5.cell 1 rfl; have g2 := b5.cell 2 rfl; have g3 := b5.cell 3 rfl; have g4 := b5.cell 4 rfl; have g5 := b5.cell 5 rfl; have g6 := b5.cell 6 rfl
    have r0 := b0.cell 0 rfl; have f0 := b0.fr 0; have r1 := b0.cell 1 rfl; have f1 := b0.fr 1; have r2 := b0.cell 2 rfl; have f2 := b0.fr 2; have r3 := b0.cell 3 rfl; have f3 := b0.fr 3; have r4 := b0.cell 4 rfl; have f4 := b0.fr 4; have r5 := b0.cell 5 rfl; have f5 := b0.fr 5; have r6 := b0.cell 6 rfl; have f6 := b0.fr 6
    clear hE hEnd hs5 hlo5
    go_wp2_with fail
    rw [← hw9]
    clear g0 r0 f0 g1 r1 f1 g2 r2 f2 g3 r3 f3 g4 r4 f4 g5 r5 f5 g6 r6 f6 hw9
    have g0 := B9.cell 0 rfl; have g1 := B9.cell 1 rfl; have g2 := B9.cell 2 rfl; have g3 := B9.cell 3 rfl; have g4 := B9.cell 4 rfl; have g5 := B9.cell 5 rfl; have g6 := B9.cell 6 rfl
    refine bodyPost_ret (v := .tuple #[.agg #[.int .i64 al, .int .i64 st, .slice s1 s2 s3, .int .i64 pal, .slice s4 s5 s6, .slice s7 s8 s9, .int .i64 tal], .string s]) (by simp [results, Tryz.results71, go_sem, g0, g1, g2, g3, g4, g5, g6]) rfl HEnd.out

/-- The end of a draw of a task and a word. -/
def TaskWordDrawn (w : World) (e : Ending) (w' : World) : Prop := ∃ vt s T, e = .returned (.tuple #[vt, .string s]) ∧ Ext w w' ∧ TaskV w' vt T ∧ T.sys.edges.length ≤ 30000 ∧ s.size ≤ 205
theorem DrawUnsafeWitness_t (v : Value) (l : List UInt8) (w : World) (hv : BytesV w v l) (hl : l.length ≤ 1048576) :
    Calls Tryz.prog 22 #[v] w (TaskWordDrawn w) := by
  obtain ⟨wo, hwo⟩ : ∃ wo, wo = w.alloc (.cells #[.int .i64 0, .int .i64 0, .slice none 0 0, .int .i64 0, .slice none 0 0, .slice none 0 0, .int .i64 0] 31) := ⟨_, rfl⟩
  have he : Ext w wo := by rw [hwo]; exact Ext.alloc _ _
  have b0 : Blk wo w.heap.size #[.int .i64 0, .int .i64 0, .slice none 0 0, .int .i64 0, .slice none 0 0, .slice none 0 0, .int .i64 0] 31 := by rw [hwo]; exact Blk.new _ _ _
  have hso : w.heap.size < wo.heap.size := by rw [hwo]; simp
  go_enter Tryz.func22, Tryz.ntmps22
  go_wp2_with fail
  rw [← hwo]
  clear hwo
  refine (DrawSafeWord_t v l wo (hv.mono (fun b o x _ h => he.cell h) he.size) hl).mono ?_
  rintro e w4 ⟨vt, s, T0, rfl, he4, hTV, -, hsz, hall⟩
  replace b0 := b0.ext he4
  obtain ⟨ve, vn, va, rfl, h1, h2, h3⟩ := hTV
  obtain ⟨ae, ce, rfl, -, -⟩ := h1.open
  obtain ⟨an, cn, rfl, -, -⟩ := h2.open
  obtain ⟨aa, ca, rfl, -, -⟩ := h3.open
  have y4 : Tnd (fun b => b < wo.heap.size) w4 _ := Tnd.imp (S := fun b => b = w.heap.size) ((Kept.set w4 w.heap.size 0 (.int .i64 T0.sys.alphabet)) |>.trans (Kept.set _ w.heap.size 1 (.int .i64 T0.sys.states)) |>.trans (Kept.set _ w.heap.size 2 (.slice ae T0.sys.edges.length ce)) |>.trans (Kept.set _ w.heap.size 3 (.int .i64 T0.prop.alphabet)) |>.trans (Kept.set _ w.heap.size 4 (.slice an T0.prop.next.length cn)) |>.trans (Kept.set _ w.heap.size 5 (.slice aa T0.prop.accept.length ca)) |>.trans (Kept.set _ w.heap.size 6 (.int .i64 T0.alphabet))) fun b hb => by omega
  obtain ⟨T, hTV, hTe⟩ := hall _ y4
  have HEND := Lib.hid (show TaskWordDrawn w (.returned (.tuple #[.agg #[.int .i64 T0.sys.alphabet, .int .i64 T0.sys.states, .slice ae T0.sys.edges.length ce, .int .i64 T0.prop.alphabet, .slice an T0.prop.next.length cn, .slice aa T0.prop.accept.length ca, .int .i64 T0.alphabet], .string s])) _ from
    ⟨_, s, T, rfl, ((((((((he.trans he4).setCell (p := ⟨w.heap.size, 0, none⟩) (by simp only []; omega) _).setCell (p := ⟨w.heap.size, 1, none⟩) (by simp only []; omega) _).setCell (p := ⟨w.heap.size, 2, none⟩) (by simp only []; omega) _).setCell (p := ⟨w.heap.size, 3, none⟩) (by simp only []; omega) _).setCell (p := ⟨w.heap.size, 4, none⟩) (by simp only []; omega) _).setCell (p := ⟨w.heap.size, 5, none⟩) (by simp only []; omega) _).setCell (p := ⟨w.heap.size, 6, none⟩) (by simp only []; omega) _), hTV, hTe, hsz⟩)
  clear hall y4 h1 h2 h3 hTV
  have rc0 := b0.cell 0 rfl; have rf0 := b0.fr 0; have rc1 := b0.cell 1 rfl; have rf1 := b0.fr 1; have rc2 := b0.cell 2 rfl; have rf2 := b0.fr 2; have rc3 := b0.cell 3 rfl; have rf3 := b0.fr 3; have rc4 := b0.cell 4 rfl; have rf4 := b0.fr 4; have rc5 := b0.cell 5 rfl; have rf5 := b0.fr 5; have rc6 := b0.cell 6 rfl; have rf6 := b0.fr 6
  go_wp2_with fail
  refine bodyPost_ret (v := .tuple #[.agg #[.int .i64 T0.sys.alphabet, .int .i64 T0.sys.states, .slice ae T0.sys.edges.length ce, .int .i64 T0.prop.alphabet, .slice an T0.prop.next.length cn, .slice aa T0.prop.accept.length ca, .int .i64 T0.alphabet], .string s]) (by simp [results, Tryz.results22, go_sem, rc0, rc1, rc2, rc3, rc4, rc5, rc6, rf0, rf1, rf2, rf3, rf4, rf5, rf6]) rfl HEND.out
end Go.Proofs.YtloampfmlhmlhaaGreatDoor
