/- Part of this seat's proofs, cut to what its law needs. -/

import Derived.Test.YtadplnbadfnlfaaGreatDoorPlainE

namespace Go.Proofs.YtadplnbadfnlfaaGreatDoor
set_option linter.unusedSimpArgs false
set_option linter.unusedVariables false
open Go
set_option linter.unusedSectionVars false


section
variable {α β : Type} [DecidableEq α] [DecidableEq β]
def dd (l : List α) : List α := l.foldl addN []
theorem dd_append (l m : List α) : dd (l ++ m) = m.foldl addN (dd l) := List.foldl_append ..
theorem dd_snoc (l : List α) (x : α) : dd (l ++ [x]) = addN (dd l) x := by rw [dd_append]; rfl
theorem mem_dd {l : List α} {x : α} : x ∈ dd l ↔ x ∈ l :=
  ⟨fun h => by rcases mem_foldl_addN h with h | h; cases h; exact h, fun h => foldl_addN_mem l [] h⟩
theorem dd_nodup (l : List α) : (dd l).Nodup := foldl_addN_nodup l List.nodup_nil
theorem foldl_addN_same (m : List α) (l : List α) (h : ∀ x ∈ m, x ∈ l) : m.foldl addN l = l := by
  induction m with
  | nil => rfl
  | cons x m ih =>
    show m.foldl addN (addN l x) = l
    rw [show addN l x = l from if_pos (h x (by simp))]
    exact ih fun y hy => h y (by simp [hy])
theorem dd_flatMap_from (g : α → List β) (l : List α) : ∀ p : List α, dd (p.flatMap g) = dd ((dd p).flatMap g) → dd ((p ++ l).flatMap g) = dd ((dd (p ++ l)).flatMap g) := by
  induction l with
  | nil => intro p h; rw [List.append_nil]; exact h
  | cons x l ih =>
    intro p h
    rw [show p ++ x :: l = (p ++ [x]) ++ l by simp]
    apply ih
    rw [dd_snoc, List.flatMap_append, dd_append, h]
    by_cases hx : x ∈ dd p
    · rw [show addN (dd p) x = dd p from if_pos hx]
      apply foldl_addN_same
      intro y hy
      rw [mem_dd, List.mem_flatMap]
      exact ⟨x, hx, by simpa using hy⟩
    · rw [show addN (dd p) x = dd p ++ [x] from if_neg hx, List.flatMap_append, dd_append]
theorem dd_flatMap (g : α → List β) (l : List α) : dd (l.flatMap g) = dd ((dd l).flatMap g) := by
  have := dd_flatMap_from g l [] rfl
  simpa using this
theorem map_flat (g : α → β) (l : List α) : l.flatMap (fun x => [g x]) = l.map g := by
  induction l with
  | nil => rfl
  | cons x l ih => rw [List.flatMap_cons, ih]; rfl
theorem dd_map (g : α → β) (l : List α) : dd (l.map g) = dd ((dd l).map g) := by
  rw [← map_flat, ← map_flat]; exact dd_flatMap _ l
theorem dd_same {l : List α} (h : l.Nodup) : dd l = l := by
  have : ∀ (m : List α) (p : List α), (p ++ m).Nodup → m.foldl addN p = p ++ m := by
    intro m
    induction m with
    | nil => intro p _; simp
    | cons x m ih =>
      intro p hp
      have hx : x ∉ p := fun hx => by
        have := (List.nodup_append.1 hp).2.2 x hx x (by simp)
        exact this rfl
      show m.foldl addN (addN p x) = _
      rw [show addN p x = p ++ [x] from if_neg hx, ih (p ++ [x]) (by simpa using hp)]
      simp
  simpa [dd] using this l [] (by simpa using h)
theorem dd_prefix (l m : List α) : dd l <+: dd (l ++ m) := by rw [dd_append]; exact foldl_addN_prefix _ _
theorem dd_dd_cons (x : α) (l : List α) : dd (x :: l) = dd (x :: dd l) := by
  have h := dd_flatMap (α := α) (β := α) (fun y => [y]) l
  have h1 : ∀ m : List α, m.flatMap (fun y => [y]) = m := fun m => by have := map_flat (fun y : α => y) m; rw [this]; simp
  rw [h1, h1] at h
  have e : ∀ m : List α, dd (x :: m) = m.foldl addN [x] := fun m => rfl
  rw [e, e]
  -- by classes of places: both are the nodup lists that [x] begins
  have key : ∀ (m : List α) (p : List α), (dd m).foldl addN p = m.foldl addN p := by
    intro m
    have : ∀ (m q p : List α), q.foldl addN p = (dd q).foldl addN p → (q ++ m).foldl addN p = (dd (q ++ m)).foldl addN p := by
      intro m
      induction m with
      | nil => intro q p h; simpa using h
      | cons y m ih =>
        intro q p h
        rw [show q ++ y :: m = (q ++ [y]) ++ m by simp]
        apply ih
        rw [dd_snoc, List.foldl_append, h]
        by_cases hy : y ∈ dd q
        · rw [show addN (dd q) y = dd q from if_pos hy]
          show addN ((dd q).foldl addN p) y = _
          exact if_pos (foldl_addN_mem _ _ hy)
        · rw [show addN (dd q) y = dd q ++ [y] from if_neg hy, List.foldl_append]
    intro p
    have := this m [] p rfl
    simpa using this.symm
  exact (key l [x]).symm


variable {nx : α → Int → α} {L : List Int} {s : α} {nx' : β → Int → β} {s' : β}
theorem nodesTo_dd (i : Nat) (h : i ≤ (nodesTo nx L s i).length) : nodesTo nx L s i = dd (s :: ((nodesTo nx L s i).take i).flatMap fun n => L.map (nx n)) := by
  induction i with
  | zero => rfl
  | succ i ih =>
    have hi := nodesTo_lt h i (by omega)
    obtain ⟨n, hn⟩ : ∃ n, (nodesTo nx L s i)[i]? = some n := ⟨_, List.getElem?_eq_getElem hi⟩
    have hp := nodesTo_prefix nx L s i (i + 1) (by omega)
    have ht : (nodesTo nx L s (i + 1)).take (i + 1) = (nodesTo nx L s i).take i ++ [n] := by
      rw [List.take_add_one, prefix_at hp hn]
      obtain ⟨t, ht⟩ := hp
      rw [← ht, List.take_append_of_le_length (by omega)]; rfl
    rw [ht, List.flatMap_append]
    show growN nx L (nodesTo nx L s i) i = _
    unfold growN
    rw [hn]
    have h2 := ih (by omega)
    show (L.map (nx n)).foldl addN (nodesTo nx L s i) = _
    rw [show s :: (((nodesTo nx L s i).take i).flatMap (fun n => L.map (nx n)) ++ [n].flatMap fun n => L.map (nx n)) = (s :: ((nodesTo nx L s i).take i).flatMap fun n => L.map (nx n)) ++ L.map (nx n) by simp, dd_append, ← h2]
theorem Numbers.eq_dd {nodes : List α} (h : Numbers nx L s nodes) : nodes = dd (s :: nodes.flatMap fun n => L.map (nx n)) := by
  have e := h.eq
  have := nodesTo_dd (nx := nx) (L := L) (s := s) nodes.length (by rw [← e]; exact Nat.le_refl _)
  rw [← e, List.take_length] at this
  exact this
theorem Numbers.of_dd {nodes : List α} (h : nodes = dd (s :: nodes.flatMap fun n => L.map (nx n))) (hr : ∀ n ∈ nodes, ReachN nx L s n) : Numbers nx L s nodes := by
  have hnd : nodes.Nodup := by rw [h]; exact dd_nodup _
  have hpre : ∀ i, nodesTo nx L s i <+: nodes := by
    intro i
    induction i with
    | zero => rw [h]; exact dd_prefix [s] _
    | succ i ih =>
      show growN nx L (nodesTo nx L s i) i <+: nodes
      unfold growN
      cases hn : (nodesTo nx L s i)[i]? with
      | none => exact ih
      | some n =>
        have hil := (List.getElem?_eq_some_iff.1 hn).1
        have hnn := prefix_at ih hn
        have e := nodesTo_dd (nx := nx) (L := L) (s := s) i (by omega)
        have ht : (nodesTo nx L s i).take i = nodes.take i := by
          obtain ⟨t, ht⟩ := ih
          rw [← ht, List.take_append_of_le_length (by omega)]
        show (L.map (nx n)).foldl addN (nodesTo nx L s i) <+: nodes
        rw [e, ht, ← dd_append]
        have hs : nodes = nodes.take (i + 1) ++ nodes.drop (i + 1) := (List.take_append_drop _ _).symm
        have h2 : dd ((s :: (nodes.take i).flatMap fun n => L.map (nx n)) ++ L.map (nx n)) <+: dd (s :: (nodes.take (i + 1) ++ nodes.drop (i + 1)).flatMap fun n => L.map (nx n)) := by
          rw [List.take_add_one, hnn, List.flatMap_append, List.flatMap_append]
          have : (s :: ((nodes.take i).flatMap (fun n => L.map (nx n)) ++ ((some n).toList.flatMap fun n => L.map (nx n)) ++ (nodes.drop (i + 1)).flatMap fun n => L.map (nx n))) = ((s :: (nodes.take i).flatMap fun n => L.map (nx n)) ++ L.map (nx n)) ++ (nodes.drop (i + 1)).flatMap fun n => L.map (nx n) := by simp
          rw [this]
          exact dd_prefix _ _
        rw [← hs, ← h] at h2
        exact h2
  obtain ⟨k, hk⟩ : ∃ k, (nodesTo nx L s k).length = k := by
    apply Classical.byContradiction
    intro hno
    have hlt : ∀ k, k < (nodesTo nx L s k).length := by
      intro k
      induction k with
      | zero => simp [nodesTo]
      | succ k ih =>
        have h1 := (nodesTo_prefix nx L s k (k + 1) (by omega)).length_le
        have h2 : (nodesTo nx L s (k + 1)).length ≠ k + 1 := fun e => hno ⟨_, e⟩
        omega
    have h1 := hlt nodes.length
    have h2 := (hpre nodes.length).length_le
    omega
  have hN := Numbers.of hk
  have h1 := nodup_le hnd fun n hn => hN.all (hr n hn)
  have h2 := hpre k
  have e : nodesTo nx L s k = nodes := h2.eq_of_length (by have := h2.length_le; omega)
  rw [← e]; exact hN
theorem fold_map {nodes : List α} (h : Numbers nx L s nodes) (φ : α → β) (hφ : ∀ n ∈ nodes, ∀ l ∈ L, φ (nx n l) = nx' (φ n) l) (v : List Int) (hv : ∀ x ∈ v, x ∈ L) : ∀ n ∈ nodes, φ (v.foldl nx n) = v.foldl nx' (φ n) := by
  induction v with
  | nil => intro n _; rfl
  | cons l v ih =>
    intro n hn
    show φ (v.foldl nx (nx n l)) = v.foldl nx' (nx' (φ n) l)
    rw [ih (fun x hx => hv x (by simp [hx])) _ (h.closed hn (hv l (by simp))), hφ n hn l (hv l (by simp))]
theorem flatMap_congr' {γ : Type} {f g : α → List γ} (l : List α) (h : ∀ x ∈ l, f x = g x) : l.flatMap f = l.flatMap g := by
  induction l with
  | nil => rfl
  | cons x l ih => rw [List.flatMap_cons, List.flatMap_cons, h x (by simp), ih fun y hy => h y (by simp [hy])]
theorem Numbers.map {nodes : List α} (h : Numbers nx L s nodes) (φ : α → β) (hφ : ∀ n ∈ nodes, ∀ l ∈ L, φ (nx n l) = nx' (φ n) l) : Numbers nx' L (φ s) (dd (nodes.map φ)) := by
  apply Numbers.of_dd
  · have e2 : dd (φ s :: (nodes.map φ).flatMap fun m => L.map (nx' m)) = dd (nodes.map φ) := by
      have e1 : dd (nodes.map φ) = dd ((s :: nodes.flatMap fun n => L.map (nx n)).map φ) := by
        rw [dd_map φ (s :: _), ← h.eq_dd]
      rw [e1, List.map_cons, List.map_flatMap]
      rw [flatMap_congr' (g := fun n => L.map (nx' (φ n))) nodes fun n hn => by
        rw [List.map_map]
        exact List.map_congr_left fun l hl => hφ n hn l hl]
      rw [show (nodes.flatMap fun n => L.map (nx' (φ n))) = (nodes.map φ).flatMap fun m => L.map (nx' m) by rw [List.flatMap_map]]
    have e3 : dd (φ s :: (dd (nodes.map φ)).flatMap fun m => L.map (nx' m)) = dd (nodes.map φ) := by
      rw [dd_dd_cons, ← dd_flatMap, ← dd_dd_cons, e2]
    exact e3.symm
  · intro m hm
    obtain ⟨n, hn, rfl⟩ := List.mem_map.1 (mem_dd.1 hm)
    obtain ⟨v, hv, rfl⟩ := h.reach n hn
    exact ⟨v, hv, (fold_map h φ hφ v hv s (List.mem_of_getElem? h.head)).symm⟩
theorem map_nodup {nodes : List α} (hn : nodes.Nodup) (φ : α → β) (hi : ∀ a ∈ nodes, ∀ b ∈ nodes, φ a = φ b → a = b) : (nodes.map φ).Nodup := by
  induction nodes with
  | nil => exact List.nodup_nil
  | cons x l ih =>
    obtain ⟨h1, h2⟩ := List.nodup_cons.1 hn
    rw [List.map_cons]
    refine List.nodup_cons.2 ⟨fun hm => ?_, ih h2 fun a ha b hb e => hi a (by simp [ha]) b (by simp [hb]) e⟩
    obtain ⟨y, hy, e⟩ := List.mem_map.1 hm
    have := hi y (by simp [hy]) x (by simp) e
    subst this
    exact h1 hy
theorem idx_map {nodes : List α} (φ : α → β) (hi : ∀ a ∈ nodes, ∀ b ∈ nodes, φ a = φ b → a = b) {x : α} (hx : x ∈ nodes) : (nodes.map φ).idxOf (φ x) = nodes.idxOf x := by
  induction nodes with
  | nil => cases hx
  | cons y l ih =>
    rw [List.map_cons, List.idxOf_cons, List.idxOf_cons]
    by_cases e : y = x
    · subst e; simp
    · have e2 : ¬ φ y = φ x := fun e2 => e (hi y (by simp) x hx e2)
      rw [show (φ y == φ x) = false by simpa using e2, show (y == x) = false by simpa using e]
      rcases List.mem_cons.1 hx with h | h
      · exact absurd h.symm e
      · simp only [cond_false]; rw [ih (fun a ha b hb => hi a (by simp [ha]) b (by simp [hb])) h]
theorem autoN_map {a : Int} {nodes : List α} (h : Numbers nx (letters a) s nodes) (φ : α → β) (hφ : ∀ n ∈ nodes, ∀ l ∈ letters a, φ (nx n l) = nx' (φ n) l) (hi : ∀ x ∈ nodes, ∀ y ∈ nodes, φ x = φ y → x = y) {acc : α → Bool} {acc' : β → Bool} (ha : ∀ n ∈ nodes, acc n = acc' (φ n)) :
    Numbers nx' (letters a) (φ s) (nodes.map φ) ∧ autoN nx a acc nodes = autoN nx' a acc' (nodes.map φ) := by
  refine ⟨?_, ?_⟩
  · have := h.map φ hφ
    rwa [dd_same (map_nodup h.nodup φ hi)] at this
  · unfold autoN
    congr 1
    · rw [List.map_map]
      refine List.map_congr_left fun n hn => ?_
      show rowN nx _ nodes n = rowN nx' _ _ (φ n)
      unfold rowN
      refine List.map_congr_left fun l hl => ?_
      rw [← hφ n hn l hl, idx_map φ hi (h.closed hn hl)]
    · rw [List.map_map]
      exact List.map_congr_left ha
end


section
variable {α : Type} [DecidableEq α] (f : Nat → α)
def ddTo (k : Nat) : List α := dd ((List.range k).map f)
variable {f}
theorem ddTo_succ (k : Nat) : ddTo f (k + 1) = addN (ddTo f k) (f k) := by unfold ddTo; rw [List.range_succ, List.map_append, List.map_singleton, dd_snoc]
theorem ddTo_prefix {j k : Nat} (h : j ≤ k) : ddTo f j <+: ddTo f k := by
  induction k with
  | zero =>
    obtain rfl : j = 0 := by omega
    exact List.prefix_refl _
  | succ k ih =>
    rcases Nat.lt_or_ge k j with h1 | h1
    · obtain rfl : j = k + 1 := by omega
      exact List.prefix_refl _
    · rw [ddTo_succ]; exact (ih h1).trans (addN_prefix _ _)
theorem ddTo_old {k n : Nat} (hk : k < n) (h : f k ∈ ddTo f k) : (ddTo f n).idxOf (f k) = (ddTo f k).idxOf (f k) := idxOf_prefix (ddTo_prefix (Nat.le_of_lt hk)) h
theorem ddTo_new {k n : Nat} (hk : k < n) (h : f k ∉ ddTo f k) : (ddTo f n).idxOf (f k) = (ddTo f k).length := by
  have h1 : ddTo f (k + 1) = ddTo f k ++ [f k] := by rw [ddTo_succ]; exact if_neg h
  rw [idxOf_prefix (ddTo_prefix hk) (by rw [h1]; simp), h1, List.idxOf_append, if_neg h]; simp
theorem ddTo_lt {k n : Nat} (hk : k < n) : (ddTo f n).idxOf (f k) < (ddTo f k).length ↔ f k ∈ ddTo f k := by
  constructor
  · intro h
    apply Classical.byContradiction
    intro hn
    rw [ddTo_new hk hn] at h
    omega
  · intro h
    rw [ddTo_old hk h]
    exact List.idxOf_lt_length_of_mem h
theorem ddTo_len (k : Nat) : (ddTo f k).length ≤ k := by have := nodup_le (dd_nodup ((List.range k).map f)) (fun x hx => mem_dd.1 hx); simpa [ddTo] using this
end


abbrev Lng := List Int → Bool
noncomputable instance decLng : DecidableEq Lng := fun _ _ => Classical.propDecidable _
def nxR (f : Lng) (l : Int) : Lng := fun v => f (l :: v)
noncomputable def autoR (a : Int) (nodes : List Lng) : Auto := autoN nxR a (fun g => g []) nodes
def IsMin (f : Lng) (a : Int) (B : Auto) : Prop := ∃ nodes, Numbers nxR (letters a) f nodes ∧ B = autoR a nodes
theorem IsMin.unique {f : Lng} {a : Int} {B C : Auto} (h : IsMin f a B) (k : IsMin f a C) : B = C := by
  obtain ⟨n, h1, rfl⟩ := h
  obtain ⟨m, k1, rfl⟩ := k
  rw [h1.unique k1]
def res (A : Auto) (q : Nat) : Lng := fun v => accepts A (run A q v)
theorem res_step (A : Auto) (q : Nat) (l : Int) : nxR (res A q) l = res A (step A q l) := rfl
theorem res_nil (A : Auto) (q : Nat) : res A q [] = accepts A q := rfl
theorem res_foldl (f : Lng) (v : List Int) : ∀ u, (v.foldl nxR f) u = f (v ++ u) := by
  induction v generalizing f with
  | nil => intro u; rfl
  | cons l v ih => intro u; show v.foldl nxR (nxR f l) u = _; rw [ih]; rfl
def Blind (a : Int) (f : Lng) : Prop := ∀ v, f v = f (v.filter (bit a))
theorem res_blind (A : Auto) (q : Nat) : Blind A.alphabet (res A q) := fun v => by unfold res; rw [run_filter]
theorem stepR {a : Int} {f : Lng} (hf : Blind a f) (l : Int) (hl : bit a l = false) : nxR f l = f := by
  funext v
  show f (l :: v) = f v
  rw [hf (l :: v), hf v, List.filter_cons_of_neg (by simp [hl])]
theorem Blind.next {a : Int} {f : Lng} (hf : Blind a f) (l : Int) : Blind a (nxR f l) := fun v => by
  show f (l :: v) = f (l :: v.filter (bit a))
  rw [hf (l :: v), hf (l :: v.filter (bit a))]
  by_cases h : bit a l = true
  · rw [List.filter_cons_of_pos h, List.filter_cons_of_pos h, List.filter_filter]; simp
  · rw [List.filter_cons_of_neg h, List.filter_cons_of_neg h, List.filter_filter]; simp
theorem stepN_R {a : Int} (v : List Int) : ∀ {f : Lng}, Blind a f → v.foldl (stepN nxR a) f = v.foldl nxR f := by
  induction v with
  | nil => intro f _; rfl
  | cons l v ih =>
    intro f hf
    show v.foldl (stepN nxR a) (stepN nxR a f l) = v.foldl nxR (nxR f l)
    have e : stepN nxR a f l = nxR f l := by
      unfold stepN
      by_cases h : bit a l = true
      · rw [if_pos h]
      · rw [if_neg h, stepR hf l (by simpa using h)]
    rw [e]
    exact ih (hf.next l)
theorem IsMin.accepts {f : Lng} {a : Int} {B : Auto} (h : IsMin f a B) (ha : 0 ≤ a) (ha2 : a ≤ 63) (hf : Blind a f) (v : List Int) : accepts B (run B 0 v) = f v := by
  obtain ⟨nodes, h1, rfl⟩ := h
  unfold autoR
  rw [autoN_accepts ha ha2 h1 v, stepN_R v hf, res_foldl]; simp
theorem IsMin.alphabet {f : Lng} {a : Int} {B : Auto} (h : IsMin f a B) : B.alphabet = a := by obtain ⟨n, h1, rfl⟩ := h; rfl
theorem IsMin.valid {f : Lng} {a : Int} {B : Auto} (h : IsMin f a B) (ha : isAlpha a = true) (h12 : B.next.length ≤ 12) : autoValid B = true := by
  obtain ⟨nodes, h1, rfl⟩ := h
  exact autoN_valid ha h1 (by simpa [autoR, autoN] using h12)
theorem IsMin.len1 {f : Lng} {a : Int} {B : Auto} (h : IsMin f a B) : 1 ≤ B.next.length := by
  obtain ⟨nodes, h1, rfl⟩ := h
  have := List.length_pos_of_mem (List.mem_of_getElem? h1.head)
  simp [autoR, autoN]; omega
theorem autoN_fit {α : Type} [DecidableEq α] {nx : α → Int → α} {s : α} {a : Int} (ha : 0 ≤ a) (ha2 : a ≤ 63) {acc : α → Bool} {nodes : List α} (h : Numbers nx (letters a) s nodes) (hM : nodes.length ≤ 1048600) : AutoFit (autoN nx a acc nodes) where
  a0 := ha
  a63 := ha2
  n1 := by have := List.length_pos_of_mem (List.mem_of_getElem? h.head); simp [autoN]; omega
  n2 := by simpa [autoN] using hM
  acc := by simp [autoN]
  row := fun {q} hq => by
    have hq' : q < nodes.length := by simpa [autoN] using hq
    refine ⟨_, (autoN_at (acc := acc) (List.getElem?_eq_getElem hq')).1, by simp [rowN, nletters, autoN], fun i y hy => ?_⟩
    obtain ⟨l, hl, rfl⟩ := List.mem_map.1 (List.mem_of_getElem? hy)
    have := List.idxOf_lt_length_of_mem (h.closed (List.getElem_mem hq') hl)
    refine ⟨by omega, ?_⟩
    simp only [autoN, List.length_map]
    omega


noncomputable def clsD (A : Auto) : List Lng := dd ((List.range A.next.length).map (res A))
noncomputable def clsOf (A : Auto) (q : Nat) : Nat := (clsD A).idxOf (res A q)
noncomputable def quo (A : Auto) : Auto := autoR A.alphabet (clsD A)
theorem clsD_mem {A : Auto} {q : Nat} (hq : q < A.next.length) : res A q ∈ clsD A := mem_dd.2 (List.mem_map.2 ⟨q, by simpa using hq, rfl⟩)
theorem clsD_inv {A : Auto} {g : Lng} (h : g ∈ clsD A) : ∃ q, q < A.next.length ∧ res A q = g := by
  obtain ⟨q, hq, e⟩ := List.mem_map.1 (mem_dd.1 h)
  exact ⟨q, by simpa using hq, e⟩
theorem clsD_closed {A : Auto} (hA : AutoFit A) {g : Lng} (h : g ∈ clsD A) (l : Int) : nxR g l ∈ clsD A := by
  obtain ⟨q, hq, rfl⟩ := clsD_inv h
  rw [res_step]
  exact clsD_mem (hA.step_lt hq l)
theorem dd_len_le {α : Type} [DecidableEq α] (l : List α) : (dd l).length ≤ l.length := nodup_le (dd_nodup l) fun x hx => mem_dd.1 hx
theorem clsD_len (A : Auto) : (clsD A).length ≤ A.next.length := by have := dd_len_le ((List.range A.next.length).map (res A)); simpa [clsD] using this
theorem clsD_head {A : Auto} (hA : AutoFit A) : (clsD A)[0]? = some (res A 0) := by
  have h1 := hA.n1
  have : (List.range A.next.length).map (res A) = [res A 0] ++ ((List.range A.next.length).map (res A)).tail := by
    obtain ⟨n, hn⟩ : ∃ n, A.next.length = n + 1 := ⟨A.next.length - 1, by omega⟩
    rw [hn, List.range_succ_eq_map]; rfl
  unfold clsD
  rw [this]
  exact prefix_at (dd_prefix _ _) rfl
theorem quo_fit {A : Auto} (hA : AutoFit A) : AutoFit (quo A) where
  a0 := hA.a0
  a63 := hA.a63
  n1 := by have := List.length_pos_of_mem (List.mem_of_getElem? (clsD_head hA)); simp [quo, autoR, autoN]; omega
  n2 := by have := clsD_len A; have := hA.n2; simp [quo, autoR, autoN]; omega
  acc := by simp [quo, autoR, autoN]
  row := fun {q} hq => by
    have hq' : q < (clsD A).length := by simpa [quo, autoR, autoN] using hq
    refine ⟨_, (autoN_at (acc := fun g => g []) (List.getElem?_eq_getElem hq')).1, by simp [rowN, nletters, quo, autoR, autoN], fun i y hy => ?_⟩
    obtain ⟨l, hl, rfl⟩ := List.mem_map.1 (List.mem_of_getElem? hy)
    have := List.idxOf_lt_length_of_mem (clsD_closed hA (List.getElem_mem hq') l)
    refine ⟨by omega, ?_⟩
    simp only [quo, autoR, autoN, List.length_map]
    omega
theorem quo_step {A : Auto} (hA : AutoFit A) {g : Lng} (hg : g ∈ clsD A) (l : Int) : step (quo A) ((clsD A).idxOf g) l = (clsD A).idxOf (nxR g l) := by
  by_cases hb : bit A.alphabet l = true
  · unfold step
    rw [if_pos (show bit (quo A).alphabet l = true from hb)]
    unfold entry
    rw [show (quo A).next[(clsD A).idxOf g]? = some _ from (autoN_at (acc := fun g => g []) (idx_at hg)).1]
    obtain ⟨b1, b2⟩ := bit_range hA.a63 hb
    have hp : (letters A.alphabet)[place A.alphabet l]? = some l := (letters_place A.alphabet l _ hA.a0 hA.a63 b1 b2 (by have := place_lt A.alphabet l hA.a0 hA.a63 hb; have h6 := lettersTo_len A.alphabet 6; unfold nletters letters at this; omega)).2 ⟨hb, rfl⟩
    simp only [Option.getD_some, rowN, List.getElem?_map]
    rw [show (quo A).alphabet = A.alphabet from rfl, hp]
    simp
  · obtain ⟨q, hq, rfl⟩ := clsD_inv hg
    rw [stepR (res_blind A q) l (by simpa using hb)]
    unfold step
    rw [if_neg (show ¬ bit (quo A).alphabet l = true from hb)]
theorem quo_run {A : Auto} (hA : AutoFit A) (v : List Int) : ∀ g ∈ clsD A, run (quo A) ((clsD A).idxOf g) v = (clsD A).idxOf (v.foldl nxR g) ∧ v.foldl nxR g ∈ clsD A := by
  induction v with
  | nil => intro g hg; exact ⟨rfl, hg⟩
  | cons l v ih =>
    intro g hg
    show run (quo A) (step (quo A) _ l) v = _ ∧ _
    rw [quo_step hA hg]
    exact ih _ (clsD_closed hA hg l)
theorem quo_res {A : Auto} (hA : AutoFit A) {g : Lng} (hg : g ∈ clsD A) : res (quo A) ((clsD A).idxOf g) = g := by
  funext v
  obtain ⟨h1, h2⟩ := quo_run hA v g hg
  unfold res
  rw [h1]
  unfold accepts
  rw [show (quo A).accept[(clsD A).idxOf (v.foldl nxR g)]? = some ((v.foldl nxR g) []) from (autoN_at (nx := nxR) (a := A.alphabet) (acc := fun g : Lng => g []) (idx_at h2)).2]
  show (v.foldl nxR g) [] = g v
  rw [res_foldl]; simp
theorem quo_res_at {A : Auto} (hA : AutoFit A) {k : Nat} {g : Lng} (hk : (clsD A)[k]? = some g) : res (quo A) k = g := by
  have hg := List.mem_of_getElem? hk
  have : (clsD A).idxOf g = k := by
    have h1 := idx_at hg
    obtain ⟨i1, i2⟩ := List.getElem?_eq_some_iff.1 h1
    obtain ⟨j1, j2⟩ := List.getElem?_eq_some_iff.1 hk
    exact (List.getElem_inj (xs := clsD A) (dd_nodup _)).1 (by rw [i2, j2])
  rw [← this]; exact quo_res hA hg
def nxT (A : Auto) (q : Nat) (l : Int) : Nat := step A q l
def IsTrimF (A B : Auto) : Prop := ∃ nodes, Numbers (nxT A) (letters A.alphabet) 0 nodes ∧ B = autoN (nxT A) A.alphabet (accepts A) nodes
theorem min_of_quo {A B : Auto} (hA : AutoFit A) (h : IsTrimF (quo A) B) : IsMin (res A 0) A.alphabet B := by
  obtain ⟨nodes, h1, rfl⟩ := h
  have hQ := quo_fit hA
  have hlen : (quo A).next.length = (clsD A).length := by simp [quo, autoR, autoN]
  have hlt : ∀ n ∈ nodes, n < (clsD A).length := fun n hn => by
    obtain ⟨v, hv, rfl⟩ := h1.reach n hn
    have h0 : 0 < (quo A).next.length := hQ.n1
    have := hQ.run_lt v h0
    rw [hlen] at this; exact this
  have h0 : res (quo A) 0 = res A 0 := quo_res_at hA (clsD_head hA)
  obtain ⟨k1, k2⟩ := autoN_map (nx' := nxR) (acc := accepts (quo A)) (acc' := fun g => g []) h1 (res (quo A)) (fun n _ l _ => (res_step _ n l).symm) (fun x hx y hy e => by
    have ex := quo_res_at hA (List.getElem?_eq_getElem (hlt x hx))
    have ey := quo_res_at hA (List.getElem?_eq_getElem (hlt y hy))
    rw [ex, ey] at e
    exact (List.getElem_inj (xs := clsD A) (dd_nodup _)).1 e) (fun n _ => rfl)
  rw [h0] at k1
  exact ⟨_, k1, k2⟩

def idxD {α : Type} [DecidableEq α] (l : List α) (x : α) : Nat := l.idxOf x
theorem idxD_new {α : Type} [DecidableEq α] {l : List α} {x : α} (h : x ∉ l) : idxD (l ++ [x]) x = l.length := by unfold idxD; rw [List.idxOf_append, if_neg h]; simp
theorem idxD_app {α : Type} [DecidableEq α] {l : List α} {x : α} (h : x ∈ l) (m : List α) : idxD (l ++ m) x = idxD l x := by unfold idxD; rw [List.idxOf_append, if_pos h]
theorem idxD_lt {α : Type} [DecidableEq α] {l : List α} {x : α} (h : x ∈ l) : idxD l x < l.length := List.idxOf_lt_length_of_mem h
section
variable {α β : Type} [DecidableEq α] [DecidableEq β]
theorem dd_alike (f : Nat → α) (g : Nat → β) (l : List Nat) : ∀ p : List Nat, (∀ x ∈ p ++ l, ∀ y ∈ p ++ l, f x = f y ↔ g x = g y) → (∃ r : List Nat, (∀ x ∈ r, x ∈ p) ∧ dd (p.map f) = r.map f ∧ dd (p.map g) = r.map g) → ∃ r : List Nat, (∀ x ∈ r, x ∈ p ++ l) ∧ dd ((p ++ l).map f) = r.map f ∧ dd ((p ++ l).map g) = r.map g := by
  induction l with
  | nil => intro p _ h; simpa using h
  | cons x l ih =>
    intro p h hr
    rw [show p ++ x :: l = (p ++ [x]) ++ l by simp] at h ⊢
    apply ih _ h
    obtain ⟨r, r1, r2, r3⟩ := hr
    rw [List.map_append, List.map_append, List.map_singleton, List.map_singleton, dd_snoc, dd_snoc, r2, r3]
    have hiff : f x ∈ r.map f ↔ g x ∈ r.map g := by
      rw [List.mem_map, List.mem_map]
      constructor
      · rintro ⟨y, hy, e⟩
        exact ⟨y, hy, (h y (by simp [r1 y hy]) x (by simp)).1 e⟩
      · rintro ⟨y, hy, e⟩
        exact ⟨y, hy, (h y (by simp [r1 y hy]) x (by simp)).2 e⟩
    by_cases hx : f x ∈ r.map f
    · exact ⟨r, fun y hy => by simp [r1 y hy], if_pos hx, if_pos (hiff.1 hx)⟩
    · refine ⟨r ++ [x], fun y hy => ?_, ?_, ?_⟩
      · rcases List.mem_append.1 hy with hy | hy
        · simp [r1 y hy]
        · simp at hy; simp [hy]
      · rw [show addN (r.map f) (f x) = _ from if_neg hx]; simp
      · rw [show addN (r.map g) (g x) = _ from if_neg (fun e => hx (hiff.2 e))]; simp
theorem idx_of_reps (f : Nat → α) (g : Nat → β) {r : List Nat} {q : Nat} (h : ∀ x ∈ r, f x = f q ↔ g x = g q) : (r.map f).idxOf (f q) = (r.map g).idxOf (g q) := by
  induction r with
  | nil => rfl
  | cons y r ih =>
    rw [List.map_cons, List.map_cons, List.idxOf_cons, List.idxOf_cons, ih fun x hx => h x (by simp [hx])]
    by_cases e : f y = f q
    · rw [e, (h y (by simp)).1 e]; simp
    · have e2 : ¬ g y = g q := fun e2 => e ((h y (by simp)).2 e2)
      rw [show (f y == f q) = false by simpa using e, show (g y == g q) = false by simpa using e2]
theorem alike (n : Nat) (f : Nat → α) (g : Nat → β) (h : ∀ p, p < n → ∀ q, q < n → (f p = f q ↔ g p = g q)) :
    (dd ((List.range n).map f)).length = (dd ((List.range n).map g)).length ∧ ∀ q, q < n → (dd ((List.range n).map f)).idxOf (f q) = (dd ((List.range n).map g)).idxOf (g q) := by
  obtain ⟨r, r1, r2, r3⟩ := dd_alike f g (List.range n) [] (by simpa using h) ⟨[], by simp, rfl, rfl⟩
  simp only [List.nil_append] at r1 r2 r3
  rw [r2, r3]
  refine ⟨by simp, fun q hq => idx_of_reps f g fun x hx => h x (by simpa using r1 x hx) q hq⟩
end

section
variable (A : Auto)
def sig (c : Nat → Nat) (q : Nat) : List Nat := c q :: (letters A.alphabet).map fun l => c (step A q l)
def sigD (c : Nat → Nat) : List (List Nat) := dd ((List.range A.next.length).map (sig A c))
def refine1 (c : Nat → Nat) (q : Nat) : Nat := idxD (sigD A c) (sig A c q)
def stage : Nat → Nat → Nat
  | 0 => fun q => if accepts A q then 1 else 0
  | i + 1 => refine1 A (stage i)
def cnt (i : Nat) : Nat := (sigD A (stage A i)).length
variable {A}
theorem idx_inj {α : Type} [DecidableEq α] {l : List α} {x y : α} (hx : x ∈ l) (hy : y ∈ l) (h : l.idxOf x = l.idxOf y) : x = y := by
  have h1 := idx_at hx
  have h2 := idx_at hy
  rw [h, h2] at h1
  exact (Option.some.inj h1).symm
theorem sig_mem {c : Nat → Nat} {q : Nat} (hq : q < A.next.length) : sig A c q ∈ sigD A c := mem_dd.2 (List.mem_map.2 ⟨q, by simpa using hq, rfl⟩)
theorem refine_iff {c : Nat → Nat} {p q : Nat} (hp : p < A.next.length) (hq : q < A.next.length) : refine1 A c p = refine1 A c q ↔ sig A c p = sig A c q :=
  ⟨fun h => idx_inj (sig_mem hp) (sig_mem hq) h, fun h => by unfold refine1; rw [h]⟩
theorem sig_iff {c : Nat → Nat} {p q : Nat} : sig A c p = sig A c q ↔ c p = c q ∧ ∀ l ∈ letters A.alphabet, c (step A p l) = c (step A q l) := by
  unfold sig
  rw [List.cons.injEq]
  refine and_congr Iff.rfl ⟨fun h l hl => ?_, fun h => List.map_congr_left h⟩
  obtain ⟨i, hi⟩ := List.getElem?_of_mem hl
  have := congrArg (fun z => z[i]?) h
  simp only [List.getElem?_map, hi] at this
  simpa using this
theorem stage_res (hA : AutoFit A) (i : Nat) : ∀ {p q : Nat}, p < A.next.length → q < A.next.length → res A p = res A q → stage A i p = stage A i q := by
  induction i with
  | zero =>
    intro p q _ _ h
    have := congrFun h []
    rw [res_nil, res_nil] at this
    show (if accepts A p then 1 else 0) = if accepts A q then 1 else 0
    rw [this]
  | succ i ih =>
    intro p q hp hq h
    refine (refine_iff hp hq).2 (sig_iff.2 ⟨ih hp hq h, fun l _ => ih (hA.step_lt hp l) (hA.step_lt hq l) ?_⟩)
    rw [← res_step, ← res_step, h]
theorem stage_down {i : Nat} {p q : Nat} (hp : p < A.next.length) (hq : q < A.next.length) (h : stage A (i + 1) p = stage A (i + 1) q) : stage A i p = stage A i q := (sig_iff.1 ((refine_iff hp hq).1 h)).1
theorem stage_acc {i : Nat} {p q : Nat} (hp : p < A.next.length) (hq : q < A.next.length) (h : stage A i p = stage A i q) : accepts A p = accepts A q := by
  induction i with
  | zero =>
    have h : (if accepts A p then 1 else 0) = if accepts A q then 1 else 0 := h
    cases h1 : accepts A p <;> cases h2 : accepts A q <;> simp [h1, h2] at h <;> rfl
  | succ i ih => exact ih (stage_down hp hq h)
def many (A : Auto) (i : Nat) : Nat := (dd ((List.range A.next.length).map (stage A i))).length
theorem cnt_many (i : Nat) : cnt A i = many A (i + 1) := (alike A.next.length (sig A (stage A i)) (stage A (i + 1)) fun p hp q hq => (refine_iff hp hq).symm).1
theorem many_le (i : Nat) : many A i ≤ A.next.length := by have := dd_len_le ((List.range A.next.length).map (stage A i)); simpa [many] using this
theorem cnt_le (i : Nat) : cnt A i ≤ A.next.length := by rw [cnt_many]; exact many_le _
theorem coarser {α β : Type} [DecidableEq α] [DecidableEq β] (n : Nat) (f : Nat → α) (g : Nat → β) (h : ∀ p, p < n → ∀ q, q < n → f p = f q → g p = g q) :
    (dd ((List.range n).map g)).length ≤ (dd ((List.range n).map f)).length ∧ ((dd ((List.range n).map g)).length = (dd ((List.range n).map f)).length → ∀ p, p < n → ∀ q, q < n → g p = g q → f p = f q) := by
  -- the least states of the classes of f, sent to the classes of g, meet all of them
  have hrep : ∀ x ∈ dd ((List.range n).map f), ∃ p, p < n ∧ f p = x := fun x hx => by
    obtain ⟨p, hp, e⟩ := List.mem_map.1 (mem_dd.1 hx)
    exact ⟨p, by simpa using hp, e⟩
  let k : α → β := fun x => if hx : x ∈ dd ((List.range n).map f) then g (Classical.choose (hrep x hx)) else g 0
  have hk : ∀ p, p < n → k (f p) = g p := fun p hp => by
    have hx : f p ∈ dd ((List.range n).map f) := mem_dd.2 (List.mem_map.2 ⟨p, by simpa using hp, rfl⟩)
    show (if hx : f p ∈ dd ((List.range n).map f) then g (Classical.choose (hrep _ hx)) else g 0) = g p
    rw [dif_pos hx]
    obtain ⟨h1, h2⟩ := Classical.choose_spec (hrep _ hx)
    exact h _ h1 p hp h2
  have hmem : ∀ y ∈ dd ((List.range n).map g), y ∈ (dd ((List.range n).map f)).map k := fun y hy => by
    obtain ⟨p, hp, rfl⟩ := List.mem_map.1 (mem_dd.1 hy)
    exact List.mem_map.2 ⟨f p, mem_dd.2 (List.mem_map.2 ⟨p, hp, rfl⟩), hk p (by simpa using hp)⟩
  have hle := nodup_le (dd_nodup _) hmem
  refine ⟨by simpa using hle, fun he p hp q hq hg => ?_⟩
  apply Classical.byContradiction
  intro hne
  -- two classes of f with one image: one of them may go
  have hxp : f p ∈ dd ((List.range n).map f) := mem_dd.2 (List.mem_map.2 ⟨p, by simpa using hp, rfl⟩)
  have hxq : f q ∈ dd ((List.range n).map f) := mem_dd.2 (List.mem_map.2 ⟨q, by simpa using hq, rfl⟩)
  have hmem2 : ∀ y ∈ dd ((List.range n).map g), y ∈ ((dd ((List.range n).map f)).erase (f p)).map k := fun y hy => by
    obtain ⟨r, hr, rfl⟩ := List.mem_map.1 (mem_dd.1 hy)
    have hr' : r < n := by simpa using hr
    by_cases e : f r = f p
    · refine List.mem_map.2 ⟨f q, (List.mem_erase_of_ne (fun e2 => hne e2.symm)).2 hxq, ?_⟩
      rw [hk q hq, ← hg]
      exact (h r hr' p hp e).symm
    · exact List.mem_map.2 ⟨f r, (List.mem_erase_of_ne e).2 (mem_dd.2 (List.mem_map.2 ⟨r, hr, rfl⟩)), hk r hr'⟩
  have h2 := nodup_le (dd_nodup _) hmem2
  rw [List.length_map, List.length_erase_of_mem hxp] at h2
  have := List.length_pos_of_mem hxp
  omega
theorem many_mono (i : Nat) : many A i ≤ many A (i + 1) := (coarser A.next.length (stage A (i + 1)) (stage A i) fun _ hp _ hq h => stage_down hp hq h).1
theorem stage_done (hA : AutoFit A) {i : Nat} (h : many A (i + 1) = many A i) : ∀ {p q : Nat}, p < A.next.length → q < A.next.length → (stage A (i + 1) p = stage A (i + 1) q ↔ res A p = res A q) := by
  have hst := (coarser A.next.length (stage A (i + 1)) (stage A i) fun _ hp _ hq h => stage_down hp hq h).2 h.symm
  intro p q hp hq
  refine ⟨fun e => ?_, stage_res hA _ hp hq⟩
  have key : ∀ v : List Int, ∀ p q, p < A.next.length → q < A.next.length → stage A i p = stage A i q → accepts A (run A p v) = accepts A (run A q v) := by
    intro v
    induction v with
    | nil => intro p q hp hq e; exact stage_acc hp hq e
    | cons l v ih =>
      intro p q hp hq e
      show accepts A (run A (step A p l) v) = accepts A (run A (step A q l) v)
      refine ih _ _ (hA.step_lt hp l) (hA.step_lt hq l) ?_
      by_cases hb : bit A.alphabet l = true
      · exact (sig_iff.1 ((refine_iff hp hq).1 (hst p hp q hq e))).2 l ((letters_iff l hA.a63).2 hb)
      · simp only [step, if_neg hb]; exact e
  funext v
  exact key v p q hp hq (stage_down hp hq e)
theorem stage_cls (hA : AutoFit A) {i : Nat} (h : many A (i + 1) = many A i) {q : Nat} (hq : q < A.next.length) : stage A (i + 1) q = clsOf A q := by
  have h1 : ∀ p, p < A.next.length → ∀ q, q < A.next.length → (sig A (stage A i) p = sig A (stage A i) q ↔ res A p = res A q) := fun p hp q hq =>
    (refine_iff hp hq).symm.trans (stage_done hA h hp hq)
  exact (alike A.next.length (sig A (stage A i)) (res A) h1).2 q hq
theorem many_pos (hA : AutoFit A) (i : Nat) : 1 ≤ many A i := by
  have h := List.length_pos_of_mem (mem_dd.2 (List.mem_map.2 ⟨0, List.mem_range.2 hA.n1, rfl⟩) : stage A i 0 ∈ dd ((List.range A.next.length).map (stage A i)))
  exact h
end


section
variable (t : Task)
noncomputable def nxW (n : Option Sets) (l : Int) : Option Sets := match n with
  | none => none
  | some f => if badM t (afterM t f l) then none else some (afterM t f l)
noncomputable def startW : Option Sets := if badM t (closeM t startM) then none else some (closeM t startM)
noncomputable def lngW : Lng := fun v => safeFrom t (closeM t startM) (v.filter (bit t.alphabet))
theorem lngW_blind : Blind t.alphabet (lngW t) := fun v => by unfold lngW; rw [List.filter_filter]; simp
noncomputable instance : DecidableEq Sets := fun _ _ => Classical.propDecidable _
noncomputable instance : DecidableEq (Option Sets) := fun _ _ => Classical.propDecidable _
def TooGood : Prop := ∃ l : List (Option Sets), l.Nodup ∧ 40 < l.length ∧ ∀ n ∈ l, n ≠ none ∧ ReachN (nxW t) (letters t.alphabet) (startW t) n
variable {t}
theorem nxW_none (v : List Int) : v.foldl (stepN (nxW t) t.alphabet) none = none := by
  induction v with
  | nil => rfl
  | cons l v ih =>
    show v.foldl _ (stepN (nxW t) t.alphabet none l) = none
    rw [show stepN (nxW t) t.alphabet none l = none by unfold stepN; split <;> rfl]; exact ih
theorem nxW_run (v : List Int) : ∀ f, badM t f = false → (v.foldl (stepN (nxW t) t.alphabet) (some f)).isSome = safeFrom t f (v.filter (bit t.alphabet)) := by
  induction v with
  | nil => intro f hf; show true = !badM t f; rw [hf]; rfl
  | cons l v ih =>
    intro f hf
    show (v.foldl _ (stepN (nxW t) t.alphabet (some f) l)).isSome = _
    by_cases hb : bit t.alphabet l = true
    · rw [List.filter_cons_of_pos hb]
      have e : safeFrom t f (l :: v.filter (bit t.alphabet)) = safeFrom t (afterM t f l) (v.filter (bit t.alphabet)) := by
        show (if badM t f then false else _) = _
        rw [hf]; rfl
      rw [e]
      by_cases hg : badM t (afterM t f l) = true
      · have e2 : stepN (nxW t) t.alphabet (some f) l = none := by unfold stepN; rw [if_pos hb]; exact if_pos hg
        rw [e2, nxW_none]
        cases h : v.filter (bit t.alphabet) with
        | nil => show false = !badM t _; rw [hg]; rfl
        | cons x xs => show false = if badM t _ then false else _; rw [hg]; rfl
      · have e2 : stepN (nxW t) t.alphabet (some f) l = some (afterM t f l) := by unfold stepN; rw [if_pos hb]; exact if_neg hg
        rw [e2]
        exact ih _ (by simpa using hg)
    · rw [List.filter_cons_of_neg hb]
      have e2 : stepN (nxW t) t.alphabet (some f) l = some f := by unfold stepN; rw [if_neg hb]
      rw [e2]
      exact ih f hf
theorem startW_run (v : List Int) : (v.foldl (stepN (nxW t) t.alphabet) (startW t)).isSome = lngW t v := by
  unfold startW lngW
  by_cases hb : badM t (closeM t startM) = true
  · rw [if_pos hb, nxW_none]
    cases h : v.filter (bit t.alphabet) with
    | nil => show false = !badM t _; rw [hb]; rfl
    | cons x xs => show false = if badM t _ then false else _; rw [hb]; rfl
  · rw [if_neg hb]; exact nxW_run v _ (by simpa using hb)
theorem startW_safe (v : List Int) (hs : sysValid t.sys = true) (hp : autoValid t.prop = true) : lngW t v = true ↔ SafeV t (v.filter (bit t.alphabet)) :=
  safeFrom_word hs hp fun x hx => (List.mem_filter.1 hx).2
def WeakR (t : Task) (r : Option Auto) : Prop :=
  (r = none ∧ (taskValid t = false ∨ taskValid t = true ∧ (TooGood t ∨ ∃ B, IsMin (lngW t) t.alphabet B ∧ 12 < B.next.length))) ∨
  ∃ B, r = some B ∧ taskValid t = true ∧ ¬ TooGood t ∧ IsMin (lngW t) t.alphabet B ∧ B.next.length ≤ 12
theorem WeakR.unique {r r' : Option Auto} (h : WeakR t r) (k : WeakR t r') : r = r' := by
  rcases h with ⟨rfl, h⟩ | ⟨B, rfl, h1, h2, h3, h4⟩ <;> rcases k with ⟨rfl, k⟩ | ⟨C, rfl, k1, k2, k3, k4⟩
  · rfl
  · rcases h with h | ⟨-, h | ⟨B, h, h'⟩⟩
    · rw [k1] at h; cases h
    · exact absurd h k2
    · rw [h.unique k3] at h'; omega
  · rcases k with k | ⟨-, k | ⟨C, k, k'⟩⟩
    · rw [h1] at k; cases k
    · exact absurd k h2
    · rw [h3.unique k] at h4; omega
  · rw [h3.unique k3]
end
end Go.Proofs.YtadplnbadfnlfaaGreatDoor

namespace Go.Proofs.YtadplnbadfnlfaaGreatDoor
set_option linter.unusedSimpArgs false
set_option linter.unusedVariables false
open Go
set_option linter.unusedSectionVars false

section
variable {t : Task}
theorem good_len {α : Type} [DecidableEq (Option α)] {l : List (Option α)} (h : l.Nodup) : l.length ≤ (l.filter Option.isSome).length + 1 := by
  have h1 := nodup_le (m := none :: l.filter Option.isSome) h fun x hx => by
    cases x with
    | none => exact List.mem_cons_self
    | some f => exact List.mem_cons_of_mem _ (List.mem_filter.2 ⟨hx, rfl⟩)
  simpa using h1
theorem many_good (h : TooMany (nxW t) (letters t.alphabet) (startW t) 41) : TooGood t := by
  obtain ⟨l, h1, h2, h3⟩ := h
  have h4 := good_len h1
  refine ⟨l.filter Option.isSome, h1.filter _, by omega, fun n hn => ?_⟩
  obtain ⟨k1, k2⟩ := List.mem_filter.1 hn
  exact ⟨fun e => (by subst e; cases k2), h3 n k1⟩
theorem nodes_good {ns : List (Option Sets)} (h : Numbers (nxW t) (letters t.alphabet) (startW t) ns) (h40 : 40 < ns.length) (hn : none ∉ ns) : TooGood t :=
  ⟨ns, h.nodup, h40, fun n hx => ⟨fun e => hn (e ▸ hx), h.reach n hx⟩⟩
theorem nodes_few {ns : List (Option Sets)} (h : Numbers (nxW t) (letters t.alphabet) (startW t) ns) (h40 : ns.length ≤ 40 ∨ ns.length ≤ 41 ∧ none ∈ ns) : ¬ TooGood t := by
  rintro ⟨l, h1, h2, h3⟩
  have hl := nodup_le h1 (m := ns.erase none) fun n hn => (List.mem_erase_of_ne (h3 n hn).1).2 (h.all (h3 n hn).2)
  rcases h40 with h40 | ⟨h40, hm⟩
  · have := List.length_erase_le (a := none) (l := ns); omega
  · rw [List.length_erase_of_mem hm] at hl
    omega
noncomputable def rawW (t : Task) (ns : List (Option Sets)) : Auto := autoN (nxW t) t.alphabet Option.isSome ns
theorem raw_res (ha : 0 ≤ t.alphabet) (ha2 : t.alphabet ≤ 63) {ns : List (Option Sets)} (h : Numbers (nxW t) (letters t.alphabet) (startW t) ns) : res (rawW t ns) 0 = lngW t := by
  funext v
  show accepts (rawW t ns) (run (rawW t ns) 0 v) = _
  unfold rawW
  rw [autoN_accepts ha ha2 h v]
  exact startW_run v
theorem raw_len (ns : List (Option Sets)) : (rawW t ns).next.length = ns.length := by simp [rawW, autoN]
theorem raw_fit (ha : 0 ≤ t.alphabet) (ha2 : t.alphabet ≤ 63) {ns : List (Option Sets)} (h : Numbers (nxW t) (letters t.alphabet) (startW t) ns) (hl : ns.length ≤ 41) : AutoFit (rawW t ns) :=
  autoN_fit ha ha2 h (by omega)


def RepW (t : Task) (g : List Sets) (x : Int) (n : Option Sets) : Prop :=
  g.Nodup ∧ g.length ≤ 2000 ∧ ((x = -1 ∧ n = none) ∨ ∃ (k : Nat) (f : Sets), x = (k : Int) ∧ g[k]? = some f ∧ n = some f ∧ badM t f = false)
theorem RepW.rng {g : List Sets} {x : Int} {n : Option Sets} (h : RepW t g x n) : -1000000000 ≤ x ∧ x ≤ 1000000000 := by
  obtain ⟨-, h2, ⟨rfl, -⟩ | ⟨k, f, rfl, hk, -⟩⟩ := h
  · omega
  · have := (List.getElem?_eq_some_iff.1 hk).1
    omega
theorem RepW.inj {g : List Sets} {x y : Int} {n k : Option Sets} (h : RepW t g x n) (h' : RepW t g y k) : x = y ↔ n = k := by
  obtain ⟨hn, -, ⟨rfl, rfl⟩ | ⟨i, f, rfl, hi, rfl, -⟩⟩ := h <;> obtain ⟨-, -, ⟨rfl, rfl⟩ | ⟨j, f', rfl, hj, rfl, -⟩⟩ := h'
  · simp
  · simp
  · simp
  · constructor
    · intro e
      have e' : i = j := by omega
      subst e'
      rw [hi] at hj
      exact hj
    · intro e
      cases e
      obtain ⟨i1, i2⟩ := List.getElem?_eq_some_iff.1 hi
      obtain ⟨j1, j2⟩ := List.getElem?_eq_some_iff.1 hj
      have := (List.getElem_inj hn (h₀ := i1) (h₁ := j1)).1 (by rw [i2, j2])
      omega
theorem RepW.ext {g g' : List Sets} {x : Int} {n : Option Sets} (h : RepW t g x n) (hp : g <+: g') (hn : g'.Nodup) (hl : g'.length ≤ 2000) : RepW t g' x n := by
  refine ⟨hn, hl, ?_⟩
  obtain ⟨-, -, h | ⟨k, f, e, hk, h⟩⟩ := h
  · exact .inl h
  · exact .inr ⟨k, f, e, prefix_at hp hk, h⟩
theorem RepW.none {g : List Sets} (hn : g.Nodup) (hl : g.length ≤ 2000) : RepW t g (-1) none := ⟨hn, hl, .inl ⟨rfl, rfl⟩⟩
theorem RepW.some {g : List Sets} (hn : g.Nodup) (hl : g.length ≤ 2000) {k : Nat} {f : Sets} (hk : g[k]? = some f) (hb : badM t f = false) : RepW t g (k : Int) (some f) := ⟨hn, hl, .inr ⟨k, f, rfl, hk, rfl, hb⟩⟩
end
end Go.Proofs.YtadplnbadfnlfaaGreatDoor

namespace Go.Proofs.YtadplnbadfnlfaaGreatDoor
set_option linter.unusedSimpArgs false
set_option linter.unusedVariables false
open Go
set_option linter.unusedSectionVars false


section
variable {α : Type} [DecidableEq α] {nx : α → Int → α} {s : α} {a : Int} {nodes : List α}
structure ClosedN (nx : α → Int → α) (L : List Int) (s : α) (nodes : List α) : Prop where
  head : nodes[0]? = some s
  closed : ∀ n ∈ nodes, ∀ l ∈ L, nx n l ∈ nodes
end


section
variable {t : Task}
noncomputable def idxR (list : List Sets) : Option Sets → Nat
  | none => 1
  | some f => if list.idxOf f = 0 then 0 else list.idxOf f + 1
noncomputable def rowR (t : Task) (list : List Sets) (f : Sets) : List Int := (letters t.alphabet).map fun l => ((idxR list (nxW t (some f) l) : Nat) : Int)
def okIn (list : List Sets) : Option Sets → Prop
  | none => True
  | some f => f ∈ list
structure RawSt (t : Task) (list : List Sets) (k : Nat) (rows : List (List Int)) : Prop where
  head : list[0]? = some (closeM t startM)
  nodup : list.Nodup
  safe : ∀ f ∈ list, badM t f = false
  within : ∀ f ∈ list, Within t f
  reach : ∀ f ∈ list, ReachN (nxW t) (letters t.alphabet) (startW t) (some f)
  done : ∀ f ∈ list.take k, ∀ l ∈ letters t.alphabet, okIn list (nxW t (some f) l)
  rows : rows = (list.take k).map (rowR t list)
structure RowSt (t : Task) (list : List Sets) (k : Nat) (rows : List (List Int)) (f : Sets) (j : Nat) (row : List Int) : Prop where
  st : RawSt t list k rows
  at' : list[k]? = some f
  part : ∀ l ∈ (letters t.alphabet).take j, okIn list (nxW t (some f) l)
  row : row = ((letters t.alphabet).take j).map fun l => ((idxR list (nxW t (some f) l) : Nat) : Int)
theorem RawSt.good {list : List Sets} {k : Nat} {rows : List (List Int)} (h : RawSt t list k rows) (h40 : 40 < list.length) : TooGood t := by
  refine ⟨list.map some, ?_, by simpa using h40, fun n hn => ?_⟩
  · exact map_nodup h.nodup some fun a _ b _ e => by cases e; rfl
  · obtain ⟨f, hf, rfl⟩ := List.mem_map.1 hn
    exact ⟨by simp, h.reach f hf⟩
end
end Go.Proofs.YtadplnbadfnlfaaGreatDoor
