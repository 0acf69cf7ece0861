/- The program's ProductAutomaton. -/
import Derived.Test.YthpiihblmekijaaGreatDoorWalkN
import Derived.Test.YthpiihblmekijaaGreatDoorWalkFC
import Derived.Test.YthpiihblmekijaaGreatDoorWalkSE
import Derived.Test.YthpiihblmekijaaGreatDoorInj

namespace Go.Proofs.YthpiihblmekijaaGreatDoor
open Go.RowKit
set_option linter.unusedVariables false
set_option linter.unusedSimpArgs false
set_option maxHeartbeats 4000000
set_option maxRecDepth 100000

/-! ### The plain law -/
def nxP (p q : Auto) (node : Nat) (l : Int) : Nat := step p (node / q.next.length) l * q.next.length + step q (node % q.next.length) l
def accP (p q : Auto) (kind : Int) (node : Nat) : Bool :=
  let x := accepts p (node / q.next.length)
  let y := accepts q (node % q.next.length)
  if kind = 0 then x && y else if kind = 1 then x || y else x && !y
def alP (p q : Auto) : Int := bits .or .i64 p.alphabet q.alphabet
theorem alP_facts {p q : Auto} (hp : autoValid p = true) (hq : autoValid q = true) : 0 ≤ alP p q ∧ alP p q ≤ 63 ∧ ∀ l, bit (alP p q) l = (bit p.alphabet l || bit q.alphabet l) := by
  have fp := autoValid_facts hp
  have fq := autoValid_facts hq
  have f1 := fp.2.1
  have f2 := fq.2.1
  obtain ⟨m, hm⟩ := Int.eq_ofNat_of_zero_le fp.1
  obtain ⟨n, hn⟩ := Int.eq_ofNat_of_zero_le fq.1
  unfold alP
  rw [hm] at f1 ⊢
  rw [hn] at f2 ⊢
  rw [i64_or_nat m n (by omega) (by omega)]
  have : m ||| n < 64 := by
    rw [show (64 : Nat) = 2 ^ 6 from rfl]
    exact Nat.or_lt_two_pow (by omega) (by omega)
  exact ⟨by omega, by omega, fun l => bit_or m n l⟩
theorem nxP_lt {p q : Auto} (hp : autoValid p = true) (hq : autoValid q = true) {node : Nat} (hn : node < p.next.length * q.next.length) (l : Int) : nxP p q node l < p.next.length * q.next.length := by
  have hm : 0 < q.next.length := (autoValid_facts hq).2.2.1
  have h1 : node / q.next.length < p.next.length := Nat.div_lt_of_lt_mul (by rw [Nat.mul_comm]; exact hn)
  have h2 := step_lt hp h1 l
  have h3 := step_lt hq (Nat.mod_lt node hm) l
  unfold nxP
  calc step p (node / q.next.length) l * q.next.length + step q (node % q.next.length) l < step p (node / q.next.length) l * q.next.length + q.next.length := by omega
    _ = (step p (node / q.next.length) l + 1) * q.next.length := by rw [Nat.add_mul, Nat.one_mul]
    _ ≤ p.next.length * q.next.length := Nat.mul_le_mul_right _ h2
theorem prod_run {p q : Auto} (hp : autoValid p = true) (hq : autoValid q = true) (v : List Int) : ∀ i j, i < p.next.length → j < q.next.length → v.foldl (stepN (nxP p q) (alP p q)) (i * q.next.length + j) = run p i v * q.next.length + run q j v := by
  obtain ⟨-, -, hb⟩ := alP_facts hp hq
  induction v with
  | nil => intro i j _ _; rfl
  | cons l v ih =>
    intro i j hi hj
    rw [List.foldl_cons]
    have e : stepN (nxP p q) (alP p q) (i * q.next.length + j) l = step p i l * q.next.length + step q j l := by
      unfold stepN
      by_cases h : bit (alP p q) l = true
      · rw [if_pos h]; unfold nxP; rw [div_pair hj, mod_pair hj]
      · rw [if_neg h]
        rw [hb, Bool.or_eq_true, not_or] at h
        unfold step; rw [if_neg h.1, if_neg h.2]
    rw [e]
    exact ih _ _ (step_lt hp hi l) (step_lt hq hj l)
theorem prod_accepts {p q : Auto} (hp : autoValid p = true) (hq : autoValid q = true) {kind : Int} {nodes : List Nat} (h : Numbers (nxP p q) (letters (alP p q)) 0 nodes) (v : List Int) :
    accepts (autoN (nxP p q) (alP p q) (accP p q kind) nodes) (run (autoN (nxP p q) (alP p q) (accP p q kind) nodes) 0 v) = (if kind = 0 then accepts p (run p 0 v) && accepts q (run q 0 v) else if kind = 1 then accepts p (run p 0 v) || accepts q (run q 0 v) else accepts p (run p 0 v) && !accepts q (run q 0 v)) := by
  obtain ⟨h0, h1, -⟩ := alP_facts hp hq
  have fp := (autoValid_facts hp).2.2.1
  have fq := (autoValid_facts hq).2.2.1
  rw [autoN_accepts h0 h1 h]
  have := prod_run hp hq v 0 0 (by omega) (by omega)
  rw [Nat.zero_mul, Nat.zero_add] at this
  rw [this]
  have hlt := run_lt hq v (q := 0) (by omega)
  unfold accP
  rw [div_pair hlt, mod_pair hlt]
/-- The other way round there are as many nodes. -/
theorem prod_swap {p q : Auto} (hp : autoValid p = true) (hq : autoValid q = true) {M : Nat} (h : TooMany (nxP q p) (letters (alP q p)) 0 M) : TooMany (nxP p q) (letters (alP p q)) 0 M := by
  have fp := (autoValid_facts hp).2.2.1
  have fq := (autoValid_facts hq).2.2.1
  obtain ⟨a0, a1, a2⟩ := alP_facts hp hq
  obtain ⟨b0, b1, b2⟩ := alP_facts hq hp
  have hL : ∀ l, l ∈ letters (alP q p) ↔ l ∈ letters (alP p q) := fun l => by rw [letters_iff l b1, letters_iff l a1, a2, b2, Bool.or_comm]
  have hfold : ∀ (p q : Auto), autoValid p = true → autoValid q = true → ∀ (v : List Int), (∀ x ∈ v, x ∈ letters (alP p q)) → v.foldl (nxP p q) 0 = run p 0 v * q.next.length + run q 0 v := fun p q hp hq v hv => by
    obtain ⟨-, c1, -⟩ := alP_facts hp hq
    have e : v.foldl (nxP p q) 0 = v.foldl (stepN (nxP p q) (alP p q)) 0 := by
      have : ∀ s, v.foldl (nxP p q) s = v.foldl (stepN (nxP p q) (alP p q)) s := by
        induction v with
        | nil => intro s; rfl
        | cons l v ih =>
          intro s
          rw [List.foldl_cons, List.foldl_cons, ih (fun x hx => hv x (by simp [hx]))]
          congr 1
          unfold stepN; rw [if_pos ((letters_iff l c1).1 (hv l (by simp)))]
      exact this 0
    have := prod_run hp hq v 0 0 ((autoValid_facts hp).2.2.1) ((autoValid_facts hq).2.2.1)
    rw [Nat.zero_mul, Nat.zero_add] at this
    rw [e, this]
  obtain ⟨l, h1, h2, h3⟩ := h
  refine ⟨l.map fun n => (n % p.next.length) * q.next.length + n / p.next.length, ?_, by simpa using h2, fun n hn => ?_⟩
  · have hlt : ∀ n ∈ l, n / p.next.length < q.next.length := fun n hn => by
      obtain ⟨v, hv, rfl⟩ := h3 n hn
      rw [hfold q p hq hp v hv, div_pair (run_lt hp v fp)]
      exact run_lt hq v fq
    rw [List.nodup_iff_pairwise_ne] at h1 ⊢
    rw [List.pairwise_map]
    refine List.Pairwise.imp_of_mem (fun {a b} ha hb hab e => hab ?_) h1
    have e1 := congrArg (· / q.next.length) e
    have e2 := congrArg (· % q.next.length) e
    simp only [div_pair (hlt a ha), div_pair (hlt b hb), mod_pair (hlt a ha), mod_pair (hlt b hb)] at e1 e2
    rw [← Nat.div_add_mod a p.next.length, ← Nat.div_add_mod b p.next.length, e1, e2]
  · obtain ⟨m, hm, rfl⟩ := List.mem_map.1 hn
    obtain ⟨v, hv, rfl⟩ := h3 m hm
    refine ⟨v, fun x hx => (hL x).1 (hv x hx), ?_⟩
    rw [hfold q p hq hp v hv, hfold p q hp hq v fun x hx => (hL x).1 (hv x hx), div_pair (run_lt hp v fp), mod_pair (run_lt hp v fp)]

/-! ### The walk -/
structure GroundP (w : World) (b8 bm b9 : Nat) (p q : Auto) : Prop where
  u : ∃ v, Blk w b8 #[v] 95 ∧ TabV w v (table p)
  m : Blk w bm #[.int .i64 (q.next.length : Nat)] 3
  r : ∃ v, Blk w b9 #[v] 95 ∧ TabV w v (table q)
theorem GroundP.ext {w w' : World} {b8 bm b9 : Nat} {p q : Auto} (h : GroundP w b8 bm b9 p q) (he : Ext w w') : GroundP w' b8 bm b9 p q := by
  obtain ⟨⟨vu, h1, h2⟩, h3, ⟨vr, h5, h6⟩⟩ := h
  exact ⟨⟨vu, h1.ext he, h2.mono he⟩, h3.ext he, ⟨vr, h5.ext he, h6.mono he⟩⟩

theorem prodNext_c (b8 bm b9 : Nat) (p q : Auto) (node lt : Nat) (w : World) (h : GroundP w b8 bm b9 p q) (hp : autoValid p = true) (hq : autoValid q = true) (hn : node < p.next.length * q.next.length) (hl : lt < 6) :
    Calls Tryz.prog 68 #[.int .i64 node, .int .i64 lt, .pointer (some ⟨b8, 0, none⟩), .pointer (some ⟨bm, 0, none⟩), .pointer (some ⟨b9, 0, none⟩)] w (Grows (.int .i64 (nxP p q node (lt : Nat) : Nat)) w) := by
  obtain ⟨⟨vu, hu1, hu2⟩, hm, ⟨vr, hr1, hr2⟩⟩ := h
  obtain ⟨au, cu, rfl, -, hu3⟩ := hu2.open
  obtain ⟨ar, cr, rfl, -, hr3⟩ := hr2.open
  simp only [table_len] at hu1 hr1
  obtain ⟨n1, n2, n3⟩ := TabOk.valid hp
  obtain ⟨m1, m2, m3⟩ := TabOk.valid hq
  obtain ⟨M, hMd⟩ : ∃ M, Hid (M = q.next.length) := ⟨_, rfl⟩
  obtain ⟨K, hKd⟩ : ∃ K, Hid (K = p.next.length) := ⟨_, rfl⟩
  obtain ⟨d, hd⟩ : ∃ d, Hid (d = node / M) := ⟨_, rfl⟩
  obtain ⟨r, hr⟩ : ∃ r, Hid (r = node % M) := ⟨_, rfl⟩
  rw [← hMd.out] at hm m1 m2 m3 hr1 hn
  rw [← hKd.out] at n1 n2 n3 hu1 hn
  have hdK : d < K := by rw [hd.out]; exact Nat.div_lt_of_lt_mul (by rw [Nat.mul_comm]; exact hn)
  have hrM : r < M := by rw [hr.out]; exact Nat.mod_lt _ m1
  obtain ⟨su, hsu⟩ : ∃ su, Hid (su = step p d (lt : Nat)) := ⟨_, rfl⟩
  obtain ⟨sp, hsp⟩ : ∃ sp, Hid (sp = step q r (lt : Nat)) := ⟨_, rfl⟩
  have hsuK : su < 12 := by rw [hsu.out]; have := n3 d (lt : Nat) hdK; omega
  have hspM : sp < 12 := by rw [hsp.out]; have := m3 r (lt : Nat) hrM; omega
  obtain ⟨b1, o1, rfl, -, hc1⟩ := hu3 d _ (table_at p d (by rw [← hKd.out]; exact hdK))
  obtain ⟨b2, o2, rfl, -, hc2⟩ := hr3 r _ (table_at q r (by rw [← hMd.out]; exact hrM))
  have g1 := hc1 d _ (table_at p d (by rw [← hKd.out]; exact hdK)) lt hl
  have g2 := hc2 r _ (table_at q r (by rw [← hMd.out]; exact hrM)) lt hl
  simp only [tabRow] at g1 g2
  rw [← hsu.out] at g1
  rw [← hsp.out] at g2
  have hKM : K * M ≤ 12 * 12 := Nat.mul_le_mul n2 m2
  have e1 : Int.tdiv (node : Int) (M : Int) = (d : Int) := by rw [hd.out]; simp [Int.tdiv_eq_ediv_of_nonneg]
  have e3 : Int.tmod (node : Int) (M : Int) = (r : Int) := by rw [hr.out]; simp [Int.tmod_eq_emod_of_nonneg]
  have hsm : su * M ≤ 12 * 12 := Nat.mul_le_mul (by omega) m2
  obtain ⟨rest, hrest⟩ : ∃ rest, Hid (rest = su * M + sp) := ⟨_, rfl⟩
  have hrest2 : rest ≤ 156 := by rw [hrest.out]; omega
  have e5 : IntKind.i64.wrap ((su : Int) * (M : Int)) = (su : Int) * (M : Int) := by rw [show (su : Int) * (M : Int) = ((su * M : Nat) : Int) by simp, IntKind.wrap_i64]; omega
  have e6 : IntKind.i64.wrap ((su : Int) * (M : Int) + (sp : Int)) = (rest : Int) := by rw [hrest.out, show (su : Int) * (M : Int) = ((su * M : Nat) : Int) by simp, IntKind.wrap_i64]; omega
  have e7 : IntKind.i64.wrap (d : Int) = (d : Int) := by rw [IntKind.wrap_i64]; omega
  have m0 : ¬ M = 0 := by omega
  have i1 : (d : Int) < (K : Int) := by omega
  have i2 : (r : Int) < (M : Int) := by omega
  have i3 : (lt : Int) < 6 := by omega
  have HN : Hid (nxP p q node (lt : Nat) = rest) := by
    show _ = _
    unfold nxP
    rw [← hMd.out, ← hd.out, ← hr.out, ← hsu.out, ← hsp.out, ← hrest.out]
  rw [HN.out]
  clear hu3 hr3 hc1 hc2 hu2 hr2 n3 m3 hKM hn hsm
  have D1 := hu1.cell 0 rfl
  have D2 := hm.cell 0 rfl
  have D4 := hr1.cell 0 rfl
  go_enter Tryz.func68, Tryz.ntmps68
  go_wp2_with fail
  go_quiet (fail)
  go_wp2_with fail
  go_ret
  exact Grows.mk rfl (Ext.drewN _ _)

theorem enter_prod (args : Array Value) (w : World) : (callFunc 68 args).run Tryz.prog w = .ok (.enter 68 args) w := rfl
theorem nx_prod {w0 : World} {b8 bm b9 : Nat} {p q : Auto} (h : GroundP w0 b8 bm b9 p q) (hp : autoValid p = true) (hq : autoValid q = true) :
    NxIs w0 (p.next.length * q.next.length) (letters (alP p q)) (.func (.func 68) #[] #[.pointer (some ⟨b8, 0, none⟩), .pointer (some ⟨bm, 0, none⟩), .pointer (some ⟨b9, 0, none⟩)]) (nxP p q) := by
  refine ⟨⟨_, _, rfl, enter_prod, fun w' k l hx hk hl => ?_⟩, fun k l hk _ => nxP_lt hp hq hk l⟩
  obtain ⟨hl0, hl6⟩ := letters_lt6 (alP_facts hp hq).2.1 l hl
  obtain ⟨lt, rfl⟩ := Int.eq_ofNat_of_zero_le hl0
  exact prodNext_c b8 bm b9 p q k lt w' (h.ext hx) hp hq hk (by omega)

/-- What a call of ProductAutomaton ends with. -/
def ProdEnd (p q : Auto) (kind : Int) (base : Nat) (w' : World) (v' : Value) (b : Bool) : Prop :=
  (b = true ∧ ∃ nodes, Numbers (nxP p q) (letters (alP p q)) 0 nodes ∧ nodes.length ≤ 12 ∧ AutoOwn base w' v' (autoN (nxP p q) (alP p q) (accP p q kind) nodes)) ∨
    (b = false ∧ v' = .agg #[.int .i64 0, .slice none 0 0, .slice none 0 0] ∧ TooMany (nxP p q) (letters (alP p q)) 0 12)

theorem ProductAutomaton_c (vp vq : Value) (p q : Auto) (kind : Int) (w : World) (hvp : AutoV w vp p) (hvq : AutoV w vq q) (hpp : autoValid p = true) (hqq : autoValid q = true) (hk : kind = 0 ∨ kind = 1) :
    Calls Tryz.prog 29 #[vp, vq, .int .i64 kind] w (fun e w' => ∃ v' b, e = .returned (.tuple #[v', .bool b]) ∧ Ext w w' ∧ ProdEnd p q kind w.heap.size w' v' b) := by
  obtain ⟨vnp, vap, rfl, hP1, hP2⟩ := hvp
  obtain ⟨aP1, cP1, rfl, -, -⟩ := hP1.open
  obtain ⟨aP2, cP2, rfl, -, hP3⟩ := hP2.open
  obtain ⟨vnq, vaq, rfl, hQ1, hQ2⟩ := hvq
  obtain ⟨aQ1, cQ1, rfl, -, -⟩ := hQ1.open
  obtain ⟨aQ2, cQ2, rfl, -, hQ3⟩ := hQ2.open
  have HTP := Lib.hid (show ∀ w', Ext w w' → AutoV w' (.agg #[.int .i64 p.alphabet, .slice aP1 p.next.length cP1, .slice aP2 p.accept.length cP2]) p from fun w' h => ⟨_, _, rfl, hP1.mono h, hP2.mono h⟩)
  have HTQ := Lib.hid (show ∀ w', Ext w w' → AutoV w' (.agg #[.int .i64 q.alphabet, .slice aQ1 q.next.length cQ1, .slice aQ2 q.accept.length cQ2]) q from fun w' h => ⟨_, _, rfl, hQ1.mono h, hQ2.mono h⟩)
  have HPA := Lib.hid hP3
  have HQA := Lib.hid hQ3
  clear hP1 hP2 hP3 hQ1 hQ2 hQ3
  obtain ⟨wo, hwo⟩ : ∃ wo, wo = ((w.alloc (.cells #[.int .i64 p.alphabet, .slice aP1 p.next.length cP1, .slice aP2 p.accept.length cP2] 29)).alloc (.cells #[.int .i64 q.alphabet, .slice aQ1 q.next.length cQ1, .slice aQ2 q.accept.length cQ2] 29)).alloc (.cells #[.int .i64 0, .slice none 0 0, .slice none 0 0] 29) := ⟨_, rfl⟩
  have he : Ext w wo := by rw [hwo]; exact ((Ext.alloc _ _).trans (Ext.alloc _ _)).trans (Ext.alloc _ _)
  have h3 : Blk wo w.heap.size #[.int .i64 p.alphabet, .slice aP1 p.next.length cP1, .slice aP2 p.accept.length cP2] 29 := by rw [hwo]; exact Ext.blk ((Ext.alloc _ _).trans (Ext.alloc _ _))
  have h4 : Blk wo (w.heap.size + 1) #[.int .i64 q.alphabet, .slice aQ1 q.next.length cQ1, .slice aQ2 q.accept.length cQ2] 29 := by rw [hwo]; exact Ext.blk1 (Ext.alloc _ _)
  have hR : Blk wo (w.heap.size + 1 + 1) #[.int .i64 0, .slice none 0 0, .slice none 0 0] 29 := by rw [hwo]; exact Ext.blk2 (Ext.refl _)
  have HK := Lib.hid hk
  have hk0 : ¬ kind < 0 := by omega
  have hk2 : ¬ 2 < kind := by omega
  clear hk
  go_enter Tryz.func29, Tryz.ntmps29
  go_upto_region 1 with fail
  rw [← hwo]
  clear hwo
  have pc0 := h3.cell 0 rfl; have pc1 := h3.cell 1 rfl; have pc2 := h3.cell 2 rfl
  have qc0 := h4.cell 0 rfl; have qc1 := h4.cell 1 rfl; have qc2 := h4.cell 2 rfl
  go_wp2_with fail
  refine (AutomatonValid_b hpp (HTP.out _ he)).mono ?_
  rintro e w1 ⟨rfl, he1⟩
  replace he := he.trans he1
  replace h3 := h3.ext he1
  replace h4 := h4.ext he1
  replace hR := hR.ext he1
  clear he1 pc0 pc1 pc2 qc0 qc1 qc2
  have pc0 := h3.cell 0 rfl; have pc1 := h3.cell 1 rfl; have pc2 := h3.cell 2 rfl
  have qc0 := h4.cell 0 rfl; have qc1 := h4.cell 1 rfl; have qc2 := h4.cell 2 rfl
  go_wp2_with fail
  refine (AutomatonValid_b hqq (HTQ.out _ he)).mono ?_
  rintro e w2 ⟨rfl, he1⟩
  replace he := he.trans he1
  replace h3 := h3.ext he1
  replace h4 := h4.ext he1
  replace hR := hR.ext he1
  clear he1 pc0 pc1 pc2 qc0 qc1 qc2
  have D0 := fun d os => cell_regrown (h3.cell 0 rfl) d os
  have D1 := fun d os => cell_regrown (h3.cell 1 rfl) d os
  have D2 := fun d os => cell_regrown (h3.cell 2 rfl) d os
  have D4 := fun d os => cell_regrown (h4.cell 0 rfl) d os
  have D5 := fun d os => cell_regrown (h4.cell 1 rfl) d os
  have D6 := fun d os => cell_regrown (h4.cell 2 rfl) d os
  go_upto_region 3 with fail
  obtain ⟨Kc, HKc⟩ : ∃ Kc : FuncId → Array Value → World → Value → World → Prop, Hid (Kc = fun (_ : FuncId) (args : Array Value) (w0 : World) (v : Value) (w' : World) => Ext w0 w' ∧ ∀ u x, args = #[u] → AutoV w0 u x → TabOwn w' v x) := ⟨_, rfl⟩
  refine wp_region_ext2 (Kc := Kc) 6 (fun i => i == 4 || i == 5) (by kernel_rfl) (by kernel_rfl) ?_
  simp only [List.take_succ_cons, List.take_zero]
  repeat (refine WalkE2.pure rfl rfl (fun K hK => ?_); simp only [PureDo]; go_simp; refine hK _ ?_; clear hK K)
  refine WalkE2.step (fun wd hwd hdd K hK => ?_)
  simp only [OpDo, OpSafe, OpOut]
  go_simp
  refine ⟨(tableOf_o _ p _ (HTP.out _ (he.trans ((Ext.drew _).trans hwd))) hpp).mono ?_, ?_⟩
  · rintro e w' ⟨v, rfl, he9, hv⟩
    exact ⟨v, rfl, by rw [HKc.out]; exact ⟨he9, fun u x hu hux => by simp only [Array.mk.injEq, List.cons.injEq, and_true] at hu; subst hu; rw [← (HTP.out _ (he.trans ((Ext.drew _).trans hwd))).inj hux]; exact hv⟩⟩
  intro u1 w5 hk1
  rw [HKc.out] at hk1
  have ht1 := hk1.2 _ p rfl (HTP.out _ (he.trans ((Ext.drew _).trans hwd)))
  refine ⟨hk1.1, hK _ _ ?_⟩
  clear hK K hdd hk1
  repeat (refine WalkE2.pure rfl rfl (fun K hK => ?_); simp only [PureDo]; go_simp; refine hK _ ?_; clear hK K)
  refine WalkE2.step (fun we hwe hde K hK => ?_)
  simp only [OpDo, OpSafe, OpOut]
  go_simp
  refine ⟨(tableOf_o _ q _ (HTQ.out _ (he.trans ((Ext.drew _).trans hwe))) hqq).mono ?_, ?_⟩
  · rintro e w' ⟨v, rfl, he9, hv⟩
    exact ⟨v, rfl, by rw [HKc.out]; exact ⟨he9, fun u x hu hux => by simp only [Array.mk.injEq, List.cons.injEq, and_true] at hu; subst hu; rw [← (HTQ.out _ (he.trans ((Ext.drew _).trans hwe))).inj hux]; exact hv⟩⟩
  intro u2 w6 hk2
  rw [HKc.out] at hk2
  have ht2 := hk2.2 _ q rfl (HTQ.out _ (he.trans ((Ext.drew _).trans hwe)))
  refine ⟨hk2.1, hK _ _ ?_⟩
  clear hK K hde hk2
  refine WalkE2.step (fun wf hwf hdf K hK => ?_)
  simp only [OpDo, OpSafe, OpOut]
  go_simp
  refine ⟨Ext.alloc _ _, hK _ _ ?_⟩
  clear hK K hdf
  refine WalkE2.step (fun wg hwg hdg K hK => ?_)
  simp only [OpDo, OpSafe, OpOut]
  go_simp
  refine ⟨Ext.alloc _ _, hK _ _ ?_⟩
  clear hK K hdg
  refine WalkE2.nil (fun wn hwn hmn htot => ?_)
  simp only [List.drop_succ_cons, List.drop_zero, List.drop_nil]
  have q1 := ht1.mono (hmn 1 (by omega))
  have q2 := ht2.mono (hmn 3 (by omega))
  have g1 := (Blk.new wf _ _).ext (hmn 4 (by omega))
  have g2 := (Blk.new wg _ _).ext (hmn 5 (by omega))
  have hne : wf.heap.size ≠ wg.heap.size := by
    rcases htot 4 5 (by omega) (by omega) (by omega) rfl rfl with h | h
    · have := h.size
      simp only [upd2, WW] at this
      simp at this
      omega
    · have := h.size
      simp only [upd2, WW] at this
      simp at this
      omega
  obtain ⟨aT1, cT1, rfl, -, -⟩ := q1.tab.open
  obtain ⟨aT2, cT2, rfl, -, -⟩ := q2.tab.open
  have s1 : w2.heap.size ≤ wf.heap.size := Nat.le_trans (Ext.drew _).size hwf.size
  have s2 : w2.heap.size ≤ wg.heap.size := Nat.le_trans (Ext.drew _).size hwg.size
  have hxn : Ext w2 wn := (Ext.drew _).trans hwn
  clear htot hmn ht1 ht2 hwd hwe hwf hwg hwn HKc D0 D1 D2 D4 D5 D6
  generalize wf.heap.size = b10 at g1 hne s1 ⊢
  generalize wg.heap.size = b11 at g2 hne s2 ⊢
  have cg1 := g1.cell 0 rfl
  have cg2 := g2.cell 0 rfl
  have fg1 := g1.fr 0
  have fg2 := g2.fr 0
  go_upto_region 4 with fail
  obtain ⟨w7, hw7⟩ : ∃ w7, w7 = (wn.setCell ⟨b10, 0, none⟩ (.slice aT1 (table p).length cT1)).setCell ⟨b11, 0, none⟩ (.slice aT2 (table q).length cT2) := ⟨_, rfl⟩
  have y7 : Ext w2 w7 := by rw [hw7]; exact (hxn.setCell (p := ⟨b10, 0, none⟩) (by simp only []; omega) _).setCell (p := ⟨b11, 0, none⟩) (by simp only []; omega) _
  have r1 : Blk w7 b10 #[.slice aT1 (table p).length cT1] 95 := by rw [hw7]; exact (g1.set 0 _).other (p := ⟨b11, 0, none⟩) hne _
  have r2 : Blk w7 b11 #[.slice aT2 (table q).length cT2] 95 := by rw [hw7]; exact (g2.other (p := ⟨b10, 0, none⟩) hne.symm _).set 0 _
  have x1 : TabOwn w7 (.slice aT1 (table p).length cT1) p := by rw [hw7]; exact (q1.store g1 (by decide) 0 _).store (g2.other (p := ⟨b10, 0, none⟩) hne.symm _) (by decide) 0 _
  have x2 : TabOwn w7 (.slice aT2 (table q).length cT2) q := by rw [hw7]; exact (q2.store g1 (by decide) 0 _).store (g2.other (p := ⟨b10, 0, none⟩) hne.symm _) (by decide) 0 _
  rw [← hw7]
  clear hw7 q1 q2 g1 g2 cg1 cg2 fg1 fg2 hxn s1 s2 hne
  clear wn
  replace he := he.trans y7
  replace h3 := h3.ext y7
  replace h4 := h4.ext y7
  replace hR := hR.ext y7
  clear y7
  obtain ⟨hal0, hal63, -⟩ := alP_facts hpp hqq
  have HALD : Hid (alP p q = bits .or .i64 p.alphabet q.alphabet) := Lib.hid rfl
  generalize alP p q = al at HALD hal0 hal63
  have eal := HALD.out.symm
  have c11 := r2.cell 0 rfl
  rw [table_len] at *
  go_upto_region 5 with fail
  obtain ⟨w8, hw8⟩ : ∃ w8, w8 = w7.alloc (.cells #[.int .i64 (q.next.length : Nat)] 3) := ⟨_, rfl⟩
  have y8 : Ext w7 w8 := by rw [hw8]; exact Ext.alloc _ _
  have hM : Blk w8 w7.heap.size #[.int .i64 (q.next.length : Nat)] 3 := by rw [hw8]; exact Blk.new _ _ _
  rw [← hw8]
  clear hw8
  have l7 := he.size
  generalize w7.heap.size = b12 at hM l7 ⊢
  have HG := Lib.hid (show GroundP w8 b10 b12 b11 p q from ⟨⟨_, r1.ext y8, x1.tab.mono y8⟩, hM, ⟨_, r2.ext y8, x2.tab.mono y8⟩⟩)
  replace he := he.trans y8
  replace h3 := h3.ext y8
  replace h4 := h4.ext y8
  replace hR := hR.ext y8
  clear r1 r2 x1 x2 c11
  have pc0 := h3.cell 0 rfl; have pc1 := h3.cell 1 rfl; have pc2 := h3.cell 2 rfl
  have qc0 := h4.cell 0 rfl; have qc1 := h4.cell 1 rfl; have qc2 := h4.cell 2 rfl
  go_upto_region 6 with fail
  obtain ⟨w9, hw9⟩ : ∃ w9, w9 = w8.alloc (.cells #[.int .i64 al, .slice none 0 0, .slice none 0 0] 29) := ⟨_, rfl⟩
  have y9 : Ext w8 w9 := by rw [hw9]; exact Ext.alloc _ _
  have hG : Blk w9 w8.heap.size #[.int .i64 al, .slice none 0 0, .slice none 0 0] 29 := by rw [hw9]; exact Blk.new _ _ _
  rw [← hw9]
  clear hw9
  have l8 := h4.lt
  have l82 := hR.lt
  have l83 := hM.lt
  generalize w8.heap.size = b13 at hG l8 l82 l83 ⊢
  replace he := he.trans y9
  replace h3 := h3.ext y9
  replace h4 := h4.ext y9
  replace hR := hR.ext y9
  replace hM := hM.ext y9
  clear pc0 pc1 pc2 qc0 qc1 qc2
  have gc0 := hG.cell 0 rfl
  go_wp2_with fail
  refine (lettersOf_c _ _ hal0 hal63).mono ?_
  rintro e w10 ⟨vl, rfl, y10, hl⟩
  obtain ⟨aL, cL, rfl, -, -⟩ := hl.open
  clear gc0
  have l91 := hG.lt
  have HN := Lib.hid (nx_prod ((HG.out.ext y9).ext y10) hpp hqq)
  have hB12 := Nat.mul_le_mul (TabOk.valid hpp).n12 (TabOk.valid hqq).n12
  have hB0 : 0 < p.next.length * q.next.length := Nat.mul_pos (TabOk.valid hpp).n1 (TabOk.valid hqq).n1
  have hL6 := lettersTo_len al 6
  go_wp2_with fail
  have halp : alP p q = al := HALD.out.symm
  rw [halp] at HN
  refine (numbered_c 0 12 (p.next.length * q.next.length) _ _ (letters al) (nxP p q) _ hl hL6 (by omega) (by omega) (by omega) hB0 HN.out).mono ?_
  rintro e w11 ⟨y11, hres⟩
  have he11 := (he.trans y10).trans y11
  replace h3 := (h3.ext y10).ext y11
  replace h4 := (h4.ext y10).ext y11
  replace hR := (hR.ext y10).ext y11
  replace hM := (hM.ext y10).ext y11
  replace hG := (hG.ext y10).ext y11
  have l10 := he.size
  have l102 := (he.trans y10).size
  have l103 : b13 < w10.heap.size := Nat.lt_of_lt_of_le l91 y10.size
  have l104 := y11.size
  clear HG y10 y11 hl he HN
  rcases hres with ⟨nodes, vS, vR, vs, rows, rfl, hnum, hlen, hP, hrows, hvl⟩ | ⟨rfl, htm⟩
  case inr =>
    have HTM := Lib.hid htm
    clear htm h3 h4 hM hG
    have rc0 := hR.cell 0 rfl; have rf0 := hR.fr 0; have rc1 := hR.cell 1 rfl; have rf1 := hR.fr 1; have rc2 := hR.cell 2 rfl; have rf2 := hR.fr 2
    go_wp2_with fail
    refine bodyPost_ret (v := .tuple #[.agg #[.int .i64 0, .slice none 0 0, .slice none 0 0], .bool false]) (by simp [results, Tryz.results29, go_sem, rc0, rc1, rc2, rf0, rf1, rf2]) rfl ?_
    exact ⟨_, false, rfl, (((he11.setCell (p := ⟨(w.heap.size + 1 + 1), 0, none⟩) (by simp only []; omega) _).setCell (p := ⟨(w.heap.size + 1 + 1), 1, none⟩) (by simp only []; omega) _).setCell (p := ⟨(w.heap.size + 1 + 1), 2, none⟩) (by simp only []; omega) _), .inr ⟨rfl, rfl, by rw [halp]; exact HTM.out⟩⟩
  obtain ⟨aR, cR, rfl⟩ := own_any' (Pool.hd2 hP)
  obtain ⟨aS, cS, rfl⟩ := own_any' (Pool.hd hP)
  have HB := Lib.hid (show ∀ n ∈ nodes, n < p.next.length * q.next.length from fun n hn => reach_lt hB0 (fun k l hk _ => nxP_lt hpp hqq hk l) (hnum.reach n hn))
  have HNU := Lib.hid hnum
  have HRW := Lib.hid hrows
  have HVL := Lib.hid hvl
  clear hnum hrows hvl
  have gc1 := hG.cell 1 rfl
  have gf1 := hG.fr 1
  go_upto_region 10 with fail
  have hP2 := Pool.set (hP.addNil 4 1) hG (fun t ht => by
    rcases List.mem_cons.1 ht with e | ht
    · rw [e]; dsimp only; decide
    rcases List.mem_cons.1 ht with e | ht
    · rw [e]; dsimp only; decide
    rcases List.mem_cons.1 ht with e | ht
    · rw [e]; dsimp only; decide
    · rw [slRows_e t ht]; decide) 1 (.slice aR nodes.length cR)
  have hG2 := hG.set 1 (.slice aR nodes.length cR)
  have h32 := h3.other (p := ⟨b13, 1, none⟩) (by simp only []; omega) (.slice aR nodes.length cR)
  have h42 := h4.other (p := ⟨b13, 1, none⟩) (by simp only []; omega) (.slice aR nodes.length cR)
  have hR2 := hR.other (p := ⟨b13, 1, none⟩) (by simp only []; omega) (.slice aR nodes.length cR)
  have hM2 := hM.other (p := ⟨b13, 1, none⟩) (by simp only []; omega) (.slice aR nodes.length cR)
  have hsz2 : w10.heap.size ≤ (w11.setCell ⟨b13, 1, none⟩ (.slice aR nodes.length cR)).heap.size := by simp; exact l104
  have he2 := he11.setCell (p := ⟨b13, 1, none⟩) (by simp only []; omega) (.slice aR nodes.length cR)
  clear hP hG h3 h4 hR hM he11 gc1 gf1
  generalize w11.setCell ⟨b13, 1, none⟩ (.slice aR nodes.length cR) = w12 at hP2 hG2 h32 h42 hR2 hM2 he2 hsz2 ⊢
  go_wp2_with fail
  go_loopw [64, 87, 90, 93, 94, 95, 96, 97, 98, 99, 100, 103, 104, 105, 106, 107, 108, 109, 110, 111] (fun i _ _ _ _ _ _ _ _ _ _ _ _ _ _ _ _ _ _ _ wr => ∃ (k : Nat) (va : Value), i = .int .i64 k ∧ k ≤ nodes.length ∧ Blk wr b13 #[.int .i64 al, .slice aR nodes.length cR, va] 29 ∧ Pool w10.heap.size wr (⟨4, 1, va, k, ((nodes.take k).map (accP p q kind)).map Value.bool⟩ :: numPool (.slice aS nodes.length cS) (.slice aR nodes.length cR) nodes.length nodes nodes.length vs rows) ∧ Blk wr w.heap.size #[.int .i64 p.alphabet, .slice aP1 p.next.length cP1, .slice aP2 p.accept.length cP2] 29 ∧ Blk wr (w.heap.size + 1) #[.int .i64 q.alphabet, .slice aQ1 q.next.length cQ1, .slice aQ2 q.accept.length cQ2] 29 ∧ Blk wr (w.heap.size + 1 + 1) #[.int .i64 0, .slice none 0 0, .slice none 0 0] 29 ∧ Blk wr b12 #[.int .i64 (q.next.length : Nat)] 3 ∧ Ext w wr ∧ w10.heap.size ≤ wr.heap.size) (fun i _ _ _ _ _ _ _ _ _ _ _ _ _ _ _ _ _ _ _ _ => nodes.length - (intOf i).toNat)
  case atStart => exact ⟨0, .slice none 0 0, rfl, by omega, hG2, hP2, h32, h42, hR2, hM2, he2, hsz2⟩
  case round =>
    clear hG2 hP2 h32 h42 hR2 hM2 he2 hsz2
    obtain ⟨k, va, rfl, hk, hG, hP, h3, h4, hR, hM, he, hsz⟩ := hrel
    obtain ⟨aA, cA, rfl⟩ := own_any' (Pool.hd hP)
    by_cases hlt : k < nodes.length
    case neg =>
      obtain rfl : k = nodes.length := by omega
      have gc0 := hG.cell 0 rfl
      have gc1 := hG.cell 1 rfl
      have gc2 := hG.cell 2 rfl
      have hx1 := HNU.out
      have hEND : AutoOwn w10.heap.size wr (.agg #[.int .i64 al, .slice aR nodes.length cR, .slice aA nodes.length cA]) (autoN (nxP p q) (alP p q) (accP p q kind) nodes) := by
        have hp := (hP.perm (((List.Perm.swap _ _ _).trans ((List.Perm.swap _ _ _).cons _)))).tail
        rw [List.take_length] at hp
        have := Pool.auto (x := autoN (nxP p q) al (accP p q kind) nodes) (vs := vs) (vn := .slice aR nodes.length cR) (va := .slice aA nodes.length cA) (w := wr) (base := w10.heap.size) (by
          have e1 : (autoN (nxP p q) al (accP p q kind) nodes).next = rows := HRW.out.symm
          have e2 : (autoN (nxP p q) al (accP p q kind) nodes).accept = nodes.map (accP p q kind) := rfl
          rw [e1, e2, HRW.out, List.length_map, List.length_map, ← HRW.out]
          exact hp) (by rw [HVL.out]; simp [autoN])
        rw [halp]; exact this
      have HEND := Lib.hid hEND
      clear hEND hP h3 h4 hM hx1
      have rc0 := hR.cell 0 rfl; have rf0 := hR.fr 0; have rc1 := hR.cell 1 rfl; have rf1 := hR.fr 1; have rc2 := hR.cell 2 rfl; have rf2 := hR.fr 2
      go_wp2_with fail
      refine bodyPost_ret (v := .tuple #[.agg #[.int .i64 al, .slice aR nodes.length cR, .slice aA nodes.length cA], .bool true]) (by simp [results, Tryz.results29, go_sem, rc0, rc1, rc2, rf0, rf1, rf2]) rfl ?_
      refine ⟨_, true, rfl, (((he.setCell (p := ⟨(w.heap.size + 1 + 1), 0, none⟩) (by simp only []; omega) _).setCell (p := ⟨(w.heap.size + 1 + 1), 1, none⟩) (by simp only []; omega) _).setCell (p := ⟨(w.heap.size + 1 + 1), 2, none⟩) (by simp only []; omega) _), .inl ⟨rfl, nodes, by rw [halp]; exact HNU.out, hlen, ?_⟩⟩
      exact (auto_store (auto_store (auto_store HEND.out hR (by decide) (by decide) (by decide) 0 _) (hR.set 0 _) (by decide) (by decide) (by decide) 1 _) ((hR.set 0 _).set 1 _) (by decide) (by decide) (by decide) 2 _).low (by omega)
    obtain ⟨n, hnk⟩ : ∃ n, nodes[k]? = some n := ⟨_, List.getElem?_eq_getElem (by omega)⟩
    obtain ⟨gS, cS', e6, gs⟩ := own_at (Pool.hd2 hP) (j := k) (u := .int .i64 n) (by rw [List.getElem?_map, ints_at hnk]; rfl)
    cases e6
    have hnB := HB.out n (List.mem_of_getElem? hnk)
    obtain ⟨n1, n2, n3⟩ := TabOk.valid hpp
    obtain ⟨m1, m2, m3⟩ := TabOk.valid hqq
    obtain ⟨M, hMd⟩ : ∃ M, Hid (M = q.next.length) := ⟨_, rfl⟩
    obtain ⟨K, hKd⟩ : ∃ K, Hid (K = p.next.length) := ⟨_, rfl⟩
    obtain ⟨d, hd⟩ : ∃ d, Hid (d = n / M) := ⟨_, rfl⟩
    obtain ⟨r, hr⟩ : ∃ r, Hid (r = n % M) := ⟨_, rfl⟩
    rw [← hMd.out] at hM m1 m2 m3 hnB
    rw [← hKd.out] at n1 n2 n3 hnB
    have hdK : d < K := by rw [hd.out]; exact Nat.div_lt_of_lt_mul (by rw [Nat.mul_comm]; exact hnB)
    have hrM : r < M := by rw [hr.out]; exact Nat.mod_lt _ m1
    have ta := accepts_at hpp (q := d) (by rw [← hKd.out]; exact hdK)
    have tq := accepts_at hqq (q := r) (by rw [← hMd.out]; exact hrM)
    have la := (List.getElem?_eq_some_iff.1 ta).1
    have lq := (List.getElem?_eq_some_iff.1 tq).1
    obtain ⟨b1, o1, rfl, -, hc1⟩ := HPA.out d _ ta
    obtain ⟨b2, o2, rfl, -, hc2⟩ := HQA.out r _ tq
    have g1 : wr.cell? ⟨b1, o1 + d, none⟩ = some (.bool (accepts p d)) := by have := hc1 d _ ta; rw [Nat.mul_one] at this; exact he.cell this
    have g2 : wr.cell? ⟨b2, o2 + r, none⟩ = some (.bool (accepts q r)) := by have := hc2 r _ tq; rw [Nat.mul_one] at this; exact he.cell this
    have hKM : K * M ≤ 12 * 12 := Nat.mul_le_mul n2 m2
    have e1 : Int.tdiv (n : Int) (M : Int) = (d : Int) := by rw [hd.out]; simp [Int.tdiv_eq_ediv_of_nonneg]
    have e3 : Int.tmod (n : Int) (M : Int) = (r : Int) := by rw [hr.out]; simp [Int.tmod_eq_emod_of_nonneg]
    have e7 : IntKind.i64.wrap (d : Int) = (d : Int) := by rw [IntKind.wrap_i64]; omega
    have m0 : ¬ M = 0 := by omega
    have i1 : (d : Int) < (p.accept.length : Int) := by omega
    have i2 : (r : Int) < (q.accept.length : Int) := by omega
    obtain ⟨z, hz⟩ : ∃ z, Hid (accP p q kind n = z) := ⟨_, rfl⟩
    have hzx : Hid (z = if kind = 0 then accepts p d && accepts q r else if kind = 1 then accepts p d || accepts q r else accepts p d && !accepts q r) := by
      show _ = _
      rw [← hz.out, hd.out, hr.out, hMd.out]; rfl
    generalize accepts p d = x at g1 hzx
    generalize accepts q r = y at g2 hzx
    have HNK := Lib.hid hnk
    have hlt' : (k : Int) < (nodes.length : Int) := by omega
    clear hc1 hc2 ta tq hnk hnB n3 m3 hKM
    go_upto_region 13 with fail
    have D0 := fun d os => cell_regrown (h3.cell 2 rfl) d os
    have D1 := fun d os => cell_regrown (h4.cell 2 rfl) d os
    have D2 := fun d os => cell_regrown (hM.cell 0 rfl) d os
    have D3 := fun d os => cell_regrown g1 d os
    have D4 := fun d os => cell_regrown g2 d os
    obtain ⟨Kc, HKc⟩ : ∃ Kc : FuncId → Array Value → World → Value → World → Prop, Hid (Kc = fun _ _ _ _ _ => True) := ⟨_, rfl⟩
    refine wp_region_ext (Kc := Kc) 16 (by kernel_rfl) (by kernel_rfl) ?_
    simp only [List.take_succ_cons, List.take_zero]
    repeat (refine WalkE.pure rfl (fun K hK => ?_); simp only [PureDo]; go_simp; refine hK _ ?_; clear hK K)
    refine WalkE.nil (fun wn hwn hmn => ?_)
    simp only [List.drop_succ_cons, List.drop_zero, List.drop_nil]
    have hxn : Ext wr wn := (Ext.drew _).trans hwn
    clear hmn HKc D0 D1 D2 D3 D4 hwn g1 g2 gs e1 e3 e7 m0 i1 i2
    rw [hMd.out] at hM
    replace hG := hG.ext hxn
    replace hP := hP.ext hxn
    replace h3 := h3.ext hxn
    replace h4 := h4.ext hxn
    replace hR := hR.ext hxn
    replace hM := hM.ext hxn
    replace he := he.trans hxn
    have hszn := Nat.le_trans hsz hxn.size
    have hFIN : ∀ v1 w14, Pool w10.heap.size w14 (⟨4, 1, v1, k + 1, ((nodes.take k).map (accP p q kind)).map Value.bool ++ [Value.bool z]⟩ :: numPool (.slice (some ⟨gS, 0, none⟩) nodes.length cS) (.slice aR nodes.length cR) nodes.length nodes nodes.length vs rows) → wn.grownBy w14 (Value.slice aA k cA).ownBlock → Below w10.heap.size wn w14 →
        ∃ (k' : Nat) (va : Value), Value.int .i64 ((k : Int) + 1) = .int .i64 k' ∧ k' ≤ nodes.length ∧ Blk (w14.setCell ⟨b13, 2, none⟩ v1) b13 #[.int .i64 al, .slice aR nodes.length cR, va] 29 ∧ Pool w10.heap.size (w14.setCell ⟨b13, 2, none⟩ v1) (⟨4, 1, va, k', ((nodes.take k').map (accP p q kind)).map Value.bool⟩ :: numPool (.slice (some ⟨gS, 0, none⟩) nodes.length cS) (.slice aR nodes.length cR) nodes.length nodes nodes.length vs rows) ∧ Blk (w14.setCell ⟨b13, 2, none⟩ v1) w.heap.size #[.int .i64 p.alphabet, .slice aP1 p.next.length cP1, .slice (some ⟨b1, o1, none⟩) p.accept.length cP2] 29 ∧ Blk (w14.setCell ⟨b13, 2, none⟩ v1) (w.heap.size + 1) #[.int .i64 q.alphabet, .slice aQ1 q.next.length cQ1, .slice (some ⟨b2, o2, none⟩) q.accept.length cQ2] 29 ∧ Blk (w14.setCell ⟨b13, 2, none⟩ v1) (w.heap.size + 1 + 1) #[.int .i64 0, .slice none 0 0, .slice none 0 0] 29 ∧ Blk (w14.setCell ⟨b13, 2, none⟩ v1) b12 #[.int .i64 (q.next.length : Nat)] 3 ∧ Ext w (w14.setCell ⟨b13, 2, none⟩ v1) ∧ w10.heap.size ≤ (w14.setCell ⟨b13, 2, none⟩ v1).heap.size := by
      intro v1 w14 hP1 hg1 hb1
      have hd := Pool.hd hP
      refine ⟨k + 1, v1, by go_num, by omega, (hG.grown hd hg1 (by decide)).set 2 v1, ?_, (h3.grown hd hg1 (by decide)).other (p := ⟨b13, 2, none⟩) (by simp only []; omega) _, (h4.grown hd hg1 (by decide)).other (p := ⟨b13, 2, none⟩) (by simp only []; omega) _, (hR.grown hd hg1 (by decide)).other (p := ⟨b13, 2, none⟩) (by simp only []; omega) _, (hM.grown hd hg1 (by decide)).other (p := ⟨b13, 2, none⟩) (by simp only []; omega) _, ?_, by simp; exact Nat.le_trans hszn hg1.size⟩
      · rw [List.take_add_one, HNK.out, List.map_append, List.map_append, ← hz.out] at *
        exact Pool.set hP1 (hG.grown hd hg1 (by decide)) (fun t ht => by
          rcases List.mem_cons.1 ht with e | ht
          · rw [e]; dsimp only; decide
          rcases List.mem_cons.1 ht with e | ht
          · rw [e]; dsimp only; decide
          rcases List.mem_cons.1 ht with e | ht
          · rw [e]; dsimp only; decide
          · rw [slRows_e t ht]; decide) 2 v1
      · exact (Below.trans he (hb1.mono (by omega))).setCell (p := ⟨b13, 2, none⟩) (by simp only []; omega) _
    have HFIN := Lib.hid hFIN
    clear hFIN
    have gc2 := hG.cell 2 rfl
    rcases HK.out with hkk | hkk <;> subst hkk <;> cases x <;> cases y
    · obtain rfl : z = false := hzx.out.trans (by simp)
      clear hzx
      go_wp2_with (at_builtin; refine appP (news := [Value.bool false]) rfl rfl Tryz.underlying27 infoBool rfl (by decide) hP rfl rfl rfl (by simp [Value.oneCell']) (by omega) (by decide) hszn ?_; intro v1 w14 hP1 hg1 hb1; obtain ⟨a1, c1, rfl⟩ := own_any' (Pool.hd hP1); have hG1 := hG.grown (Pool.hd hP) hg1 (by decide); have gd2 := hG1.cell 2 rfl; have gf2 := hG1.fr 2)
      obtain ⟨k', va', f1, f2, f3, f4, f5, f6, f7, f8, f9, f10⟩ := HFIN.out _ _ hP1 hg1 hb1
      exact ⟨⟨_, _, _, _, ⟨k', f1, f2, va', f3, (by simpa using f4), f5, f6, f7, f8, f9, (by simpa using f10)⟩, rfl, rfl, rfl, rfl⟩, by simp [intOf]; omega⟩
    · obtain rfl : z = false := hzx.out.trans (by simp)
      clear hzx
      go_wp2_with (at_builtin; refine appP (news := [Value.bool false]) rfl rfl Tryz.underlying27 infoBool rfl (by decide) hP rfl rfl rfl (by simp [Value.oneCell']) (by omega) (by decide) hszn ?_; intro v1 w14 hP1 hg1 hb1; obtain ⟨a1, c1, rfl⟩ := own_any' (Pool.hd hP1); have hG1 := hG.grown (Pool.hd hP) hg1 (by decide); have gd2 := hG1.cell 2 rfl; have gf2 := hG1.fr 2)
      obtain ⟨k', va', f1, f2, f3, f4, f5, f6, f7, f8, f9, f10⟩ := HFIN.out _ _ hP1 hg1 hb1
      exact ⟨⟨_, _, _, _, ⟨k', f1, f2, va', f3, (by simpa using f4), f5, f6, f7, f8, f9, (by simpa using f10)⟩, rfl, rfl, rfl, rfl⟩, by simp [intOf]; omega⟩
    · obtain rfl : z = false := hzx.out.trans (by simp)
      clear hzx
      go_wp2_with (at_builtin; refine appP (news := [Value.bool false]) rfl rfl Tryz.underlying27 infoBool rfl (by decide) hP rfl rfl rfl (by simp [Value.oneCell']) (by omega) (by decide) hszn ?_; intro v1 w14 hP1 hg1 hb1; obtain ⟨a1, c1, rfl⟩ := own_any' (Pool.hd hP1); have hG1 := hG.grown (Pool.hd hP) hg1 (by decide); have gd2 := hG1.cell 2 rfl; have gf2 := hG1.fr 2)
      obtain ⟨k', va', f1, f2, f3, f4, f5, f6, f7, f8, f9, f10⟩ := HFIN.out _ _ hP1 hg1 hb1
      exact ⟨⟨_, _, _, _, ⟨k', f1, f2, va', f3, (by simpa using f4), f5, f6, f7, f8, f9, (by simpa using f10)⟩, rfl, rfl, rfl, rfl⟩, by simp [intOf]; omega⟩
    · obtain rfl : z = true := hzx.out.trans (by simp)
      clear hzx
      go_wp2_with (at_builtin; refine appP (news := [Value.bool true]) rfl rfl Tryz.underlying27 infoBool rfl (by decide) hP rfl rfl rfl (by simp [Value.oneCell']) (by omega) (by decide) hszn ?_; intro v1 w14 hP1 hg1 hb1; obtain ⟨a1, c1, rfl⟩ := own_any' (Pool.hd hP1); have hG1 := hG.grown (Pool.hd hP) hg1 (by decide); have gd2 := hG1.cell 2 rfl; have gf2 := hG1.fr 2)
      obtain ⟨k', va', f1, f2, f3, f4, f5, f6, f7, f8, f9, f10⟩ := HFIN.out _ _ hP1 hg1 hb1
      exact ⟨⟨_, _, _, _, ⟨k', f1, f2, va', f3, (by simpa using f4), f5, f6, f7, f8, f9, (by simpa using f10)⟩, rfl, rfl, rfl, rfl⟩, by simp [intOf]; omega⟩
    · obtain rfl : z = false := hzx.out.trans (by simp)
      clear hzx
      go_wp2_with (at_builtin; refine appP (news := [Value.bool false]) rfl rfl Tryz.underlying27 infoBool rfl (by decide) hP rfl rfl rfl (by simp [Value.oneCell']) (by omega) (by decide) hszn ?_; intro v1 w14 hP1 hg1 hb1; obtain ⟨a1, c1, rfl⟩ := own_any' (Pool.hd hP1); have hG1 := hG.grown (Pool.hd hP) hg1 (by decide); have gd2 := hG1.cell 2 rfl; have gf2 := hG1.fr 2)
      obtain ⟨k', va', f1, f2, f3, f4, f5, f6, f7, f8, f9, f10⟩ := HFIN.out _ _ hP1 hg1 hb1
      exact ⟨⟨_, _, _, _, ⟨k', f1, f2, va', f3, (by simpa using f4), f5, f6, f7, f8, f9, (by simpa using f10)⟩, rfl, rfl, rfl, rfl⟩, by simp [intOf]; omega⟩
    · obtain rfl : z = true := hzx.out.trans (by simp)
      clear hzx
      go_wp2_with (at_builtin; refine appP (news := [Value.bool true]) rfl rfl Tryz.underlying27 infoBool rfl (by decide) hP rfl rfl rfl (by simp [Value.oneCell']) (by omega) (by decide) hszn ?_; intro v1 w14 hP1 hg1 hb1; obtain ⟨a1, c1, rfl⟩ := own_any' (Pool.hd hP1); have hG1 := hG.grown (Pool.hd hP) hg1 (by decide); have gd2 := hG1.cell 2 rfl; have gf2 := hG1.fr 2)
      obtain ⟨k', va', f1, f2, f3, f4, f5, f6, f7, f8, f9, f10⟩ := HFIN.out _ _ hP1 hg1 hb1
      exact ⟨⟨_, _, _, _, ⟨k', f1, f2, va', f3, (by simpa using f4), f5, f6, f7, f8, f9, (by simpa using f10)⟩, rfl, rfl, rfl, rfl⟩, by simp [intOf]; omega⟩
    · obtain rfl : z = true := hzx.out.trans (by simp)
      clear hzx
      go_wp2_with (at_builtin; refine appP (news := [Value.bool true]) rfl rfl Tryz.underlying27 infoBool rfl (by decide) hP rfl rfl rfl (by simp [Value.oneCell']) (by omega) (by decide) hszn ?_; intro v1 w14 hP1 hg1 hb1; obtain ⟨a1, c1, rfl⟩ := own_any' (Pool.hd hP1); have hG1 := hG.grown (Pool.hd hP) hg1 (by decide); have gd2 := hG1.cell 2 rfl; have gf2 := hG1.fr 2)
      obtain ⟨k', va', f1, f2, f3, f4, f5, f6, f7, f8, f9, f10⟩ := HFIN.out _ _ hP1 hg1 hb1
      exact ⟨⟨_, _, _, _, ⟨k', f1, f2, va', f3, (by simpa using f4), f5, f6, f7, f8, f9, (by simpa using f10)⟩, rfl, rfl, rfl, rfl⟩, by simp [intOf]; omega⟩
    · obtain rfl : z = true := hzx.out.trans (by simp)
      clear hzx
      go_wp2_with (at_builtin; refine appP (news := [Value.bool true]) rfl rfl Tryz.underlying27 infoBool rfl (by decide) hP rfl rfl rfl (by simp [Value.oneCell']) (by omega) (by decide) hszn ?_; intro v1 w14 hP1 hg1 hb1; obtain ⟨a1, c1, rfl⟩ := own_any' (Pool.hd hP1); have hG1 := hG.grown (Pool.hd hP) hg1 (by decide); have gd2 := hG1.cell 2 rfl; have gf2 := hG1.fr 2)
      obtain ⟨k', va', f1, f2, f3, f4, f5, f6, f7, f8, f9, f10⟩ := HFIN.out _ _ hP1 hg1 hb1
      exact ⟨⟨_, _, _, _, ⟨k', f1, f2, va', f3, (by simpa using f4), f5, f6, f7, f8, f9, (by simpa using f10)⟩, rfl, rfl, rfl, rfl⟩, by simp [intOf]; omega⟩

theorem ProductAutomaton_bad (vp vq : Value) (p q : Auto) (kind : Int) (w : World) (hvp : AutoV w vp p) (hvq : AutoV w vq q) (hbad : autoValid p = false ∨ autoValid q = false) :
    Calls Tryz.prog 29 #[vp, vq, .int .i64 kind] w (fun e w' => e = .returned (.tuple #[.agg #[.int .i64 0, .slice none 0 0, .slice none 0 0], .bool false]) ∧ Ext w w') := by
  obtain ⟨vnp, vap, rfl, hP1, hP2⟩ := hvp
  obtain ⟨aP1, cP1, rfl, -, -⟩ := hP1.open
  obtain ⟨aP2, cP2, rfl, -, hP3⟩ := hP2.open
  obtain ⟨vnq, vaq, rfl, hQ1, hQ2⟩ := hvq
  obtain ⟨aQ1, cQ1, rfl, -, -⟩ := hQ1.open
  obtain ⟨aQ2, cQ2, rfl, -, hQ3⟩ := hQ2.open
  have HTP := Lib.hid (show ∀ w', Ext w w' → AutoV w' (.agg #[.int .i64 p.alphabet, .slice aP1 p.next.length cP1, .slice aP2 p.accept.length cP2]) p from fun w' h => ⟨_, _, rfl, hP1.mono h, hP2.mono h⟩)
  have HTQ := Lib.hid (show ∀ w', Ext w w' → AutoV w' (.agg #[.int .i64 q.alphabet, .slice aQ1 q.next.length cQ1, .slice aQ2 q.accept.length cQ2]) q from fun w' h => ⟨_, _, rfl, hQ1.mono h, hQ2.mono h⟩)
  clear hP1 hP2 hP3 hQ1 hQ2 hQ3
  obtain ⟨wo, hwo⟩ : ∃ wo, wo = ((w.alloc (.cells #[.int .i64 p.alphabet, .slice aP1 p.next.length cP1, .slice aP2 p.accept.length cP2] 29)).alloc (.cells #[.int .i64 q.alphabet, .slice aQ1 q.next.length cQ1, .slice aQ2 q.accept.length cQ2] 29)).alloc (.cells #[.int .i64 0, .slice none 0 0, .slice none 0 0] 29) := ⟨_, rfl⟩
  have he : Ext w wo := by rw [hwo]; exact ((Ext.alloc _ _).trans (Ext.alloc _ _)).trans (Ext.alloc _ _)
  have h3 : Blk wo w.heap.size #[.int .i64 p.alphabet, .slice aP1 p.next.length cP1, .slice aP2 p.accept.length cP2] 29 := by rw [hwo]; exact Ext.blk ((Ext.alloc _ _).trans (Ext.alloc _ _))
  have h4 : Blk wo (w.heap.size + 1) #[.int .i64 q.alphabet, .slice aQ1 q.next.length cQ1, .slice aQ2 q.accept.length cQ2] 29 := by rw [hwo]; exact Ext.blk1 (Ext.alloc _ _)
  have hR : Blk wo (w.heap.size + 1 + 1) #[.int .i64 0, .slice none 0 0, .slice none 0 0] 29 := by rw [hwo]; exact Ext.blk2 (Ext.refl _)
  go_enter Tryz.func29, Tryz.ntmps29
  go_upto_region 1 with fail
  rw [← hwo]
  clear hwo
  have pc0 := h3.cell 0 rfl; have pc1 := h3.cell 1 rfl; have pc2 := h3.cell 2 rfl
  have qc0 := h4.cell 0 rfl; have qc1 := h4.cell 1 rfl; have qc2 := h4.cell 2 rfl
  obtain ⟨b, hb⟩ : ∃ b, autoValid p = b := ⟨_, rfl⟩
  go_wp2_with fail
  refine (AutomatonValid_b hb (HTP.out _ he)).mono ?_
  rintro e w1 ⟨rfl, he1⟩
  replace he := he.trans he1
  replace h3 := h3.ext he1
  replace h4 := h4.ext he1
  replace hR := hR.ext he1
  clear he1 pc0 pc1 pc2 qc0 qc1 qc2
  have pc0 := h3.cell 0 rfl; have pc1 := h3.cell 1 rfl; have pc2 := h3.cell 2 rfl
  have qc0 := h4.cell 0 rfl; have qc1 := h4.cell 1 rfl; have qc2 := h4.cell 2 rfl
  cases b with
  | false =>
    have rc0 := hR.cell 0 rfl; have rf0 := hR.fr 0; have rc1 := hR.cell 1 rfl; have rf1 := hR.fr 1; have rc2 := hR.cell 2 rfl; have rf2 := hR.fr 2
    go_wp2_with fail
    refine bodyPost_ret (v := .tuple #[.agg #[.int .i64 0, .slice none 0 0, .slice none 0 0], .bool false]) (by simp [results, Tryz.results29, go_sem, rc0, rc1, rc2, rf0, rf1, rf2]) rfl ?_
    exact ⟨rfl, (((he.setCell (p := ⟨(w.heap.size + 1 + 1), 0, none⟩) (by simp only []; omega) _).setCell (p := ⟨(w.heap.size + 1 + 1), 1, none⟩) (by simp only []; omega) _).setCell (p := ⟨(w.heap.size + 1 + 1), 2, none⟩) (by simp only []; omega) _)⟩
  | true =>
    have hqb : autoValid q = false := by simpa [hb] using hbad
    go_wp2_with fail
    refine (AutomatonValid_b hqb (HTQ.out _ he)).mono ?_
    rintro e w2 ⟨rfl, he1⟩
    replace he := he.trans he1
    replace hR := hR.ext he1
    have rc0 := hR.cell 0 rfl; have rf0 := hR.fr 0; have rc1 := hR.cell 1 rfl; have rf1 := hR.fr 1; have rc2 := hR.cell 2 rfl; have rf2 := hR.fr 2
    go_wp2_with fail
    refine bodyPost_ret (v := .tuple #[.agg #[.int .i64 0, .slice none 0 0, .slice none 0 0], .bool false]) (by simp [results, Tryz.results29, go_sem, rc0, rc1, rc2, rf0, rf1, rf2]) rfl ?_
    exact ⟨rfl, (((he.setCell (p := ⟨(w.heap.size + 1 + 1), 0, none⟩) (by simp only []; omega) _).setCell (p := ⟨(w.heap.size + 1 + 1), 1, none⟩) (by simp only []; omega) _).setCell (p := ⟨(w.heap.size + 1 + 1), 2, none⟩) (by simp only []; omega) _)⟩
end Go.Proofs.YthpiihblmekijaaGreatDoor
