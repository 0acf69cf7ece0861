/- Draws: l4Change, DrawKeepsProperty. -/
import Derived.Test.YtccklliljdembaaDrawU
import Derived.Test.YtccklliljdembaaWalkR
import Derived.Test.YtccklliljdembaaDrawE
import Derived.Test.YtccklliljdembaaSubS

namespace Go.Proofs.Ytccklliljdembaa
set_option linter.unusedSimpArgs false
set_option linter.unusedVariables false
open Go.RowKit
set_option maxHeartbeats 12000000
set_option maxRecDepth 100000
attribute [local go_sem ↓] Go.wp_at_zero Go.wp_at_succ

section
variable {P : Program} {D D' : Nat → Prop} {g q q' : Nat} {w w' w0 : World} {e : TypeId} {n m : Nat} {v : Value}
/-- A typed slice's cells. -/
theorem SlOk.own {sz : Nat} (h : SlOk D w e sz v n) : ∃ xs, w.ownsRow 0 e sz v n xs := by
  rcases h with ⟨rfl, rfl⟩ | ⟨b, cap, cs, rfl, hb, hh, hnc, hcm, hcs⟩
  · exact ⟨[], World.ownsRow_nil _ _ _ _⟩
  · refine ⟨cs.toList.take (n * sz), ?_, .inr ⟨b, cap, cs, rfl, Nat.zero_le _, hh, hnc, hcm, hcs, rfl⟩⟩
    rw [List.length_take, Array.length_toList, hcs]
    exact Nat.min_eq_left (Nat.mul_le_mul_right _ hnc)
/-- An append in typed memory, of which it is also known what the cells hold. -/
theorem app_t2 {ops : Array Oper} {rest : List Oper} {o : Oper} {a : Act} {Q : Exit → Act → World → Prop} (hgd : o.guard = none) (s x : Operand) (t : TypeId) {size bytes : Nat} {z : Value} {xs : List Value}
    (ho : o.op = .call { callee := .builtin .append, args := #[s, x], argTypes := #[t, t] }) (ht : P.underlying t = some (.slice e)) (hinfo : (P.info? e).map (fun i => (i.zero, i.size, i.bytes)) = some (some z, size, bytes)) (hzs : z.cells.size = size) (hsz : 0 < size) (hp : Per e size)
    (hzk : ∀ D q w, Kin D q w e z.cells.toList) (h : St D g q w) (hs : SlOk D w e size v n) (hown : w.ownsRow 0 e size v n xs) (hev : a.eval s = v) {ad : Addr} {c : Nat} {news : List Value} (hx : a.eval x = .slice (some ad) m c) (hl : news.length = m * size) (hnews : ∀ j u, news[j]? = some u → w.cell? (ad.add j) = some u)
    (h1 : ∀ u ∈ news, u.oneCell' = true) (hk : Kin D q w e news) (hnm : n + m ≤ 4294967296) (hby : bytes ≤ 1024) (hqq : q ≤ q')
    (hQ : ∀ v' w' D', Inc D D' w → St D' g q' w' → Tr D g w w' → SlOk D' w' e size v' (n + m) → w'.ownsRow 0 e size v' (n + m) (xs ++ news) → w.grownBy w' v.ownBlock → wpList P ops Q rest (a.put o.dst v') w') : wpList P ops Q (o :: rest) a w := by
  obtain ⟨i, hi, hz, rfl, rfl⟩ := info_parts hinfo
  obtain ⟨v', w', D', hr, h2, h3, h4, h5⟩ := run_app_t (P := P) t o.type i z ht hi hz hzs hsz hp hzk h hs ad c news hl hnews h1 hk (by unfold maxLen; omega) (by have := Nat.mul_le_mul hnm hby; omega) hqq
  obtain ⟨v2, w2, hr2, g1, g2, -, -⟩ := run_append_own_at (P := P) (w := w) 0 t o.type e i z i.size i.bytes ht hi hz rfl rfl hzs hsz v n xs hown ad m c news hl hnews h1 (by unfold maxLen; omega) (by have := Nat.mul_le_mul hnm hby; omega) (Nat.zero_le _)
  rw [hr] at hr2
  cases hr2
  refine wpList_plain hgd fun _ hK => ?_
  unfold Oper.wp execOp
  simp only [ho, resolve, invoke, builtin, Sem.run_bind, Sem.run_pure, Result.andThen_ok, List.map_toArray, List.map_cons, List.map_nil, hev, hx, hr]
  exact hK _ _ (hQ v' w' D' h2 h3 h4 h5 g1 g2)
end

variable {D D' : Nat → Prop} {g q q' : Nat} {w w' : World}

end Go.Proofs.Ytccklliljdembaa

namespace Go.Proofs.Ytccklliljdembaa
set_option linter.unusedSimpArgs false
set_option linter.unusedVariables false
open Go.RowKit
set_option maxHeartbeats 4000000
set_option maxRecDepth 100000
attribute [local go_sem ↓] Go.wp_at_zero Go.wp_at_succ

variable {D D' : Nat → Prop} {g q q' : Nat} {w w' : World}

theorem subset_bounds {s : Sys} {a H : Int} {nodes : List Nat} (h12 : nodes.length ≤ 12) : (subsetA s a H nodes).next.length ≤ 12 ∧ (subsetA s a H nodes).accept.length ≤ 12 ∧ ∀ r ∈ (subsetA s a H nodes).next, r.length ≤ 12 := by
  refine ⟨by simpa [subsetA, autoN] using h12, by simpa [subsetA, autoN] using h12, fun r hr => ?_⟩
  obtain ⟨n, -, rfl⟩ := List.mem_map.1 (show r ∈ nodes.map (rowN _ (letters a) nodes) from hr)
  have := lettersTo_len a 6
  simp only [rowN, List.length_map]
  unfold letters; omega

theorem six_of' {G5 G6 : Nat} {x1 x2 x3 y1 y2 y3 : Value} {t1 t2 : TypeId} (h5 : Blk w G5 #[x1, x2, x3] t1) (h6 : Blk w G6 #[y1, y2, y3] t2) :
    w.cell? ⟨G5, 0, none⟩ = some x1 ∧ w.cell? ⟨G5, 1, none⟩ = some x2 ∧ w.cell? ⟨G5, 2, none⟩ = some x3 ∧ w.cell? ⟨G6, 0, none⟩ = some y1 ∧ w.cell? ⟨G6, 1, none⟩ = some y2 ∧ w.cell? ⟨G6, 2, none⟩ = some y3 :=
  ⟨h5.cell 0 rfl, h5.cell 1 rfl, h5.cell 2 rfl, h6.cell 0 rfl, h6.cell 1 rfl, h6.cell 2 rfl⟩

end Go.Proofs.Ytccklliljdembaa
