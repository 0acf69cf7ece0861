import Derived.Test.YtadplnbadfnlfaaGreatDoorDrawD
import Derived.Deep.DeepCutAuto
import Derived.Test.YtadplnbadfnlfaaGreatDoorDrawF
import Derived.Test.YtadplnbadfnlfaaGreatDoorDrawK
import Derived.Deep.RegionHeld3
import Derived.Deep.CutBlock
namespace Go.Proofs.YtadplnbadfnlfaaGreatDoor
set_option linter.unusedSimpArgs false
set_option linter.unusedVariables false
open Go.RowKit
set_option maxHeartbeats 1000000
set_option maxRecDepth 100000
attribute [local go_sem ↓] Go.wp_at_zero Go.wp_at_succ
variable {D D':Nat→Prop} {g q q':Nat} {w w':World}
theorem cells1 {wn wd:World} {x:Value} {t:TypeId} (h:Ext (wd.alloc (.cells #[x] t)) wn):∀(j':Nat) (u:Value),[x][j']?=some u→wn.cell? ((⟨wd.heap.size,0,none⟩:Addr).add j')=some u:=fun j' u hu=>by
 rw [add_none,Nat.zero_add]
 match j',hu with
 | 0,hu=>simp at hu;subst hu;exact h.new 0 rfl
 | j'+1,hu=>simp at hu
end Go.Proofs.YtadplnbadfnlfaaGreatDoor
namespace Go.Proofs.YtadplnbadfnlfaaGreatDoor
set_option linter.unusedSimpArgs false
set_option linter.unusedVariables false
open Go.RowKit
set_option maxHeartbeats 1000000
set_option maxRecDepth 100000
attribute [local go_sem ↓] Go.wp_at_zero Go.wp_at_succ
variable {D D' D'':Nat→Prop} {g q q':Nat} {w w':World}
theorem Box.other3 {b b' c:Nat} {cs:Array Value} {t:TypeId} {w0:World} (h:Box D g q w0 b c cs t w D') (hg:g<b') (hd:∀x,D x→x<w0.heap.size) (hb:w0.heap.size≤b') (hn:b≠b') (ho:¬D' b') (u v x:Value) :
  Box D g q w0 b c cs t (((w.setCell ⟨b',0,none⟩ u).setCell ⟨b',1,none⟩ v).setCell ⟨b',2,none⟩ x) D':=
 ((h.other hg hd hb hn ho 0 u).other hg hd hb hn ho 1 v).other hg hd hb hn ho 2 x
theorem Box.set3 {b c:Nat} {p r s:Value} {t:TypeId} {w0:World} (h:Box D g q w0 b c #[p,r,s] t w D') (hg:g<b) (hd:∀x,D x→x<w0.heap.size) (hb:w0.heap.size≤b) (u v x:Value) :
  Box D g q w0 b c #[u,v,x] t (((w.setCell ⟨b,0,none⟩ u).setCell ⟨b,1,none⟩ v).setCell ⟨b,2,none⟩ x) D':=
 ((h.set hg hd hb 0 u).set hg hd hb 1 v).set hg hd hb 2 x
theorem SlOk.box3 {e:TypeId} {sz n b:Nat} {y:Value} (h:SlOk D w e sz y n) (ho:¬D b) (u v x:Value):SlOk D (((w.setCell ⟨b,0,none⟩ u).setCell ⟨b,1,none⟩ v).setCell ⟨b,2,none⟩ x) e sz y n:=
 ((h.tr (fun _ h=>h) (Shp.box ho)).tr (fun _ h=>h) (Shp.box ho)).tr (fun _ h=>h) (Shp.box ho)
theorem six_of {G5 G6:Nat} {x1 x2 x3 y1 y2 y3:Value} {t1 t2:TypeId} (h5:Blk w G5 #[x1,x2,x3] t1) (h6:Blk w G6 #[y1,y2,y3] t2) :
  w.cell? ⟨G5,0,none⟩=some x1∧w.cell? ⟨G5,1,none⟩=some x2∧w.cell? ⟨G5,2,none⟩=some x3∧w.cell? ⟨G6,0,none⟩=some y1∧w.cell? ⟨G6,1,none⟩=some y2∧w.cell? ⟨G6,2,none⟩=some y3:=
 ⟨h5.cell 0 rfl,h5.cell 1 rfl,h5.cell 2 rfl,h6.cell 0 rfl,h6.cell 1 rfl,h6.cell 2 rfl⟩
theorem Typed.tnd {S:Nat→Prop} (h:Typed D q w) (ht:Tnd S w w') (hS:∀b,S b→¬D b):Typed D q w':=fun b hb=>by
 obtain ⟨cs,t,h1,h2⟩:=h b hb
 have hsh:Shp D w w':=Shp.tnd ht fun b hb hs=>hS b hs hb
 exact ⟨cs,t,by rw [ht.block b (Array.getElem?_eq_some_iff.1 h1).1 (fun hs=>hS b hs hb)];exact h1,fun i v hv=>let ⟨k,h3,h4⟩:=h2 i v hv;⟨k,h3,h4.tr (fun _ h=>h) hsh (Nat.le_refl _)⟩⟩
structure Bare (D:Nat→Prop) (g q:Nat) (w0:World) (c:Nat) (w:World) (D':Nat→Prop):Prop where
 inc:Inc D D' w0
 st:St D' g (q+c) w
 tr:Tr D g w0 w
theorem Bare.new (h:St D g q w):Bare D g q w 0 w D:=⟨Inc.refl _ _,h,Tr.refl _ _ _⟩
theorem Bare.kept {c c':Nat} {w0:World} (h:Bare D g q w0 c w D') (hk:Kept g w w') (hs:St D' g (q+c') w'):Bare D g q w0 c' w' D':=⟨h.inc,hs,h.tr.trans h.inc (Tr.kept h.st hk)⟩
theorem Bare.drawn {c c':Nat} {w0:World} (h:Bare D g q w0 c w D') (hi:Inc D' D'' w) (hk:Tr D' g w w') (hs:St D'' g (q+c') w'):Bare D g q w0 c' w' D'':=⟨h.inc.trans h.tr.size hi,hs,h.tr.trans h.inc hk⟩
theorem Bare.ext {c:Nat} {w0:World} (h:Bare D g q w0 c w D') (he:Ext w w'):Bare D g q w0 c w' D':=⟨h.inc,h.st.ext he,h.tr.trans h.inc (Tr.ext h.st he)⟩
end Go.Proofs.YtadplnbadfnlfaaGreatDoor
