import Derived.Test.YtadplnbadfnlfaaGreatDoorDrawX
namespace Go.Proofs.YtadplnbadfnlfaaGreatDoor
set_option linter.unusedSimpArgs false
set_option linter.unusedVariables false
open Go.RowKit
set_option maxHeartbeats 1000000
set_option maxRecDepth 100000
section
variable {D D':Nat→Prop} {g q q':Nat} {w w0 w':World} {e:TypeId} {n m:Nat} {P:Program}
theorem OpDo.of_run {ops:Array Oper} {Kc:FuncId→Array Value→World→Value→World→Prop} {R:World→World→Prop} {o:Oper} {a:Act} {K:Value→World→Prop} {v:Value} (hgd:o.guard=none)
  (hr:(execOp a.eval o).run P w=.ok (.value v) w') (hR:R w w') (hK:K v w'):OpDo P ops Kc R o a w K:=by
 have hw:Region.wanted o (yielded ops a.tmps)=true:=by simp [Region.wanted,hgd]
 refine ⟨fun _=>by rw [hr];trivial,fun v' w'' ho=>?_⟩
 unfold OpOut at ho
 rw [if_pos hw,hr] at ho
 obtain ⟨rfl,rfl⟩:=ho
 exact ⟨hR,hK⟩
theorem copy_do {ops:Array Oper} {Kc:FuncId→Array Value→World→Value→World→Prop} {o:Oper} {a:Act} {K:Value→World→Prop} {s x:Operand} {t:TypeId} {size bytes b:Nat} {z u:Value} (hgd:o.guard=none)
  (ho:o.op=.call { callee:=.builtin .append,args:=#[s,x],argTypes:=#[t,t] }) (ht:P.underlying t=some (.slice e)) (hinfo:(P.info? e).map (fun i=>(i.zero,i.size,i.bytes))=some (some z,size,bytes)) (hzs:z.cells.size=size) (hsz:0<size) (hp:Per e size)
  (hzk:∀D q w,Kin D q w e z.cells.toList) (h0:St D g q w0) (hw0:Ext w0 w) (hb:w0.heap.size≤b) (hlit:Blk w b #[] e) (hu:SlOk D w e size u m) (hev:a.eval s=.slice (some ⟨b,0,none⟩) 0 0) (hx:a.eval x=u)
  (hnm:m≤4294967296) (hby:bytes≤1024)
  (hQ:∀v' w' D',Ext w w'→Inc D D' w0→St D' g q w'→SlOk D' w' e size v' m→(∀x,D' x→D x∨∃cs,w'.heap[x]?=some (.cells cs e (0,0)))→K v' w'):OpDo P ops Kc Ext o a w K:=by
 obtain ⟨i,hi,hz,rfl,rfl⟩:=info_parts hinfo
 have h:=h0.ext hw0
 obtain ⟨l,hl,hk,hc⟩:=hu.kin h.typ
 have none_:m=0→(Builtin.append_ #[t,t] o.type #[.slice (some ⟨b,0,none⟩) 0 0,u]).run P w=.ok (.slice (some ⟨b,0,none⟩) 0 0) w→OpDo P ops Kc Ext o a w K:=fun hm hr=>by
  subst hm
  obtain ⟨h2,h3⟩:=h0.new hw0 hb hlit (fun i u hu=>by simp at hu)
  refine OpDo.of_run (v:=.slice (some ⟨b,0,none⟩) 0 0) (w':=w) hgd ?_ (Ext.refl _) (hQ _ _ _ (Ext.refl _) h2 h3 (.inr ⟨b,0,#[],rfl,.inr rfl,hlit,by omega,by unfold maxLen;omega,by simp⟩) (fun x hx=>by rcases hx with hx | rfl;exact .inl hx;exact .inr ⟨_,hlit⟩))
  unfold execOp
  simp only [ho,resolve,invoke,builtin,Sem.run_bind,Sem.run_pure,Result.andThen_ok,List.map_toArray,List.map_cons,List.map_nil,hev,hx,hr]
 by_cases hm:m=0
 ·refine none_ hm ?_
  subst hm
  rcases hu with ⟨rfl,_⟩ | ⟨b',cap,cs,rfl,hb',hh,hnc,hcm,hcs⟩
  ·simp [Builtin.append_,run_underlying ht,sizeOf,typeInfo,hi,Builtin.lenOf,Builtin.firstCells,loadCells,loadCellsFrom,storeCells]
  ·simp [Builtin.append_,run_underlying ht,sizeOf,typeInfo,hi,Builtin.lenOf,Builtin.firstCells,loadCells,loadCellsFrom,storeCells]
 ·rcases hu with ⟨rfl,h3⟩ | ⟨b',cap,cs,rfl,hb',hh,hnc,hcm,hcs⟩
  ·omega
  ·obtain ⟨-,hc'⟩:=hc b' 0 cap rfl
   have hr:=run_append_grow (P:=P) w t o.type e i z ht hi hz ⟨b,0,none⟩ 0 0 [] (by simp) (fun j v h=>by simp at h) ⟨b',0,none⟩ m cap l hl hc' (by omega) (by omega) (growslice_fits (by omega) (by rw [Nat.zero_add];have:=Nat.mul_le_mul hnm hby;omega))
   simp only [Nat.zero_add,List.nil_append,Array.empty_append] at hr
   have he:Ext w (w.drew.alloc (.cells (l.toArray++Builtin.zeroCells z.cells (grownCap w m 0 e-m)) e)):=(Ext.drew w).trans (Ext.alloc _ _)
   have hsh:=(Tr.ext h he).shp
   have hkk:Kin D q (w.drew.alloc (.cells (l.toArray++Builtin.zeroCells z.cells (grownCap w m 0 e-m)) e)) e (l.toArray++Builtin.zeroCells z.cells (grownCap w m 0 e-m)).toList:=by
    simp only [Array.toList_append]
    exact Kin.append (n:=m) hp (hk.tr (fun _ h=>h) hsh (Nat.le_refl _)) hl (Kin.zeros hp hzs hsz (hzk _ _ _) _)
   obtain ⟨h2,h3⟩:=h.new (e:=e) he (Nat.le_refl _) (heap_alloc_new w.drew _) hkk
   have hge:=grownCap_ge w m 0 e
   have hcm':grownCap w m 0 e≤maxLen:=grownCap_le_maxLen w m 0 e (by unfold maxLen;omega)
   refine OpDo.of_run hgd ?_ he (hQ _ _ _ he (h2.low hw0.size) h3 (.inr ⟨w.heap.size,grownCap w m 0 e,_,rfl,.inr rfl,heap_alloc_new w.drew _,hge,hcm',?_⟩) (fun x hx=>by rcases hx with hx | rfl;exact .inl hx;exact .inr ⟨_,heap_alloc_new w.drew _⟩))
   ·unfold execOp
    simp only [ho,resolve,invoke,builtin,Sem.run_bind,Sem.run_pure,Result.andThen_ok,List.map_toArray,List.map_cons,List.map_nil,hev,hx]
    rw [hr]
    rfl
   ·simp only [Array.size_append,List.size_toArray,size_zeroCells,hzs,hl,←Nat.add_mul]
    congr 1;omega
theorem Box.grow {b c c':Nat} {cs:Array Value} {t:TypeId} {w0 wn:World} {D'':Nat→Prop} (h:Box D g q w0 b c cs t w D') (he:Ext w wn) (hi:Inc D' D'' w) (hs:St D'' g (q+c') wn):Box D g q w0 b c' cs t wn D'':=
 ⟨h.inc.trans h.tr.size hi,hs,h.tr.trans h.inc (Tr.ext h.st he),h.blk.ext he,hi.out h.out h.blk.lt⟩
theorem Box.beside {b c c' G:Nat} {cs csG:Array Value} {t tG:TypeId} {w0 wn w5:World} {D'':Nat→Prop} (h:Box D g q w0 b c cs t w D') (he:Ext w wn) (hi:Inc D' D'' w) (hs:St D'' g (q+c') wn) (hG:Blk wn G csG tG) (hGw:w.heap.size≤G)
  (h5:Ext w5 wn) (hd:∀x,D'' x→D' x∨∃cs,w5.heap[x]?=some (.cells cs e (0,0))) (hne:tG≠e):Box D g q w0 G c' csG tG wn D'':=
 ⟨h.inc.trans h.tr.size hi,hs,h.tr.trans h.inc (Tr.ext h.st he),hG,fun hx=>by
  rcases hd G hx with h1 | ⟨cs,h1⟩
  ·have:=(h.st.dom G h1).2;omega
  ·have h2:=(h5.block G (Array.getElem?_eq_some_iff.1 h1).1).trans h1
   rw [show wn.heap[G]?=some (.cells csG tG (0,0)) from hG] at h2
   cases h2
   exact hne rfl⟩
end
end Go.Proofs.YtadplnbadfnlfaaGreatDoor
namespace Go.Proofs.YtadplnbadfnlfaaGreatDoor
set_option linter.unusedSimpArgs false
set_option linter.unusedVariables false
open Go.RowKit
set_option maxHeartbeats 1000000
set_option maxRecDepth 100000
attribute [local go_sem ↓] Go.wp_at_zero Go.wp_at_succ
variable {D D':Nat→Prop} {g q q':Nat} {w w':World}
theorem SlOk.store_edge {n i j:Nat} {v:Value} (hs:SlOk D w 103 3 v n) (h:St D g q w) (hi:i<n) (hj:j<3):∃b cap u,v=.slice (some ⟨b,0,none⟩) n cap∧w.cell? ⟨b,i*3+j,none⟩=some (.int .i64 u)∧w.frozen? ⟨b,i*3+j,none⟩=false∧∀x,St D g q (w.setCell ⟨b,i*3+j,none⟩ (.int .i64 x))∧Tr D g w (w.setCell ⟨b,i*3+j,none⟩ (.int .i64 x)):=by
 obtain ⟨b,cap,cs,u,k,rfl,hb,hh,h1,hf,h2,h3⟩:=hs.at h.typ hi hj
 have h2':CK.int=k:=Option.some.inj h2
 subst h2'
 obtain ⟨x,rfl⟩:=h3
 exact ⟨b,cap,x,rfl,h1,hf,fun y=>h.set hb hh h2 ⟨y,rfl⟩⟩
end Go.Proofs.YtadplnbadfnlfaaGreatDoor
